/- Contract of the document's Digits: a number's decimal numeral. -/
import Derived.Test.YtfgaiopkclogmaaDoorOwn
import Derived.Lib.ItoaLen
import Derived.Lib.ItoaMem
import Derived.BigQuiet
namespace Go.Proofs.YtfgaiopkclogmaaDoor
open Go Go.RowKit
set_option maxHeartbeats 2000000

/-- the digits of a number's amount; none of 0 -/
def absD (n : Int) : List UInt8 := if n = 0 then [] else Lib.decDigits n.natAbs
def digC (n : Nat) : UInt8 := UInt8.ofNat (48 + n % 10)
theorem digC_toNat (n : Nat) : ((digC n).toNat : Int) = 48 + ((n % 10 : Nat) : Int) := by
  unfold digC
  rw [UInt8.toNat_ofNat']
  omega
theorem decDigits_step (u : Nat) : Lib.decDigits u = (if u / 10 = 0 then [] else Lib.decDigits (u / 10)) ++ [digC u] := by
  rw [Lib.decDigits]
  unfold digC
  by_cases h : u < 10
  · rw [dif_pos h, if_pos (by omega), Nat.mod_eq_of_lt h]; rfl
  · rw [dif_neg h, if_neg (by omega)]
theorem absD_step (n : Int) (h : n ≠ 0) : absD n = absD (n.tdiv 10) ++ [digC n.natAbs] := by
  have e : (n.tdiv 10).natAbs = n.natAbs / 10 := by rw [Int.natAbs_tdiv]; rfl
  unfold absD
  rw [if_neg h, decDigits_step, e]
  congr 1
  by_cases h0 : n.natAbs / 10 = 0
  · rw [if_pos h0, if_pos (by omega)]
  · rw [if_neg h0, if_neg (by omega)]
theorem itoa_abs (n : Int) (h : n ≠ 0) : Lib.itoa n = if n < 0 then 45 :: absD n else absD n := by
  unfold Lib.itoa absD
  by_cases h0 : n < 0
  · rw [if_pos h0, if_pos h0, if_neg h]
  · rw [if_neg h0, if_neg h0, if_neg h, show n.toNat = n.natAbs by omega]

set_option maxRecDepth 100000 in
theorem rdigits_any (N : Int) (w : World) (h0 : -9223372036854775808 ≤ N) (h1 : N ≤ 9223372036854775807) :
    Calls Tryd.prog 18 #[.int .i64 N] w fun e w' => e = .returned (.string (bs (Lib.itoa N))) ∧ Below w.heap.size w w' := by
  have hlen := Lib.itoa_length_le N h0 h1
  obtain ⟨R, hR⟩ := name_it (Lib.itoa N)
  rw [hR.out] at hlen ⊢
  by_cases hz : N = 0
  · subst hz
    have hr : Hid (R = [48]) := by rw [← hR.out]; unfold Hid Lib.itoa; rw [if_neg (by omega)]; exact Lib.decDigits_one (by decide)
    go_enter Tryd.func18, Tryd.ntmps18
    go_wp2_with fail
    all_goals (try (exfalso; omega))
    go_ret
    exact ⟨by rw [hr.out]; rfl, Below.refl _ _⟩
  · have hia := itoa_abs N hz
    rw [hR.out] at hia
    have hA := Lib.hid hia
    clear hia
    obtain ⟨D, hD⟩ := name_it (absD N)
    rw [hD.out] at hA
    have hDl : D.length ≤ 21 := by
      have := hA.out
      by_cases hn : N < 0
      · rw [if_pos hn] at this; rw [this] at hlen; simp at hlen; omega
      · rw [if_neg hn] at this; rw [this] at hlen; exact hlen
    go_enter Tryd.func18, Tryd.ntmps18
    go_wp2_with fail
    all_goals (try (exfalso; omega))
    go_loopw [0, 4] (fun n out wr => ∃ (m : Int) (o : List UInt8), n = .int .i64 m ∧ out = .string (bs o) ∧ (N < 0 → m ≤ 0) ∧ (0 ≤ N → 0 ≤ m) ∧ -9223372036854775808 ≤ m ∧ m ≤ 9223372036854775807 ∧ Hid (absD m ++ o = D) ∧ Below w.heap.size w wr) (fun n _ _ => (intOf n).natAbs)
    case atStart => exact ⟨N, [], rfl, rfl, by omega, by omega, by omega, by omega, by unfold Hid; rw [List.append_nil]; exact hD.out, Below.refl _ _⟩
    case round =>
      obtain ⟨m, o, rfl, rfl, hm1, hm2, hm3, hm4, hmo, hbr⟩ := hrel
      by_cases hm : m = 0
      · have ho : Hid (o = D) := by
          have := hmo.out; subst hm; exact this
        have hob : (bs o).size ≤ 21 := by rw [size_bs, ho.out]; exact hDl
        have hd0 : (decide (N < 0)) = true ∨ (decide (N < 0)) = false := by cases decide (N < 0) <;> simp
        subst hm
        rcases hd0 with hd | hd
        · have hn : N < 0 := of_decide_eq_true hd
          go_wp2_with fail
          all_goals (try (exfalso; omega))
          go_ret
          have := hA.out
          rw [if_pos hn] at this
          exact ⟨by rw [this, ho.out]; rfl, hbr⟩
        · have hn : ¬ N < 0 := of_decide_eq_false hd
          go_wp2_with fail
          all_goals (try (exfalso; omega))
          go_ret
          have := hA.out
          rw [if_neg (by omega)] at this
          exact ⟨by rw [this, ho.out]; rfl, hbr⟩
      · have hst := absD_step m hm
        obtain ⟨c, hc⟩ := name_it (digC m.natAbs)
        have hcn := digC_toNat m.natAbs
        rw [hc.out] at hcn hst
        obtain ⟨p, hp⟩ := name_it (m.tdiv 10)
        obtain ⟨r, hr⟩ := name_it (m.tmod 10)
        rw [hp.out] at hst
        have hmd := Int.tmod_add_mul_tdiv m 10
        rw [hp.out, hr.out] at hmd
        have hmo2 : Hid (absD p ++ (c :: o) = D) := by
          have := hmo.out
          rw [hst] at this
          rw [← this, List.append_assoc]; rfl
        have hol : (c :: o).length ≤ 21 := by
          have := congrArg List.length hmo2.out
          rw [List.length_append] at this; omega
        have hra : r.natAbs = m.natAbs % 10 := by rw [← hr.out, Int.natAbs_tmod]; rfl
        have hp' : m.tdiv 10 = p := hp.out
        have hr' : m.tmod 10 = r := hr.out
        have hsg : (0 ≤ m → 0 ≤ r) ∧ (m ≤ 0 → r ≤ 0) := by
          rw [← hr']
          exact ⟨fun h => Int.tmod_nonneg _ h, fun h => by
            have := Int.tmod_nonneg 10 (a := -m) (by omega)
            rw [Int.neg_tmod] at this; omega⟩
        have hob : (bs o).size ≤ 20 := by rw [size_bs]; simp at hol; omega
        have hpb : p.natAbs < m.natAbs := by rw [← hp', Int.natAbs_tdiv]; show m.natAbs / 10 < m.natAbs; omega
        have hcc : bs (c :: o) = bs [c] ++ bs o := rfl
        clear hst hr hp hc hmo
        have hbw := hbr.alloc hbr.size (.cells #[.int .u8 (c.toNat : Int)] 5)
        have hconv : (convert 68 9 (.slice (some ⟨wr.heap.size, 0, none⟩) 1 1)).run Tryd.prog (wr.alloc (.cells #[.int .u8 (c.toNat : Int)] 5)) = .ok (.string (bs [c])) (wr.alloc (.cells #[.int .u8 (c.toNat : Int)] 5)) :=
          own_string 68 9 5 (base := wr.heap.size) (l := [c]) (World.ownsRow_lit wr #[.int .u8 (c.toNat : Int)] 1 (Nat.le_refl _) (by unfold maxLen; omega) rfl) Tryd.underlying68 Tryd.underlying5 Tryd.underlying9
        have hb1 : (bs [c]).size = 1 := rfl
        by_cases hrn : r < 0
        · have hce : (c.toNat : Int) = 48 + -r := by omega
          rw [hce] at hconv hbw
          go_wp2_with fail
          all_goals (try (exfalso; omega))
          go_roundw
          case rel => exact ⟨p, c :: o, rfl, by rw [hcc], by omega, by omega, by omega, by omega, hmo2, hbw⟩
          case measure => simp [intOf]; omega
        · have hce : (c.toNat : Int) = 48 + r := by omega
          rw [hce] at hconv hbw
          go_wp2_with fail
          all_goals (try (exfalso; omega))
          go_roundw
          case rel => exact ⟨p, c :: o, rfl, by rw [hcc], by omega, by omega, by omega, by omega, hmo2, hbw⟩
          case measure => simp [intOf]; omega
end Go.Proofs.YtfgaiopkclogmaaDoor
