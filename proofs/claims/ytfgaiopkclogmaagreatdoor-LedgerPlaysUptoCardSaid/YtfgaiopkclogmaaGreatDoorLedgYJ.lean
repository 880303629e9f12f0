/- Contracts of octet for ledger: a number's numeral; the quoted text that says a text. -/
import Derived.Test.YtfgaiopkclogmaaGreatDoorLedgTJ
import Derived.Test.YtfgaiopkclogmaaGreatDoorMc
import Derived.Test.YtfgaiopkclogmaaGreatDoorBuilderLayJ
namespace Go.Proofs.YtfgaiopkclogmaaGreatDoor
open Go Go.RowKit
set_option maxHeartbeats 2000000

theorem gPowL : Tryz.prog.globalNamed "internal/strconv.uint64pow10" = some 2 := by kernel_rfl
/-- what the variables hold: octet's signs, strconv's powers of ten -/
structure EnvL (w : World) : Prop where
  env : EnvT w
  pow : Lib.TabIs Tryz.prog w "internal/strconv.uint64pow10" .u64 Lib.pow10Tab
theorem EnvL.next {w w' : World} (h : EnvL w) (hb : Below w.heap.size w w') : EnvL w' :=
  ⟨h.env.next hb, var?_below hb gPowL (Nat.lt_of_lt_of_le (by decide) h.env.n) h.pow⟩
theorem EnvL.alloc {w : World} (h : EnvL w) (o : Obj) : EnvL (w.alloc o) := h.next ((Below.refl _ _).alloc (Nat.le_refl _) _)
theorem grow_belowL (w : World) (k : Nat) (os : Array Obj) : Below w.heap.size w (Sort.grow (w.drewN k) os) :=
  ⟨rfl, rfl, rfl, by show w.heap.size ≤ (w.heap ++ os).size; rw [Array.size_append]; omega, fun j hj => by
    show (w.heap ++ os)[j]? = _
    rw [Array.getElem?_append_left hj]⟩
theorem ldigits_any (n : Int) (w : World) (hE : EnvL w) (h0 : -9223372036854775808 ≤ n) (h1 : n ≤ 9223372036854775807) :
    Calls Tryz.prog 72 #[.int .i64 n] w fun e w' => e = .returned (.string (bs (Lib.itoa n))) ∧ Below w.heap.size w w' := by
  have HE := Lib.hid hE
  go_enter Tryz.func72, Tryz.ntmps72
  go_wp2_with fail
  refine (Tryz.strconv_Itoa n h0 h1 _ HE.out.pow).mono ?_
  rintro e w1 ⟨rfl, k, os, rfl⟩
  have hb := grow_belowL w k os
  obtain ⟨w2, hw2⟩ := name_it (Sort.grow (w.drewN k) os)
  rw [hw2.out] at hb ⊢
  go_wp2_with fail
  go_ret
  exact ⟨rfl, hb⟩
theorem byteCells_snocL (l : List UInt8) (c : UInt8) : Lib.byteCells (l ++ [c]) = Lib.byteCells l ++ [.int .u8 (c.toNat : Int)] := by
  simp [Lib.byteCells]
theorem esc_append (a b : List UInt8) : esc (a ++ b) = esc a ++ esc b := by unfold esc; rw [List.flatMap_append]
theorem esc_len : ∀ (l : List UInt8), (esc l).length ≤ 2 * l.length
  | [] => Nat.le_refl _
  | c :: l => by
    rw [esc_cons, List.length_append, List.length_cons]
    have := esc_len l
    split
    · show 2 + _ ≤ _; omega
    · show 1 + _ ≤ _; omega
theorem esc_special {c : UInt8} (h : c = 34 ∨ c = 92) : esc [c] = [92] ++ [c] := by rw [esc_cons, if_pos h]; rfl
theorem esc_plain {c : UInt8} (h : ¬ (c = 34 ∨ c = 92)) : esc [c] = [c] := by rw [esc_cons, if_neg h]; rfl

set_option maxRecDepth 100000 in
theorem quote_any (s : ByteArray) (w : World) (hs : s.size ≤ 1073741824) (hf : (L s).all isFld = true) :
    Calls Tryz.prog 71 #[.string s] w fun e w' => e = .returned (.tuple #[.string (bs (quoteL (L s))), .int .i64 0]) ∧ Below w.heap.size w w' := by
  have HF := Lib.hid (isfield_any s w (by unfold maxLen; omega))
  rw [hf] at HF
  clear hf
  go_enter Tryz.func71, Tryz.ntmps71
  go_wp2_with fail
  refine HF.out.mono ?_; rintro e w1 ⟨rfl, rfl⟩
  go_wp2_with fail
  have F0 := Lib.fresh_isBuilder 154 5 w
  refine (Tryz.Builder_WriteByte w.heap.size w.heap.size _ 34 _ F0 (by decide) (by show _ ≤ (w.heap.push _).size; rw [Array.size_push]; omega)).mono ?_
  rintro e w2 ⟨rfl, hbd2, hb2⟩
  have HB2 : Hid (Lib.IsBuilder 154 5 w.heap.size w.heap.size (Lib.byteCells ([34] ++ esc ((L s).take 0))) w2) := Or.inr hbd2
  have d2 := ((Below.refl w.heap.size w).alloc (Nat.le_refl _) (.cells #[.pointer none, .slice none 0 0] 154)).trans hb2
  clear hbd2 hb2 F0 HF
  go_wp2_with fail
  go_loopw [12] (fun i wr => ∃ k : Nat, k ≤ s.size ∧ i = .int .i64 k ∧ Hid (Lib.IsBuilder 154 5 w.heap.size w.heap.size (Lib.byteCells ([34] ++ esc ((L s).take k))) wr) ∧ Below w.heap.size w wr) (fun i _ => s.size - (intOf i).toNat)
  case atStart => exact ⟨0, Nat.zero_le _, rfl, HB2, d2⟩
  clear HB2 d2
  case round =>
    obtain ⟨k, hk, rfl, hbd, hbr⟩ := hrel
    obtain ⟨wq, hwq⟩ : ∃ wq, wq = wr := ⟨wr, rfl⟩
    subst hwq
    have hlen : (esc ((L s).take k)).length ≤ 2147483648 := by
      have h1 := esc_len ((L s).take k)
      have h2 := List.length_take_le k (L s)
      omega
    by_cases hlt : k < s.size
    · have ht := Lib.hid (L_take hlt)
      obtain ⟨c, hc⟩ := name_it s[k]
      rw [hc.out] at ht
      have hck := hc.out
      have q0 : (0 : Int) ≤ (k : Int) := by omega
      have q1 : (k : Int) < (s.size : Int) := by omega
      by_cases hsp : c = 34 ∨ c = 92
      · have he : Hid (esc ((L s).take (k + 1)) = esc ((L s).take k) ++ [92] ++ [c]) := by unfold Hid; rw [ht.out, esc_append, esc_special hsp, List.append_assoc]
        have hee : (((c.toNat : Int) == 34) = true) ∨ (((c.toNat : Int) == 34) = false ∧ ((c.toNat : Int) == 92) = true) := by
          rcases hsp with rfl | rfl
          · exact Or.inl rfl
          · exact Or.inr ⟨rfl, rfl⟩
        clear hsp
        rcases hee with e1 | ⟨e1, e2⟩
        all_goals
          go_wp2_with fail
          all_goals (try (exfalso; omega))
          refine (Tryz.Builder_WriteByte w.heap.size w.heap.size _ 92 _ hbd.out (by rw [Lib.byteCells_length, List.length_append, List.length_singleton]; omega) hbr.size).mono ?_
          rintro e w2 ⟨rfl, hbd2, hb2⟩
          have HB2 : Hid (Lib.IsBuilder 154 5 w.heap.size w.heap.size (Lib.byteCells ([34] ++ esc ((L s).take k) ++ [92])) w2) := by rw [byteCells_snocL]; exact Or.inr hbd2
          have d2 := hbr.trans hb2
          clear hbd2 hb2
          go_wp2_with fail
          all_goals (try (exfalso; omega))
          refine (Tryz.Builder_WriteByte w.heap.size w.heap.size _ _ _ HB2.out (by rw [Lib.byteCells_length]; simp only [List.length_append, List.length_singleton]; omega) d2.size).mono ?_
          rintro e w3 ⟨rfl, hbd3, hb3⟩
          have HB3 : Hid (Lib.IsBuilder 154 5 w.heap.size w.heap.size (Lib.byteCells ([34] ++ esc ((L s).take (k + 1)))) w3) := by
            unfold Hid
            rw [he.out, ← List.append_assoc, ← List.append_assoc, byteCells_snocL]
            exact Or.inr hbd3
          have d3 := d2.trans hb3
          clear hbd3 hb3
          go_wp2_with fail
          go_roundw
          case rel => exact ⟨k + 1, by omega, by go_num, HB3, d3⟩
          case measure => simp [intOf]; omega
      · have he : Hid (esc ((L s).take (k + 1)) = esc ((L s).take k) ++ [c]) := by unfold Hid; rw [ht.out, esc_append, esc_plain hsp]
        have e1 : ((c.toNat : Int) == 34) = false := by
          rw [beq_eq_false_iff_ne]; intro e; exact hsp (Or.inl (u8_of (k := 34) (by omega) e))
        have e2 : ((c.toNat : Int) == 92) = false := by
          rw [beq_eq_false_iff_ne]; intro e; exact hsp (Or.inr (u8_of (k := 92) (by omega) e))
        clear hsp
        go_wp2_with fail
        all_goals (try (exfalso; omega))
        refine (Tryz.Builder_WriteByte w.heap.size w.heap.size _ _ _ hbd.out (by rw [Lib.byteCells_length, List.length_append, List.length_singleton]; omega) hbr.size).mono ?_
        rintro e w3 ⟨rfl, hbd3, hb3⟩
        have HB3 : Hid (Lib.IsBuilder 154 5 w.heap.size w.heap.size (Lib.byteCells ([34] ++ esc ((L s).take (k + 1)))) w3) := by
          unfold Hid
          rw [he.out, ← List.append_assoc, byteCells_snocL]
          exact Or.inr hbd3
        have d3 := hbr.trans hb3
        clear hbd3 hb3
        go_wp2_with fail
        go_roundw
        case rel => exact ⟨k + 1, by omega, by go_num, HB3, d3⟩
        case measure => simp [intOf]; omega
    · obtain rfl : k = s.size := by omega
      go_wp2_with fail
      all_goals (try (exfalso; omega))
      refine (Tryz.Builder_WriteByte w.heap.size w.heap.size _ 34 _ hbd.out (by rw [Lib.byteCells_length, List.length_append, List.length_singleton]; omega) hbr.size).mono ?_
      rintro e w3 ⟨rfl, hbd3, hb3⟩
      have HB3 : Hid (Lib.IsBuilder 154 5 w.heap.size w.heap.size (Lib.byteCells (quoteL (L s))) w3) := by
        unfold quoteL Hid
        rw [byteCells_snocL, ← L_take_all s]
        exact Or.inr hbd3
      have d3 := hbr.trans hb3
      clear hbd3 hb3
      go_wp2_with fail
      refine (Tryz.Builder_String_any _ _ (quoteL (L s)) _ HB3.out d3.size).mono ?_; rintro e w4 ⟨rfl, hb4⟩
      go_wp2_with fail
      go_ret2
      exact ⟨rfl, d3.trans hb4⟩
end Go.Proofs.YtfgaiopkclogmaaGreatDoor
