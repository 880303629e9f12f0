/- Contracts of span: are all spans a body's; spans printed as a range header. -/
import Derived.Test.YtnodboggemggmaaGreatDoorPrintsP
import Derived.Test.YtnodboggemggmaaGreatDoorTell
import Derived.Test.YtnodboggemggmaaGreatDoorSpanE
namespace Go.Proofs.YtnodboggemggmaaGreatDoor
open Go Go.RowKit
set_option maxHeartbeats 2000000

theorem areO_take {l : List (Int × Int)} {size : Int} {k : Nat} (h : k < l.length) : areO (l.take (k + 1)) size = (areO (l.take k) size && isO l[k].1 l[k].2 size) := by
  unfold areO
  rw [List.take_succ_eq_append_getElem h, List.all_append]; simp
theorem areO_no {l : List (Int × Int)} {size : Int} {k : Nat} (h : k < l.length) (hf : isO l[k].1 l[k].2 size = false) : areO l size = false := by
  cases hq : areO l size
  · rfl
  · have := List.all_eq_true.1 hq l[k] (List.getElem_mem h)
    rw [this] at hf; exact absurd hf (by decide)
theorem areO_at {l : List (Int × Int)} {size : Int} {k : Nat} (h : k < l.length) (ha : areO l size = true) : 0 ≤ l[k].1 ∧ l[k].1 < l[k].2 ∧ l[k].2 ≤ size :=
  of_decide_eq_true (List.all_eq_true.1 ha l[k] (List.getElem_mem h))

set_option maxRecDepth 100000 in
theorem areSpans_any (v : Value) (l : List (Int × Int)) (size : Int) (w : World) (h : SpanSl w v l) (nl : l.length ≤ maxLen) :
    Calls Tryz.prog 26 #[v, .int .i64 size] w fun e w' => e = .returned (.bool (decide (l ≠ [] ∧ areO l size = true))) ∧ Below w.heap.size w w' := by
  obtain ⟨R, hR⟩ := name_it (decide (l ≠ [] ∧ areO l size = true))
  rw [hR.out]
  obtain ⟨a, cap, rfl, hc⟩ := h
  have HA := Lib.hid hc
  clear hc
  unfold maxLen at nl
  go_enter Tryz.func26, Tryz.ntmps26
  go_wp2_with fail
  go_loopw [9] (fun i wr => ∃ k : Nat, k ≤ l.length ∧ i = .int .i64 k ∧ Hid (areO (l.take k) size = true) ∧ Below w.heap.size w wr) (fun i _ => l.length - (intOf i).toNat)
  case atStart => exact ⟨0, Nat.zero_le _, rfl, rfl, Below.refl _ _⟩
  case round =>
    obtain ⟨k, hk, rfl, ht, hbr⟩ := hrel
    by_cases hlt : k < l.length
    · obtain ⟨ga, oa, rfl, hga, ha1, ha2⟩ := HA.out k hlt
      obtain ⟨p1, hp1⟩ := name_it l[k].1
      obtain ⟨p2, hp2⟩ := name_it l[k].2
      obtain ⟨b, hb⟩ := name_it (isO p1 p2 size)
      have hstep : Hid (areO (l.take (k + 1)) size = b) := by
        unfold Hid; rw [areO_take hlt, ht.out, hp1.out, hp2.out, hb.out]; rfl
      have hno : Hid (b = false → R = false) := by
        intro hbf
        rw [← hR.out]
        refine decide_eq_false (fun hh => ?_)
        rw [areO_no hlt (by rw [hp1.out, hp2.out, hb.out]; exact hbf)] at hh
        exact absurd hh.2 (by decide)
      rw [hp1.out] at ha1; rw [hp2.out] at ha2
      rw [← hbr.cell (p := ⟨ga, _, none⟩) hga] at ha1 ha2
      clear ht
      go_wp2_with fail
      refine (isSpan_any p1 p2 size _).mono ?_; rintro e w1 ⟨rfl, hb1⟩
      rw [hb.out]
      have d0 := hbr.alloc hbr.size (.cells #[.int .i64 p1, .int .i64 p2] 38)
      have d1 := d0.trans (hb1.mono d0.size)
      clear hb hb1 d0
      cases b
      · have hf : Hid (R = false) := hno.out rfl
        go_wp2_with fail
        go_ret
        exact ⟨ret_bool hf.out.symm, d1⟩
      · go_wp2_with fail
        go_roundw
        case rel => exact ⟨k + 1, by omega, by go_num, hstep, d1⟩
        case measure => simp [intOf]; omega
    · obtain rfl : k = l.length := by omega
      have hf : Hid (R = decide (0 < l.length)) := by
        rw [← hR.out]
        have := ht.out
        rw [List.take_length] at this
        unfold Hid
        rw [this]
        cases l <;> simp
      by_cases hz : 0 < l.length
      · rw [decide_eq_true hz] at hf
        go_wp2_with fail
        all_goals (try (exfalso; omega))
        go_ret
        exact ⟨ret_bool (by rw [hf.out]), hbr⟩
      · rw [decide_eq_false hz] at hf
        go_wp2_with fail
        all_goals (try (exfalso; omega))
        go_ret
        exact ⟨ret_bool (by rw [hf.out]), hbr⟩

def printV (l : List (Int × Int)) (size : Int) : Value := .tuple #[.string (printT l size), .int .i64 (printE l size)]
theorem bytesL_le (a b : Int) (h0 : 0 ≤ a) (h1 : a < b) (h2 : b ≤ 9223372036854775807) : (bytesL a b).length ≤ 45 := by
  have l1 := Lib.itoa_length_le a (by omega) (by omega)
  have l2 := Lib.itoa_length_le (b - 1) (by omega) (by omega)
  unfold bytesL
  simp; omega
theorem joinTail_le : ∀ (r : List (List UInt8)), (∀ x, x ∈ r → x.length ≤ 45) → (Lib.joinTail [44] r).length ≤ 46 * r.length
  | [], _ => by simp [Lib.joinTail]
  | x :: r, h => by
    have e : Lib.joinTail [44] (x :: r) = 44 :: (x ++ Lib.joinTail [44] r) := by simp [Lib.joinTail]
    have := joinTail_le r (fun y hy => h y (List.mem_cons_of_mem _ hy))
    have := h x (List.mem_cons_self ..)
    rw [e, List.length_cons, List.length_append, List.length_cons]; omega
theorem join_le (r : List (List UInt8)) (h : ∀ x, x ∈ r → x.length ≤ 45) : (Lib.join r [44]).length ≤ 46 * r.length := by
  cases r with
  | nil => simp [Lib.join_nil]
  | cons x r =>
    have := joinTail_le r (fun y hy => h y (List.mem_cons_of_mem _ hy))
    have := h x (List.mem_cons_self ..)
    rw [Lib.join_cons, List.length_append, List.length_cons]; omega
def piecesB (l : List (Int × Int)) : List (List UInt8) := l.map fun x => bytesL x.1 x.2
theorem piecesB_take {l : List (Int × Int)} {k : Nat} (h : k < l.length) : piecesB (l.take (k + 1)) = piecesB (l.take k) ++ [bytesL l[k].1 l[k].2] := by
  unfold piecesB; rw [List.take_succ_eq_append_getElem h, List.map_append]; rfl
theorem piecesB_le {l : List (Int × Int)} {size : Int} (ha : areO l size = true) (hz : size ≤ 9223372036854775807) : ∀ x, x ∈ piecesB l → x.length ≤ 45 := by
  intro x hx
  obtain ⟨y, hy, rfl⟩ := List.mem_map.1 hx
  have := of_decide_eq_true (List.all_eq_true.1 ha y hy)
  exact bytesL_le _ _ this.1 this.2.1 (by omega)

theorem texts_cap {w : World} {b n cap : Nat} {a : Addr} {xs : List (List UInt8)} (h : Texts w b (.slice (some a) n cap) xs) (hn : 0 < xs.length) : xs.length ≤ cap := by
  rcases h.2 with ⟨_, h0⟩ | ⟨g, cap', cur, hv, _, _, hc, _⟩
  · omega
  · injection hv with _ _ h3
    subst h3
    exact hc

end Go.Proofs.YtnodboggemggmaaGreatDoor
