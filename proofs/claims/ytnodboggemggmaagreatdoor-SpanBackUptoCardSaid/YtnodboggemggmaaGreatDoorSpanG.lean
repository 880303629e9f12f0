/- Contracts of the law's comparison of spans, and of span: is a span one of a body; the bytes of a span. -/
import Derived.Test.YtnodboggemggmaaGreatDoorSpanD
import Derived.BigQuiet
namespace Go.Proofs.YtnodboggemggmaaGreatDoor
open Go Go.RowKit
set_option maxHeartbeats 2000000

/-- a slice that reads as spans -/
def SpanSl (w : World) (v : Value) (l : List (Int × Int)) : Prop :=
  ∃ a cap, v = .slice a l.length cap ∧ ∀ j (hj : j < l.length), ∃ g off, a = some ⟨g, off, none⟩ ∧ g < w.heap.size ∧ w.cell? ⟨g, off + j * 2, none⟩ = some (.int .i64 l[j].1) ∧ w.cell? ⟨g, off + j * 2 + 1, none⟩ = some (.int .i64 l[j].2)
theorem spanSl_keep {w w' : World} {v : Value} {l : List (Int × Int)} (h : SpanSl w v l) (hb : Below w.heap.size w w') : SpanSl w' v l := by
  obtain ⟨a, cap, rfl, hc⟩ := h
  refine ⟨a, cap, rfl, fun j hj => ?_⟩
  obtain ⟨g, off, ha, hg, h1, h2⟩ := hc j hj
  exact ⟨g, off, ha, Nat.lt_of_lt_of_le hg hb.size, by rw [hb.cell (p := ⟨g, _, none⟩) hg]; exact h1, by rw [hb.cell (p := ⟨g, _, none⟩) hg]; exact h2⟩
theorem spanSl_of_row {w : World} {b e : Nat} {v : Value} {l : List (Int × Int)} (h : SpanRow w b e v l) : SpanSl w v l := by
  rcases h.2 with ⟨rfl, h0⟩ | ⟨g, cap, cur, rfl, hg, r⟩
  · exact ⟨none, 0, by rw [h0], fun j hj => by omega⟩
  · refine ⟨_, cap, rfl, fun j hj => ⟨g, 0, rfl, (World.ownsRow.lt h g rfl).2, ?_, ?_⟩⟩
    · have hx : l[j]? = some l[j] := List.getElem?_eq_getElem hj
      have := (cellsS_get l j _ hx).1
      obtain ⟨hlt, hv⟩ := List.getElem?_eq_some_iff.1 this
      rw [show 0 + j * 2 = 2 * j by omega, World.ownsRow.cellAt h (2 * j) (by omega)]
      exact this
    · have hx : l[j]? = some l[j] := List.getElem?_eq_getElem hj
      have := (cellsS_get l j _ hx).2
      obtain ⟨hlt, hv⟩ := List.getElem?_eq_some_iff.1 this
      rw [show 0 + j * 2 + 1 = 2 * j + 1 by omega, World.ownsRow.cellAt h (2 * j + 1) (by omega)]
      exact this

theorem take_succ_eq {la lb : List (Int × Int)} {k : Nat} (ha : k < la.length) (hb : k < lb.length) (h : la.take k = lb.take k) (h1 : la[k].1 = lb[k].1) (h2 : la[k].2 = lb[k].2) : la.take (k + 1) = lb.take (k + 1) := by
  rw [List.take_succ_eq_append_getElem ha, List.take_succ_eq_append_getElem hb, h, Prod.ext h1 h2]

/-- is it a span of a body of that size -/
def isO (a b size : Int) : Bool := decide (0 ≤ a ∧ a < b ∧ b ≤ size)

theorem isSpan_any (a b size : Int) (w : World) : Calls Tryz.prog 41 #[.agg #[.int .i64 a, .int .i64 b], .int .i64 size] w fun e w' => e = .returned (.bool (isO a b size)) ∧ Below w.heap.size w w' := by
  obtain ⟨R, hR⟩ := name_it (isO a b size)
  rw [hR.out]
  by_cases h1 : 0 ≤ a
  · by_cases h2 : a < b
    · by_cases h3 : b ≤ size
      · have hf : Hid (R = true) := by rw [← hR.out]; unfold Hid isO; rw [decide_eq_true_eq]; exact ⟨h1, h2, h3⟩
        go_enter Tryz.func41, Tryz.ntmps41
        go_wp2_with fail
        all_goals (try (exfalso; omega))
        go_ret
        exact ⟨ret_bool hf.out.symm, (Below.refl _ _).alloc (Nat.le_refl _) _⟩
      · have hf : Hid (R = false) := by rw [← hR.out]; unfold Hid isO; rw [decide_eq_false_iff_not]; omega
        go_enter Tryz.func41, Tryz.ntmps41
        go_wp2_with fail
        all_goals (try (exfalso; omega))
        go_ret
        exact ⟨ret_bool hf.out.symm, (Below.refl _ _).alloc (Nat.le_refl _) _⟩
    · have hf : Hid (R = false) := by rw [← hR.out]; unfold Hid isO; rw [decide_eq_false_iff_not]; omega
      go_enter Tryz.func41, Tryz.ntmps41
      go_wp2_with fail
      all_goals (try (exfalso; omega))
      go_ret
      exact ⟨ret_bool hf.out.symm, (Below.refl _ _).alloc (Nat.le_refl _) _⟩
  · have hf : Hid (R = false) := by rw [← hR.out]; unfold Hid isO; rw [decide_eq_false_iff_not]; omega
    go_enter Tryz.func41, Tryz.ntmps41
    go_wp2_with fail
    all_goals (try (exfalso; omega))
    go_ret
    exact ⟨ret_bool hf.out.symm, (Below.refl _ _).alloc (Nat.le_refl _) _⟩

theorem cutS_any (s : ByteArray) (a b : Int) (w : World) (_hs : s.size ≤ 1099511627) :
    Calls Tryz.prog 19 #[.string s, .agg #[.int .i64 a, .int .i64 b]] w fun e w' =>
      e = .returned (.tuple #[.string (if isO a b s.size then s.extract a.toNat b.toNat else ⟨#[]⟩), .int .i64 (if isO a b s.size then 0 else 91)]) ∧ Below w.heap.size w w' := by
  obtain ⟨R, hR⟩ := name_it (isO a b s.size)
  obtain ⟨X, hX⟩ := name_it (s.extract a.toNat b.toNat)
  rw [hR.out, hX.out]
  have hw1 : Below w.heap.size w (w.alloc (.cells #[.int .i64 a, .int .i64 b] 38)) := (Below.refl _ _).alloc (Nat.le_refl _) _
  cases R
  · go_enter Tryz.func19, Tryz.ntmps19
    go_wp2_with fail
    refine (isSpan_any a b s.size _).mono ?_; rintro e w1 ⟨rfl, hb1⟩
    rw [hR.out]
    obtain ⟨-, -, -, hbw⟩ := box_facts hb1
    go_wp2_with fail
    go_ret2
    exact ⟨rfl, hbw⟩
  · have h := hR.out
    unfold isO at h
    rw [decide_eq_true_eq] at h
    obtain ⟨h1, h2, h3⟩ := h
    obtain ⟨m, rfl⟩ : ∃ m : Nat, a = m := ⟨a.toNat, by omega⟩
    obtain ⟨n, rfl⟩ : ∃ n : Nat, b = n := ⟨b.toNat, by omega⟩
    have hx : Hid (s.extract m n = X) := hX
    have hmn : m ≤ n := by omega
    have hns : n ≤ s.size := by omega
    go_enter Tryz.func19, Tryz.ntmps19
    go_wp2_with fail
    refine (isSpan_any m n s.size _).mono ?_; rintro e w1 ⟨rfl, hb1⟩
    rw [hR.out]
    obtain ⟨hc, -, -, hbw⟩ := box_facts hb1
    have hc0 : w1.cell? ⟨w.heap.size, 0, none⟩ = some (.int .i64 m) := hc 0
    have hc1 : w1.cell? ⟨w.heap.size, 1, none⟩ = some (.int .i64 n) := hc 1
    go_wp2_with fail
    all_goals (try (exfalso; omega))
    go_ret2
    exact ⟨by rw [← hx.out]; rfl, hbw⟩

end Go.Proofs.YtnodboggemggmaaGreatDoor
