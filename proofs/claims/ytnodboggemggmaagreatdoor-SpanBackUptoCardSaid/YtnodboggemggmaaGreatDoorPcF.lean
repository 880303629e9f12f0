/- Slices that read as pieces. -/
import Derived.Test.YtnodboggemggmaaGreatDoorPcA
namespace Go.Proofs.YtnodboggemggmaaGreatDoor
open Go Go.RowKit

/-- a slice that reads as pieces -/
def PcSl (w : World) (v : Value) (l : List Pc) : Prop :=
  ∃ a cap, v = .slice a l.length cap ∧ ∀ j (hj : j < l.length), ∃ g off, a = some ⟨g, off, none⟩ ∧ g < w.heap.size ∧ w.cell? ⟨g, off + j * 5, none⟩ = some (.string (bs l[j].media)) ∧ w.cell? ⟨g, off + j * 5 + 1, none⟩ = some (.int .i64 l[j].a)
    ∧ w.cell? ⟨g, off + j * 5 + 2, none⟩ = some (.int .i64 l[j].b) ∧ w.cell? ⟨g, off + j * 5 + 3, none⟩ = some (.int .i64 l[j].size) ∧ w.cell? ⟨g, off + j * 5 + 4, none⟩ = some (.string (bs l[j].body))
theorem pcSl_keep {w w' : World} {v : Value} {l : List Pc} (h : PcSl w v l) (hb : Below w.heap.size w w') : PcSl w' v l := by
  obtain ⟨a, cap, rfl, hc⟩ := h
  refine ⟨a, cap, rfl, fun j hj => ?_⟩
  obtain ⟨g, off, ha, hg, h0, h1, h2, h3, h4⟩ := hc j hj
  exact ⟨g, off, ha, Nat.lt_of_lt_of_le hg hb.size, by rw [hb.cell (p := ⟨g, _, none⟩) hg]; exact h0, by rw [hb.cell (p := ⟨g, _, none⟩) hg]; exact h1, by rw [hb.cell (p := ⟨g, _, none⟩) hg]; exact h2,
    by rw [hb.cell (p := ⟨g, _, none⟩) hg]; exact h3, by rw [hb.cell (p := ⟨g, _, none⟩) hg]; exact h4⟩
theorem cellsP_get : ∀ (l : List Pc) (j : Nat) (hj : j < l.length), (cellsP l)[j * 5]? = some (.string (bs l[j].media)) ∧ (cellsP l)[j * 5 + 1]? = some (.int .i64 l[j].a) ∧ (cellsP l)[j * 5 + 2]? = some (.int .i64 l[j].b)
    ∧ (cellsP l)[j * 5 + 3]? = some (.int .i64 l[j].size) ∧ (cellsP l)[j * 5 + 4]? = some (.string (bs l[j].body))
  | p :: l, 0, _ => by simp [cellsP, encP]
  | p :: l, j + 1, hj => by
    have ih := cellsP_get l j (by simpa using hj)
    have e : cellsP (p :: l) = encP p ++ cellsP l := by simp [cellsP]
    have hl : (encP p).length = 5 := rfl
    rw [e]
    refine ⟨?_, ?_, ?_, ?_, ?_⟩
    · rw [List.getElem?_append_right (by rw [hl]; omega), hl, show (j + 1) * 5 - 5 = j * 5 by omega]; exact ih.1
    · rw [List.getElem?_append_right (by rw [hl]; omega), hl, show (j + 1) * 5 + 1 - 5 = j * 5 + 1 by omega]; exact ih.2.1
    · rw [List.getElem?_append_right (by rw [hl]; omega), hl, show (j + 1) * 5 + 2 - 5 = j * 5 + 2 by omega]; exact ih.2.2.1
    · rw [List.getElem?_append_right (by rw [hl]; omega), hl, show (j + 1) * 5 + 3 - 5 = j * 5 + 3 by omega]; exact ih.2.2.2.1
    · rw [List.getElem?_append_right (by rw [hl]; omega), hl, show (j + 1) * 5 + 4 - 5 = j * 5 + 4 by omega]; exact ih.2.2.2.2
theorem cellsP_len (l : List Pc) : (cellsP l).length = l.length * 5 := by
  induction l with
  | nil => rfl
  | cons p l ih =>
    have e : cellsP (p :: l) = encP p ++ cellsP l := by simp [cellsP]
    rw [e, List.length_append, ih, List.length_cons, show (encP p).length = 5 from rfl]; omega
theorem pcSl_of_row {w : World} {b e : Nat} {v : Value} {l : List Pc} (h : PcRow w b e v l) : PcSl w v l := by
  rcases h.2 with ⟨rfl, h0⟩ | ⟨g, cap, cur, rfl, hg, r⟩
  · exact ⟨none, 0, by rw [h0], fun j hj => by omega⟩
  · refine ⟨_, cap, rfl, fun j hj => ?_⟩
    have hc := cellsP_get l j hj
    have hl := cellsP_len l
    refine ⟨g, 0, rfl, (World.ownsRow.lt h g rfl).2, ?_, ?_, ?_, ?_, ?_⟩
    · rw [show 0 + j * 5 = j * 5 by omega, World.ownsRow.cellAt h (j * 5) (by omega)]; exact hc.1
    · rw [show 0 + j * 5 + 1 = j * 5 + 1 by omega, World.ownsRow.cellAt h (j * 5 + 1) (by omega)]; exact hc.2.1
    · rw [show 0 + j * 5 + 2 = j * 5 + 2 by omega, World.ownsRow.cellAt h (j * 5 + 2) (by omega)]; exact hc.2.2.1
    · rw [show 0 + j * 5 + 3 = j * 5 + 3 by omega, World.ownsRow.cellAt h (j * 5 + 3) (by omega)]; exact hc.2.2.2.1
    · rw [show 0 + j * 5 + 4 = j * 5 + 4 by omega, World.ownsRow.cellAt h (j * 5 + 4) (by omega)]; exact hc.2.2.2.2
end Go.Proofs.YtnodboggemggmaaGreatDoor
