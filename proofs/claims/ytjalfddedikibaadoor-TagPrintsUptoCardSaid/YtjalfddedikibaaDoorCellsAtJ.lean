/- A block whose cells are known: behind a call that leaves old memory alone, behind a store. -/
import Derived.Test.YtjalfddedikibaaDoorMa
namespace Go.Proofs.YtjalfddedikibaaDoor
open Go Go.RowKit

structure CellsAt (w : World) (b : Nat) (cs : List Value) : Prop where
  cell : ∀ j (hj : j < cs.length), w.cell? ⟨b, j, none⟩ = some cs[j]
  free : ∀ j, w.frozen? ⟨b, j, none⟩ = false
  lt : b < w.heap.size
theorem CellsAt.first (w : World) (cs : List Value) (t : TypeId) : CellsAt (w.alloc (.cells cs.toArray t)) w.heap.size cs where
  cell j hj := by
    have := World.cell?_alloc_mark w cs.toArray t (0, 0) j
    rw [this]
    simp [hj]
  free j := by
    rw [World.frozen?_alloc_mark w cs.toArray t 0 0 j]
    simp
  lt := by show w.heap.size < (w.heap.push _).size; rw [Array.size_push]; omega
theorem CellsAt.next {w w' : World} {b : Nat} {cs : List Value} (h : CellsAt w b cs) (hb : Below w.heap.size w w') : CellsAt w' b cs where
  cell j hj := by rw [hb.cell (p := ⟨b, j, none⟩) h.lt]; exact h.cell j hj
  free j := by rw [hb.frozen (p := ⟨b, j, none⟩) h.lt]; exact h.free j
  lt := Nat.lt_of_lt_of_le h.lt hb.size
theorem CellsAt.set {w : World} {b : Nat} {cs : List Value} (h : CellsAt w b cs) (k : Nat) (hk : k < cs.length) (v : Value) : CellsAt (w.setCell ⟨b, k, none⟩ v) b (cs.set k v) where
  cell j hj := by
    rw [List.length_set] at hj
    by_cases e : k = j
    · subst e
      rw [World.cell?_setCell_same _ _ _ (h.cell k hk)]
      simp
    · rw [World.cell?_setCell_other _ _ _ _ (by intro h; injection h; omega), h.cell j hj]
      simp [e]
  free j := by rw [World.frozen?_setCell]; exact h.free j
  lt := by rw [World.size_setCell]; exact h.lt
theorem CellsAt.other {w : World} {b c : Nat} {cs : List Value} (h : CellsAt w b cs) (hbc : c ≠ b) (k : Nat) (v : Value) : CellsAt (w.setCell ⟨c, k, none⟩ v) b cs where
  cell j hj := by rw [World.cell?_setCell_other _ _ _ _ (by intro h; injection h; omega)]; exact h.cell j hj
  free j := by rw [World.frozen?_setCell]; exact h.free j
  lt := by rw [World.size_setCell]; exact h.lt
end Go.Proofs.YtjalfddedikibaaDoor
