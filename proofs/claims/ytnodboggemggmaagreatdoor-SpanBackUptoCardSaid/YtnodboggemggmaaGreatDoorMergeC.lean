/- Contract of the document: spans merged. -/
import Derived.Test.YtnodboggemggmaaGreatDoorMergeB
import Derived.Test.YtnodboggemggmaaGreatDoorSpanH
namespace Go.Proofs.YtnodboggemggmaaGreatDoor
open Go Go.RowKit
set_option maxHeartbeats 2000000

theorem absorb_len : ∀ (r : List Sp) (x : Sp), (absorb x r).2.length ≤ r.length
  | [], _ => Nat.le_refl _
  | y :: r, x => by
    have hdef : absorb x (y :: r) = if y.2 < x.1 ∨ x.2 < y.1 then ((absorb x r).1, y :: (absorb x r).2) else absorb (if y.1 < x.1 then y.1 else x.1, if x.2 < y.2 then y.2 else x.2) r := rfl
    rw [hdef]
    split
    · have := absorb_len r x
      simp; omega
    · have := absorb_len r (if y.1 < x.1 then y.1 else x.1, if x.2 < y.2 then y.2 else x.2)
      simp; omega
theorem ins_len : ∀ (k : List Sp) (x : Sp), (insS x k).length = k.length + 1
  | [], _ => rfl
  | y :: k, x => by
    show (if x.1 < y.1 then x :: y :: k else y :: insS x k).length = _
    split
    · simp
    · simp [ins_len k x]
theorem rstep_len (out : List Sp) (x : Sp) : (rstep out x).length ≤ out.length + 1 := by
  unfold rstep
  split
  · omega
  · rw [ins_len]
    have := absorb_len out x
    omega
theorem rfold_le (l : List Sp) : ∀ k, ((l.take k).foldl rstep []).length ≤ k := by
  have : ∀ (l out : List Sp), (l.foldl rstep out).length ≤ out.length + l.length := by
    intro l
    induction l with
    | nil => intro out; simp
    | cons x l ih =>
      intro out
      rw [List.foldl_cons]
      have h1 := ih (rstep out x)
      have h2 := rstep_len out x
      simp; omega
  intro k
  have := this (l.take k) []
  simp at this; omega
/-- the second loop's rest: what is still to be laid, and whether the span is placed -/
def insF (x : Sp) : Bool → List Sp → List Sp
  | true, l => l
  | false, l => insS x l
theorem insF_step {x y : Sp} {r : List Sp} : insF x false (y :: r) = if x.1 < y.1 then x :: y :: r else y :: insF x false r := rfl
theorem absorb_cons (x y : Sp) (r : List Sp) : absorb x (y :: r) = if y.2 < x.1 ∨ x.2 < y.1 then ((absorb x r).1, y :: (absorb x r).2) else absorb (if y.1 < x.1 then y.1 else x.1, if x.2 < y.2 then y.2 else x.2) r := rfl
/-- a box that holds a span, and may be written -/
structure XBox (w : World) (g : Nat) (a b : Int) : Prop where
  c0 : w.cell? ⟨g, 0, none⟩ = some (.int .i64 a)
  c1 : w.cell? ⟨g, 1, none⟩ = some (.int .i64 b)
  f0 : w.frozen? ⟨g, 0, none⟩ = false
  f1 : w.frozen? ⟨g, 1, none⟩ = false
  lt : g < w.heap.size
theorem XBox.new (w : World) (a b : Int) (T : TypeId) : XBox (w.alloc (.cells #[.int .i64 a, .int .i64 b] T)) w.heap.size a b where
  c0 := World.cell?_alloc_mark w #[.int .i64 a, .int .i64 b] T (0, 0) 0
  c1 := World.cell?_alloc_mark w #[.int .i64 a, .int .i64 b] T (0, 0) 1
  f0 := by unfold World.frozen?; rw [show (w.alloc (.cells #[.int .i64 a, .int .i64 b] T)).heap[w.heap.size]? = _ from heap_alloc_new w _]; rfl
  f1 := by unfold World.frozen?; rw [show (w.alloc (.cells #[.int .i64 a, .int .i64 b] T)).heap[w.heap.size]? = _ from heap_alloc_new w _]; rfl
  lt := by show w.heap.size < (w.heap.push _).size; rw [Array.size_push]; omega
theorem XBox.next {w w' : World} {g B : Nat} {a b : Int} (h : XBox w g a b) (hb : Below B w w') (hB : g < B) : XBox w' g a b where
  c0 := by rw [hb.cell (p := ⟨g, 0, none⟩) hB]; exact h.c0
  c1 := by rw [hb.cell (p := ⟨g, 1, none⟩) hB]; exact h.c1
  f0 := by rw [hb.frozen (p := ⟨g, 0, none⟩) hB]; exact h.f0
  f1 := by rw [hb.frozen (p := ⟨g, 1, none⟩) hB]; exact h.f1
  lt := Nat.lt_of_lt_of_le h.lt hb.size
theorem XBox.set0 {w : World} {g : Nat} {a b : Int} (h : XBox w g a b) (z : Int) : XBox (w.setCell ⟨g, 0, none⟩ (.int .i64 z)) g z b where
  c0 := World.cell?_setCell_same w ⟨g, 0, none⟩ (.int .i64 z) h.c0
  c1 := (World.cell?_setCell_other w ⟨g, 0, none⟩ ⟨g, 1, none⟩ (.int .i64 z) (by simp)).trans h.c1
  f0 := by simp [h.f0]
  f1 := by simp [h.f1]
  lt := by simp [h.lt]
theorem XBox.set1 {w : World} {g : Nat} {a b : Int} (h : XBox w g a b) (z : Int) : XBox (w.setCell ⟨g, 1, none⟩ (.int .i64 z)) g a z where
  c0 := (World.cell?_setCell_other w ⟨g, 1, none⟩ ⟨g, 0, none⟩ (.int .i64 z) (by simp)).trans h.c0
  c1 := World.cell?_setCell_same w ⟨g, 1, none⟩ (.int .i64 z) h.c1
  f0 := by simp [h.f0]
  f1 := by simp [h.f1]
  lt := by simp [h.lt]
theorem own_setCell {w : World} {b : Nat} {e : TypeId} {size n : Nat} {v : Value} {xs : List Value} (h : w.ownsRow b e size v n xs) {p : Addr} (hp : p.block < b) (u : Value) : (w.setCell p u).ownsRow b e size v n xs := by
  refine ⟨h.1, ?_⟩
  rcases h.2 with h | ⟨g, cap, cur, h1, h2, h3, r⟩
  · exact Or.inl h
  · refine Or.inr ⟨g, cap, cur, h1, h2, ?_, r⟩
    rw [Below.heap_setCell w p u g (by omega)]
    exact h3

end Go.Proofs.YtnodboggemggmaaGreatDoor
