/- One book and the document's list, side by side. -/
import Derived.Test.YtfgaiopkclogmaaGreatDoorMi
import Derived.Test.YtfgaiopkclogmaaGreatDoorLedgDeJ
namespace Go.Proofs.YtfgaiopkclogmaaGreatDoor
open Go Go.RowKit Go.MuLone
set_option maxHeartbeats 1000000

/-- a book and the document's list, apart from one another; all behind the start w -/
structure OneSt (w W : World) (b : Nat) (vb : Value) (Lb : List En) (gl cl : Nat) (Ld : List En) : Prop where
  A : Bok W b vb Lb
  ra : W.ownsRow w.heap.size tR 8 (.slice (some ⟨gl, 0, none⟩) Ld.length cl) Ld.length (rowE Ld)
  al : ¬ bokS b vb gl
  ga : ∀ i, bokS b vb i → w.heap.size ≤ i
  below : Below w.heap.size w W
theorem OneSt.next {w W W' : World} {b : Nat} {vb : Value} {Lb : List En} {gl cl : Nat} {Ld : List En} (h : OneSt w W b vb Lb gl cl Ld) (hb : Below W.heap.size W W') : OneSt w W' b vb Lb gl cl Ld :=
  ⟨h.A.next hb, row_kept h.ra (fun g hg => hb.block g (World.ownsRow.lt h.ra g hg).2), h.al, h.ga, h.below.trans (hb.mono h.below.size)⟩
theorem OneSt.add {w W W' : World} {b : Nat} {vb : Value} {Lb : List En} {gl cl : Nat} {Ld : List En} {e : En} (h : OneSt w W b vb Lb gl cl Ld) (hd : AddedA W b vb Lb e W') : ∃ vb', OneSt w W' b vb' (addL Lb e) gl cl Ld := by
  obtain ⟨va', hbk, hown, hk⟩ := hd
  refine ⟨va', ?_⟩
  have sub : ∀ i, bokS b va' i → bokS b vb i ∨ W.heap.size ≤ i := by
    rintro i (hi | hi)
    · exact Or.inl (Or.inl hi)
    · rcases hown with h1 | ⟨k, h1, h2⟩
      · rw [h1] at hi; exact Or.inl (Or.inr hi)
      · rw [h1] at hi; injection hi with hi; exact Or.inr (by omega)
  have lgl := (World.ownsRow.lt h.ra gl rfl).2
  have hws := h.below.size
  exact {
    A := hbk
    ra := row_kept h.ra (fun g hg => by injection hg with hg; subst hg; exact hk.block _ lgl h.al)
    al := fun hc => by rcases sub _ hc with h1 | h1; exact h.al h1; omega
    ga := fun i hi => by
      rcases sub i hi with h1 | h1
      · exact h.ga i h1
      · omega
    below := h.below.trans (hk.below (fun i hi hc => by have := h.ga i hc; omega) hws) }
theorem OneSt.row {w W W' : World} {b : Nat} {vb : Value} {Lb : List En} {gl cl : Nat} {Ld : List En} {g2 c2 : Nat} {l2 : List En} (h : OneSt w W b vb Lb gl cl Ld) (hr : W'.ownsRow w.heap.size tR 8 (.slice (some ⟨g2, 0, none⟩) l2.length c2) l2.length (rowE l2)) (hb : Below W.heap.size W W') (hg : g2 = gl ∨ W.heap.size ≤ g2) : OneSt w W' b vb Lb g2 c2 l2 :=
  { h.next hb with
    ra := hr
    al := fun hc => by
      rcases hg with rfl | hg
      · exact h.al hc
      · have := bokS_lt h.A _ hc; omega }
/-- a new book, and a new list -/
theorem OneSt.first {w W : World} {b : Nat} (hA : Bok W b (.slice none 0 0) []) (hb : Below w.heap.size w W) (hge : w.heap.size ≤ b) : OneSt w (W.alloc (.cells #[] tR)) b (.slice none 0 0) [] W.heap.size 0 [] where
  A := hA.next ((Below.refl _ _).alloc (Nat.le_refl _) _)
  ra := World.ownsRow_lit W (base := w.heap.size) (e := tR) (size := 8) #[] 0 hb.size (by decide) rfl
  al := fun h => by
    have := hA.blk.lt
    rcases h with h | h
    · omega
    · cases h
  ga := fun i hi => by rcases hi with rfl | hi; exact hge; cases hi
  below := hb.alloc hb.size _
end Go.Proofs.YtfgaiopkclogmaaGreatDoor
