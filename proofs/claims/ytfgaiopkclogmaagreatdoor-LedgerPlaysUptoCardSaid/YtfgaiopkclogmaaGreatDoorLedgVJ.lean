/- The blocks that ledger's Parse makes: the result's, the reader's, the entry's. -/
import Derived.Test.YtfgaiopkclogmaaGreatDoorLedgGJ
import Derived.Test.YtfgaiopkclogmaaGreatDoorMk
import Derived.Test.YtfgaiopkclogmaaGreatDoorMe
namespace Go.Proofs.YtfgaiopkclogmaaGreatDoor
open Go Go.RowKit

/-- a whole block of cells, none frozen -/
def Blk (w : World) (b : Nat) (T : TypeId) (C : Array Value) : Prop := w.heap[b]? = some (.cells C T (0, 0))
theorem Blk.cell {w : World} {b : Nat} {T : TypeId} {C : Array Value} (h : Blk w b T C) (i : Nat) : w.cell? ⟨b, i, none⟩ = C[i]? := by
  unfold World.cell?; rw [show w.heap[(⟨b, i, none⟩ : Addr).block]? = _ from h]; rfl
theorem Blk.frozen {w : World} {b : Nat} {T : TypeId} {C : Array Value} (h : Blk w b T C) (i : Nat) : w.frozen? ⟨b, i, none⟩ = false := by
  unfold World.frozen?; rw [show w.heap[(⟨b, i, none⟩ : Addr).block]? = _ from h]
  simp
theorem Blk.lt {w : World} {b : Nat} {T : TypeId} {C : Array Value} (h : Blk w b T C) : b < w.heap.size := by
  by_cases hb : b < w.heap.size
  · exact hb
  · unfold Blk at h; rw [Array.getElem?_eq_none (by omega)] at h; cases h
theorem Blk.new (w : World) (T : TypeId) (C : Array Value) : Blk (w.alloc (.cells C T)) w.heap.size T C := heap_alloc_new w _
theorem Blk.below {w w' : World} {b B : Nat} {T : TypeId} {C : Array Value} (h : Blk w b T C) (hb : Below B w w') (hB : b < B) : Blk w' b T C := (hb.block b hB).trans h
theorem Blk.just {w w' : World} {b g : Nat} {T : TypeId} {C : Array Value} (h : Blk w b T C) (hj : Just g w w') (hg : b ≠ g) : Blk w' b T C :=
  (hj.block b h.lt (fun e => by injection e with e; exact hg e)).trans h
theorem Blk.alloc {w : World} {b : Nat} {T : TypeId} {C : Array Value} (h : Blk w b T C) (o : Obj) : Blk (w.alloc o) b T C := h.below ((Below.refl w.heap.size w).alloc (Nat.le_refl _) o) h.lt
theorem Blk.set {w : World} {b : Nat} {T : TypeId} {C : Array Value} (h : Blk w b T C) (i : Nat) (v : Value) : Blk (w.setCell ⟨b, i, none⟩ v) b T (C.setIfInBounds i v) := by
  unfold Blk World.setCell
  show (w.heap.modify b _)[b]? = _
  rw [Array.getElem?_modify, if_pos rfl, show w.heap[b]? = _ from h]
  rfl
theorem Rdr.just {w w' : World} {b g : Nat} {s : ByteArray} {st : St} (h : Rdr w g s st) (hj : Just b w w') (hg : g ≠ b) : Rdr w' g s st := by
  have e : w'.heap[g]? = w.heap[g]? := hj.block g h.lt (fun e => by injection e with e; exact hg e)
  have c : ∀ i, w'.cell? ⟨g, i, none⟩ = w.cell? ⟨g, i, none⟩ := fun i => World.cell?_of_block e
  have f : ∀ i, w'.frozen? ⟨g, i, none⟩ = w.frozen? ⟨g, i, none⟩ := fun i => World.frozen?_of_block e
  exact ⟨(c 0).trans h.c0, (c 1).trans h.c1, (c 2).trans h.c2, (f 1).trans h.f1, (f 2).trans h.f2, Nat.lt_of_lt_of_le h.lt hj.size⟩

/-- an entry's cells -/
def cellsE (e : En) : Array Value := #[.string (bs e.name), .int .i64 e.conn, .int .i64 e.numb, .string (bs e.meth), .string (bs e.tgt), .int .i64 e.stat, .int .i64 e.byts, .int .i64 e.tick]
def noE : En := ⟨[], [], [], 0, 0, 0, 0, 0⟩
abbrev tE : TypeId := 32
/-- where Parse stands: the reader's state, the entry so far, the result's variable -/
structure PS (w0 W : World) (s : ByteArray) (st : St) (e : En) : Prop where
  rdr : Rdr W (w0.heap.size + 1) s st
  ent : Blk W (w0.heap.size + 2) tE (cellsE e)
  box : Blk W w0.heap.size tE (cellsE noE)
  below : Below w0.heap.size w0 W
  env0 : EnvT w0
theorem PS.env {w0 W : World} {s : ByteArray} {st : St} {e : En} (h : PS w0 W s st e) : EnvT W := h.env0.next h.below
theorem PS.call {w0 W W' : World} {s : ByteArray} {st st' : St} {e : En} (h : PS w0 W s st e) (hr : Rdr W' (w0.heap.size + 1) s st') (hj : Just (w0.heap.size + 1) W W') : PS w0 W' s st' e where
  rdr := hr
  ent := h.ent.just hj (by omega)
  box := h.box.just hj (by omega)
  below := h.below.trans (hj.below (Nat.le_succ _) h.below.size)
  env0 := h.env0
theorem PS.drew {w0 W W' : World} {s : ByteArray} {st : St} {e : En} (h : PS w0 W s st e) (hb : Below W.heap.size W W') : PS w0 W' s st e where
  rdr := h.rdr.next hb h.rdr.lt
  ent := h.ent.below hb h.ent.lt
  box := h.box.below hb h.box.lt
  below := h.below.trans (hb.mono h.below.size)
  env0 := h.env0
theorem PS.store {w0 W : World} {s : ByteArray} {st : St} {e : En} (h : PS w0 W s st e) (i : Nat) (v : Value) (e' : En) (he : (cellsE e).setIfInBounds i v = cellsE e') : PS w0 (W.setCell ⟨w0.heap.size + 2, i, none⟩ v) s st e' where
  rdr := h.rdr.just (Just.set (w0.heap.size + 2) i W v) (by omega)
  ent := he ▸ h.ent.set i v
  box := h.box.just (Just.set (w0.heap.size + 2) i W v) (by omega)
  below := h.below.trans ((Just.set (w0.heap.size + 2) i W v).below (by omega) h.below.size)
  env0 := h.env0
end Go.Proofs.YtfgaiopkclogmaaGreatDoor
