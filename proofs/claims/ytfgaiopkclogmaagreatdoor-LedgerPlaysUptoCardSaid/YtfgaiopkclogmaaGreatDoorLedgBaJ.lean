/- Books of ledger: what a book holds; New, Len; the library's atomic number. -/
import Derived.Test.YtfgaiopkclogmaaGreatDoorLedgPaJ
import Derived.Test.YtfgaiopkclogmaaGreatDoorLock
import Derived.Laws.LoneSync
import Derived.Defers
import Derived.Deep.AppendLies
namespace Go.Proofs.YtfgaiopkclogmaaGreatDoor
open Go Go.RowKit Go.MuLone
set_option maxHeartbeats 4000000

/-- some blocks may be other, and there are new blocks -/
structure Keeps (S : Nat → Prop) (w w' : World) : Prop where
  os : w'.os = w.os
  tape : w'.tape = w.tape
  output : w'.output = w.output
  size : w.heap.size ≤ w'.heap.size
  block : ∀ i, i < w.heap.size → ¬ S i → w'.heap[i]? = w.heap[i]?
theorem Keeps.refl (S : Nat → Prop) (w : World) : Keeps S w w := ⟨rfl, rfl, rfl, Nat.le_refl _, fun _ _ _ => rfl⟩
theorem Keeps.trans {S : Nat → Prop} {a b c : World} (h : Keeps S a b) (k : Keeps S b c) : Keeps S a c :=
  ⟨k.os.trans h.os, k.tape.trans h.tape, k.output.trans h.output, Nat.le_trans h.size k.size, fun i hi hn => (k.block i (Nat.lt_of_lt_of_le hi h.size) hn).trans (h.block i hi hn)⟩
theorem Keeps.of {S : Nat → Prop} {B : Nat} {w w' : World} (h : Below B w w') (hB : w.heap.size ≤ B) : Keeps S w w' :=
  ⟨h.os, h.tape, h.output, h.size, fun i hi _ => h.block i (Nat.lt_of_lt_of_le hi hB)⟩
theorem Keeps.below {S : Nat → Prop} {B : Nat} {w w' : World} (h : Keeps S w w') (hS : ∀ i, i < B → ¬ S i) (hw : B ≤ w.heap.size) : Below B w w' :=
  ⟨h.os, h.tape, h.output, h.size, fun i hi => h.block i (Nat.lt_of_lt_of_le hi hw) (hS i hi)⟩
theorem Keeps.set {S : Nat → Prop} {b : Nat} (hb : S b) (o : Nat) (w : World) (v : Value) : Keeps S w (w.setCell ⟨b, o, none⟩ v) := by
  have h := (Below.refl b w).setCell (p := ⟨b, o, none⟩) (Nat.le_refl _) v
  exact ⟨h.os, h.tape, h.output, h.size, fun i _ hn => Below.heap_setCell w ⟨b, o, none⟩ v i (fun e => hn (e ▸ hb))⟩
theorem Keeps.mono {S T : Nat → Prop} {w w' : World} (h : Keeps S w w') (hST : ∀ i, i < w.heap.size → S i → T i) : Keeps T w w' :=
  ⟨h.os, h.tape, h.output, h.size, fun i hi hn => h.block i hi (fun hs => hn (hST i hi hs))⟩
theorem Keeps.then {S T : Nat → Prop} {a b c : World} (h : Keeps S a b) (k : Keeps T b c) (hTS : ∀ i, i < a.heap.size → T i → S i) : Keeps S a c :=
  ⟨k.os.trans h.os, k.tape.trans h.tape, k.output.trans h.output, Nat.le_trans h.size k.size, fun i hi hn => (k.block i (Nat.lt_of_lt_of_le hi h.size) (fun ht => hn (hTS i hi ht))).trans (h.block i hi hn)⟩
theorem Blk.keeps {S : Nat → Prop} {w w' : World} {b : Nat} {T : TypeId} {C : Array Value} (h : Blk w b T C) (k : Keeps S w w') (hb : ¬ S b) : Blk w' b T C := (k.block b h.lt hb).trans h

abbrev tB : TypeId := 92
def rowE (l : List En) : List Value := l.flatMap fun e => (cellsE e).toList
theorem rowE_snoc (l : List En) (e : En) : rowE (l ++ [e]) = rowE l ++ (cellsE e).toList := by unfold rowE; simp
def bokC (n : Nat) (v : Value) : Array Value := #[.int .i32 0, .int .u32 0, .int .i64 (n : Nat), v]
theorem row_kept {w w' : World} {base : Nat} {e : TypeId} {size n : Nat} {v : Value} {xs : List Value} (h : w.ownsRow base e size v n xs) (hk : ∀ g, v.ownBlock = some g → w'.heap[g]? = w.heap[g]?) : w'.ownsRow base e size v n xs := by
  refine ⟨h.1, ?_⟩
  rcases h.2 with hn | ⟨g, cap, cur, rfl, hb, hgg, rest⟩
  · exact .inl hn
  · exact .inr ⟨g, cap, cur, rfl, hb, (hk g rfl).trans hgg, rest⟩
/-- a book in block b, its row v, and its entries; both lie behind the program's variables -/
structure Bok (w : World) (b : Nat) (v : Value) (l : List En) : Prop where
  blk : Blk w b tB (bokC l.length v)
  row : w.ownsRow 5 tE 8 v l.length (rowE l)
  low : 5 ≤ b
  own : v.ownBlock ≠ some b
  fit : l.length ≤ 1000000
theorem Bok.rowlt {w : World} {b : Nat} {v : Value} {l : List En} (h : Bok w b v l) (g : Nat) (hg : v.ownBlock = some g) : 5 ≤ g ∧ g < w.heap.size := World.ownsRow.lt h.row g hg
theorem Bok.keeps {S : Nat → Prop} {w w' : World} {b : Nat} {v : Value} {l : List En} (h : Bok w b v l) (k : Keeps S w w') (hb : ¬ S b) (hv : ∀ g, v.ownBlock = some g → ¬ S g) : Bok w' b v l where
  blk := h.blk.keeps k hb
  row := by
    refine row_kept h.row (fun g hg => ?_)
    exact k.block g (h.rowlt g hg).2 (hv g hg)
  low := h.low
  own := h.own
  fit := h.fit
theorem Bok.next {w w' : World} {b : Nat} {v : Value} {l : List En} (h : Bok w b v l) (k : Below w.heap.size w w') : Bok w' b v l :=
  h.keeps (S := fun _ => False) (Keeps.of k (Nat.le_refl _)) (fun f => f) (fun _ _ f => f)

theorem atomAdd_any (b o : Nat) (n : Int) (w : World) (hc : w.cell? ⟨b, o, none⟩ = some (.int .i64 n)) (hz : w.frozen? ⟨b, o, none⟩ = false) (h0 : 0 ≤ n) (h1 : n ≤ 1000000) :
    Calls Tryz.prog 33 #[.pointer (some ⟨b, o, none⟩), .int .i64 1] w fun e w' => e = .returned (.int .i64 (n + 1)) ∧ w.setCell ⟨b, o, none⟩ (.int .i64 (n + 1)) = w' := by
  have hw : IntKind.i64.wrap (n + 1) = n + 1 := IntWalk.i64_in _ (by omega)
  have hadd := run_call_add (P := Tryz.prog) Tryz.func59 (by kernel_rfl) (by kernel_rfl) (by kernel_rfl) .i64 (by kernel_rfl) (y := 1) (s := n + 1) hc hz (by simp [go_sem, hw])
  go_enter Tryz.func33, Tryz.ntmps33
  go_wp2
  go_ret
  exact ⟨rfl, rfl⟩
theorem atomLoad_any (b o : Nat) (n : Int) (w : World) (hc : w.cell? ⟨b, o, none⟩ = some (.int .i64 n)) :
    Calls Tryz.prog 52 #[.pointer (some ⟨b, o, none⟩)] w fun e w' => e = .returned (.int .i64 n) ∧ w = w' := by
  have hl := run_call_load (P := Tryz.prog) Tryz.func80 (by kernel_rfl) (by kernel_rfl) (by kernel_rfl) .i64 (by kernel_rfl) hc
  go_enter Tryz.func52, Tryz.ntmps52
  go_wp2
  go_ret
  exact ⟨rfl, rfl⟩
theorem newBook_any (w : World) (h5 : 5 ≤ w.heap.size) : Calls Tryz.prog 9 #[] w fun e w' => e = .returned (.pointer (some ⟨w.heap.size, 0, none⟩)) ∧ Bok w' w.heap.size (.slice none 0 0) [] ∧ Below w.heap.size w w' := by
  go_enter Tryz.func9, Tryz.ntmps9
  go_wp2_with fail
  go_ret
  refine ⟨rfl, ⟨Blk.new w tB _, World.ownsRow_nil .., h5, ?_, by decide⟩, (Below.refl _ _).alloc (Nat.le_refl _) _⟩
  intro h; cases h
theorem len_any (b : Nat) (v : Value) (l : List En) (w : World) (hB : Bok w b v l) : Calls Tryz.prog 25 #[.pointer (some ⟨b, 0, none⟩)] w fun e w' => e = .returned (.int .i64 (l.length : Nat)) ∧ w = w' := by
  have HL := Lib.hid (atomLoad_any b 2 (l.length : Nat) w (hB.blk.cell 2))
  clear hB
  go_enter Tryz.func25, Tryz.ntmps25
  go_wp2_with fail
  refine HL.out.mono ?_; rintro e w' ⟨rfl, rfl⟩
  go_wp2_with fail
  go_ret
  exact ⟨rfl, rfl⟩
end Go.Proofs.YtfgaiopkclogmaaGreatDoor
