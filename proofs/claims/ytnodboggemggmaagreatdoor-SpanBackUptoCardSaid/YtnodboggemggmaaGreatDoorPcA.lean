/- The parts of a body in parts: what they are, in plain Lean; rows of parts; the reader's cells. -/
import Derived.Test.YtnodboggemggmaaGreatDoorLineB
import Derived.Test.YtnodboggemggmaaGreatDoorPartsA
import Derived.Deep.AppendLies
namespace Go.Proofs.YtnodboggemggmaaGreatDoor
open Go Go.RowKit

/-- a part: its medium, its span, its size, its bytes -/
structure Pc where
  media : List UInt8
  a : Int
  b : Int
  size : Int
  body : List UInt8
inductive PartR where
  | stop (at_ e : Int)
  | go (p : Pc) (used : Nat)
def partM (N at_ : Nat) (rest : List UInt8) : PartR :=
  match lineM mediaL rest with
  | .short => .stop N 94
  | .bad => .stop at_ 93
  | .val k =>
    match lineM rangedL (rest.drop (14 + k.length + 2)) with
    | .short => .stop N 94
    | .bad => .stop (at_ + (14 + k.length + 2) : Nat) 93
    | .val t =>
      if (toldM t).2.2.2 ≠ 0 ∨ ((toldM t).1 = 0 ∧ (toldM t).2.1 = 0) then .stop (at_ + (14 + k.length + 2) : Nat) 93
      else if startsB (rest.drop (14 + k.length + 2 + (15 + t.length + 2))) [13, 10] = true then
        if ((rest.drop (14 + k.length + 2 + (15 + t.length + 2) + 2)).length : Int) < (toldM t).2.1 - (toldM t).1 then .stop N 94
        else .go ⟨k, (toldM t).1, (toldM t).2.1, (toldM t).2.2.1, (rest.drop (14 + k.length + 2 + (15 + t.length + 2) + 2)).take ((toldM t).2.1 - (toldM t).1).toNat⟩ (14 + k.length + 2 + (15 + t.length + 2) + 2 + ((toldM t).2.1 - (toldM t).1).toNat)
      else if cutB (rest.drop (14 + k.length + 2 + (15 + t.length + 2))) [13, 10] = true then .stop N 94
      else .stop (at_ + (14 + k.length + 2 + (15 + t.length + 2)) : Nat) 93
/-- what was told is a span of at least one byte, or none -/
theorem toldM_bd (l : List UInt8) : ((toldM l).2.2.2 = 0 ∨ (toldM l).2.2.2 = 90) ∧ 0 ≤ (toldM l).1 ∧ (toldM l).1 ≤ 4611686018427387904 ∧ 0 ≤ (toldM l).2.1 ∧ (toldM l).2.1 ≤ 4611686018427387905
    ∧ -1 ≤ (toldM l).2.2.1 ∧ (toldM l).2.2.1 ≤ 4611686018427387904 ∧ (¬ ((toldM l).1 = 0 ∧ (toldM l).2.1 = 0) → (toldM l).1 < (toldM l).2.1) := by
  have b1 := strN_bd (cutA 45 (cutA 47 (restL l)))
  have b2 := strN_bd (cutZ 45 (cutA 47 (restL l)))
  have b3 := strN_bd (cutZ 47 (restL l))
  unfold toldM
  split
  · simp
  · split
    · simp; omega
    · split
      · simp
      · rename_i h
        have hn : ¬ strN (cutA 45 (cutA 47 (restL l))) > strN (cutZ 45 (cutA 47 (restL l))) := fun hh => h (Or.inr (Or.inr (Or.inr (Or.inl hh))))
        refine ⟨Or.inl rfl, b1.1, b1.2, ?_, ?_, ?_, ?_, fun _ => ?_⟩
        · show 0 ≤ strN (cutZ 45 (cutA 47 (restL l))) + 1; omega
        · show strN (cutZ 45 (cutA 47 (restL l))) + 1 ≤ _; omega
        · show -1 ≤ (if _ then (-1 : Int) else strN (cutZ 47 (restL l))); split <;> omega
        · show (if _ then (-1 : Int) else strN (cutZ 47 (restL l))) ≤ _; split <;> omega
        · show strN (cutA 45 (cutA 47 (restL l))) < strN (cutZ 45 (cutA 47 (restL l))) + 1; omega
/-- all parts, from a place on -/
def pcsM (mk : List UInt8) (N : Nat) : Nat → Nat → List UInt8 → List Pc → List Pc × Int × Int
  | 0, _, _, _ => ([], 0, 0)
  | f + 1, at_, rest, acc =>
    if acc ≠ [] ∧ rest = mk ++ [45, 45] ++ [13, 10] then (acc, 0, 0)
    else if acc ≠ [] ∧ startsB rest (mk ++ [45, 45] ++ [13, 10]) = true then ([], (at_ + (mk.length + 4) : Nat), 92)
    else if startsB rest (mk ++ [13, 10]) = true then
      match partM N (at_ + (mk.length + 2)) (rest.drop (mk.length + 2)) with
      | .stop a e => ([], a, e)
      | .go p u => pcsM mk N f (at_ + (mk.length + 2) + u) (rest.drop (mk.length + 2 + u)) (acc ++ [p])
    else if cutB rest (mk ++ [13, 10]) = true ∨ (acc ≠ [] ∧ cutB rest (mk ++ [45, 45] ++ [13, 10]) = true) then ([], N, 94)
    else ([], at_, 92)

def encP (p : Pc) : List Value := [.string (bs p.media), .int .i64 p.a, .int .i64 p.b, .int .i64 p.size, .string (bs p.body)]
def cellsP (l : List Pc) : List Value := l.flatMap encP
theorem cellsP_snoc (l : List Pc) (p : Pc) : cellsP (l ++ [p]) = cellsP l ++ encP p := by simp [cellsP]
def PcRow (w : World) (base e : Nat) (v : Value) (l : List Pc) : Prop := w.ownsRow base e 5 v l.length (cellsP l)
/-- the reader's cells -/
structure Rd (w : World) (g : Nat) (s : ByteArray) (n : Int) (v : Value) : Prop where
  c0 : w.cell? ⟨g, 0, none⟩ = some (.string s)
  c1 : w.cell? ⟨g, 1, none⟩ = some (.int .i64 n)
  c2 : w.cell? ⟨g, 2, none⟩ = some v
  f1 : w.frozen? ⟨g, 1, none⟩ = false
  f2 : w.frozen? ⟨g, 2, none⟩ = false
  lt : g < w.heap.size
theorem Rd.next {w w' : World} {g B : Nat} {s : ByteArray} {n : Int} {v : Value} (h : Rd w g s n v) (hb : Below B w w') (hB : g < B) : Rd w' g s n v where
  c0 := by rw [hb.cell (p := ⟨g, 0, none⟩) hB]; exact h.c0
  c1 := by rw [hb.cell (p := ⟨g, 1, none⟩) hB]; exact h.c1
  c2 := by rw [hb.cell (p := ⟨g, 2, none⟩) hB]; exact h.c2
  f1 := by rw [hb.frozen (p := ⟨g, 1, none⟩) hB]; exact h.f1
  f2 := by rw [hb.frozen (p := ⟨g, 2, none⟩) hB]; exact h.f2
  lt := Nat.lt_of_lt_of_le h.lt hb.size
theorem Rd.setAt {w : World} {g : Nat} {s : ByteArray} {n : Int} {v : Value} (h : Rd w g s n v) (z : Int) : Rd (w.setCell ⟨g, 1, none⟩ (.int .i64 z)) g s z v where
  c0 := (World.cell?_setCell_other w ⟨g, 1, none⟩ ⟨g, 0, none⟩ (.int .i64 z) (by simp)).trans h.c0
  c1 := World.cell?_setCell_same w ⟨g, 1, none⟩ (.int .i64 z) h.c1
  c2 := (World.cell?_setCell_other w ⟨g, 1, none⟩ ⟨g, 2, none⟩ (.int .i64 z) (by simp)).trans h.c2
  f1 := by simp [h.f1]
  f2 := by simp [h.f2]
  lt := by simp [h.lt]
theorem Rd.setL {w : World} {g : Nat} {s : ByteArray} {n : Int} {v : Value} (h : Rd w g s n v) (u : Value) : Rd (w.setCell ⟨g, 2, none⟩ u) g s n u where
  c0 := (World.cell?_setCell_other w ⟨g, 2, none⟩ ⟨g, 0, none⟩ u (by simp)).trans h.c0
  c1 := (World.cell?_setCell_other w ⟨g, 2, none⟩ ⟨g, 1, none⟩ u (by simp)).trans h.c1
  c2 := World.cell?_setCell_same w ⟨g, 2, none⟩ u h.c2
  f1 := by simp [h.f1]
  f2 := by simp [h.f2]
  lt := by simp [h.lt]
/-- 'append(v, x)' at a step of a region that draws, x a struct of five cells, v of the call's own -/
theorem step_append5 {P : Program} {w : World} {ops : Array Oper} {o : Oper} {a : Act} {K : Act → World → Prop} {Q : Exit → Act → World → Prop} {E : Prop} (hgd : o.guard = none) (s x : Operand) (t : TypeId)
    (ho : o.op = .call { callee := .builtin .append, args := #[s, x], argTypes := #[t, t] })
    (base : Nat) (e : TypeId) (i : TypeInfo) (z : Value) (bytes : Nat) (ht : P.underlying t = some (.slice e)) (hi : P.info? e = some i) (hz : i.zero = some z)
    (hsize : i.size = 5) (hby : i.bytes = bytes) (hzs : z.cells.size = 5)
    {v : Value} {n : Nat} {xs : List Value} (hown : w.ownsRow base e 5 v n xs) (hs : a.eval s = v)
    (u1 u2 u3 u4 u5 : Value) (hu : ∀ u ∈ [u1, u2, u3, u4, u5], u.oneCell' = true) (hx : a.eval x = .slice (some ⟨w.heap.size, 0, none⟩) 1 1)
    (hn : n + 1 ≤ maxLen) (hbytes : (n + 1) * bytes ≤ 140737488355328) (hbase : base ≤ w.heap.size)
    (h : ∀ g cap w', base ≤ g → w'.ownsRow base e 5 (.slice (some ⟨g, 0, none⟩) (n + 1) cap) (n + 1) (xs ++ [u1, u2, u3, u4, u5]) → Below base w w' → (∀ j, j < w.heap.size → v.ownBlock ≠ some j → w'.heap[j]? = w.heap[j]?) → K (a.put o.dst (.slice (some ⟨g, 0, none⟩) (n + 1) cap)) w') :
    if Region.wanted o (yielded ops a.tmps) = true then Oper.wp P o a (w.alloc (.cells #[u1, u2, u3, u4, u5] e)) K Q else E := by
  have hw : base ≤ (w.alloc (.cells #[u1, u2, u3, u4, u5] e)).heap.size := by
    show base ≤ (w.heap.push _).size
    rw [Array.size_push]; omega
  refine step_append_lies (w.alloc (.cells #[u1, u2, u3, u4, u5] e)) hgd s x t ho base e i z 5 bytes ht hi hz hsize hby hzs (by decide) v n xs hs (hown.alloc _) ⟨w.heap.size, 0, none⟩ 1 1 [u1, u2, u3, u4, u5] hx rfl ?_ hu (by decide) hn hbytes hw _ rfl ?_
  · exact World.news_of_block (heap_alloc_new w _)
  · intro g cap w' hown' hgrow _ _
    refine h g cap w' ?_ hown' (((Below.refl _ _).alloc hbase _).trans (own_below (hown.alloc _) hgrow hw)) (fun j hj hne => ?_)
    · exact (World.ownsRow.lt hown' g rfl).1
    · rw [hgrow.block j (by show j < (w.heap.push _).size; rw [Array.size_push]; omega) (Ne.symm hne)]
      exact ((Below.refl w.heap.size w).alloc (Nat.le_refl _) _).block j hj
end Go.Proofs.YtnodboggemggmaaGreatDoor
