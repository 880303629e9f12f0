/- What the variables of stamp and of strconv hold. Small laws for slices that a call makes itself: one element appended; a row of bytes read as a string. A block of cells that is known whole. What a tag's text says; what a list of tags says; what is decided. Plain. Rows of the call's own: kept, appended to. Trimmed texts as parts of a text; lists of tags step by step. -/
import Derived.Test.YtjalfddedikibaaGreatDoorMb
import Derived.Test.YtjalfddedikibaaGreatDoorMa
import Derived.Lib.LaidTab
import Derived.Lib.ItoaNum
import Derived.Deep.AppendLies
import Derived.Maps.AppendAt
namespace Go.Proofs.YtjalfddedikibaaGreatDoor
open Go Go.RowKit
set_option maxHeartbeats 1000000

/-- what the variables of stamp and of strconv hold -/
structure EnvS (w : World) : Prop where
  n : 8 ≤ w.heap.size
  week : ∀ j, j < 7 → w.cell? ⟨0, j, none⟩ = some (.string (bs (Stm.longN.getD j [])))
  mon : ∀ j, j < 12 → w.cell? ⟨1, j, none⟩ = some (.string (bs (Stm.monN.getD j [])))
theorem EnvS.next {w w' : World} (h : EnvS w) (hb : Below w.heap.size w w') : EnvS w' where
  n := Nat.le_trans h.n hb.size
  week j hj := by rw [hb.cell (p := ⟨0, j, none⟩) (Nat.lt_of_lt_of_le (by show 0 < 8; decide) h.n)]; exact h.week j hj
  mon j hj := by rw [hb.cell (p := ⟨1, j, none⟩) (Nat.lt_of_lt_of_le (by show 1 < 8; decide) h.n)]; exact h.mon j hj
theorem EnvS.alloc {w : World} (h : EnvS w) (o : Obj) : EnvS (w.alloc o) := h.next ((Below.refl _ _).alloc (Nat.le_refl _) _)
end Go.Proofs.YtjalfddedikibaaGreatDoor
namespace Go.Proofs.YtjalfddedikibaaGreatDoor
open Go Go.RowKit

theorem own_below {w w' : World} {base : Nat} {v : Value} {e : TypeId} {size n : Nat} {xs : List Value} (hown : w.ownsRow base e size v n xs) (hg : w.grownBy w' v.ownBlock) (hbase : base ≤ w.heap.size) : Below base w w' :=
  (Below.refl base w).grown hg hbase (fun k hk => (hown.lt k hk).1)

/-- 'append(v, x)', x of one cell, v of the call's own; the translation lays x in a block of its own ahead. -/
theorem append1 {P : Program} {w : World} {ops : Array Oper} {rest : List Oper} {o : Oper} {a : Act} {Q : Exit → Act → World → Prop} (hgd : o.guard = none) (s x : Operand) (t : TypeId)
    (ho : o.op = .call { callee := .builtin .append, args := #[s, x], argTypes := #[t, t] })
    (base : Nat) (e : TypeId) (i : TypeInfo) (z : Value) (bytes : Nat) (ht : P.underlying t = some (.slice e)) (hi : P.info? e = some i) (hz : i.zero = some z)
    (hsize : i.size = 1) (hby : i.bytes = bytes) (hzs : z.cells.size = 1)
    {v : Value} {n : Nat} {xs : List Value} (hown : w.ownsRow base e 1 v n xs) (hs : a.eval s = v)
    (u : Value) (hu : u.oneCell' = true) (hx : a.eval x = .slice (some ⟨w.heap.size, 0, none⟩) 1 1)
    (hn : n + 1 ≤ maxLen) (hbytes : (n + 1) * bytes ≤ 140737488355328) (hbase : base ≤ w.heap.size)
    (h : ∀ g cap w', base ≤ g → w'.ownsRow base e 1 (.slice (some ⟨g, 0, none⟩) (n + 1) cap) (n + 1) (xs ++ [u]) → Below base w w' → wpList P ops Q rest (a.put o.dst (.slice (some ⟨g, 0, none⟩) (n + 1) cap)) w') :
    wpList P ops Q (o :: rest) a (w.alloc (.cells #[u] e)) := by
  have hw : base ≤ (w.alloc (.cells #[u] e)).heap.size := by
    show base ≤ (w.heap.push _).size
    rw [Array.size_push]; omega
  refine wpList_append_own (w.alloc (.cells #[u] e)) hgd s x t ho base e i z 1 bytes ht hi hz hsize hby hzs (by decide) v n xs hs (hown.alloc _) ⟨w.heap.size, 0, none⟩ 1 1 [u] hx rfl ?_ ?_ hn hbytes hw ?_
  · intro j y hj
    match j, hj with
    | 0, hj =>
      simp at hj; subst hj
      rw [Addr.add_lit]
      exact World.cell?_alloc_mark w #[u] e (0, 0) 0
  · intro y hy; simp at hy; subst hy; exact hu
  · intro v' w' hown' hgrow _
    rcases hown'.2 with ⟨_, h0⟩ | ⟨g, cap, cur, rfl, hg, _⟩
    · omega
    · exact h g cap w' hg hown' (((Below.refl _ _).alloc hbase _).trans (own_below (hown.alloc _) hgrow hw))

/-- '[]T{}' : the empty row that the translation lays. -/
theorem own_empty (w : World) (base : Nat) (e : TypeId) (hb : base ≤ w.heap.size) : (w.alloc (.cells #[] e)).ownsRow base e 1 (.slice (some ⟨w.heap.size, 0, none⟩) 0 0) 0 [] :=
  World.ownsRow_lit w #[] 0 hb (by unfold maxLen; omega) rfl

/-- string(v), v a row of bytes of the call's own. -/
theorem own_string {P : Program} {w : World} (src dst e : TypeId) {base n : Nat} {v : Value} {l : List UInt8} (h : w.ownsRow base e 1 v n (l.map fun c => Value.int .u8 (c.toNat : Int))) (hs : P.underlying src = some (.slice e)) (he : P.underlying e = some (.int .u8)) (hd : P.underlying dst = some .string) :
    (convert src dst v).run P w = .ok (.string (bs l)) w := by
  have hlen : n = l.length := by have := h.1; simp at this; omega
  rcases h.2 with ⟨rfl, h0⟩ | ⟨g, cap, cur, rfl, _⟩
  · have : l = [] := List.eq_nil_of_length_eq_zero (by omega)
    subst this
    exact run_convert_bytes_nil w src e hs he 0 0 dst hd
  · subst hlen
    refine run_convert_bytes_back w src dst e ⟨g, 0, none⟩ cap l hs he hd fun j hj => ?_
    have : (⟨g, 0, none⟩ : Addr).add j = ⟨g, j, none⟩ := by rw [Addr.add_lit, Nat.zero_add]
    rw [this, h.cellAt j (by omega)]
    simp [hj]
end Go.Proofs.YtjalfddedikibaaGreatDoor
namespace Go.Proofs.YtjalfddedikibaaGreatDoor
open Go Go.RowKit

/-- a whole block of cells, none frozen -/
def Blk (w : World) (b : Nat) (T : TypeId) (C : Array Value) : Prop := w.heap[b]? = some (.cells C T (0, 0))
theorem Blk.cell {w : World} {b : Nat} {T : TypeId} {C : Array Value} (h : Blk w b T C) (i : Nat) : w.cell? ⟨b, i, none⟩ = C[i]? := by
  unfold World.cell?; rw [show w.heap[(⟨b, i, none⟩ : Addr).block]? = _ from h]; rfl
theorem Blk.frozen {w : World} {b : Nat} {T : TypeId} {C : Array Value} (h : Blk w b T C) (i : Nat) : w.frozen? ⟨b, i, none⟩ = false := by
  unfold World.frozen?; rw [show w.heap[(⟨b, i, none⟩ : Addr).block]? = _ from h]
  simp
theorem Blk.lt {w : World} {b : Nat} {T : TypeId} {C : Array Value} (h : Blk w b T C) : b < w.heap.size := by
  by_cases hb : b < w.heap.size
  · exact hb
  · unfold Blk at h; rw [Array.getElem?_eq_none (by omega)] at h; cases h
theorem Blk.new (w : World) (T : TypeId) (C : Array Value) : Blk (w.alloc (.cells C T)) w.heap.size T C := heap_alloc_new w _
theorem Blk.below {w w' : World} {b B : Nat} {T : TypeId} {C : Array Value} (h : Blk w b T C) (hb : Below B w w') (hB : b < B) : Blk w' b T C := (hb.block b hB).trans h
theorem Blk.alloc {w : World} {b : Nat} {T : TypeId} {C : Array Value} (h : Blk w b T C) (o : Obj) : Blk (w.alloc o) b T C := h.below ((Below.refl w.heap.size w).alloc (Nat.le_refl _) o) h.lt
theorem Blk.set {w : World} {b : Nat} {T : TypeId} {C : Array Value} (h : Blk w b T C) (i : Nat) (v : Value) : Blk (w.setCell ⟨b, i, none⟩ v) b T (C.setIfInBounds i v) := by
  unfold Blk World.setCell
  show (w.heap.modify b _)[b]? = _
  rw [Array.getElem?_modify, if_pos rfl, show w.heap[b]? = _ from h]
  rfl
end Go.Proofs.YtjalfddedikibaaGreatDoor
namespace Go.Proofs.YtjalfddedikibaaGreatDoor
open Go Go.RowKit

abbrev Tg := Bool × List UInt8
def noT : Tg := (false, [])
/-- may a byte stand in a tag -/
def inT (c : UInt8) : Bool := c == 33 || (decide (35 ≤ c.toNat) && decide (c.toNat ≤ 126)) || decide (128 ≤ c.toNat)
/-- a tag's bytes from here on, so many read already: how many there are, and whether the mark stands behind them -/
def scT : Nat → List UInt8 → Nat × Bool
  | _, [] => (0, false)
  | n, c :: r => if c = 34 then (0, true) else if inT c = true ∧ n < 256 then ((scT (n + 1) r).1 + 1, (scT (n + 1) r).2) else (0, false)
theorem scT_le : ∀ (l : List UInt8) (n : Nat), (scT n l).1 ≤ l.length
  | [], _ => Nat.le_refl _
  | c :: r, n => by
    unfold scT
    split
    · exact Nat.zero_le _
    · split
      · have := scT_le r (n + 1); simp only [List.length_cons]; omega
      · exact Nat.zero_le _
theorem scT_lt : ∀ (l : List UInt8) (n : Nat), (scT n l).2 = true → (scT n l).1 < l.length
  | [], _, h => by cases h
  | c :: r, n, h => by
    unfold scT at h ⊢
    split
    · simp
    · rename_i h1
      rw [if_neg h1] at h
      split
      · rename_i h2
        rw [if_pos h2] at h
        have := scT_lt r (n + 1) h; simp only [List.length_cons]; omega
      · rename_i h2
        rw [if_neg h2] at h; cases h
theorem scT_256 : ∀ (l : List UInt8) (n : Nat), n ≤ 256 → n + (scT n l).1 ≤ 256
  | [], n, h => h
  | c :: r, n, h => by
    unfold scT
    split
    · exact h
    · split
      · rename_i h2
        have := scT_256 r (n + 1) (by omega); simp only; omega
      · exact h
/-- a tag behind its weak mark: its first place, and what is there -/
def rdB (w : Bool) (off : Nat) : List UInt8 → Tg × Nat × Bool
  | [] => (noT, off, false)
  | c :: r => if c = 34 then (if (scT 0 r).2 = true then ((w, r.take (scT 0 r).1), off + (scT 0 r).1 + 2, true) else (noT, off + (scT 0 r).1 + 1, false)) else (noT, off, false)
/-- the tag that a text begins with -/
def rdT : List UInt8 → Tg × Nat × Bool
  | [] => rdB false 0 []
  | c :: r => if c = 87 then (match r with | [] => (noT, 1, false) | d :: r' => if d = 47 then rdB true 2 r' else (noT, 1, false)) else rdB false 0 (c :: r)
theorem rdB_nil (w : Bool) (off : Nat) : rdB w off [] = (noT, off, false) := rfl
theorem rdB_cons (w : Bool) (off : Nat) (c : UInt8) (r : List UInt8) : rdB w off (c :: r) = if c = 34 then (if (scT 0 r).2 = true then ((w, r.take (scT 0 r).1), off + (scT 0 r).1 + 2, true) else (noT, off + (scT 0 r).1 + 1, false)) else (noT, off, false) := rfl
theorem rdT_nil : rdT [] = (noT, 0, false) := rfl
theorem rdT_w1 : rdT [87] = (noT, 1, false) := rfl
theorem rdT_w (d : UInt8) (r : List UInt8) : rdT (87 :: d :: r) = if d = 47 then rdB true 2 r else (noT, 1, false) := rfl
theorem rdT_c {c : UInt8} (h : c ≠ 87) (r : List UInt8) : rdT (c :: r) = rdB false 0 (c :: r) := by
  show (if c = 87 then _ else _) = _
  rw [if_neg h]
theorem rdB_le (w : Bool) (off : Nat) (l : List UInt8) : (rdB w off l).2.1 ≤ off + l.length := by
  unfold rdB
  split
  · exact Nat.le_refl _
  · rename_i c r
    have h1 := scT_le r 0
    split
    · split
      · rename_i h
        have := scT_lt r 0 h; simp only [List.length_cons]; omega
      · simp only [List.length_cons]; omega
    · simp only [List.length_cons]; omega
theorem rdT_le (l : List UInt8) : (rdT l).2.1 ≤ l.length := by
  unfold rdT
  split
  · exact rdB_le _ _ _
  · rename_i c r
    split
    · split
      · simp
      · rename_i d r'
        split
        · have := rdB_le true 2 r'; simp only [List.length_cons]; omega
        · simp only [List.length_cons]; omega
    · have := rdB_le false 0 (c :: r); omega
theorem rdT_pos (l : List UInt8) (h : (rdT l).2.2 = true) : 2 ≤ (rdT l).2.1 := by
  have hB : ∀ w off l, (rdB w off l).2.2 = true → 2 ≤ (rdB w off l).2.1 := by
    intro w off l h
    unfold rdB at h ⊢
    split at h
    · cases h
    · split at h
      · rename_i h1
        split at h
        · rename_i h2
          rw [if_pos h1, if_pos h2]; simp only; omega
        · cases h
      · cases h
  unfold rdT at h ⊢
  split at h
  · exact hB _ _ _ h
  · split at h
    · rename_i h1
      split at h
      · cases h
      · split at h
        · rename_i h2
          rw [if_pos h1, if_pos h2]; exact hB _ _ _ h
        · cases h
    · rename_i h1
      rw [if_neg h1]; exact hB _ _ _ h
/-- the tag that a whole text is -/
def parT (l : List UInt8) : Tg × Nat × Int := if (rdT l).2.2 = true ∧ (rdT l).2.1 = l.length then ((rdT l).1, 0, 0) else (noT, (rdT l).2.1, 80)
/-- what a list of tags says: a wrong place, its end, or tags -/
inductive LR where
  | bad (p : Nat)
  | over
  | good (ts : List Tg)
def lsT (free : Bool) (pos : Nat) (acc : List Tg) (l : List UInt8) : LR :=
  match l with
  | [] => if acc = [] then .over else .good acc
  | c :: r =>
    if isBl c = true then lsT free (pos + 1) acc r
    else if c = 44 then lsT true (pos + 1) acc r
    else if free = true then
      (if _h : (rdT (c :: r)).2.2 = true then lsT false (pos + (rdT (c :: r)).2.1) (acc ++ [(rdT (c :: r)).1]) ((c :: r).drop (rdT (c :: r)).2.1)
       else if (rdT (c :: r)).2.1 = (c :: r).length then .over else .bad (pos + (rdT (c :: r)).2.1))
    else .bad pos
termination_by l.length
decreasing_by
  · simp
  · simp
  · have h1 := rdT_pos _ _h
    simp only [List.length_drop, List.length_cons]
    omega
/-- the list of tags of a text: tags, whether it is a star, the place, the error -/
structure LV where
  ts : List Tg
  star : Bool
  at_ : Nat
  e : Int
def listT (l : List UInt8) : LV :=
  if trim l = [42] then ⟨[], true, 0, 0⟩
  else match lsT true (l.length - (trimL l).length) [] (trim l) with
    | .bad p => ⟨[], false, p, 81⟩
    | .over => ⟨[], false, l.length, 81⟩
    | .good ts => ⟨ts, false, 0, 0⟩
def strongT (a b : Tg) : Bool := (!a.1 && !b.1) && decide (a.2 = b.2)
def alikeT (a b : Tg) : Bool := decide (a.2 = b.2)
end Go.Proofs.YtjalfddedikibaaGreatDoor
namespace Go.Proofs.YtjalfddedikibaaGreatDoor
open Go Go.RowKit

theorem row_kept {w w' : World} {base : Nat} {e : TypeId} {size n : Nat} {v : Value} {xs : List Value} (h : w.ownsRow base e size v n xs) (hk : ∀ g, v.ownBlock = some g → w'.heap[g]? = w.heap[g]?) : w'.ownsRow base e size v n xs := by
  refine ⟨h.1, ?_⟩
  rcases h.2 with hn | ⟨g, cap, cur, rfl, hb, hgg, rest⟩
  · exact .inl hn
  · exact .inr ⟨g, cap, cur, rfl, hb, (hk g rfl).trans hgg, rest⟩
theorem row_next {w w' : World} {base : Nat} {e : TypeId} {size n : Nat} {v : Value} {xs : List Value} (h : w.ownsRow base e size v n xs) (hb : Below w.heap.size w w') : w'.ownsRow base e size v n xs := row_kept h (fun g hg => hb.block g (World.ownsRow.lt h g hg).2)
theorem row_lower {w : World} {b b' : Nat} {e : TypeId} {size n : Nat} {v : Value} {xs : List Value} (h : w.ownsRow b e size v n xs) (hb : b' ≤ b) : w.ownsRow b' e size v n xs := by
  refine ⟨h.1, ?_⟩
  rcases h.2 with h | ⟨g, cap, cur, h1, h2, r⟩
  · exact Or.inl h
  · exact Or.inr ⟨g, cap, cur, h1, Nat.le_trans hb h2, r⟩
theorem row_slice {w : World} {b : Nat} {e : TypeId} {sz n : Nat} {v : Value} {xs : List Value} (h : w.ownsRow b e sz v n xs) : ∃ p cap, v = .slice p n cap := by
  rcases h.2 with ⟨hv, h0⟩ | ⟨g, cap, cur, hv, _⟩
  · exact ⟨none, 0, by rw [hv, h0]⟩
  · exact ⟨_, cap, hv⟩
/-- 'append(v, x)', v of the call's own, x of some cells laid in a new block -/
theorem appendC {P : Program} {w : World} {ops : Array Oper} {rest : List Oper} {o : Oper} {a : Act} {Q : Exit → Act → World → Prop} (hgd : o.guard = none) (s x : Operand) (t : TypeId)
    (ho : o.op = .call { callee := .builtin .append, args := #[s, x], argTypes := #[t, t] })
    (base : Nat) (e : TypeId) (i : TypeInfo) (z : Value) (sz bytes : Nat) (ht : P.underlying t = some (.slice e)) (hi : P.info? e = some i) (hz : i.zero = some z)
    (hsize : i.size = sz) (hby : i.bytes = bytes) (hzs : z.cells.size = sz) (hsz0 : 0 < sz)
    {v : Value} {n : Nat} {xs : List Value} (hown : w.ownsRow base e sz v n xs) (hs : a.eval s = v)
    (cs : Array Value) (hc8 : cs.size = sz) (hu : ∀ u ∈ cs.toList, u.oneCell' = true) {nb : Nat} (hx : a.eval x = .slice (some ⟨nb, 0, none⟩) 1 1) (hnb : nb = w.heap.size)
    (hn : n + 1 ≤ maxLen) (hbytes : (n + 1) * bytes ≤ 140737488355328) (hbase : base ≤ w.heap.size)
    (h : ∀ g cap w', w'.ownsRow base e sz (.slice (some ⟨g, 0, none⟩) (n + 1) cap) (n + 1) (xs ++ cs.toList) → Below base w w' → wpList P ops Q rest (a.put o.dst (.slice (some ⟨g, 0, none⟩) (n + 1) cap)) w') :
    wpList P ops Q (o :: rest) a (w.alloc (.cells cs e)) := by
  subst hnb
  have hsz : (w.alloc (.cells cs e)).heap.size = w.heap.size + 1 := Array.size_push ..
  have hw : base ≤ (w.alloc (.cells cs e)).heap.size := by
    rw [hsz]; omega
  refine wpList_append_own_at (w := w.alloc (.cells cs e)) hgd s x t ho base e i z sz bytes ht hi hz hsize hby hzs hsz0 v n xs hs (hown.alloc _) ⟨w.heap.size, 0, none⟩ 1 1 cs.toList hx (by simp [hc8]) ?_ hu hn hbytes hw ?_
  · exact World.news_of_block (heap_alloc_new w _)
  · intro v' w' hown' hgrow _ hb
    rcases hown'.2 with ⟨_, h0⟩ | ⟨g, cap, cur, rfl, hg, _⟩
    · omega
    · exact h g cap w' hown' (((Below.refl _ _).alloc hbase _).trans ((Below.refl _ _).grown hgrow hw (fun k hk => ((hown.alloc (.cells cs e)).lt k hk).1)))
theorem results4 {fn : Func} {t u v x : Tmp} (h : fn.results = #[.tmp t, .tmp u, .tmp v, .tmp x]) (tmps : Array Value) (P : Program) (w : World) :
    (results fn tmps).run P w = .ok (.tuple #[tmps.getD t undef, tmps.getD u undef, tmps.getD v undef, tmps.getD x undef]) w := by simp [results, h]
def rowTg (l : List Tg) : List Value := l.flatMap fun t => [.bool t.1, .string (bs t.2)]
theorem rowTg_snoc (l : List Tg) (t : Tg) : rowTg (l ++ [t]) = rowTg l ++ [.bool t.1, .string (bs t.2)] := by unfold rowTg; rw [List.flatMap_append]; rfl
theorem rowTg_len (l : List Tg) : (rowTg l).length = l.length * 2 := by
  induction l with
  | nil => rfl
  | cons a l ih =>
    show ([Value.bool a.1, Value.string (bs a.2)] ++ rowTg l).length = _
    rw [List.length_append, ih]; show 2 + l.length * 2 = (l.length + 1) * 2; omega
theorem rowTg_get : ∀ (l : List Tg) (k : Nat) (h : k < l.length), (rowTg l)[k * 2]? = some (.bool l[k].1) ∧ (rowTg l)[k * 2 + 1]? = some (.string (bs l[k].2))
  | a :: l, 0, _ => ⟨rfl, rfl⟩
  | a :: l, k + 1, h => by
    have ih := rowTg_get l k (by simpa using h)
    have e : rowTg (a :: l) = .bool a.1 :: .string (bs a.2) :: rowTg l := rfl
    rw [e, show (k + 1) * 2 = k * 2 + 1 + 1 by omega, List.getElem?_cons_succ, List.getElem?_cons_succ, List.getElem?_cons_succ, List.getElem?_cons_succ]
    exact ih
/-- a text is blanks alone, or it has a first sign that is none -/
theorem blank_cases : ∀ l : List UInt8, l.all isBl = true ∨ ∃ P c X, l = P ++ c :: X ∧ P.all isBl = true ∧ isBl c = false
  | [] => Or.inl rfl
  | c :: l => by
    cases hc : isBl c with
    | false => exact Or.inr ⟨[], c, l, rfl, rfl, hc⟩
    | true =>
      rcases blank_cases l with h | ⟨P, d, X, h, hP, hd⟩
      · left; rw [List.all_cons, hc, h]; rfl
      · right; exact ⟨c :: P, d, X, by rw [h]; rfl, by rw [List.all_cons, hc, hP]; rfl, hd⟩
theorem trimL_all {l : List UInt8} (h : l.all isBl = true) : trimL l = [] := by
  induction l with
  | nil => rfl
  | cons c l ih =>
    rw [List.all_cons, Bool.and_eq_true] at h
    rw [trimL_cons_bl _ _ h.1, ih h.2]
theorem trimR_all {l : List UInt8} (h : l.all isBl = true) : trimR l = [] := by
  refine (snoc_ind (P := fun m => m.all isBl = true → trimR m = []) ?_ ?_ l) h
  · intro _; rfl
  · intro m d ih h
    simp only [List.all_append, Bool.and_eq_true, List.all_cons, List.all_nil, Bool.and_true] at h
    rw [trimR_snoc_bl _ _ h.2]; exact ih h.1
theorem trimL_at {P X : List UInt8} {c : UInt8} (hP : P.all isBl = true) (hc : isBl c = false) : trimL (P ++ c :: X) = c :: X := by
  induction P with
  | nil => exact trimL_cons_no _ _ hc
  | cons b P ih =>
    rw [List.all_cons, Bool.and_eq_true] at hP
    rw [List.cons_append, trimL_cons_bl _ _ hP.1, ih hP.2]
theorem trimR_pre : ∀ (P : List UInt8) {X : List UInt8} {c : UInt8}, isBl c = false → trimR (P ++ c :: X) = P ++ c :: trimR X := by
  intro P X c hc
  refine (snoc_ind (P := fun X => trimR (P ++ c :: X) = P ++ c :: trimR X) ?_ ?_ X)
  · have e : P ++ [c] = P ++ c :: [] := rfl
    rw [trimR_snoc_no _ _ hc]; simp [trimR]
  · intro Y d ih
    have e : P ++ c :: (Y ++ [d]) = (P ++ c :: Y) ++ [d] := by simp
    rw [e]
    cases hd : isBl d
    · rw [trimR_snoc_no _ _ hd, trimR_snoc_no _ _ hd]; simp
    · rw [trimR_snoc_bl _ _ hd, trimR_snoc_bl _ _ hd, ih]
/-- where the trimmed text lies -/
theorem trim_at {l : List UInt8} (h : trim l ≠ []) : (l.length - (trimL l).length) < (trimR l).length ∧ (trimR l).length ≤ l.length ∧ (l.take (trimR l).length).drop (l.length - (trimL l).length) = trim l ∧ (trim l).length = (trimR l).length - (l.length - (trimL l).length) := by
  rcases blank_cases l with h0 | ⟨P, c, X, rfl, hP, hc⟩
  · exact absurd (by unfold trim; rw [trimL_all h0]; rfl) h
  · have e1 := trimL_at (X := X) hP hc
    have e2 := trimR_pre P (X := X) hc
    have e3 : trim (P ++ c :: X) = c :: trimR X := by unfold trim; rw [e1, trimR_cons_no _ _ hc]
    have e4 : (trimR X).length ≤ X.length := by
      unfold trimR; rw [List.length_reverse]
      have := dropWhile_le isBl X.reverse
      rwa [List.length_reverse] at this
    have e5 : trimR X = X.take (trimR X).length := by
      refine (snoc_ind (P := fun X => trimR X = X.take (trimR X).length) ?_ ?_ X)
      · rfl
      · intro Y d ih
        cases hd : isBl d
        · rw [trimR_snoc_no _ _ hd, List.take_length]
        · rw [trimR_snoc_bl _ _ hd]
          have h5 : (trimR Y).length ≤ Y.length := by
            unfold trimR; rw [List.length_reverse]
            have := dropWhile_le isBl Y.reverse
            rwa [List.length_reverse] at this
          rw [List.take_append_of_le_length h5]; exact ih
    rw [e1, e2, e3]
    simp only [List.length_append, List.length_cons]
    refine ⟨by omega, by omega, ?_, by omega⟩
    rw [show P.length + (X.length + 1) - (X.length + 1) = P.length by omega]
    have : P ++ c :: trimR X = (P ++ c :: X).take (P.length + ((trimR X).length + 1)) := by
      rw [List.take_length_add_append, List.take_succ_cons, ← e5]
    rw [← this, List.drop_left]
theorem trim_none {l : List UInt8} (h : trim l = []) : trimL l = [] ∧ trimR l = [] := by
  rcases blank_cases l with h0 | ⟨P, c, X, rfl, hP, hc⟩
  · exact ⟨trimL_all h0, trimR_all h0⟩
  · unfold trim at h
    rw [trimL_at hP hc, trimR_cons_no _ _ hc] at h
    cases h
theorem lsT_nil (free : Bool) (pos : Nat) (acc : List Tg) : lsT free pos acc [] = if acc = [] then .over else .good acc := by rw [lsT]
theorem lsT_bl {free : Bool} {pos : Nat} {acc : List Tg} {c : UInt8} {r : List UInt8} (h : isBl c = true) : lsT free pos acc (c :: r) = lsT free (pos + 1) acc r := by rw [lsT, if_pos h]
theorem lsT_comma {free : Bool} {pos : Nat} {acc : List Tg} {r : List UInt8} : lsT free pos acc (44 :: r) = lsT true (pos + 1) acc r := by
  rw [lsT, if_neg (by decide), if_pos rfl]
theorem lsT_bad {pos : Nat} {acc : List Tg} {c : UInt8} {r : List UInt8} (h : isBl c = false) (h1 : c ≠ 44) : lsT false pos acc (c :: r) = .bad pos := by
  rw [lsT, if_neg (by rw [h]; decide), if_neg h1, if_neg (by decide)]
theorem lsT_read {pos : Nat} {acc : List Tg} {c : UInt8} {r : List UInt8} (h : isBl c = false) (h1 : c ≠ 44) {t : Tg} {n : Nat} (hr : rdT (c :: r) = (t, n, true)) : lsT true pos acc (c :: r) = lsT false (pos + n) (acc ++ [t]) ((c :: r).drop n) := by
  rw [lsT, if_neg (by rw [h]; decide), if_neg h1, if_pos rfl, dif_pos (by rw [hr]), hr]
theorem lsT_over {pos : Nat} {acc : List Tg} {c : UInt8} {r : List UInt8} (h : isBl c = false) (h1 : c ≠ 44) {t : Tg} {n : Nat} (hr : rdT (c :: r) = (t, n, false)) (hn : n = (c :: r).length) : lsT true pos acc (c :: r) = .over := by
  rw [lsT, if_neg (by rw [h]; decide), if_neg h1, if_pos rfl, dif_neg (by rw [hr]; exact Bool.false_ne_true), hr, if_pos hn]
theorem lsT_wrong {pos : Nat} {acc : List Tg} {c : UInt8} {r : List UInt8} (h : isBl c = false) (h1 : c ≠ 44) {t : Tg} {n : Nat} (hr : rdT (c :: r) = (t, n, false)) (hn : n ≠ (c :: r).length) : lsT true pos acc (c :: r) = .bad (pos + n) := by
  rw [lsT, if_neg (by rw [h]; decide), if_neg h1, if_pos rfl, dif_neg (by rw [hr]; exact Bool.false_ne_true), hr, if_neg hn]
theorem index_bl (c : UInt8) : decide ((0 : Int) ≤ Lib.indexByte [32, 9] c) = isBl c := by
  unfold Lib.indexByte Lib.indexByte Lib.indexByte isBl
  by_cases h1 : c = 32
  · subst h1; decide
  · by_cases h2 : c = 9
    · subst h2; decide
    · have e1 : ((32 : UInt8) == c) = false := by rw [beq_eq_false_iff_ne]; exact fun e => h1 e.symm
      have e2 : ((9 : UInt8) == c) = false := by rw [beq_eq_false_iff_ne]; exact fun e => h2 e.symm
      have e3 : ¬ (c.toNat = 32 ∨ c.toNat = 9) := by
        rintro (h | h)
        · exact h1 (UInt8.toNat_inj.1 h)
        · exact h2 (UInt8.toNat_inj.1 h)
      rw [e1, e2, decide_eq_false e3]; decide
end Go.Proofs.YtjalfddedikibaaGreatDoor
