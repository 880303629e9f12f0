/- stamp's pieces as values: which closure takes what; how they are made. -/
import Derived.Test.YtjalfddedikibaaGreatDoorStampVcJ
import Derived.Deep.AppendLies
namespace Go.Proofs.YtjalfddedikibaaGreatDoor
open Go Go.RowKit
set_option maxHeartbeats 2000000

def ptr (c : Nat) : Value := .pointer (some ⟨c, 0, none⟩)
/-- which function sets which field -/
def gotOf (f : Nat) : Nat := if f = 0 then 109 else if f = 1 then 111 else if f = 2 then 112 else if f = 3 then 114 else 115
/-- a box of the call's own: block c holds v -/
structure Boxed (w : World) (lo hi c : Nat) (v : Value) : Prop where
  cell : w.cell? ⟨c, 0, none⟩ = some v
  lo : lo ≤ c
  hi : c < hi
  lt : c < w.heap.size
theorem Boxed.next {w w' : World} {lo hi c : Nat} {v : Value} (h : Boxed w lo hi c v) (hb : Below w.heap.size w w') : Boxed w' lo hi c v :=
  ⟨by rw [hb.cell (p := ⟨c, 0, none⟩) h.lt]; exact h.cell, h.lo, h.hi, Nat.lt_of_lt_of_le h.lt hb.size⟩
theorem Boxed.but {b : Nat} {w w' : World} {lo hi c : Nat} {v : Value} (h : Boxed w lo hi c v) (k : But b w w') (hb : b < lo) : Boxed w' lo hi c v :=
  ⟨by rw [k.cell c 0 (by have := h.lo; omega) h.lt]; exact h.cell, h.lo, h.hi, Nat.lt_of_lt_of_le h.lt k.size⟩
theorem Boxed.grown {w w' : World} {lo hi c : Nat} {v : Value} {row : Option Nat} (h : Boxed w lo hi c v) (k : w.grownBy w' row) (hr : ∀ g, row = some g → c ≠ g) : Boxed w' lo hi c v :=
  ⟨k.cell h.cell (by intro e; exact hr c e.symm rfl), h.lo, h.hi, Nat.lt_of_lt_of_le h.lt k.size⟩
theorem Boxed.wide {w : World} {lo hi lo' hi' c : Nat} {v : Value} (h : Boxed w lo hi c v) (h1 : lo' ≤ lo) (h2 : hi ≤ hi') : Boxed w lo' hi' c v :=
  ⟨h.cell, Nat.le_trans h1 h.lo, Nat.lt_of_lt_of_le h.hi h2, h.lt⟩

inductive PieceOk (w : World) (lo hi : Nat) : Value → List Stm.Pc → Prop
  | text (c : Nat) (t : ByteArray) (h : Boxed w lo hi c (.string t)) (ht : t.size ≤ 100) : PieceOk w lo hi (.func (.func 134) #[] #[ptr c]) ((L t).map Stm.Pc.lit)
  | dig (c1 c2 c3 n f : Nat) (bl : Bool) (h1 : Boxed w lo hi c1 (.int .i64 n)) (h2 : Boxed w lo hi c2 (.bool bl)) (h3 : Boxed w lo hi c3 (.func (.func (gotOf f)) #[] #[])) (hf : f < 5) (hn : n ≤ 4) : PieceOk w lo hi (.func (.func 133) #[] #[ptr c1, ptr c2, ptr c3]) [.dig n bl f]
  | name0 (c1 c2 c3 : Nat) (h1 : Boxed w lo hi c1 (.slice (some ⟨0, 0, none⟩) 7 7)) (h2 : Boxed w lo hi c2 (.int .i64 3)) (h3 : Boxed w lo hi c3 (.func (.func 104) #[] #[])) : PieceOk w lo hi (.func (.func 132) #[] #[ptr c1, ptr c2, ptr c3]) [.name 0]
  | name1 (c1 c2 c3 : Nat) (h1 : Boxed w lo hi c1 (.slice (some ⟨0, 0, none⟩) 7 7)) (h2 : Boxed w lo hi c2 (.int .i64 0)) (h3 : Boxed w lo hi c3 (.func (.func 104) #[] #[])) : PieceOk w lo hi (.func (.func 132) #[] #[ptr c1, ptr c2, ptr c3]) [.name 1]
  | name2 (c1 c2 c3 : Nat) (h1 : Boxed w lo hi c1 (.slice (some ⟨1, 0, none⟩) 12 12)) (h2 : Boxed w lo hi c2 (.int .i64 0)) (h3 : Boxed w lo hi c3 (.func (.func 106) #[] #[])) : PieceOk w lo hi (.func (.func 132) #[] #[ptr c1, ptr c2, ptr c3]) [.name 2]
theorem PieceOk.map {w w' : World} {lo hi lo' hi' : Nat} {v : Value} {ps : List Stm.Pc} (h : PieceOk w lo hi v ps) (k : ∀ c v, Boxed w lo hi c v → Boxed w' lo' hi' c v) : PieceOk w' lo' hi' v ps := by
  cases h with
  | text c t h ht => exact .text c t (k _ _ h) ht
  | dig c1 c2 c3 n f bl h1 h2 h3 hf hn => exact .dig c1 c2 c3 n f bl (k _ _ h1) (k _ _ h2) (k _ _ h3) hf hn
  | name0 c1 c2 c3 h1 h2 h3 => exact .name0 c1 c2 c3 (k _ _ h1) (k _ _ h2) (k _ _ h3)
  | name1 c1 c2 c3 h1 h2 h3 => exact .name1 c1 c2 c3 (k _ _ h1) (k _ _ h2) (k _ _ h3)
  | name2 c1 c2 c3 h1 h2 h3 => exact .name2 c1 c2 c3 (k _ _ h1) (k _ _ h2) (k _ _ h3)
theorem PieceOk.one {w : World} {lo hi : Nat} {v : Value} {ps : List Stm.Pc} (h : PieceOk w lo hi v ps) : v.oneCell' = true := by cases h <;> rfl

/-- values and what they take -/
inductive Pieces (w : World) (lo hi : Nat) : List Value → List (List Stm.Pc) → Prop
  | nil : Pieces w lo hi [] []
  | cons {v : Value} {vs : List Value} {p : List Stm.Pc} {ps : List (List Stm.Pc)} (h : PieceOk w lo hi v p) (t : Pieces w lo hi vs ps) : Pieces w lo hi (v :: vs) (p :: ps)
theorem Pieces.map {w w' : World} {lo hi lo' hi' : Nat} {vs : List Value} {ps : List (List Stm.Pc)} (h : Pieces w lo hi vs ps) (k : ∀ c v, Boxed w lo hi c v → Boxed w' lo' hi' c v) : Pieces w' lo' hi' vs ps := by
  induction h with
  | nil => exact .nil
  | cons h _ ih => exact .cons (h.map k) ih
theorem Pieces.append {w : World} {lo hi : Nat} {vs vs' : List Value} {ps ps' : List (List Stm.Pc)} (h : Pieces w lo hi vs ps) (k : Pieces w lo hi vs' ps') : Pieces w lo hi (vs ++ vs') (ps ++ ps') := by
  induction h with
  | nil => exact k
  | cons h _ ih => exact .cons h ih
theorem Pieces.one {w : World} {lo hi : Nat} {vs : List Value} {ps : List (List Stm.Pc)} (h : Pieces w lo hi vs ps) : ∀ u ∈ vs, u.oneCell' = true := by
  induction h with
  | nil => intro u hu; cases hu
  | cons h _ ih =>
    intro u hu
    rcases List.mem_cons.1 hu with rfl | hu
    · exact h.one
    · exact ih u hu
theorem Pieces.get {w : World} {lo hi : Nat} {vs : List Value} {ps : List (List Stm.Pc)} (h : Pieces w lo hi vs ps) : vs.length = ps.length ∧ ∀ k (h1 : k < vs.length) (h2 : k < ps.length), PieceOk w lo hi vs[k] ps[k] := by
  induction h with
  | nil => exact ⟨rfl, fun k h1 => absurd h1 (by simp)⟩
  | cons h _ ih =>
    refine ⟨by simp [ih.1], fun k h1 h2 => ?_⟩
    cases k with
    | zero => exact h
    | succ k => exact ih.2 k (by simpa using h1) (by simpa using h2)

/-- what a call made that makes a piece -/
def Makes (w : World) (ps : List Stm.Pc) (e : Ending) (w' : World) : Prop := ∃ v, e = .returned v ∧ PieceOk w' w.heap.size w'.heap.size v ps ∧ Below w.heap.size w w'
theorem boxed_first (w : World) (v : Value) (t : TypeId) : Boxed (w.alloc (.cells #[v] t)) w.heap.size (w.heap.size + 1) w.heap.size v :=
  ⟨World.cell?_alloc_mark w #[v] t (0, 0) 0, Nat.le_refl _, by omega, by show w.heap.size < (w.heap.push _).size; rw [Array.size_push]; omega⟩
theorem size_alloc (w : World) (o : Obj) : (w.alloc o).heap.size = w.heap.size + 1 := Array.size_push _
theorem text_mk (t : ByteArray) (w : World) (ht : t.size ≤ 100) : Calls Tryz.prog 113 #[.string t] w (Makes w ((L t).map Stm.Pc.lit)) := by
  have hmf : ∀ (fn : Fn) (first cap : Array Value) (w : World), (Instr.makeFunc fn first cap).run Tryz.prog w = .ok (.func fn first cap) w := fun _ _ _ _ => rfl
  go_enter Tryz.func113, Tryz.ntmps113
  go_wp2_with fail
  go_ret
  exact ⟨_, rfl, .text _ _ ((boxed_first w (.string t) _).wide (Nat.le_refl _) (by rw [size_alloc]; exact Nat.le_refl _)) ht, (Below.refl _ _).alloc (Nat.le_refl _) _⟩
/-- three boxes, one behind the other -/
theorem three_boxes (w : World) (x y z : Value) (t1 t2 t3 : TypeId) :
    let w3 := ((w.alloc (.cells #[x] t1)).alloc (.cells #[y] t2)).alloc (.cells #[z] t3)
    Boxed w3 w.heap.size w3.heap.size w.heap.size x ∧ Boxed w3 w.heap.size w3.heap.size (w.heap.size + 1) y ∧ Boxed w3 w.heap.size w3.heap.size (w.heap.size + 1 + 1) z ∧ Below w.heap.size w w3 := by
  intro w3
  have s1 := size_alloc w (.cells #[x] t1)
  have s2 := size_alloc (w.alloc (.cells #[x] t1)) (.cells #[y] t2)
  have s3 := size_alloc ((w.alloc (.cells #[x] t1)).alloc (.cells #[y] t2)) (.cells #[z] t3)
  have a1 := boxed_first w x t1
  have a2 := boxed_first (w.alloc (.cells #[x] t1)) y t2
  have a3 := boxed_first ((w.alloc (.cells #[x] t1)).alloc (.cells #[y] t2)) z t3
  have n2 := a1.next ((Below.refl _ _).alloc (Nat.le_refl _) (.cells #[y] t2))
  have n3 := n2.next ((Below.refl _ _).alloc (Nat.le_refl _) (.cells #[z] t3))
  have m3 := a2.next ((Below.refl _ _).alloc (Nat.le_refl _) (.cells #[z] t3))
  rw [s1] at m3 s2
  rw [s2] at a3 s3
  refine ⟨n3.wide (Nat.le_refl _) (by show _ ≤ w3.heap.size; rw [s3]; omega), m3.wide (by omega) (by show _ ≤ w3.heap.size; rw [s3]; omega), a3.wide (by omega) (by show _ ≤ w3.heap.size; rw [s3]; omega), ?_⟩
  exact (((Below.refl _ _).alloc (Nat.le_refl _) _).alloc (by rw [s1]; omega) _).alloc (by rw [s2]; omega) _
theorem digits_mk (n f : Nat) (bl : Bool) (hf : f < 5) (hn : n ≤ 4) (w : World) : Calls Tryz.prog 108 #[.int .i64 n, .bool bl, .func (.func (gotOf f)) #[] #[]] w (Makes w [.dig n bl f]) := by
  have hmf : ∀ (fn : Fn) (first cap : Array Value) (w : World), (Instr.makeFunc fn first cap).run Tryz.prog w = .ok (.func fn first cap) w := fun _ _ _ _ => rfl
  obtain ⟨G, hG⟩ := name_it (Value.func (.func (gotOf f)) #[] #[])
  rw [hG.out]
  obtain ⟨a, b, c, d⟩ := three_boxes w (.int .i64 n) (.bool bl) G 3 4 155
  have HA := Lib.hid a
  have HB := Lib.hid b
  have HC := Lib.hid c
  have HD := Lib.hid d
  clear a b c d
  go_enter Tryz.func108, Tryz.ntmps108
  go_wp2_with fail
  go_ret
  exact ⟨_, rfl, .dig _ _ _ n f bl HA.out HB.out (by rw [hG.out]; exact HC.out) hf hn, HD.out⟩
theorem name0_mk (w : World) : Calls Tryz.prog 105 #[.slice (some ⟨0, 0, none⟩) 7 7, .int .i64 3, .func (.func 104) #[] #[]] w (Makes w [.name 0]) := by
  have hmf : ∀ (fn : Fn) (first cap : Array Value) (w : World), (Instr.makeFunc fn first cap).run Tryz.prog w = .ok (.func fn first cap) w := fun _ _ _ _ => rfl
  obtain ⟨a, b, c, d⟩ := three_boxes w (.slice (some ⟨0, 0, none⟩) 7 7) (.int .i64 3) (.func (.func 104) #[] #[]) 66 3 151
  have HA := Lib.hid a
  have HB := Lib.hid b
  have HC := Lib.hid c
  have HD := Lib.hid d
  clear a b c d
  go_enter Tryz.func105, Tryz.ntmps105
  go_wp2_with fail
  go_ret
  exact ⟨_, rfl, .name0 _ _ _ HA.out HB.out HC.out, HD.out⟩
theorem name1_mk (w : World) : Calls Tryz.prog 105 #[.slice (some ⟨0, 0, none⟩) 7 7, .int .i64 0, .func (.func 104) #[] #[]] w (Makes w [.name 1]) := by
  have hmf : ∀ (fn : Fn) (first cap : Array Value) (w : World), (Instr.makeFunc fn first cap).run Tryz.prog w = .ok (.func fn first cap) w := fun _ _ _ _ => rfl
  obtain ⟨a, b, c, d⟩ := three_boxes w (.slice (some ⟨0, 0, none⟩) 7 7) (.int .i64 0) (.func (.func 104) #[] #[]) 66 3 151
  have HA := Lib.hid a
  have HB := Lib.hid b
  have HC := Lib.hid c
  have HD := Lib.hid d
  clear a b c d
  go_enter Tryz.func105, Tryz.ntmps105
  go_wp2_with fail
  go_ret
  exact ⟨_, rfl, .name1 _ _ _ HA.out HB.out HC.out, HD.out⟩
theorem name2_mk (w : World) : Calls Tryz.prog 105 #[.slice (some ⟨1, 0, none⟩) 12 12, .int .i64 0, .func (.func 106) #[] #[]] w (Makes w [.name 2]) := by
  have hmf : ∀ (fn : Fn) (first cap : Array Value) (w : World), (Instr.makeFunc fn first cap).run Tryz.prog w = .ok (.func fn first cap) w := fun _ _ _ _ => rfl
  obtain ⟨a, b, c, d⟩ := three_boxes w (.slice (some ⟨1, 0, none⟩) 12 12) (.int .i64 0) (.func (.func 106) #[] #[]) 66 3 151
  have HA := Lib.hid a
  have HB := Lib.hid b
  have HC := Lib.hid c
  have HD := Lib.hid d
  clear a b c d
  go_enter Tryz.func105, Tryz.ntmps105
  go_wp2_with fail
  go_ret
  exact ⟨_, rfl, .name2 _ _ _ HA.out HB.out HC.out, HD.out⟩
theorem day_mk (bl : Bool) (w : World) : Calls Tryz.prog 107 #[.bool bl] w (Makes w [.dig 2 bl 0]) := by
  go_enter Tryz.func107, Tryz.ntmps107
  go_wp2_with fail
  refine (digits_mk 2 0 bl (by decide) (by decide) _).mono ?_
  rintro e w1 ⟨v, rfl, hp, hb⟩
  go_wp2_with fail
  go_ret
  exact ⟨v, rfl, hp, hb⟩
theorem year_mk (n : Nat) (hn : n ≤ 4) (w : World) : Calls Tryz.prog 110 #[.int .i64 n] w (Makes w [.dig n false 1]) := by
  go_enter Tryz.func110, Tryz.ntmps110
  go_wp2_with fail
  refine (digits_mk n 1 false (by decide) hn _).mono ?_
  rintro e w1 ⟨v, rfl, hp, hb⟩
  go_wp2_with fail
  go_ret
  exact ⟨v, rfl, hp, hb⟩
end Go.Proofs.YtjalfddedikibaaGreatDoor
