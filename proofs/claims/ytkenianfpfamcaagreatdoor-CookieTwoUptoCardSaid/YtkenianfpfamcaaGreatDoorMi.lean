/- stamp's pieces as values: which closure takes what; how they are made. stamp's pieces: the list of what takes a form. stamp's moment: what was read, as a moment. Contract of stamp's Parse: the moment that a text says. -/
import Derived.Test.YtkenianfpfamcaaGreatDoorMh
import Derived.Deep.AppendLies
namespace Go.Proofs.YtkenianfpfamcaaGreatDoor
open Go Go.RowKit
set_option maxHeartbeats 2000000

def ptr (c : Nat) : Value := .pointer (some ⟨c, 0, none⟩)
/-- which function sets which field -/
def gotOf (f : Nat) : Nat := if f = 0 then 184 else if f = 1 then 186 else if f = 2 then 187 else if f = 3 then 189 else 190
/-- a box of the call's own: block c holds v -/
structure Boxed (w : World) (lo hi c : Nat) (v : Value) : Prop where
  cell : w.cell? ⟨c, 0, none⟩ = some v
  lo : lo ≤ c
  hi : c < hi
  lt : c < w.heap.size
theorem Boxed.next {w w' : World} {lo hi c : Nat} {v : Value} (h : Boxed w lo hi c v) (hb : Below w.heap.size w w') : Boxed w' lo hi c v :=
  ⟨by rw [hb.cell (p := ⟨c, 0, none⟩) h.lt]; exact h.cell, h.lo, h.hi, Nat.lt_of_lt_of_le h.lt hb.size⟩
theorem Boxed.but {b : Nat} {w w' : World} {lo hi c : Nat} {v : Value} (h : Boxed w lo hi c v) (k : But b w w') (hb : b < lo) : Boxed w' lo hi c v :=
  ⟨by rw [k.cell c 0 (by have := h.lo; omega) h.lt]; exact h.cell, h.lo, h.hi, Nat.lt_of_lt_of_le h.lt k.size⟩
theorem Boxed.grown {w w' : World} {lo hi c : Nat} {v : Value} {row : Option Nat} (h : Boxed w lo hi c v) (k : w.grownBy w' row) (hr : ∀ g, row = some g → c ≠ g) : Boxed w' lo hi c v :=
  ⟨k.cell h.cell (by intro e; exact hr c e.symm rfl), h.lo, h.hi, Nat.lt_of_lt_of_le h.lt k.size⟩
theorem Boxed.wide {w : World} {lo hi lo' hi' c : Nat} {v : Value} (h : Boxed w lo hi c v) (h1 : lo' ≤ lo) (h2 : hi ≤ hi') : Boxed w lo' hi' c v :=
  ⟨h.cell, Nat.le_trans h1 h.lo, Nat.lt_of_lt_of_le h.hi h2, h.lt⟩

inductive PieceOk (w : World) (lo hi : Nat) : Value → List Stm.Pc → Prop
  | text (c : Nat) (t : ByteArray) (h : Boxed w lo hi c (.string t)) (ht : t.size ≤ 100) : PieceOk w lo hi (.func (.func 223) #[] #[ptr c]) ((L t).map Stm.Pc.lit)
  | dig (c1 c2 c3 n f : Nat) (bl : Bool) (h1 : Boxed w lo hi c1 (.int .i64 n)) (h2 : Boxed w lo hi c2 (.bool bl)) (h3 : Boxed w lo hi c3 (.func (.func (gotOf f)) #[] #[])) (hf : f < 5) (hn : n ≤ 4) : PieceOk w lo hi (.func (.func 222) #[] #[ptr c1, ptr c2, ptr c3]) [.dig n bl f]
  | name0 (c1 c2 c3 : Nat) (h1 : Boxed w lo hi c1 (.slice (some ⟨0, 0, none⟩) 7 7)) (h2 : Boxed w lo hi c2 (.int .i64 3)) (h3 : Boxed w lo hi c3 (.func (.func 179) #[] #[])) : PieceOk w lo hi (.func (.func 221) #[] #[ptr c1, ptr c2, ptr c3]) [.name 0]
  | name1 (c1 c2 c3 : Nat) (h1 : Boxed w lo hi c1 (.slice (some ⟨0, 0, none⟩) 7 7)) (h2 : Boxed w lo hi c2 (.int .i64 0)) (h3 : Boxed w lo hi c3 (.func (.func 179) #[] #[])) : PieceOk w lo hi (.func (.func 221) #[] #[ptr c1, ptr c2, ptr c3]) [.name 1]
  | name2 (c1 c2 c3 : Nat) (h1 : Boxed w lo hi c1 (.slice (some ⟨1, 0, none⟩) 12 12)) (h2 : Boxed w lo hi c2 (.int .i64 0)) (h3 : Boxed w lo hi c3 (.func (.func 181) #[] #[])) : PieceOk w lo hi (.func (.func 221) #[] #[ptr c1, ptr c2, ptr c3]) [.name 2]
theorem PieceOk.map {w w' : World} {lo hi lo' hi' : Nat} {v : Value} {ps : List Stm.Pc} (h : PieceOk w lo hi v ps) (k : ∀ c v, Boxed w lo hi c v → Boxed w' lo' hi' c v) : PieceOk w' lo' hi' v ps := by
  cases h with
  | text c t h ht => exact .text c t (k _ _ h) ht
  | dig c1 c2 c3 n f bl h1 h2 h3 hf hn => exact .dig c1 c2 c3 n f bl (k _ _ h1) (k _ _ h2) (k _ _ h3) hf hn
  | name0 c1 c2 c3 h1 h2 h3 => exact .name0 c1 c2 c3 (k _ _ h1) (k _ _ h2) (k _ _ h3)
  | name1 c1 c2 c3 h1 h2 h3 => exact .name1 c1 c2 c3 (k _ _ h1) (k _ _ h2) (k _ _ h3)
  | name2 c1 c2 c3 h1 h2 h3 => exact .name2 c1 c2 c3 (k _ _ h1) (k _ _ h2) (k _ _ h3)
theorem PieceOk.one {w : World} {lo hi : Nat} {v : Value} {ps : List Stm.Pc} (h : PieceOk w lo hi v ps) : v.oneCell' = true := by cases h <;> rfl

/-- values and what they take -/
inductive Pieces (w : World) (lo hi : Nat) : List Value → List (List Stm.Pc) → Prop
  | nil : Pieces w lo hi [] []
  | cons {v : Value} {vs : List Value} {p : List Stm.Pc} {ps : List (List Stm.Pc)} (h : PieceOk w lo hi v p) (t : Pieces w lo hi vs ps) : Pieces w lo hi (v :: vs) (p :: ps)
theorem Pieces.map {w w' : World} {lo hi lo' hi' : Nat} {vs : List Value} {ps : List (List Stm.Pc)} (h : Pieces w lo hi vs ps) (k : ∀ c v, Boxed w lo hi c v → Boxed w' lo' hi' c v) : Pieces w' lo' hi' vs ps := by
  induction h with
  | nil => exact .nil
  | cons h _ ih => exact .cons (h.map k) ih
theorem Pieces.append {w : World} {lo hi : Nat} {vs vs' : List Value} {ps ps' : List (List Stm.Pc)} (h : Pieces w lo hi vs ps) (k : Pieces w lo hi vs' ps') : Pieces w lo hi (vs ++ vs') (ps ++ ps') := by
  induction h with
  | nil => exact k
  | cons h _ ih => exact .cons h ih
theorem Pieces.one {w : World} {lo hi : Nat} {vs : List Value} {ps : List (List Stm.Pc)} (h : Pieces w lo hi vs ps) : ∀ u ∈ vs, u.oneCell' = true := by
  induction h with
  | nil => intro u hu; cases hu
  | cons h _ ih =>
    intro u hu
    rcases List.mem_cons.1 hu with rfl | hu
    · exact h.one
    · exact ih u hu
theorem Pieces.get {w : World} {lo hi : Nat} {vs : List Value} {ps : List (List Stm.Pc)} (h : Pieces w lo hi vs ps) : vs.length = ps.length ∧ ∀ k (h1 : k < vs.length) (h2 : k < ps.length), PieceOk w lo hi vs[k] ps[k] := by
  induction h with
  | nil => exact ⟨rfl, fun k h1 => absurd h1 (by simp)⟩
  | cons h _ ih =>
    refine ⟨by simp [ih.1], fun k h1 h2 => ?_⟩
    cases k with
    | zero => exact h
    | succ k => exact ih.2 k (by simpa using h1) (by simpa using h2)

/-- what a call made that makes a piece -/
def Makes (w : World) (ps : List Stm.Pc) (e : Ending) (w' : World) : Prop := ∃ v, e = .returned v ∧ PieceOk w' w.heap.size w'.heap.size v ps ∧ Below w.heap.size w w'
theorem boxed_first (w : World) (v : Value) (t : TypeId) : Boxed (w.alloc (.cells #[v] t)) w.heap.size (w.heap.size + 1) w.heap.size v :=
  ⟨World.cell?_alloc_mark w #[v] t (0, 0) 0, Nat.le_refl _, by omega, by show w.heap.size < (w.heap.push _).size; rw [Array.size_push]; omega⟩
theorem size_alloc (w : World) (o : Obj) : (w.alloc o).heap.size = w.heap.size + 1 := Array.size_push _
theorem text_mk (t : ByteArray) (w : World) (ht : t.size ≤ 100) : Calls Tryz.prog 188 #[.string t] w (Makes w ((L t).map Stm.Pc.lit)) := by
  have hmf : ∀ (fn : Fn) (first cap : Array Value) (w : World), (Instr.makeFunc fn first cap).run Tryz.prog w = .ok (.func fn first cap) w := fun _ _ _ _ => rfl
  go_enter Tryz.func188, Tryz.ntmps188
  go_wp2_with fail
  go_ret
  exact ⟨_, rfl, .text _ _ ((boxed_first w (.string t) _).wide (Nat.le_refl _) (by rw [size_alloc]; exact Nat.le_refl _)) ht, (Below.refl _ _).alloc (Nat.le_refl _) _⟩
/-- three boxes, one behind the other -/
theorem three_boxes (w : World) (x y z : Value) (t1 t2 t3 : TypeId) :
    let w3 := ((w.alloc (.cells #[x] t1)).alloc (.cells #[y] t2)).alloc (.cells #[z] t3)
    Boxed w3 w.heap.size w3.heap.size w.heap.size x ∧ Boxed w3 w.heap.size w3.heap.size (w.heap.size + 1) y ∧ Boxed w3 w.heap.size w3.heap.size (w.heap.size + 1 + 1) z ∧ Below w.heap.size w w3 := by
  intro w3
  have s1 := size_alloc w (.cells #[x] t1)
  have s2 := size_alloc (w.alloc (.cells #[x] t1)) (.cells #[y] t2)
  have s3 := size_alloc ((w.alloc (.cells #[x] t1)).alloc (.cells #[y] t2)) (.cells #[z] t3)
  have a1 := boxed_first w x t1
  have a2 := boxed_first (w.alloc (.cells #[x] t1)) y t2
  have a3 := boxed_first ((w.alloc (.cells #[x] t1)).alloc (.cells #[y] t2)) z t3
  have n2 := a1.next ((Below.refl _ _).alloc (Nat.le_refl _) (.cells #[y] t2))
  have n3 := n2.next ((Below.refl _ _).alloc (Nat.le_refl _) (.cells #[z] t3))
  have m3 := a2.next ((Below.refl _ _).alloc (Nat.le_refl _) (.cells #[z] t3))
  rw [s1] at m3 s2
  rw [s2] at a3 s3
  refine ⟨n3.wide (Nat.le_refl _) (by show _ ≤ w3.heap.size; rw [s3]; omega), m3.wide (by omega) (by show _ ≤ w3.heap.size; rw [s3]; omega), a3.wide (by omega) (by show _ ≤ w3.heap.size; rw [s3]; omega), ?_⟩
  exact (((Below.refl _ _).alloc (Nat.le_refl _) _).alloc (by rw [s1]; omega) _).alloc (by rw [s2]; omega) _
theorem digits_mk (n f : Nat) (bl : Bool) (hf : f < 5) (hn : n ≤ 4) (w : World) : Calls Tryz.prog 183 #[.int .i64 n, .bool bl, .func (.func (gotOf f)) #[] #[]] w (Makes w [.dig n bl f]) := by
  have hmf : ∀ (fn : Fn) (first cap : Array Value) (w : World), (Instr.makeFunc fn first cap).run Tryz.prog w = .ok (.func fn first cap) w := fun _ _ _ _ => rfl
  obtain ⟨G, hG⟩ := name_it (Value.func (.func (gotOf f)) #[] #[])
  rw [hG.out]
  obtain ⟨a, b, c, d⟩ := three_boxes w (.int .i64 n) (.bool bl) G 3 4 218
  have HA := Lib.hid a
  have HB := Lib.hid b
  have HC := Lib.hid c
  have HD := Lib.hid d
  clear a b c d
  go_enter Tryz.func183, Tryz.ntmps183
  go_wp2_with fail
  go_ret
  exact ⟨_, rfl, .dig _ _ _ n f bl HA.out HB.out (by rw [hG.out]; exact HC.out) hf hn, HD.out⟩
theorem name0_mk (w : World) : Calls Tryz.prog 180 #[.slice (some ⟨0, 0, none⟩) 7 7, .int .i64 3, .func (.func 179) #[] #[]] w (Makes w [.name 0]) := by
  have hmf : ∀ (fn : Fn) (first cap : Array Value) (w : World), (Instr.makeFunc fn first cap).run Tryz.prog w = .ok (.func fn first cap) w := fun _ _ _ _ => rfl
  obtain ⟨a, b, c, d⟩ := three_boxes w (.slice (some ⟨0, 0, none⟩) 7 7) (.int .i64 3) (.func (.func 179) #[] #[]) 86 3 215
  have HA := Lib.hid a
  have HB := Lib.hid b
  have HC := Lib.hid c
  have HD := Lib.hid d
  clear a b c d
  go_enter Tryz.func180, Tryz.ntmps180
  go_wp2_with fail
  go_ret
  exact ⟨_, rfl, .name0 _ _ _ HA.out HB.out HC.out, HD.out⟩
theorem name1_mk (w : World) : Calls Tryz.prog 180 #[.slice (some ⟨0, 0, none⟩) 7 7, .int .i64 0, .func (.func 179) #[] #[]] w (Makes w [.name 1]) := by
  have hmf : ∀ (fn : Fn) (first cap : Array Value) (w : World), (Instr.makeFunc fn first cap).run Tryz.prog w = .ok (.func fn first cap) w := fun _ _ _ _ => rfl
  obtain ⟨a, b, c, d⟩ := three_boxes w (.slice (some ⟨0, 0, none⟩) 7 7) (.int .i64 0) (.func (.func 179) #[] #[]) 86 3 215
  have HA := Lib.hid a
  have HB := Lib.hid b
  have HC := Lib.hid c
  have HD := Lib.hid d
  clear a b c d
  go_enter Tryz.func180, Tryz.ntmps180
  go_wp2_with fail
  go_ret
  exact ⟨_, rfl, .name1 _ _ _ HA.out HB.out HC.out, HD.out⟩
theorem name2_mk (w : World) : Calls Tryz.prog 180 #[.slice (some ⟨1, 0, none⟩) 12 12, .int .i64 0, .func (.func 181) #[] #[]] w (Makes w [.name 2]) := by
  have hmf : ∀ (fn : Fn) (first cap : Array Value) (w : World), (Instr.makeFunc fn first cap).run Tryz.prog w = .ok (.func fn first cap) w := fun _ _ _ _ => rfl
  obtain ⟨a, b, c, d⟩ := three_boxes w (.slice (some ⟨1, 0, none⟩) 12 12) (.int .i64 0) (.func (.func 181) #[] #[]) 86 3 215
  have HA := Lib.hid a
  have HB := Lib.hid b
  have HC := Lib.hid c
  have HD := Lib.hid d
  clear a b c d
  go_enter Tryz.func180, Tryz.ntmps180
  go_wp2_with fail
  go_ret
  exact ⟨_, rfl, .name2 _ _ _ HA.out HB.out HC.out, HD.out⟩
theorem day_mk (bl : Bool) (w : World) : Calls Tryz.prog 182 #[.bool bl] w (Makes w [.dig 2 bl 0]) := by
  go_enter Tryz.func182, Tryz.ntmps182
  go_wp2_with fail
  refine (digits_mk 2 0 bl (by decide) (by decide) _).mono ?_
  rintro e w1 ⟨v, rfl, hp, hb⟩
  go_wp2_with fail
  go_ret
  exact ⟨v, rfl, hp, hb⟩
theorem year_mk (n : Nat) (hn : n ≤ 4) (w : World) : Calls Tryz.prog 185 #[.int .i64 n] w (Makes w [.dig n false 1]) := by
  go_enter Tryz.func185, Tryz.ntmps185
  go_wp2_with fail
  refine (digits_mk n 1 false (by decide) hn _).mono ?_
  rintro e w1 ⟨v, rfl, hp, hb⟩
  go_wp2_with fail
  go_ret
  exact ⟨v, rfl, hp, hb⟩
end Go.Proofs.YtkenianfpfamcaaGreatDoor
namespace Go.Proofs.YtkenianfpfamcaaGreatDoor
open Go Go.RowKit
set_option maxHeartbeats 4000000

theorem infoPiece : (Tryz.prog.info? 186).map (fun i => (i.zero, i.size, i.bytes)) = some (some Value.nilFunc, 1, 8) := by kernel_rfl
structure PS (w0 w : World) (vs : List Value) (ps : List (List Stm.Pc)) : Prop where
  pieces : Pieces w w0.heap.size w.heap.size vs ps
  below : Below w0.heap.size w0 w
theorem PS.start (w : World) : PS w w [] [] := ⟨.nil, Below.refl _ _⟩
theorem PS.snoc {w0 w w' : World} {vs : List Value} {ps : List (List Stm.Pc)} {v : Value} {p : List Stm.Pc} (h : PS w0 w vs ps) (hp : PieceOk w' w.heap.size w'.heap.size v p) (hb : Below w.heap.size w w') : PS w0 w' (vs ++ [v]) (ps ++ [p]) where
  pieces := Pieces.append (h.pieces.map fun _ _ k => (k.next hb).wide (Nat.le_refl _) hb.size) (.cons (hp.map fun _ _ k => k.wide h.below.size (Nat.le_refl _)) .nil)
  below := h.below.trans (hb.mono h.below.size)
theorem PS.alloc {w0 w : World} {vs : List Value} {ps : List (List Stm.Pc)} (h : PS w0 w vs ps) (o : Obj) : PS w0 (w.alloc o) vs ps where
  pieces := h.pieces.map fun _ _ k => (k.next ((Below.refl _ _).alloc (Nat.le_refl _) o)).wide (Nat.le_refl _) (by rw [size_alloc]; omega)
  below := h.below.alloc h.below.size o
theorem grown_of_below {w w' : World} (hb : Below w.heap.size w w') : w.grownBy w' none := ⟨hb.os, hb.tape, hb.output, hb.size, fun k hk _ => hb.block k hk⟩
theorem own_next {w w' : World} {base : Nat} {e : TypeId} {size : Nat} {v : Value} {n : Nat} {xs : List Value} (h : w.ownsRow base e size v n xs) (hb : Below w.heap.size w w') : w'.ownsRow base e size v n xs :=
  h.kept (grown_of_below hb) (by cases v.ownBlock <;> simp)
theorem CellsAt.news {w : World} {c : Nat} {cs : List Value} (h : CellsAt w c cs) : ∀ j u, cs[j]? = some u → w.cell? ((⟨c, 0, none⟩ : Addr).add j) = some u := by
  intro j u hu
  obtain ⟨hj, rfl⟩ := List.getElem?_eq_some_iff.1 hu
  rw [Addr.add_lit, Nat.zero_add]
  exact h.cell j hj

theorem PieceOk.shape {w : World} {lo hi : Nat} {v : Value} {ps : List Stm.Pc} (h : PieceOk w lo hi v ps) : ∃ fn cap, v = .func fn #[] cap := by cases h <;> exact ⟨_, _, rfl⟩
theorem pieces_cons {w : World} {lo hi : Nat} {v : Value} {vs : List Value} {p : List Stm.Pc} {ps : List (List Stm.Pc)} (h : Pieces w lo hi (v :: vs) (p :: ps)) : PieceOk w lo hi v p ∧ Pieces w lo hi vs ps := by cases h with | cons h t => exact ⟨h, t⟩
/-- the pieces of a form, as a slice of the call's own -/
def Pieced (w0 : World) (form : Nat) (e : Ending) (w' : World) : Prop :=
  ∃ g cap xs pss, e = .returned (.slice (some ⟨g, 0, none⟩) (xs.length : Nat) cap) ∧ xs.length ≤ 20 ∧ w0.heap.size ≤ g ∧ g < w'.heap.size ∧ (∀ j (h : j < xs.length), w'.cell? ⟨g, j, none⟩ = some xs[j]) ∧ Pieces w' w0.heap.size w'.heap.size xs pss ∧ pss.flatten = Stm.pcs form ∧ Below w0.heap.size w0 w'
/-- behind the two appends -/
theorem pieced_of {w0 wl w1 w2 w3 : World} {form l : Nat} {v1 v' : Value} {n1 n2 : Nat} {xs ys zs : List Value} {px py pz : List (List Stm.Pc)} (hl : wl.heap.size = l) (P : Pieces wl w0.heap.size l (xs ++ ys) (px ++ py)) (hb : Below w0.heap.size w0 wl)
    (cs : Array Value) (T : TypeId) (g1 : (wl.alloc (.cells cs T)).grownBy w1 (some l)) (o1 : w1.ownsRow l 186 1 v1 n1 (xs ++ ys))
    (Z : Pieces w2 w1.heap.size w2.heap.size zs pz) (b2 : Below w1.heap.size w1 w2) (ds : Array Value) (g2 : (w2.alloc (.cells ds T)).grownBy w3 v1.ownBlock)
    (o3 : w3.ownsRow l 186 1 v' n2 (xs ++ ys ++ zs)) (hn : n2 = xs.length + ys.length + zs.length) (h0 : 0 < n2) (h20 : n2 ≤ 20) (hf : (px ++ py ++ pz).flatten = Stm.pcs form) : Pieced w0 form (.returned v') w3 := by
  obtain ⟨g, cap, rfl, hg, hgl⟩ := o3.form h0
  have hlen : (xs ++ ys ++ zs).length = n2 := by rw [hn]; simp; omega
  have a1 : Below wl.heap.size wl (wl.alloc (.cells cs T)) := (Below.refl _ _).alloc (Nat.le_refl _) _
  have a2 : Below w2.heap.size w2 (w2.alloc (.cells ds T)) := (Below.refl _ _).alloc (Nat.le_refl _) _
  have s1 := size_alloc wl (.cells cs T)
  have s2 := size_alloc w2 (.cells ds T)
  have hsz1 := g1.size
  have hsz2 := b2.size
  have hsz3 := g2.size
  have hb0 := hb.size
  have hrow := o1.lt
  have P1 : Pieces w3 w0.heap.size w3.heap.size (xs ++ ys) (px ++ py) := P.map fun c v k =>
    ((((((k.next a1).grown g1 (fun g e => by have := k.hi; simp at e; omega)).next b2).next a2).grown g2 (fun g e => by have := k.hi; have := (hrow g e).1; omega))).wide (Nat.le_refl _) (by omega)
  have P2 : Pieces w3 w0.heap.size w3.heap.size zs pz := Z.map fun c v k =>
    (((k.next a2).grown g2 (fun g e => by have := k.lo; have := (hrow g e).2; omega))).wide (by omega) (by omega)
  refine ⟨g, cap, xs ++ ys ++ zs, px ++ py ++ pz, by rw [hlen], by omega, by omega, hgl, fun j hj => ?_, Pieces.append P1 P2, hf, ?_⟩
  · rw [World.ownsRow.cellAt o3 j (by rw [hlen] at hj; omega), List.getElem?_eq_getElem hj]
  · exact (((((hb.trans (a1.mono (by omega))).grown g1 (by omega) (by intro k e; simp at e; omega)).trans (b2.mono (by omega))).trans (a2.mono (by omega))).grown g2 (by omega) (by intro k e; have := (hrow k e).1; omega))

set_option maxRecDepth 100000 in
theorem pieces0_any (w : World) : Calls Tryz.prog 145 #[.int .i64 0] w (Pieced w 0) := by
  obtain ⟨i0, hi, hz0, hz1, hz2⟩ := info_parts infoPiece
  have HI := Lib.hid hi; have HZ0 := Lib.hid hz0; have HZ1 := Lib.hid hz1; have HZ2 := Lib.hid hz2
  clear hi hz0 hz1 hz2
  have P0 := Lib.hid (PS.start w)
  go_enter Tryz.func145, Tryz.ntmps145
  go_wp2_with fail
  refine (name2_mk _).mono ?_; rintro e w1 ⟨v0, rfl, hp, hb⟩
  obtain ⟨f0, c0, rfl⟩ := hp.shape
  have P1 := Lib.hid (P0.out.snoc hp hb); clear hp hb P0
  go_wp2_with fail
  refine (digits_mk 2 2 false (by decide) (by decide) _).mono ?_; rintro e w2 ⟨v1, rfl, hp, hb⟩
  obtain ⟨f1, c1, rfl⟩ := hp.shape
  have P2 := Lib.hid (P1.out.snoc hp hb); clear hp hb P1
  go_wp2_with fail
  refine (text_mk ⟨#[58]⟩ _ (by decide)).mono ?_; rintro e w3 ⟨v2, rfl, hp, hb⟩
  obtain ⟨f2, c2, rfl⟩ := hp.shape
  have P3 := Lib.hid (P2.out.snoc hp hb); clear hp hb P2
  go_wp2_with fail
  refine (digits_mk 2 3 false (by decide) (by decide) _).mono ?_; rintro e w4 ⟨v3, rfl, hp, hb⟩
  obtain ⟨f3, c3, rfl⟩ := hp.shape
  have P4 := Lib.hid (P3.out.snoc hp hb); clear hp hb P3
  go_wp2_with fail
  refine (text_mk ⟨#[58]⟩ _ (by decide)).mono ?_; rintro e w5 ⟨v4, rfl, hp, hb⟩
  obtain ⟨f4, c4, rfl⟩ := hp.shape
  have P5 := Lib.hid (P4.out.snoc hp hb); clear hp hb P4
  go_wp2_with fail
  refine (digits_mk 2 4 false (by decide) (by decide) _).mono ?_; rintro e w6 ⟨v5, rfl, hp, hb⟩
  obtain ⟨f5, c5, rfl⟩ := hp.shape
  have P6 := Lib.hid (P5.out.snoc hp hb); clear hp hb P5
  have C0 := Lib.hid (CellsAt.first w6 [Value.func f1 #[] c1, Value.func f2 #[] c2, Value.func f3 #[] c3, Value.func f4 #[] c4, Value.func f5 #[] c5] 186)
  have Pc := Lib.hid (P6.out.alloc (.cells #[Value.func f1 #[] c1, Value.func f2 #[] c2, Value.func f3 #[] c3, Value.func f4 #[] c4, Value.func f5 #[] c5] 186))
  clear P6
  go_wp2_with fail
  have hwc : ∃ wc, Hid (w6.alloc (.cells #[Value.func f1 #[] c1, Value.func f2 #[] c2, Value.func f3 #[] c3, Value.func f4 #[] c4, Value.func f5 #[] c5] 186) = wc) := ⟨_, rfl⟩
  obtain ⟨wc, hwc⟩ := hwc
  rw [hwc.out] at C0 Pc ⊢
  obtain ⟨cb, hcb⟩ := name_it w6.heap.size
  rw [hcb.out] at C0 ⊢
  have P7 := Pc
  clear Pc hwc hcb
  have hcl := C0.out.lt
  go_wp2_with fail
  refine (name0_mk _).mono ?_; rintro e w8 ⟨v6, rfl, hp, hb⟩
  obtain ⟨f6, c6, rfl⟩ := hp.shape
  have P8 := Lib.hid (P7.out.snoc hp hb); have C1 := Lib.hid (C0.out.next hb); clear hp hb P7 C0
  go_wp2_with fail
  refine (text_mk ⟨#[44, 32]⟩ _ (by decide)).mono ?_; rintro e w9 ⟨v7, rfl, hp, hb⟩
  obtain ⟨f7, c7, rfl⟩ := hp.shape
  have P9 := Lib.hid (P8.out.snoc hp hb); have C2 := Lib.hid (C1.out.next hb); clear hp hb P8 C1
  go_wp2_with fail
  refine (day_mk false _).mono ?_; rintro e w10 ⟨v8, rfl, hp, hb⟩
  obtain ⟨f8, c8, rfl⟩ := hp.shape
  have P10 := Lib.hid (P9.out.snoc hp hb); have C3 := Lib.hid (C2.out.next hb); clear hp hb P9 C2
  go_wp2_with fail
  refine (text_mk ⟨#[32]⟩ _ (by decide)).mono ?_; rintro e w11 ⟨v9, rfl, hp, hb⟩
  obtain ⟨f9, c9, rfl⟩ := hp.shape
  have P11 := Lib.hid (P10.out.snoc hp hb); have C4 := Lib.hid (C3.out.next hb); clear hp hb P10 C3
  go_wp2_with fail
  refine (text_mk ⟨#[32]⟩ _ (by decide)).mono ?_; rintro e w12 ⟨v10, rfl, hp, hb⟩
  obtain ⟨f10, c10, rfl⟩ := hp.shape
  have P12 := Lib.hid (P11.out.snoc hp hb); have C5 := Lib.hid (C4.out.next hb); clear hp hb P11 C4
  go_wp2_with fail
  refine (year_mk 4 (by decide) _).mono ?_; rintro e w13 ⟨v11, rfl, hp, hb⟩
  obtain ⟨f11, c11, rfl⟩ := hp.shape
  have P13 := Lib.hid (P12.out.snoc hp hb); have C6 := Lib.hid (C5.out.next hb); clear hp hb P12 C5
  go_wp2_with fail
  refine (text_mk ⟨#[32]⟩ _ (by decide)).mono ?_; rintro e w14 ⟨v12, rfl, hp, hb⟩
  obtain ⟨f12, c12, rfl⟩ := hp.shape
  have P14 := Lib.hid (P13.out.snoc hp hb); have C7 := Lib.hid (C6.out.next hb); clear hp hb P13 C6
  have HO : Hid ((w14.alloc (.cells #[Value.func f6 #[] c6, Value.func f7 #[] c7, Value.func f8 #[] c8, Value.func f9 #[] c9, Value.func f0 #[] c0, Value.func f10 #[] c10, Value.func f11 #[] c11, Value.func f12 #[] c12] 186)).ownsRow w14.heap.size 186 1 (.slice (some ⟨w14.heap.size, 0, none⟩) 8 8) 8 [Value.func f6 #[] c6, Value.func f7 #[] c7, Value.func f8 #[] c8, Value.func f9 #[] c9, Value.func f0 #[] c0, Value.func f10 #[] c10, Value.func f11 #[] c11, Value.func f12 #[] c12]) :=
    World.ownsRow_lit w14 #[Value.func f6 #[] c6, Value.func f7 #[] c7, Value.func f8 #[] c8, Value.func f9 #[] c9, Value.func f0 #[] c0, Value.func f10 #[] c10, Value.func f11 #[] c11, Value.func f12 #[] c12] 8 (Nat.le_refl _) (by unfold maxLen; omega) rfl
  have CC := Lib.hid (C7.out.next ((Below.refl _ _).alloc (Nat.le_refl _) (.cells #[Value.func f6 #[] c6, Value.func f7 #[] c7, Value.func f8 #[] c8, Value.func f9 #[] c9, Value.func f0 #[] c0, Value.func f10 #[] c10, Value.func f11 #[] c11, Value.func f12 #[] c12] 186)))
  have ONE : Hid (∀ u ∈ [Value.func f1 #[] c1, Value.func f2 #[] c2, Value.func f3 #[] c3, Value.func f4 #[] c4, Value.func f5 #[] c5], u.oneCell' = true) := by
    have := P14.out.pieces.one
    intro u hu
    simp at hu
    rcases hu with rfl | rfl | rfl | rfl | rfl <;> exact this _ (by simp)
  clear C7
  go_wp2_with (at_builtin; refine wpList_append_own _ rfl _ _ 183 rfl w14.heap.size 186 i0 Value.nilFunc 1 8 Tryz.underlying183 HI.out HZ0.out HZ1.out HZ2.out rfl (by decide) _ _ _ rfl HO.out ⟨cb, 0, none⟩ 5 5 [Value.func f1 #[] c1, Value.func f2 #[] c2, Value.func f3 #[] c3, Value.func f4 #[] c4, Value.func f5 #[] c5] rfl rfl CC.out.news ONE.out (by unfold maxLen; omega) (by omega) (by rw [size_alloc]; omega) ?_; intro va wa hown hgrow _; have HOW := Lib.hid hown; have HGR := Lib.hid hgrow; clear hown hgrow)
  have ZP := Lib.hid (PS.start wa)
  go_wp2_with fail
  refine (text_mk ⟨#[32, 71, 77, 84]⟩ _ (by decide)).mono ?_; rintro e z0 ⟨v13, rfl, hp, hb⟩
  obtain ⟨f13, c13, rfl⟩ := hp.shape
  have ZP0 := Lib.hid (ZP.out.snoc hp hb); have HOW0 := Lib.hid (own_next HOW.out hb); clear hp hb ZP
  have HB : Hid (CellsAt (z0.alloc (.cells #[Value.func f13 #[] c13] 186)) z0.heap.size [Value.func f13 #[] c13]) := CellsAt.first z0 [Value.func f13 #[] c13] 186
  have ONE2 : Hid (∀ u ∈ [Value.func f13 #[] c13], Value.oneCell' u = true) := by
    intro u hu
    simp at hu
    subst hu; rfl
  have HO2 := Lib.hid (HOW0.out.alloc (.cells #[Value.func f13 #[] c13] 186))
  have HSZ := Lib.hid ZP0.out.below.size
  have HGZ := Lib.hid HGR.out.size
  go_wp2_with (at_builtin; refine wpList_append_own _ rfl _ _ 183 rfl w14.heap.size 186 i0 Value.nilFunc 1 8 Tryz.underlying183 HI.out HZ0.out HZ1.out HZ2.out rfl (by decide) _ _ _ rfl HO2.out ⟨z0.heap.size, 0, none⟩ 1 1 [Value.func f13 #[] c13] rfl rfl HB.out.news ONE2.out (by unfold maxLen; omega) (by omega) (by have a := HSZ.out; have b := HGZ.out; rw [size_alloc] at b; rw [size_alloc]; omega) ?_; intro vz wz hown2 hgrow2 _; have HOZ := Lib.hid hown2; have HGZ2 := Lib.hid hgrow2; clear hown2 hgrow2)
  go_ret
  have PP := P14.out.pieces
  have BB := P14.out.below
  simp only [List.nil_append, List.cons_append] at PP
  obtain ⟨q0, PP⟩ := pieces_cons PP
  obtain ⟨q1, PP⟩ := pieces_cons PP
  obtain ⟨q2, PP⟩ := pieces_cons PP
  obtain ⟨q3, PP⟩ := pieces_cons PP
  obtain ⟨q4, PP⟩ := pieces_cons PP
  obtain ⟨q5, PP⟩ := pieces_cons PP
  obtain ⟨q6, PP⟩ := pieces_cons PP
  obtain ⟨q7, PP⟩ := pieces_cons PP
  obtain ⟨q8, PP⟩ := pieces_cons PP
  obtain ⟨q9, PP⟩ := pieces_cons PP
  obtain ⟨q10, PP⟩ := pieces_cons PP
  obtain ⟨q11, PP⟩ := pieces_cons PP
  obtain ⟨q12, PP⟩ := pieces_cons PP
  exact pieced_of (xs := [Value.func f6 #[] c6, Value.func f7 #[] c7, Value.func f8 #[] c8, Value.func f9 #[] c9, Value.func f0 #[] c0, Value.func f10 #[] c10, Value.func f11 #[] c11, Value.func f12 #[] c12]) (ys := [Value.func f1 #[] c1, Value.func f2 #[] c2, Value.func f3 #[] c3, Value.func f4 #[] c4, Value.func f5 #[] c5]) (zs := [Value.func f13 #[] c13]) (px := [[.name 0], ((L ⟨#[44, 32]⟩).map Stm.Pc.lit), [.dig 2 false 0], ((L ⟨#[32]⟩).map Stm.Pc.lit), [.name 2], ((L ⟨#[32]⟩).map Stm.Pc.lit), [.dig 4 false 1], ((L ⟨#[32]⟩).map Stm.Pc.lit)]) (py := [[.dig 2 false 2], ((L ⟨#[58]⟩).map Stm.Pc.lit), [.dig 2 false 3], ((L ⟨#[58]⟩).map Stm.Pc.lit), [.dig 2 false 4]]) (pz := [((L ⟨#[32, 71, 77, 84]⟩).map Stm.Pc.lit)]) rfl (.cons q6 (.cons q7 (.cons q8 (.cons q9 (.cons q0 (.cons q10 (.cons q11 (.cons q12 (.cons q1 (.cons q2 (.cons q3 (.cons q4 (.cons q5 .nil))))))))))))) BB _ _ HGR.out HOW.out ZP0.out.pieces ZP0.out.below _ HGZ2.out HOZ.out rfl (by decide) (by decide) rfl
set_option maxRecDepth 100000 in
theorem pieces1_any (w : World) : Calls Tryz.prog 145 #[.int .i64 1] w (Pieced w 1) := by
  obtain ⟨i0, hi, hz0, hz1, hz2⟩ := info_parts infoPiece
  have HI := Lib.hid hi; have HZ0 := Lib.hid hz0; have HZ1 := Lib.hid hz1; have HZ2 := Lib.hid hz2
  clear hi hz0 hz1 hz2
  have P0 := Lib.hid (PS.start w)
  go_enter Tryz.func145, Tryz.ntmps145
  go_wp2_with fail
  refine (name2_mk _).mono ?_; rintro e w1 ⟨v0, rfl, hp, hb⟩
  obtain ⟨f0, c0, rfl⟩ := hp.shape
  have P1 := Lib.hid (P0.out.snoc hp hb); clear hp hb P0
  go_wp2_with fail
  refine (digits_mk 2 2 false (by decide) (by decide) _).mono ?_; rintro e w2 ⟨v1, rfl, hp, hb⟩
  obtain ⟨f1, c1, rfl⟩ := hp.shape
  have P2 := Lib.hid (P1.out.snoc hp hb); clear hp hb P1
  go_wp2_with fail
  refine (text_mk ⟨#[58]⟩ _ (by decide)).mono ?_; rintro e w3 ⟨v2, rfl, hp, hb⟩
  obtain ⟨f2, c2, rfl⟩ := hp.shape
  have P3 := Lib.hid (P2.out.snoc hp hb); clear hp hb P2
  go_wp2_with fail
  refine (digits_mk 2 3 false (by decide) (by decide) _).mono ?_; rintro e w4 ⟨v3, rfl, hp, hb⟩
  obtain ⟨f3, c3, rfl⟩ := hp.shape
  have P4 := Lib.hid (P3.out.snoc hp hb); clear hp hb P3
  go_wp2_with fail
  refine (text_mk ⟨#[58]⟩ _ (by decide)).mono ?_; rintro e w5 ⟨v4, rfl, hp, hb⟩
  obtain ⟨f4, c4, rfl⟩ := hp.shape
  have P5 := Lib.hid (P4.out.snoc hp hb); clear hp hb P4
  go_wp2_with fail
  refine (digits_mk 2 4 false (by decide) (by decide) _).mono ?_; rintro e w6 ⟨v5, rfl, hp, hb⟩
  obtain ⟨f5, c5, rfl⟩ := hp.shape
  have P6 := Lib.hid (P5.out.snoc hp hb); clear hp hb P5
  have C0 := Lib.hid (CellsAt.first w6 [Value.func f1 #[] c1, Value.func f2 #[] c2, Value.func f3 #[] c3, Value.func f4 #[] c4, Value.func f5 #[] c5] 186)
  have Pc := Lib.hid (P6.out.alloc (.cells #[Value.func f1 #[] c1, Value.func f2 #[] c2, Value.func f3 #[] c3, Value.func f4 #[] c4, Value.func f5 #[] c5] 186))
  clear P6
  go_wp2_with fail
  have hwc : ∃ wc, Hid (w6.alloc (.cells #[Value.func f1 #[] c1, Value.func f2 #[] c2, Value.func f3 #[] c3, Value.func f4 #[] c4, Value.func f5 #[] c5] 186) = wc) := ⟨_, rfl⟩
  obtain ⟨wc, hwc⟩ := hwc
  rw [hwc.out] at C0 Pc ⊢
  obtain ⟨cb, hcb⟩ := name_it w6.heap.size
  rw [hcb.out] at C0 ⊢
  have P7 := Pc
  clear Pc hwc hcb
  have hcl := C0.out.lt
  go_wp2_with fail
  refine (name1_mk _).mono ?_; rintro e w8 ⟨v6, rfl, hp, hb⟩
  obtain ⟨f6, c6, rfl⟩ := hp.shape
  have P8 := Lib.hid (P7.out.snoc hp hb); have C1 := Lib.hid (C0.out.next hb); clear hp hb P7 C0
  go_wp2_with fail
  refine (text_mk ⟨#[44, 32]⟩ _ (by decide)).mono ?_; rintro e w9 ⟨v7, rfl, hp, hb⟩
  obtain ⟨f7, c7, rfl⟩ := hp.shape
  have P9 := Lib.hid (P8.out.snoc hp hb); have C2 := Lib.hid (C1.out.next hb); clear hp hb P8 C1
  go_wp2_with fail
  refine (day_mk false _).mono ?_; rintro e w10 ⟨v8, rfl, hp, hb⟩
  obtain ⟨f8, c8, rfl⟩ := hp.shape
  have P10 := Lib.hid (P9.out.snoc hp hb); have C3 := Lib.hid (C2.out.next hb); clear hp hb P9 C2
  go_wp2_with fail
  refine (text_mk ⟨#[45]⟩ _ (by decide)).mono ?_; rintro e w11 ⟨v9, rfl, hp, hb⟩
  obtain ⟨f9, c9, rfl⟩ := hp.shape
  have P11 := Lib.hid (P10.out.snoc hp hb); have C4 := Lib.hid (C3.out.next hb); clear hp hb P10 C3
  go_wp2_with fail
  refine (text_mk ⟨#[45]⟩ _ (by decide)).mono ?_; rintro e w12 ⟨v10, rfl, hp, hb⟩
  obtain ⟨f10, c10, rfl⟩ := hp.shape
  have P12 := Lib.hid (P11.out.snoc hp hb); have C5 := Lib.hid (C4.out.next hb); clear hp hb P11 C4
  go_wp2_with fail
  refine (year_mk 2 (by decide) _).mono ?_; rintro e w13 ⟨v11, rfl, hp, hb⟩
  obtain ⟨f11, c11, rfl⟩ := hp.shape
  have P13 := Lib.hid (P12.out.snoc hp hb); have C6 := Lib.hid (C5.out.next hb); clear hp hb P12 C5
  go_wp2_with fail
  refine (text_mk ⟨#[32]⟩ _ (by decide)).mono ?_; rintro e w14 ⟨v12, rfl, hp, hb⟩
  obtain ⟨f12, c12, rfl⟩ := hp.shape
  have P14 := Lib.hid (P13.out.snoc hp hb); have C7 := Lib.hid (C6.out.next hb); clear hp hb P13 C6
  have HO : Hid ((w14.alloc (.cells #[Value.func f6 #[] c6, Value.func f7 #[] c7, Value.func f8 #[] c8, Value.func f9 #[] c9, Value.func f0 #[] c0, Value.func f10 #[] c10, Value.func f11 #[] c11, Value.func f12 #[] c12] 186)).ownsRow w14.heap.size 186 1 (.slice (some ⟨w14.heap.size, 0, none⟩) 8 8) 8 [Value.func f6 #[] c6, Value.func f7 #[] c7, Value.func f8 #[] c8, Value.func f9 #[] c9, Value.func f0 #[] c0, Value.func f10 #[] c10, Value.func f11 #[] c11, Value.func f12 #[] c12]) :=
    World.ownsRow_lit w14 #[Value.func f6 #[] c6, Value.func f7 #[] c7, Value.func f8 #[] c8, Value.func f9 #[] c9, Value.func f0 #[] c0, Value.func f10 #[] c10, Value.func f11 #[] c11, Value.func f12 #[] c12] 8 (Nat.le_refl _) (by unfold maxLen; omega) rfl
  have CC := Lib.hid (C7.out.next ((Below.refl _ _).alloc (Nat.le_refl _) (.cells #[Value.func f6 #[] c6, Value.func f7 #[] c7, Value.func f8 #[] c8, Value.func f9 #[] c9, Value.func f0 #[] c0, Value.func f10 #[] c10, Value.func f11 #[] c11, Value.func f12 #[] c12] 186)))
  have ONE : Hid (∀ u ∈ [Value.func f1 #[] c1, Value.func f2 #[] c2, Value.func f3 #[] c3, Value.func f4 #[] c4, Value.func f5 #[] c5], u.oneCell' = true) := by
    have := P14.out.pieces.one
    intro u hu
    simp at hu
    rcases hu with rfl | rfl | rfl | rfl | rfl <;> exact this _ (by simp)
  clear C7
  go_wp2_with (at_builtin; refine wpList_append_own _ rfl _ _ 183 rfl w14.heap.size 186 i0 Value.nilFunc 1 8 Tryz.underlying183 HI.out HZ0.out HZ1.out HZ2.out rfl (by decide) _ _ _ rfl HO.out ⟨cb, 0, none⟩ 5 5 [Value.func f1 #[] c1, Value.func f2 #[] c2, Value.func f3 #[] c3, Value.func f4 #[] c4, Value.func f5 #[] c5] rfl rfl CC.out.news ONE.out (by unfold maxLen; omega) (by omega) (by rw [size_alloc]; omega) ?_; intro va wa hown hgrow _; have HOW := Lib.hid hown; have HGR := Lib.hid hgrow; clear hown hgrow)
  have ZP := Lib.hid (PS.start wa)
  go_wp2_with fail
  refine (text_mk ⟨#[32, 71, 77, 84]⟩ _ (by decide)).mono ?_; rintro e z0 ⟨v13, rfl, hp, hb⟩
  obtain ⟨f13, c13, rfl⟩ := hp.shape
  have ZP0 := Lib.hid (ZP.out.snoc hp hb); have HOW0 := Lib.hid (own_next HOW.out hb); clear hp hb ZP
  have HB : Hid (CellsAt (z0.alloc (.cells #[Value.func f13 #[] c13] 186)) z0.heap.size [Value.func f13 #[] c13]) := CellsAt.first z0 [Value.func f13 #[] c13] 186
  have ONE2 : Hid (∀ u ∈ [Value.func f13 #[] c13], Value.oneCell' u = true) := by
    intro u hu
    simp at hu
    subst hu; rfl
  have HO2 := Lib.hid (HOW0.out.alloc (.cells #[Value.func f13 #[] c13] 186))
  have HSZ := Lib.hid ZP0.out.below.size
  have HGZ := Lib.hid HGR.out.size
  go_wp2_with (at_builtin; refine wpList_append_own _ rfl _ _ 183 rfl w14.heap.size 186 i0 Value.nilFunc 1 8 Tryz.underlying183 HI.out HZ0.out HZ1.out HZ2.out rfl (by decide) _ _ _ rfl HO2.out ⟨z0.heap.size, 0, none⟩ 1 1 [Value.func f13 #[] c13] rfl rfl HB.out.news ONE2.out (by unfold maxLen; omega) (by omega) (by have a := HSZ.out; have b := HGZ.out; rw [size_alloc] at b; rw [size_alloc]; omega) ?_; intro vz wz hown2 hgrow2 _; have HOZ := Lib.hid hown2; have HGZ2 := Lib.hid hgrow2; clear hown2 hgrow2)
  go_ret
  have PP := P14.out.pieces
  have BB := P14.out.below
  simp only [List.nil_append, List.cons_append] at PP
  obtain ⟨q0, PP⟩ := pieces_cons PP
  obtain ⟨q1, PP⟩ := pieces_cons PP
  obtain ⟨q2, PP⟩ := pieces_cons PP
  obtain ⟨q3, PP⟩ := pieces_cons PP
  obtain ⟨q4, PP⟩ := pieces_cons PP
  obtain ⟨q5, PP⟩ := pieces_cons PP
  obtain ⟨q6, PP⟩ := pieces_cons PP
  obtain ⟨q7, PP⟩ := pieces_cons PP
  obtain ⟨q8, PP⟩ := pieces_cons PP
  obtain ⟨q9, PP⟩ := pieces_cons PP
  obtain ⟨q10, PP⟩ := pieces_cons PP
  obtain ⟨q11, PP⟩ := pieces_cons PP
  obtain ⟨q12, PP⟩ := pieces_cons PP
  exact pieced_of (xs := [Value.func f6 #[] c6, Value.func f7 #[] c7, Value.func f8 #[] c8, Value.func f9 #[] c9, Value.func f0 #[] c0, Value.func f10 #[] c10, Value.func f11 #[] c11, Value.func f12 #[] c12]) (ys := [Value.func f1 #[] c1, Value.func f2 #[] c2, Value.func f3 #[] c3, Value.func f4 #[] c4, Value.func f5 #[] c5]) (zs := [Value.func f13 #[] c13]) (px := [[.name 1], ((L ⟨#[44, 32]⟩).map Stm.Pc.lit), [.dig 2 false 0], ((L ⟨#[45]⟩).map Stm.Pc.lit), [.name 2], ((L ⟨#[45]⟩).map Stm.Pc.lit), [.dig 2 false 1], ((L ⟨#[32]⟩).map Stm.Pc.lit)]) (py := [[.dig 2 false 2], ((L ⟨#[58]⟩).map Stm.Pc.lit), [.dig 2 false 3], ((L ⟨#[58]⟩).map Stm.Pc.lit), [.dig 2 false 4]]) (pz := [((L ⟨#[32, 71, 77, 84]⟩).map Stm.Pc.lit)]) rfl (.cons q6 (.cons q7 (.cons q8 (.cons q9 (.cons q0 (.cons q10 (.cons q11 (.cons q12 (.cons q1 (.cons q2 (.cons q3 (.cons q4 (.cons q5 .nil))))))))))))) BB _ _ HGR.out HOW.out ZP0.out.pieces ZP0.out.below _ HGZ2.out HOZ.out rfl (by decide) (by decide) rfl
set_option maxRecDepth 100000 in
theorem pieces2_any (w : World) : Calls Tryz.prog 145 #[.int .i64 2] w (Pieced w 2) := by
  obtain ⟨i0, hi, hz0, hz1, hz2⟩ := info_parts infoPiece
  have HI := Lib.hid hi; have HZ0 := Lib.hid hz0; have HZ1 := Lib.hid hz1; have HZ2 := Lib.hid hz2
  clear hi hz0 hz1 hz2
  have P0 := Lib.hid (PS.start w)
  go_enter Tryz.func145, Tryz.ntmps145
  go_wp2_with fail
  refine (name2_mk _).mono ?_; rintro e w1 ⟨v0, rfl, hp, hb⟩
  obtain ⟨f0, c0, rfl⟩ := hp.shape
  have P1 := Lib.hid (P0.out.snoc hp hb); clear hp hb P0
  go_wp2_with fail
  refine (digits_mk 2 2 false (by decide) (by decide) _).mono ?_; rintro e w2 ⟨v1, rfl, hp, hb⟩
  obtain ⟨f1, c1, rfl⟩ := hp.shape
  have P2 := Lib.hid (P1.out.snoc hp hb); clear hp hb P1
  go_wp2_with fail
  refine (text_mk ⟨#[58]⟩ _ (by decide)).mono ?_; rintro e w3 ⟨v2, rfl, hp, hb⟩
  obtain ⟨f2, c2, rfl⟩ := hp.shape
  have P3 := Lib.hid (P2.out.snoc hp hb); clear hp hb P2
  go_wp2_with fail
  refine (digits_mk 2 3 false (by decide) (by decide) _).mono ?_; rintro e w4 ⟨v3, rfl, hp, hb⟩
  obtain ⟨f3, c3, rfl⟩ := hp.shape
  have P4 := Lib.hid (P3.out.snoc hp hb); clear hp hb P3
  go_wp2_with fail
  refine (text_mk ⟨#[58]⟩ _ (by decide)).mono ?_; rintro e w5 ⟨v4, rfl, hp, hb⟩
  obtain ⟨f4, c4, rfl⟩ := hp.shape
  have P5 := Lib.hid (P4.out.snoc hp hb); clear hp hb P4
  go_wp2_with fail
  refine (digits_mk 2 4 false (by decide) (by decide) _).mono ?_; rintro e w6 ⟨v5, rfl, hp, hb⟩
  obtain ⟨f5, c5, rfl⟩ := hp.shape
  have P6 := Lib.hid (P5.out.snoc hp hb); clear hp hb P5
  have C0 := Lib.hid (CellsAt.first w6 [Value.func f1 #[] c1, Value.func f2 #[] c2, Value.func f3 #[] c3, Value.func f4 #[] c4, Value.func f5 #[] c5] 186)
  have Pc := Lib.hid (P6.out.alloc (.cells #[Value.func f1 #[] c1, Value.func f2 #[] c2, Value.func f3 #[] c3, Value.func f4 #[] c4, Value.func f5 #[] c5] 186))
  clear P6
  go_wp2_with fail
  have hwc : ∃ wc, Hid (w6.alloc (.cells #[Value.func f1 #[] c1, Value.func f2 #[] c2, Value.func f3 #[] c3, Value.func f4 #[] c4, Value.func f5 #[] c5] 186) = wc) := ⟨_, rfl⟩
  obtain ⟨wc, hwc⟩ := hwc
  rw [hwc.out] at C0 Pc ⊢
  obtain ⟨cb, hcb⟩ := name_it w6.heap.size
  rw [hcb.out] at C0 ⊢
  have P7 := Pc
  clear Pc hwc hcb
  have hcl := C0.out.lt
  go_wp2_with fail
  refine (name0_mk _).mono ?_; rintro e w8 ⟨v6, rfl, hp, hb⟩
  obtain ⟨f6, c6, rfl⟩ := hp.shape
  have P8 := Lib.hid (P7.out.snoc hp hb); have C1 := Lib.hid (C0.out.next hb); clear hp hb P7 C0
  go_wp2_with fail
  refine (text_mk ⟨#[32]⟩ _ (by decide)).mono ?_; rintro e w9 ⟨v7, rfl, hp, hb⟩
  obtain ⟨f7, c7, rfl⟩ := hp.shape
  have P9 := Lib.hid (P8.out.snoc hp hb); have C2 := Lib.hid (C1.out.next hb); clear hp hb P8 C1
  go_wp2_with fail
  refine (text_mk ⟨#[32]⟩ _ (by decide)).mono ?_; rintro e w10 ⟨v8, rfl, hp, hb⟩
  obtain ⟨f8, c8, rfl⟩ := hp.shape
  have P10 := Lib.hid (P9.out.snoc hp hb); have C3 := Lib.hid (C2.out.next hb); clear hp hb P9 C2
  go_wp2_with fail
  refine (day_mk true _).mono ?_; rintro e w11 ⟨v9, rfl, hp, hb⟩
  obtain ⟨f9, c9, rfl⟩ := hp.shape
  have P11 := Lib.hid (P10.out.snoc hp hb); have C4 := Lib.hid (C3.out.next hb); clear hp hb P10 C3
  go_wp2_with fail
  refine (text_mk ⟨#[32]⟩ _ (by decide)).mono ?_; rintro e w12 ⟨v10, rfl, hp, hb⟩
  obtain ⟨f10, c10, rfl⟩ := hp.shape
  have P12 := Lib.hid (P11.out.snoc hp hb); have C5 := Lib.hid (C4.out.next hb); clear hp hb P11 C4
  have HO : Hid ((w12.alloc (.cells #[Value.func f6 #[] c6, Value.func f7 #[] c7, Value.func f0 #[] c0, Value.func f8 #[] c8, Value.func f9 #[] c9, Value.func f10 #[] c10] 186)).ownsRow w12.heap.size 186 1 (.slice (some ⟨w12.heap.size, 0, none⟩) 6 6) 6 [Value.func f6 #[] c6, Value.func f7 #[] c7, Value.func f0 #[] c0, Value.func f8 #[] c8, Value.func f9 #[] c9, Value.func f10 #[] c10]) :=
    World.ownsRow_lit w12 #[Value.func f6 #[] c6, Value.func f7 #[] c7, Value.func f0 #[] c0, Value.func f8 #[] c8, Value.func f9 #[] c9, Value.func f10 #[] c10] 6 (Nat.le_refl _) (by unfold maxLen; omega) rfl
  have CC := Lib.hid (C5.out.next ((Below.refl _ _).alloc (Nat.le_refl _) (.cells #[Value.func f6 #[] c6, Value.func f7 #[] c7, Value.func f0 #[] c0, Value.func f8 #[] c8, Value.func f9 #[] c9, Value.func f10 #[] c10] 186)))
  have ONE : Hid (∀ u ∈ [Value.func f1 #[] c1, Value.func f2 #[] c2, Value.func f3 #[] c3, Value.func f4 #[] c4, Value.func f5 #[] c5], u.oneCell' = true) := by
    have := P12.out.pieces.one
    intro u hu
    simp at hu
    rcases hu with rfl | rfl | rfl | rfl | rfl <;> exact this _ (by simp)
  clear C5
  go_wp2_with (at_builtin; refine wpList_append_own _ rfl _ _ 183 rfl w12.heap.size 186 i0 Value.nilFunc 1 8 Tryz.underlying183 HI.out HZ0.out HZ1.out HZ2.out rfl (by decide) _ _ _ rfl HO.out ⟨cb, 0, none⟩ 5 5 [Value.func f1 #[] c1, Value.func f2 #[] c2, Value.func f3 #[] c3, Value.func f4 #[] c4, Value.func f5 #[] c5] rfl rfl CC.out.news ONE.out (by unfold maxLen; omega) (by omega) (by rw [size_alloc]; omega) ?_; intro va wa hown hgrow _; have HOW := Lib.hid hown; have HGR := Lib.hid hgrow; clear hown hgrow)
  have ZP := Lib.hid (PS.start wa)
  go_wp2_with fail
  refine (text_mk ⟨#[32]⟩ _ (by decide)).mono ?_; rintro e z0 ⟨v11, rfl, hp, hb⟩
  obtain ⟨f11, c11, rfl⟩ := hp.shape
  have ZP0 := Lib.hid (ZP.out.snoc hp hb); have HOW0 := Lib.hid (own_next HOW.out hb); clear hp hb ZP
  go_wp2_with fail
  refine (year_mk 4 (by decide) _).mono ?_; rintro e z1 ⟨v12, rfl, hp, hb⟩
  obtain ⟨f12, c12, rfl⟩ := hp.shape
  have ZP1 := Lib.hid (ZP0.out.snoc hp hb); have HOW1 := Lib.hid (own_next HOW0.out hb); clear hp hb ZP0
  have HB : Hid (CellsAt (z1.alloc (.cells #[Value.func f11 #[] c11, Value.func f12 #[] c12] 186)) z1.heap.size [Value.func f11 #[] c11, Value.func f12 #[] c12]) := CellsAt.first z1 [Value.func f11 #[] c11, Value.func f12 #[] c12] 186
  have ONE2 : Hid (∀ u ∈ [Value.func f11 #[] c11, Value.func f12 #[] c12], Value.oneCell' u = true) := by
    intro u hu
    simp at hu
    rcases hu with rfl | rfl <;> rfl
  have HO2 := Lib.hid (HOW1.out.alloc (.cells #[Value.func f11 #[] c11, Value.func f12 #[] c12] 186))
  have HSZ := Lib.hid ZP1.out.below.size
  have HGZ := Lib.hid HGR.out.size
  go_wp2_with (at_builtin; refine wpList_append_own _ rfl _ _ 183 rfl w12.heap.size 186 i0 Value.nilFunc 1 8 Tryz.underlying183 HI.out HZ0.out HZ1.out HZ2.out rfl (by decide) _ _ _ rfl HO2.out ⟨z1.heap.size, 0, none⟩ 2 2 [Value.func f11 #[] c11, Value.func f12 #[] c12] rfl rfl HB.out.news ONE2.out (by unfold maxLen; omega) (by omega) (by have a := HSZ.out; have b := HGZ.out; rw [size_alloc] at b; rw [size_alloc]; omega) ?_; intro vz wz hown2 hgrow2 _; have HOZ := Lib.hid hown2; have HGZ2 := Lib.hid hgrow2; clear hown2 hgrow2)
  go_ret
  have PP := P12.out.pieces
  have BB := P12.out.below
  simp only [List.nil_append, List.cons_append] at PP
  obtain ⟨q0, PP⟩ := pieces_cons PP
  obtain ⟨q1, PP⟩ := pieces_cons PP
  obtain ⟨q2, PP⟩ := pieces_cons PP
  obtain ⟨q3, PP⟩ := pieces_cons PP
  obtain ⟨q4, PP⟩ := pieces_cons PP
  obtain ⟨q5, PP⟩ := pieces_cons PP
  obtain ⟨q6, PP⟩ := pieces_cons PP
  obtain ⟨q7, PP⟩ := pieces_cons PP
  obtain ⟨q8, PP⟩ := pieces_cons PP
  obtain ⟨q9, PP⟩ := pieces_cons PP
  obtain ⟨q10, PP⟩ := pieces_cons PP
  exact pieced_of (xs := [Value.func f6 #[] c6, Value.func f7 #[] c7, Value.func f0 #[] c0, Value.func f8 #[] c8, Value.func f9 #[] c9, Value.func f10 #[] c10]) (ys := [Value.func f1 #[] c1, Value.func f2 #[] c2, Value.func f3 #[] c3, Value.func f4 #[] c4, Value.func f5 #[] c5]) (zs := [Value.func f11 #[] c11, Value.func f12 #[] c12]) (px := [[.name 0], ((L ⟨#[32]⟩).map Stm.Pc.lit), [.name 2], ((L ⟨#[32]⟩).map Stm.Pc.lit), [.dig 2 true 0], ((L ⟨#[32]⟩).map Stm.Pc.lit)]) (py := [[.dig 2 false 2], ((L ⟨#[58]⟩).map Stm.Pc.lit), [.dig 2 false 3], ((L ⟨#[58]⟩).map Stm.Pc.lit), [.dig 2 false 4]]) (pz := [((L ⟨#[32]⟩).map Stm.Pc.lit), [.dig 4 false 1]]) rfl (.cons q6 (.cons q7 (.cons q0 (.cons q8 (.cons q9 (.cons q10 (.cons q1 (.cons q2 (.cons q3 (.cons q4 (.cons q5 .nil))))))))))) BB _ _ HGR.out HOW.out ZP1.out.pieces ZP1.out.below _ HGZ2.out HOZ.out rfl (by decide) (by decide) rfl
end Go.Proofs.YtkenianfpfamcaaGreatDoor
namespace Go.Proofs.YtkenianfpfamcaaGreatDoor
open Go Go.RowKit
set_option maxHeartbeats 4000000

def momV (r : Stm.PR) : Value := .tuple #[.int .i64 r.m, .int .i64 r.e, .int .i64 r.at_]
theorem nearY_go (y f : Int) : f + ((y - f).tmod 100 + 100) % 100 = Stm.nearY y f := by
  have := (t100 (y - f)).1
  unfold Stm.nearY
  omega
theorem days_q {y mo d N E : Int} (h1 : Hid (Cal.daysN y mo d = N)) (h2 : Hid (Cal.daysE y mo d = E)) (w : World) (k : Nat) :
    Calls Tryz.prog 191 #[.int .i64 y, .int .i64 mo, .int .i64 d] (w.drewN k) fun e w' => e = .returned (.tuple #[.int .i64 N, .int .i64 E]) ∧ ∃ m, w' = w.drewN m := by
  rw [← h1.out, ← h2.out]
  exact quiet_left (days_any y mo d _)
theorem weekday_q {n W : Int} (h : Hid (wday n = W)) (h1 : -1000000 ≤ n) (h2 : n ≤ 10000000) (w : World) (k : Nat) :
    Calls Tryz.prog 192 #[.int .i64 n] (w.drewN k) fun e w' => e = .returned (.int .i64 W) ∧ ∃ m, w' = w.drewN m := by
  rw [← h.out]
  exact quiet_left (weekday_any n _ h1 h2)

set_option maxRecDepth 100000 in
theorem moment_any (b : Nat) (s : ByteArray) (st : Stm.St) (f : Nat) (now : Int) (w : World) (hn : isMom now = true) (h : CellsAt w b (rdCells s st)) (hr : Stm.Range f st) (hs : st.at_ ≤ 1099511627) :
    Calls Tryz.prog 146 #[.pointer (some ⟨b, 0, none⟩), .int .i64 f, .int .i64 now] w fun e w' => e = .returned (momV (Stm.momentOf st f (nowY now))) ∧ Below b w w' := by
  obtain ⟨P, hP0⟩ := name_it (momV (Stm.momentOf st f (nowY now)))
  rw [hP0.out]
  obtain ⟨at_, wd, mo, dy, yr, hh, mi, ss, dyAt, yrAt, hhAt, miAt, ssAt⟩ := st
  obtain ⟨wd0, wd1, mo0, mo1, dy0, dy1, yr0, yr1, yrL, hh0, hh1, mi0, mi1, ss0, ss1, pA, pB, pC⟩ := hr
  dsimp only at wd0 wd1 mo0 mo1 dy0 dy1 yr0 yr1 yrL hh0 hh1 mi0 mi1 ss0 ss1 pA pB pC hs
  subst pA pB
  have hcl : (hhAt : Int) ≤ 1099511627 := by omega
  have A : Hid (CellsAt w b [.string s, .int .i64 at_, .int .i64 yr, .int .i64 mo, .int .i64 dy, .int .i64 hh, .int .i64 mi, .int .i64 ss, .int .i64 wd, .int .i64 (dyAt : Nat), .int .i64 (yrAt : Nat), .int .i64 (hhAt : Nat)]) := h
  have hbl : b ≤ w.heap.size := Nat.le_of_lt h.lt
  have hP2 : Hid (momV (momY ⟨at_, wd, mo, dy, yr, hh, mi, ss, dyAt, yrAt, hhAt, hhAt + 3, hhAt + 6⟩ f (if f = 1 then Stm.nearY yr (nowY now - 49) else yr)) = P) := by rw [← hP0.out, momentOf_eq]; rfl
  have HYL := Lib.hid yrL
  clear h hP0 yrL
  by_cases hf1 : f = 1
  · have hP := hP2
    rw [if_pos hf1] at hP
    have HB1 : ((f : Int) == 1) = true := by simp [hf1]
    have hyl := HYL.out hf1
    obtain ⟨ny, nmo, nd, nh, nmi, ns, nwd, HD, -, HSE, ⟨ny0, ny1⟩, -, -, -, -, -, -⟩ := date_of hn
    have hyn : nowY now = ny := by
      have := HD.out
      unfold splitD dateV at this
      rw [if_pos hn] at this
      simp at this
      exact this.1
    rw [hyn] at hP
    obtain ⟨u1, u2, u3⟩ := Stm.nearY_bd yr (ny - 49)
    have hgo := nearY_go yr (ny - 49)
    obtain ⟨t1, t2, t3⟩ := t100 (yr - (ny - 49))
    obtain ⟨tm, htm⟩ := name_it ((yr - (ny - 49)).tmod 100)
    have htm' : (yr - (ny - 49)).tmod 100 = tm := htm.out
    rw [htm'] at hgo t2 t3
    have hgo2 : ny - 49 + tm % 100 = ny - 49 + (tm + 100) % 100 := by omega
    rw [hgo] at hgo2
    clear hgo
    have hgo := hgo2
    clear hgo2
    obtain ⟨Y, hY⟩ := name_it (Stm.nearY yr (ny - 49))
    rw [hY.out] at hP u1 u2 hgo
    have hY1 : -48 ≤ Y := by omega
    have hY2 : Y ≤ 10049 := by omega
    clear hP2 hf1 HYL hyn t1 u1 u2 u3 hY htm
    go_enter Tryz.func146, Tryz.ntmps146
    go_wp2_with fail
    refine (split_any _ _).mono ?_; rintro e w1 ⟨rfl, hb1⟩
    rw [HD.out, HSE.out]
    unfold dateV
    have hA0 := Lib.hid (A.out.next hb1)
    have hbd : b < w1.heap.size := hA0.out.lt
    have k0 := hA0.out.cell 0 (by simp)
    have k1 := hA0.out.cell 1 (by simp)
    have k2 := hA0.out.cell 2 (by simp)
    have k3 := hA0.out.cell 3 (by simp)
    have k4 := hA0.out.cell 4 (by simp)
    have k5 := hA0.out.cell 5 (by simp)
    have k6 := hA0.out.cell 6 (by simp)
    have k7 := hA0.out.cell 7 (by simp)
    have k8 := hA0.out.cell 8 (by simp)
    have k9 := hA0.out.cell 9 (by simp)
    have k10 := hA0.out.cell 10 (by simp)
    have k11 := hA0.out.cell 11 (by simp)
    have g2 := hA0.out.free 2
    simp only [List.getElem_cons_zero, List.getElem_cons_succ] at k0 k1 k2 k3 k4 k5 k6 k7 k8 k9 k10 k11
    have A1 : Hid (CellsAt ((w1.setCell ⟨b, 2, none⟩ (.int .i64 Y)).alloc (.cells #[.int .i64 ny, .int .i64 nmo, .int .i64 nd, .int .i64 nh, .int .i64 nmi, .int .i64 ns, .int .i64 nwd] 171)) b [.string s, .int .i64 at_, .int .i64 Y, .int .i64 mo, .int .i64 dy, .int .i64 hh, .int .i64 mi, .int .i64 ss, .int .i64 wd, .int .i64 (dyAt : Nat), .int .i64 (yrAt : Nat), .int .i64 (hhAt : Nat)]) := (hA0.out.set 2 (by simp) (.int .i64 Y)).next ((Below.refl _ _).alloc (Nat.le_refl _) _)
    have B1 := ((hb1.mono hbl).setCell (p := ⟨b, 2, none⟩) (Nat.le_refl _) (.int .i64 Y)).alloc (by rw [World.size_setCell]; omega) (.cells #[.int .i64 ny, .int .i64 nmo, .int .i64 nd, .int .i64 nh, .int .i64 nmi, .int .i64 ns, .int .i64 nwd] 171)
    clear hA0 A
    by_cases h1 : Y < 1
    · have hf : Hid (P = .tuple #[.int .i64 0, .int .i64 41, .int .i64 (yrAt : Nat)]) := by rw [← hP.out]; unfold Hid momY; rw [if_pos (Or.inl h1)]; rfl
      clear hP
      go_wp2_with fail
      all_goals (try (exfalso; omega))
      clear hgo
      generalize (w1.setCell _ _).alloc _ = wg at A1 B1 ⊢
      clear k0 k1 k2 k3 k4 k5 k6 k7 k8 k9 k10 k11 g2
      have c0 := A1.out.cell 0 (by simp)
      have c1 := A1.out.cell 1 (by simp)
      have c2 := A1.out.cell 2 (by simp)
      have c3 := A1.out.cell 3 (by simp)
      have c4 := A1.out.cell 4 (by simp)
      have c5 := A1.out.cell 5 (by simp)
      have c6 := A1.out.cell 6 (by simp)
      have c7 := A1.out.cell 7 (by simp)
      have c8 := A1.out.cell 8 (by simp)
      have c9 := A1.out.cell 9 (by simp)
      have c10 := A1.out.cell 10 (by simp)
      have c11 := A1.out.cell 11 (by simp)
      simp only [List.getElem_cons_zero, List.getElem_cons_succ] at c0 c1 c2 c3 c4 c5 c6 c7 c8 c9 c10 c11
      go_quiet (fail)
      go_wp2_with fail
      all_goals (try (exfalso; omega))
      go_ret3
      exact ⟨by rw [hf.out]; rfl, below_drewN B1 _⟩
    · by_cases h2 : 9999 < Y
      · have hf : Hid (P = .tuple #[.int .i64 0, .int .i64 41, .int .i64 (yrAt : Nat)]) := by rw [← hP.out]; unfold Hid momY; rw [if_pos (Or.inr h2)]; rfl
        clear hP
        go_wp2_with fail
        all_goals (try (exfalso; omega))
        clear hgo
        generalize (w1.setCell _ _).alloc _ = wg at A1 B1 ⊢
        clear k0 k1 k2 k3 k4 k5 k6 k7 k8 k9 k10 k11 g2
        have c0 := A1.out.cell 0 (by simp)
        have c1 := A1.out.cell 1 (by simp)
        have c2 := A1.out.cell 2 (by simp)
        have c3 := A1.out.cell 3 (by simp)
        have c4 := A1.out.cell 4 (by simp)
        have c5 := A1.out.cell 5 (by simp)
        have c6 := A1.out.cell 6 (by simp)
        have c7 := A1.out.cell 7 (by simp)
        have c8 := A1.out.cell 8 (by simp)
        have c9 := A1.out.cell 9 (by simp)
        have c10 := A1.out.cell 10 (by simp)
        have c11 := A1.out.cell 11 (by simp)
        simp only [List.getElem_cons_zero, List.getElem_cons_succ] at c0 c1 c2 c3 c4 c5 c6 c7 c8 c9 c10 c11
        go_quiet (fail)
        go_wp2_with fail
        all_goals (try (exfalso; omega))
        go_ret3
        exact ⟨by rw [hf.out]; rfl, below_drewN B1 _⟩
      · have hy0 : (Y == 0) = false := by rw [beq_eq_false_iff_ne]; omega
        have hP2 : Hid (momV (if Cal.daysOk Y mo dy = false then ⟨0, 0, 41, (dyAt : Nat)⟩
            else if 23 < hh then ⟨0, 0, 42, (hhAt : Nat)⟩ else if 59 < mi then ⟨0, 0, 42, ((hhAt + 3 : Nat) : Int)⟩ else if 60 < ss then ⟨0, 0, 42, ((hhAt + 6 : Nat) : Int)⟩
            else if wd ≠ (Cal.daysOf Y mo dy + 3) % 7 then ⟨0, 0, 43, 0⟩
            else if 253402300799 < Cal.daysOf Y mo dy * 86400 + hh * 3600 + mi * 60 + ss then ⟨0, 0, 40, 0⟩ else ⟨Cal.daysOf Y mo dy * 86400 + hh * 3600 + mi * 60 + ss, (f : Nat), 0, 0⟩) = P) := by
          rw [← hP.out]; unfold Hid momY; rw [if_neg (show ¬ (Y < 1 ∨ 9999 < Y) by omega)]
        clear hP
        by_cases h3 : Cal.daysOk Y mo dy = true
        · obtain ⟨N, hN⟩ := name_it (Cal.daysOf Y mo dy)
          obtain ⟨n1, n2⟩ := daysOf_bd h3
          rw [hN.out] at n1 n2
          have HN : Hid (Cal.daysN Y mo dy = N) := by unfold Cal.daysN; rw [if_pos h3]; exact hN
          have HE : Hid (Cal.daysE Y mo dy = 0) := by unfold Cal.daysE; rw [if_pos h3]; rfl
          have hP3 : Hid (momV (if 23 < hh then ⟨0, 0, 42, (hhAt : Nat)⟩ else if 59 < mi then ⟨0, 0, 42, ((hhAt + 3 : Nat) : Int)⟩ else if 60 < ss then ⟨0, 0, 42, ((hhAt + 6 : Nat) : Int)⟩
              else if wd ≠ (N + 3) % 7 then ⟨0, 0, 43, 0⟩
              else if 253402300799 < N * 86400 + hh * 3600 + mi * 60 + ss then ⟨0, 0, 40, 0⟩ else ⟨N * 86400 + hh * 3600 + mi * 60 + ss, (f : Nat), 0, 0⟩) = P) := by
            rw [← hP2.out, if_neg (show ¬ Cal.daysOk Y mo dy = false by rw [h3]; decide), hN.out]; rfl
          clear hP2 hN h3
          go_wp2_with fail
          all_goals (try (exfalso; omega))
          clear hgo
          generalize (w1.setCell _ _).alloc _ = wg at A1 B1 ⊢
          clear k0 k1 k2 k3 k4 k5 k6 k7 k8 k9 k10 k11 g2
          have c0 := A1.out.cell 0 (by simp)
          have c1 := A1.out.cell 1 (by simp)
          have c2 := A1.out.cell 2 (by simp)
          have c3 := A1.out.cell 3 (by simp)
          have c4 := A1.out.cell 4 (by simp)
          have c5 := A1.out.cell 5 (by simp)
          have c6 := A1.out.cell 6 (by simp)
          have c7 := A1.out.cell 7 (by simp)
          have c8 := A1.out.cell 8 (by simp)
          have c9 := A1.out.cell 9 (by simp)
          have c10 := A1.out.cell 10 (by simp)
          have c11 := A1.out.cell 11 (by simp)
          simp only [List.getElem_cons_zero, List.getElem_cons_succ] at c0 c1 c2 c3 c4 c5 c6 c7 c8 c9 c10 c11
          go_quiet ((go_at_call 191; first | (with_reducible exact days_q HN HE _ _)))
          have A2 := Lib.hid (A1.out.drewN nq)
          have B2 := below_drewN B1 nq
          generalize World.drewN _ nq = g2 at A2 B2 ⊢
          clear A1 B1 c0 c1 c2 c3 c4 c5 c6 c7 c8 c9 c10 c11
          have c0 := A2.out.cell 0 (by simp)
          have c1 := A2.out.cell 1 (by simp)
          have c2 := A2.out.cell 2 (by simp)
          have c3 := A2.out.cell 3 (by simp)
          have c4 := A2.out.cell 4 (by simp)
          have c5 := A2.out.cell 5 (by simp)
          have c6 := A2.out.cell 6 (by simp)
          have c7 := A2.out.cell 7 (by simp)
          have c8 := A2.out.cell 8 (by simp)
          have c9 := A2.out.cell 9 (by simp)
          have c10 := A2.out.cell 10 (by simp)
          have c11 := A2.out.cell 11 (by simp)
          simp only [List.getElem_cons_zero, List.getElem_cons_succ] at c0 c1 c2 c3 c4 c5 c6 c7 c8 c9 c10 c11
          by_cases h4 : 23 < hh
          · have hf : Hid (P = .tuple #[.int .i64 0, .int .i64 42, .int .i64 (hhAt : Nat)]) := by rw [← hP3.out, if_pos h4]; rfl
            clear hP3
            go_wp2_with fail
            all_goals (try (exfalso; omega))
            go_quiet (fail)
            go_wp2_with fail
            all_goals (try (exfalso; omega))
            go_ret3
            exact ⟨by rw [hf.out]; rfl, below_drewN B2 _⟩
          · have hP3b : Hid (momV (if 59 < mi then ⟨0, 0, 42, ((hhAt + 3 : Nat) : Int)⟩ else if 60 < ss then ⟨0, 0, 42, ((hhAt + 6 : Nat) : Int)⟩ else if wd ≠ (N + 3) % 7 then ⟨0, 0, 43, 0⟩ else if 253402300799 < N * 86400 + hh * 3600 + mi * 60 + ss then ⟨0, 0, 40, 0⟩ else ⟨N * 86400 + hh * 3600 + mi * 60 + ss, (f : Nat), 0, 0⟩) = P) := by rw [← hP3.out, if_neg h4]; all_goals rfl
            clear hP3
            by_cases h5 : 59 < mi
            · have hf : Hid (P = .tuple #[.int .i64 0, .int .i64 42, .int .i64 ((hhAt + 3 : Nat) : Int)]) := by rw [← hP3b.out, if_pos h5]; rfl
              clear hP3b
              go_wp2_with fail
              all_goals (try (exfalso; omega))
              go_quiet (fail)
              go_wp2_with fail
              all_goals (try (exfalso; omega))
              go_ret3
              exact ⟨by rw [hf.out]; rfl, below_drewN B2 _⟩
            · have hP3bb : Hid (momV (if 60 < ss then ⟨0, 0, 42, ((hhAt + 6 : Nat) : Int)⟩ else if wd ≠ (N + 3) % 7 then ⟨0, 0, 43, 0⟩ else if 253402300799 < N * 86400 + hh * 3600 + mi * 60 + ss then ⟨0, 0, 40, 0⟩ else ⟨N * 86400 + hh * 3600 + mi * 60 + ss, (f : Nat), 0, 0⟩) = P) := by rw [← hP3b.out, if_neg h5]; all_goals rfl
              clear hP3b
              by_cases h6 : 60 < ss
              · have hf : Hid (P = .tuple #[.int .i64 0, .int .i64 42, .int .i64 ((hhAt + 6 : Nat) : Int)]) := by rw [← hP3bb.out, if_pos h6]; rfl
                clear hP3bb
                go_wp2_with fail
                all_goals (try (exfalso; omega))
                go_quiet (fail)
                go_wp2_with fail
                all_goals (try (exfalso; omega))
                go_ret3
                exact ⟨by rw [hf.out]; rfl, below_drewN B2 _⟩
              · have hP3bbb : Hid (momV (if wd ≠ (N + 3) % 7 then ⟨0, 0, 43, 0⟩ else if 253402300799 < N * 86400 + hh * 3600 + mi * 60 + ss then ⟨0, 0, 40, 0⟩ else ⟨N * 86400 + hh * 3600 + mi * 60 + ss, (f : Nat), 0, 0⟩) = P) := by rw [← hP3bb.out, if_neg h6]; all_goals rfl
                clear hP3bb
                obtain ⟨W, HW⟩ := name_it (wday N)
                have hWe : Hid ((N + 3) % 7 = W) := HW
                rw [hWe.out] at hP3bbb
                clear hWe
                by_cases h7 : wd = W
                · have hP3bbbc : Hid (momV (if 253402300799 < N * 86400 + hh * 3600 + mi * 60 + ss then ⟨0, 0, 40, 0⟩ else ⟨N * 86400 + hh * 3600 + mi * 60 + ss, (f : Nat), 0, 0⟩) = P) := by rw [← hP3bbb.out, if_neg (show ¬ wd ≠ W from fun h => h h7)]; all_goals rfl
                  clear hP3bbb
                  have q1 : (wd == W) = true := by simp [h7]
                  have q2 : (wd != W) = false := by simp [h7]
                  clear h7
                  go_wp2_with fail
                  all_goals (try (exfalso; omega))
                  go_quiet ((go_at_call 192; first | (with_reducible exact weekday_q HW (by omega) (by omega) _ _)))
                  have A3 := Lib.hid (A2.out.drewN nq)
                  have B3 := below_drewN B2 nq
                  generalize World.drewN _ nq = g3 at A3 B3 ⊢
                  clear A2 B2 c0 c1 c2 c3 c4 c5 c6 c7 c8 c9 c10 c11
                  have c0 := A3.out.cell 0 (by simp)
                  have c1 := A3.out.cell 1 (by simp)
                  have c2 := A3.out.cell 2 (by simp)
                  have c3 := A3.out.cell 3 (by simp)
                  have c4 := A3.out.cell 4 (by simp)
                  have c5 := A3.out.cell 5 (by simp)
                  have c6 := A3.out.cell 6 (by simp)
                  have c7 := A3.out.cell 7 (by simp)
                  have c8 := A3.out.cell 8 (by simp)
                  have c9 := A3.out.cell 9 (by simp)
                  have c10 := A3.out.cell 10 (by simp)
                  have c11 := A3.out.cell 11 (by simp)
                  simp only [List.getElem_cons_zero, List.getElem_cons_succ] at c0 c1 c2 c3 c4 c5 c6 c7 c8 c9 c10 c11
                  go_wp2_with fail
                  all_goals (try (exfalso; omega))
                  go_quiet (fail)
                  have A4 := Lib.hid (A3.out.drewN nq)
                  have B4 := below_drewN B3 nq
                  generalize World.drewN _ nq = g4 at A4 B4 ⊢
                  clear A3 B3 c0 c1 c2 c3 c4 c5 c6 c7 c8 c9 c10 c11
                  have c0 := A4.out.cell 0 (by simp)
                  have c1 := A4.out.cell 1 (by simp)
                  have c2 := A4.out.cell 2 (by simp)
                  have c3 := A4.out.cell 3 (by simp)
                  have c4 := A4.out.cell 4 (by simp)
                  have c5 := A4.out.cell 5 (by simp)
                  have c6 := A4.out.cell 6 (by simp)
                  have c7 := A4.out.cell 7 (by simp)
                  have c8 := A4.out.cell 8 (by simp)
                  have c9 := A4.out.cell 9 (by simp)
                  have c10 := A4.out.cell 10 (by simp)
                  have c11 := A4.out.cell 11 (by simp)
                  simp only [List.getElem_cons_zero, List.getElem_cons_succ] at c0 c1 c2 c3 c4 c5 c6 c7 c8 c9 c10 c11
                  have hM : Hid (isMom (N * 86400 + hh * 3600 + mi * 60 + ss) = decide (¬ 253402300799 < N * 86400 + hh * 3600 + mi * 60 + ss)) := by unfold Hid isMom; rw [decide_eq_decide]; omega
                  have hmo := fun wx => ismoment_any (N * 86400 + hh * 3600 + mi * 60 + ss) wx
                  have HMO := Lib.hid hmo
                  clear hmo
                  go_wp2_with fail
                  all_goals (try (exfalso; omega))
                  refine (HMO.out _).mono ?_; rintro e wm ⟨rfl, rfl⟩
                  by_cases h8 : 253402300799 < N * 86400 + hh * 3600 + mi * 60 + ss
                  · have hf : Hid (P = .tuple #[.int .i64 0, .int .i64 40, .int .i64 (0)]) := by rw [← hP3bbbc.out, if_pos h8]; rfl
                    clear hP3bbbc
                    rw [show decide (-62135596800 ≤ N * 86400 + hh * 3600 + mi * 60 + ss ∧ N * 86400 + hh * 3600 + mi * 60 + ss ≤ 253402300799) = false from decide_eq_false (by omega)]
                    go_wp2_with fail
                    all_goals (try (exfalso; omega))
                    go_ret3
                    exact ⟨by rw [hf.out]; rfl, B4⟩
                  · have hf : Hid (P = .tuple #[.int .i64 (N * 86400 + hh * 3600 + mi * 60 + ss), .int .i64 0, .int .i64 0]) := by rw [← hP3bbbc.out, if_neg h8]; rfl
                    clear hP3bbbc
                    rw [show decide (-62135596800 ≤ N * 86400 + hh * 3600 + mi * 60 + ss ∧ N * 86400 + hh * 3600 + mi * 60 + ss ≤ 253402300799) = true from decide_eq_true (by omega)]
                    go_wp2_with fail
                    all_goals (try (exfalso; omega))
                    go_ret3
                    exact ⟨by rw [hf.out]; rfl, B4⟩
                · have hf : Hid (P = .tuple #[.int .i64 0, .int .i64 43, .int .i64 (0)]) := by rw [← hP3bbb.out, if_pos h7]; rfl
                  clear hP3bbb
                  have q1 : (wd == W) = false := by simp [h7]
                  have q2 : (wd != W) = true := by simp [h7]
                  go_wp2_with fail
                  all_goals (try (exfalso; omega))
                  go_quiet ((go_at_call 192; first | (with_reducible exact weekday_q HW (by omega) (by omega) _ _)))
                  go_wp2_with fail
                  all_goals (try (exfalso; omega))
                  go_ret3
                  exact ⟨by rw [hf.out]; rfl, below_drewN B2 _⟩
        · have h3' : Cal.daysOk Y mo dy = false := by simpa using h3
          have HN : Hid (Cal.daysN Y mo dy = 0) := by unfold Cal.daysN; rw [if_neg h3]; rfl
          have HE : Hid (Cal.daysE Y mo dy = 41) := by unfold Cal.daysE; rw [if_neg h3]; rfl
          have hf : Hid (P = .tuple #[.int .i64 0, .int .i64 41, .int .i64 (dyAt : Nat)]) := by rw [← hP2.out, if_pos h3']; rfl
          clear hP2 h3 h3'
          go_wp2_with fail
          all_goals (try (exfalso; omega))
          clear hgo
          generalize (w1.setCell _ _).alloc _ = wg at A1 B1 ⊢
          clear k0 k1 k2 k3 k4 k5 k6 k7 k8 k9 k10 k11 g2
          have c0 := A1.out.cell 0 (by simp)
          have c1 := A1.out.cell 1 (by simp)
          have c2 := A1.out.cell 2 (by simp)
          have c3 := A1.out.cell 3 (by simp)
          have c4 := A1.out.cell 4 (by simp)
          have c5 := A1.out.cell 5 (by simp)
          have c6 := A1.out.cell 6 (by simp)
          have c7 := A1.out.cell 7 (by simp)
          have c8 := A1.out.cell 8 (by simp)
          have c9 := A1.out.cell 9 (by simp)
          have c10 := A1.out.cell 10 (by simp)
          have c11 := A1.out.cell 11 (by simp)
          simp only [List.getElem_cons_zero, List.getElem_cons_succ] at c0 c1 c2 c3 c4 c5 c6 c7 c8 c9 c10 c11
          go_quiet ((go_at_call 191; first | (with_reducible exact days_q HN HE _ _)))
          have A2 := Lib.hid (A1.out.drewN nq)
          have B2 := below_drewN B1 nq
          generalize World.drewN _ nq = g2 at A2 B2 ⊢
          clear A1 B1 c0 c1 c2 c3 c4 c5 c6 c7 c8 c9 c10 c11
          have c0 := A2.out.cell 0 (by simp)
          have c1 := A2.out.cell 1 (by simp)
          have c2 := A2.out.cell 2 (by simp)
          have c3 := A2.out.cell 3 (by simp)
          have c4 := A2.out.cell 4 (by simp)
          have c5 := A2.out.cell 5 (by simp)
          have c6 := A2.out.cell 6 (by simp)
          have c7 := A2.out.cell 7 (by simp)
          have c8 := A2.out.cell 8 (by simp)
          have c9 := A2.out.cell 9 (by simp)
          have c10 := A2.out.cell 10 (by simp)
          have c11 := A2.out.cell 11 (by simp)
          simp only [List.getElem_cons_zero, List.getElem_cons_succ] at c0 c1 c2 c3 c4 c5 c6 c7 c8 c9 c10 c11
          go_wp2_with fail
          all_goals (try (exfalso; omega))
          go_quiet (fail)
          go_wp2_with fail
          all_goals (try (exfalso; omega))
          go_ret3
          exact ⟨by rw [hf.out]; rfl, below_drewN B2 _⟩
  · have hP := hP2
    rw [if_neg hf1] at hP
    have HB1 : ((f : Int) == 1) = false := by simp; omega
    clear hP2 HYL hf1
    have A1 := A
    have B1 := Below.refl b w
    clear A
    go_enter Tryz.func146, Tryz.ntmps146
    by_cases h1 : yr < 1
    · have hf : Hid (P = .tuple #[.int .i64 0, .int .i64 41, .int .i64 (yrAt : Nat)]) := by rw [← hP.out]; unfold Hid momY; rw [if_pos (Or.inl h1)]; rfl
      clear hP
      obtain rfl : yr = 0 := by omega
      have c0 := A1.out.cell 0 (by simp)
      have c1 := A1.out.cell 1 (by simp)
      have c2 := A1.out.cell 2 (by simp)
      have c3 := A1.out.cell 3 (by simp)
      have c4 := A1.out.cell 4 (by simp)
      have c5 := A1.out.cell 5 (by simp)
      have c6 := A1.out.cell 6 (by simp)
      have c7 := A1.out.cell 7 (by simp)
      have c8 := A1.out.cell 8 (by simp)
      have c9 := A1.out.cell 9 (by simp)
      have c10 := A1.out.cell 10 (by simp)
      have c11 := A1.out.cell 11 (by simp)
      simp only [List.getElem_cons_zero, List.getElem_cons_succ] at c0 c1 c2 c3 c4 c5 c6 c7 c8 c9 c10 c11
      go_wp2_with fail
      all_goals (try (exfalso; omega))
      go_quiet (fail)
      go_wp2_with fail
      all_goals (try (exfalso; omega))
      go_ret3
      exact ⟨by rw [hf.out]; rfl, below_drewN B1 _⟩
    · by_cases h2 : 9999 < yr
      · exact absurd h2 (by omega)
      · have hy0 : (yr == 0) = false := by rw [beq_eq_false_iff_ne]; omega
        have hP2 : Hid (momV (if Cal.daysOk yr mo dy = false then ⟨0, 0, 41, (dyAt : Nat)⟩
            else if 23 < hh then ⟨0, 0, 42, (hhAt : Nat)⟩ else if 59 < mi then ⟨0, 0, 42, ((hhAt + 3 : Nat) : Int)⟩ else if 60 < ss then ⟨0, 0, 42, ((hhAt + 6 : Nat) : Int)⟩
            else if wd ≠ (Cal.daysOf yr mo dy + 3) % 7 then ⟨0, 0, 43, 0⟩
            else if 253402300799 < Cal.daysOf yr mo dy * 86400 + hh * 3600 + mi * 60 + ss then ⟨0, 0, 40, 0⟩ else ⟨Cal.daysOf yr mo dy * 86400 + hh * 3600 + mi * 60 + ss, (f : Nat), 0, 0⟩) = P) := by
          rw [← hP.out]; unfold Hid momY; rw [if_neg (show ¬ (yr < 1 ∨ 9999 < yr) by omega)]
        clear hP
        by_cases h3 : Cal.daysOk yr mo dy = true
        · obtain ⟨N, hN⟩ := name_it (Cal.daysOf yr mo dy)
          obtain ⟨n1, n2⟩ := daysOf_bd h3
          rw [hN.out] at n1 n2
          have HN : Hid (Cal.daysN yr mo dy = N) := by unfold Cal.daysN; rw [if_pos h3]; exact hN
          have HE : Hid (Cal.daysE yr mo dy = 0) := by unfold Cal.daysE; rw [if_pos h3]; rfl
          have hP3 : Hid (momV (if 23 < hh then ⟨0, 0, 42, (hhAt : Nat)⟩ else if 59 < mi then ⟨0, 0, 42, ((hhAt + 3 : Nat) : Int)⟩ else if 60 < ss then ⟨0, 0, 42, ((hhAt + 6 : Nat) : Int)⟩
              else if wd ≠ (N + 3) % 7 then ⟨0, 0, 43, 0⟩
              else if 253402300799 < N * 86400 + hh * 3600 + mi * 60 + ss then ⟨0, 0, 40, 0⟩ else ⟨N * 86400 + hh * 3600 + mi * 60 + ss, (f : Nat), 0, 0⟩) = P) := by
            rw [← hP2.out, if_neg (show ¬ Cal.daysOk yr mo dy = false by rw [h3]; decide), hN.out]; rfl
          clear hP2 hN h3
          have c0 := A1.out.cell 0 (by simp)
          have c1 := A1.out.cell 1 (by simp)
          have c2 := A1.out.cell 2 (by simp)
          have c3 := A1.out.cell 3 (by simp)
          have c4 := A1.out.cell 4 (by simp)
          have c5 := A1.out.cell 5 (by simp)
          have c6 := A1.out.cell 6 (by simp)
          have c7 := A1.out.cell 7 (by simp)
          have c8 := A1.out.cell 8 (by simp)
          have c9 := A1.out.cell 9 (by simp)
          have c10 := A1.out.cell 10 (by simp)
          have c11 := A1.out.cell 11 (by simp)
          simp only [List.getElem_cons_zero, List.getElem_cons_succ] at c0 c1 c2 c3 c4 c5 c6 c7 c8 c9 c10 c11
          go_wp2_with fail
          all_goals (try (exfalso; omega))
          go_quiet ((go_at_call 191; first | (with_reducible exact days_q HN HE _ _)))
          have A2 := Lib.hid (A1.out.drewN nq)
          have B2 := below_drewN B1 nq
          generalize World.drewN _ nq = g2 at A2 B2 ⊢
          clear A1 B1 c0 c1 c2 c3 c4 c5 c6 c7 c8 c9 c10 c11
          have c0 := A2.out.cell 0 (by simp)
          have c1 := A2.out.cell 1 (by simp)
          have c2 := A2.out.cell 2 (by simp)
          have c3 := A2.out.cell 3 (by simp)
          have c4 := A2.out.cell 4 (by simp)
          have c5 := A2.out.cell 5 (by simp)
          have c6 := A2.out.cell 6 (by simp)
          have c7 := A2.out.cell 7 (by simp)
          have c8 := A2.out.cell 8 (by simp)
          have c9 := A2.out.cell 9 (by simp)
          have c10 := A2.out.cell 10 (by simp)
          have c11 := A2.out.cell 11 (by simp)
          simp only [List.getElem_cons_zero, List.getElem_cons_succ] at c0 c1 c2 c3 c4 c5 c6 c7 c8 c9 c10 c11
          by_cases h4 : 23 < hh
          · have hf : Hid (P = .tuple #[.int .i64 0, .int .i64 42, .int .i64 (hhAt : Nat)]) := by rw [← hP3.out, if_pos h4]; rfl
            clear hP3
            go_wp2_with fail
            all_goals (try (exfalso; omega))
            go_quiet (fail)
            go_wp2_with fail
            all_goals (try (exfalso; omega))
            go_ret3
            exact ⟨by rw [hf.out]; rfl, below_drewN B2 _⟩
          · have hP3b : Hid (momV (if 59 < mi then ⟨0, 0, 42, ((hhAt + 3 : Nat) : Int)⟩ else if 60 < ss then ⟨0, 0, 42, ((hhAt + 6 : Nat) : Int)⟩ else if wd ≠ (N + 3) % 7 then ⟨0, 0, 43, 0⟩ else if 253402300799 < N * 86400 + hh * 3600 + mi * 60 + ss then ⟨0, 0, 40, 0⟩ else ⟨N * 86400 + hh * 3600 + mi * 60 + ss, (f : Nat), 0, 0⟩) = P) := by rw [← hP3.out, if_neg h4]; all_goals rfl
            clear hP3
            by_cases h5 : 59 < mi
            · have hf : Hid (P = .tuple #[.int .i64 0, .int .i64 42, .int .i64 ((hhAt + 3 : Nat) : Int)]) := by rw [← hP3b.out, if_pos h5]; rfl
              clear hP3b
              go_wp2_with fail
              all_goals (try (exfalso; omega))
              go_quiet (fail)
              go_wp2_with fail
              all_goals (try (exfalso; omega))
              go_ret3
              exact ⟨by rw [hf.out]; rfl, below_drewN B2 _⟩
            · have hP3bb : Hid (momV (if 60 < ss then ⟨0, 0, 42, ((hhAt + 6 : Nat) : Int)⟩ else if wd ≠ (N + 3) % 7 then ⟨0, 0, 43, 0⟩ else if 253402300799 < N * 86400 + hh * 3600 + mi * 60 + ss then ⟨0, 0, 40, 0⟩ else ⟨N * 86400 + hh * 3600 + mi * 60 + ss, (f : Nat), 0, 0⟩) = P) := by rw [← hP3b.out, if_neg h5]; all_goals rfl
              clear hP3b
              by_cases h6 : 60 < ss
              · have hf : Hid (P = .tuple #[.int .i64 0, .int .i64 42, .int .i64 ((hhAt + 6 : Nat) : Int)]) := by rw [← hP3bb.out, if_pos h6]; rfl
                clear hP3bb
                go_wp2_with fail
                all_goals (try (exfalso; omega))
                go_quiet (fail)
                go_wp2_with fail
                all_goals (try (exfalso; omega))
                go_ret3
                exact ⟨by rw [hf.out]; rfl, below_drewN B2 _⟩
              · have hP3bbb : Hid (momV (if wd ≠ (N + 3) % 7 then ⟨0, 0, 43, 0⟩ else if 253402300799 < N * 86400 + hh * 3600 + mi * 60 + ss then ⟨0, 0, 40, 0⟩ else ⟨N * 86400 + hh * 3600 + mi * 60 + ss, (f : Nat), 0, 0⟩) = P) := by rw [← hP3bb.out, if_neg h6]; all_goals rfl
                clear hP3bb
                obtain ⟨W, HW⟩ := name_it (wday N)
                have hWe : Hid ((N + 3) % 7 = W) := HW
                rw [hWe.out] at hP3bbb
                clear hWe
                by_cases h7 : wd = W
                · have hP3bbbc : Hid (momV (if 253402300799 < N * 86400 + hh * 3600 + mi * 60 + ss then ⟨0, 0, 40, 0⟩ else ⟨N * 86400 + hh * 3600 + mi * 60 + ss, (f : Nat), 0, 0⟩) = P) := by rw [← hP3bbb.out, if_neg (show ¬ wd ≠ W from fun h => h h7)]; all_goals rfl
                  clear hP3bbb
                  have q1 : (wd == W) = true := by simp [h7]
                  have q2 : (wd != W) = false := by simp [h7]
                  clear h7
                  go_wp2_with fail
                  all_goals (try (exfalso; omega))
                  go_quiet ((go_at_call 192; first | (with_reducible exact weekday_q HW (by omega) (by omega) _ _)))
                  have A3 := Lib.hid (A2.out.drewN nq)
                  have B3 := below_drewN B2 nq
                  generalize World.drewN _ nq = g3 at A3 B3 ⊢
                  clear A2 B2 c0 c1 c2 c3 c4 c5 c6 c7 c8 c9 c10 c11
                  have c0 := A3.out.cell 0 (by simp)
                  have c1 := A3.out.cell 1 (by simp)
                  have c2 := A3.out.cell 2 (by simp)
                  have c3 := A3.out.cell 3 (by simp)
                  have c4 := A3.out.cell 4 (by simp)
                  have c5 := A3.out.cell 5 (by simp)
                  have c6 := A3.out.cell 6 (by simp)
                  have c7 := A3.out.cell 7 (by simp)
                  have c8 := A3.out.cell 8 (by simp)
                  have c9 := A3.out.cell 9 (by simp)
                  have c10 := A3.out.cell 10 (by simp)
                  have c11 := A3.out.cell 11 (by simp)
                  simp only [List.getElem_cons_zero, List.getElem_cons_succ] at c0 c1 c2 c3 c4 c5 c6 c7 c8 c9 c10 c11
                  go_wp2_with fail
                  all_goals (try (exfalso; omega))
                  go_quiet (fail)
                  have A4 := Lib.hid (A3.out.drewN nq)
                  have B4 := below_drewN B3 nq
                  generalize World.drewN _ nq = g4 at A4 B4 ⊢
                  clear A3 B3 c0 c1 c2 c3 c4 c5 c6 c7 c8 c9 c10 c11
                  have c0 := A4.out.cell 0 (by simp)
                  have c1 := A4.out.cell 1 (by simp)
                  have c2 := A4.out.cell 2 (by simp)
                  have c3 := A4.out.cell 3 (by simp)
                  have c4 := A4.out.cell 4 (by simp)
                  have c5 := A4.out.cell 5 (by simp)
                  have c6 := A4.out.cell 6 (by simp)
                  have c7 := A4.out.cell 7 (by simp)
                  have c8 := A4.out.cell 8 (by simp)
                  have c9 := A4.out.cell 9 (by simp)
                  have c10 := A4.out.cell 10 (by simp)
                  have c11 := A4.out.cell 11 (by simp)
                  simp only [List.getElem_cons_zero, List.getElem_cons_succ] at c0 c1 c2 c3 c4 c5 c6 c7 c8 c9 c10 c11
                  have hM : Hid (isMom (N * 86400 + hh * 3600 + mi * 60 + ss) = decide (¬ 253402300799 < N * 86400 + hh * 3600 + mi * 60 + ss)) := by unfold Hid isMom; rw [decide_eq_decide]; omega
                  have hmo := fun wx => ismoment_any (N * 86400 + hh * 3600 + mi * 60 + ss) wx
                  have HMO := Lib.hid hmo
                  clear hmo
                  go_wp2_with fail
                  all_goals (try (exfalso; omega))
                  refine (HMO.out _).mono ?_; rintro e wm ⟨rfl, rfl⟩
                  by_cases h8 : 253402300799 < N * 86400 + hh * 3600 + mi * 60 + ss
                  · have hf : Hid (P = .tuple #[.int .i64 0, .int .i64 40, .int .i64 (0)]) := by rw [← hP3bbbc.out, if_pos h8]; rfl
                    clear hP3bbbc
                    rw [show decide (-62135596800 ≤ N * 86400 + hh * 3600 + mi * 60 + ss ∧ N * 86400 + hh * 3600 + mi * 60 + ss ≤ 253402300799) = false from decide_eq_false (by omega)]
                    go_wp2_with fail
                    all_goals (try (exfalso; omega))
                    go_ret3
                    exact ⟨by rw [hf.out]; rfl, B4⟩
                  · have hf : Hid (P = .tuple #[.int .i64 (N * 86400 + hh * 3600 + mi * 60 + ss), .int .i64 0, .int .i64 0]) := by rw [← hP3bbbc.out, if_neg h8]; rfl
                    clear hP3bbbc
                    rw [show decide (-62135596800 ≤ N * 86400 + hh * 3600 + mi * 60 + ss ∧ N * 86400 + hh * 3600 + mi * 60 + ss ≤ 253402300799) = true from decide_eq_true (by omega)]
                    go_wp2_with fail
                    all_goals (try (exfalso; omega))
                    go_ret3
                    exact ⟨by rw [hf.out]; rfl, B4⟩
                · have hf : Hid (P = .tuple #[.int .i64 0, .int .i64 43, .int .i64 (0)]) := by rw [← hP3bbb.out, if_pos h7]; rfl
                  clear hP3bbb
                  have q1 : (wd == W) = false := by simp [h7]
                  have q2 : (wd != W) = true := by simp [h7]
                  go_wp2_with fail
                  all_goals (try (exfalso; omega))
                  go_quiet ((go_at_call 192; first | (with_reducible exact weekday_q HW (by omega) (by omega) _ _)))
                  go_wp2_with fail
                  all_goals (try (exfalso; omega))
                  go_ret3
                  exact ⟨by rw [hf.out]; rfl, below_drewN B2 _⟩
        · have h3' : Cal.daysOk yr mo dy = false := by simpa using h3
          have HN : Hid (Cal.daysN yr mo dy = 0) := by unfold Cal.daysN; rw [if_neg h3]; rfl
          have HE : Hid (Cal.daysE yr mo dy = 41) := by unfold Cal.daysE; rw [if_neg h3]; rfl
          have hf : Hid (P = .tuple #[.int .i64 0, .int .i64 41, .int .i64 (dyAt : Nat)]) := by rw [← hP2.out, if_pos h3']; rfl
          clear hP2 h3 h3'
          have c0 := A1.out.cell 0 (by simp)
          have c1 := A1.out.cell 1 (by simp)
          have c2 := A1.out.cell 2 (by simp)
          have c3 := A1.out.cell 3 (by simp)
          have c4 := A1.out.cell 4 (by simp)
          have c5 := A1.out.cell 5 (by simp)
          have c6 := A1.out.cell 6 (by simp)
          have c7 := A1.out.cell 7 (by simp)
          have c8 := A1.out.cell 8 (by simp)
          have c9 := A1.out.cell 9 (by simp)
          have c10 := A1.out.cell 10 (by simp)
          have c11 := A1.out.cell 11 (by simp)
          simp only [List.getElem_cons_zero, List.getElem_cons_succ] at c0 c1 c2 c3 c4 c5 c6 c7 c8 c9 c10 c11
          go_wp2_with fail
          all_goals (try (exfalso; omega))
          go_quiet ((go_at_call 191; first | (with_reducible exact days_q HN HE _ _)))
          have A2 := Lib.hid (A1.out.drewN nq)
          have B2 := below_drewN B1 nq
          generalize World.drewN _ nq = g2 at A2 B2 ⊢
          clear A1 B1 c0 c1 c2 c3 c4 c5 c6 c7 c8 c9 c10 c11
          have c0 := A2.out.cell 0 (by simp)
          have c1 := A2.out.cell 1 (by simp)
          have c2 := A2.out.cell 2 (by simp)
          have c3 := A2.out.cell 3 (by simp)
          have c4 := A2.out.cell 4 (by simp)
          have c5 := A2.out.cell 5 (by simp)
          have c6 := A2.out.cell 6 (by simp)
          have c7 := A2.out.cell 7 (by simp)
          have c8 := A2.out.cell 8 (by simp)
          have c9 := A2.out.cell 9 (by simp)
          have c10 := A2.out.cell 10 (by simp)
          have c11 := A2.out.cell 11 (by simp)
          simp only [List.getElem_cons_zero, List.getElem_cons_succ] at c0 c1 c2 c3 c4 c5 c6 c7 c8 c9 c10 c11
          go_wp2_with fail
          all_goals (try (exfalso; omega))
          go_quiet (fail)
          go_wp2_with fail
          all_goals (try (exfalso; omega))
          go_ret3
          exact ⟨by rw [hf.out]; rfl, below_drewN B2 _⟩
end Go.Proofs.YtkenianfpfamcaaGreatDoor
namespace Go.Proofs.YtkenianfpfamcaaGreatDoor
open Go Go.RowKit
set_option maxHeartbeats 4000000

theorem pieces_any (f : Nat) (hf : f < 3) (w : World) : Calls Tryz.prog 145 #[.int .i64 f] w (Pieced w f) := by
  have : f = 0 ∨ f = 1 ∨ f = 2 := by omega
  rcases this with rfl | rfl | rfl
  · exact pieces0_any w
  · exact pieces1_any w
  · exact pieces2_any w
theorem momY_form (st : Stm.St) (f : Nat) (y : Int) : ((momY st f y).e ≠ 0 → (momY st f y).m = 0 ∧ (momY st f y).form = 0) ∧ ((momY st f y).e = 0 → (momY st f y).form = f ∧ (momY st f y).at_ = 0) := by
  unfold momY
  repeat' split
  all_goals simp
theorem run_one (s : List UInt8) (p : Stm.Pc) (st : Stm.St) : Stm.runP s [p] st = Stm.stepP s p st := by
  rw [Stm.runP_cons]
  by_cases h : (Stm.stepP s p st).2 = true
  · rw [if_pos h]; show ((Stm.stepP s p st).1, true) = _; rw [← h]
  · rw [if_neg h]
theorem run_flat {s : List UInt8} {pss : List (List Stm.Pc)} {k : Nat} (h : k < pss.length) (st : Stm.St) : Stm.runP s (pss.drop k).flatten st = if (Stm.runP s pss[k] st).2 then Stm.runP s (pss.drop (k + 1)).flatten (Stm.runP s pss[k] st).1 else Stm.runP s pss[k] st := by
  rw [List.drop_eq_getElem_cons h, List.flatten_cons, Stm.runP_append]
theorem took_run {w0 w' : World} {b : Nat} {s : ByteArray} {r r' : Stm.St × Bool} {e : Ending} (h : Took w0 b s r e w') (hr : r = r') : Took w0 b s r' e w' := hr ▸ h
theorem gotD_of (f : Nat) (hf : f < 5) : (gotOf f = 184 ∨ gotOf f = 186 ∨ gotOf f = 187 ∨ gotOf f = 189 ∨ gotOf f = 190) ∧ GotD (gotOf f) f := by
  have : f = 0 ∨ f = 1 ∨ f = 2 ∨ f = 3 ∨ f = 4 := by omega
  rcases this with rfl | rfl | rfl | rfl | rfl
  · exact ⟨Or.inl rfl, gotD0⟩
  · exact ⟨Or.inr (Or.inl rfl), gotD1⟩
  · exact ⟨Or.inr (Or.inr (Or.inl rfl)), gotD2⟩
  · exact ⟨Or.inr (Or.inr (Or.inr (Or.inl rfl))), gotD3⟩
  · exact ⟨Or.inr (Or.inr (Or.inr (Or.inr rfl))), gotD4⟩

set_option maxRecDepth 100000 in
theorem parse_any (s : ByteArray) (now : Int) (w : World) (hE : EnvS w) (hs : s.size ≤ 1099511627) :
    Calls Tryz.prog 98 #[.string s, .int .i64 now] w fun e w' => e = .returned (parseV (Stm.parseP (L s) (isMom now) (nowY now))) ∧ Below w.heap.size w w' := by
  obtain ⟨P, hP0⟩ := name_it (parseV (Stm.parseP (L s) (isMom now) (nowY now)))
  rw [hP0.out]
  have HE := Lib.hid hE
  clear hE
  have hmm : decide (-62135596800 ≤ now ∧ now ≤ 253402300799) = isMom now := rfl
  by_cases hn : isMom now = true
  · have hf3 := Stm.formOf_lt (L s)
    have hrg := fun h1 h2 => Stm.range_of (s := L s) (form := Stm.formOf (L s)) hf3 h1 h2
    have hP1 : Hid (parseV (let r := Stm.runP (L s) (Stm.pcs (Stm.formOf (L s))) Stm.st0
      if r.2 = false ∨ r.1.at_ < (L s).length then ⟨0, 0, 44, r.1.at_⟩ else Stm.momentOf r.1 (Stm.formOf (L s)) (nowY now)) = P) := by
      rw [← hP0.out]; unfold Hid Stm.parseP; rw [hn]; rfl
    clear hP0
    obtain ⟨f, hf⟩ := name_it (Stm.formOf (L s))
    rw [hf.out] at hf3 hrg hP1
    obtain ⟨R, hR⟩ := name_it (Stm.runP (L s) (Stm.pcs f) Stm.st0)
    rw [hR.out] at hrg hP1
    rw [L_length] at hrg hP1
    have HRG := Lib.hid hrg
    clear hrg
    have A0 : Hid (CellsAt (w.alloc (.cells #[.string s, .int .i64 0, .int .i64 0, .int .i64 0, .int .i64 0, .int .i64 0, .int .i64 0, .int .i64 0, .int .i64 0, .int .i64 0, .int .i64 0, .int .i64 0] 182)) w.heap.size (rdCells s Stm.st0)) := CellsAt.first w (rdCells s Stm.st0) 182
    have B0 : Below w.heap.size w (w.alloc (.cells #[.string s, .int .i64 0, .int .i64 0, .int .i64 0, .int .i64 0, .int .i64 0, .int .i64 0, .int .i64 0, .int .i64 0, .int .i64 0, .int .i64 0, .int .i64 0] 182)) := (Below.refl _ _).alloc (Nat.le_refl _) _
    have E0 : Hid (EnvS (w.alloc (.cells #[.string s, .int .i64 0, .int .i64 0, .int .i64 0, .int .i64 0, .int .i64 0, .int .i64 0, .int .i64 0, .int .i64 0, .int .i64 0, .int .i64 0, .int .i64 0] 182))) := HE.out.alloc _
    go_enter Tryz.func98, Tryz.ntmps98
    go_wp2_with fail
    go_step3
    go_wp2_with fail
    refine (ismoment_any _ _).mono ?_; rintro e w1 ⟨rfl, rfl⟩
    rw [hmm, hn]
    clear hmm
    go_wp2_with fail
    refine (formOf_any s _ HE.out hs).mono ?_; rintro e w1 ⟨rfl, rfl⟩
    rw [hf.out]
    go_wp2_with fail
    generalize w.alloc _ = wa at A0 B0 E0 ⊢
    go_step3
    go_wp2_with fail
    have hrd := HE.out.n
    have H6 := Lib.hid hrd
    clear hrd HE
    refine (pieces_any f hf3 _).mono ?_
    rintro e w2 ⟨g, cap, xs, pss, rfl, hx20, hga, hgl, hcell, hpcs, hflat, hb2⟩
    have A2 := Lib.hid (Rd.start (A0.out.next hb2))
    have E2 := Lib.hid (E0.out.next hb2)
    have B2 := B0.trans (hb2.mono B0.size)
    have hbl : w.heap.size < wa.heap.size := A0.out.lt
    have HC := Lib.hid hcell
    have HP := Lib.hid hpcs
    have hR2 : Hid (Stm.runP (L s) (pss.drop 0).flatten Stm.st0 = R) := by rw [List.drop_zero, hflat]; exact hR
    have HPL := Lib.hid hpcs.get.1
    have hgb : g ≠ w.heap.size := by omega
    clear hcell hpcs hflat hR A0 E0 hb2 B0
    go_wp2_with fail
    go_loopw [10, 12, 27] (fun ok _ i wq => ∃ (k : Nat) (st : Stm.St), k ≤ xs.length ∧ i = .int .i64 k ∧ ok = .bool true ∧ st.at_ ≤ s.size ∧ Hid (Stm.runP (L s) (pss.drop k).flatten st = R) ∧ Hid (Rd w2 wq w.heap.size s st)) (fun _ _ i _ => xs.length - (intOf i).toNat)
    case atStart => exact ⟨0, Stm.st0, Nat.zero_le _, rfl, rfl, Nat.zero_le _, hR2, A2⟩
    case round =>
      obtain ⟨k, st, hk, rfl, rfl, hat, hrun, A⟩ := hrel
      by_cases hlt : k < xs.length
      · have hkp : k < pss.length := by rw [← HPL.out]; exact hlt
        have hcl := (A.out.but.cell g k hgb hgl).trans (HC.out k hlt)
        have hpo := (HP.out.get.2 k hlt hkp)
        have hst := Lib.hid (run_flat (s := L s) hkp st)
        obtain ⟨x, hx⟩ := name_it xs[k]
        obtain ⟨ps, hps⟩ := name_it pss[k]
        rw [hx.out] at hcl hpo
        rw [hps.out] at hst hpo
        obtain ⟨r, hr⟩ := name_it (Stm.runP (L s) ps st)
        rw [hr.out] at hst
        have hrle : r.1.at_ ≤ s.size := by
          have := run_le (L s) ps st (by rw [L_length]; exact hat)
          rw [hr.out, L_length] at this; exact this
        have hpo' := hpo.map (fun c v k => k.but A.out.but hbl)
        have E3 := Lib.hid (E2.out.but A.out.but A.out.below H6.out)
        have HPO := Lib.hid hpo'
        have hcc := A.out.cells
        have HCC := Lib.hid hcc
        clear hpo hpo' hx hps hcc
        have hki : (k : Int) < xs.length := by omega
        have hpo := HPO.out
        clear HPO
        cases hpo with
        | text c t h ht =>
          have hrr := hr
          have hcb := h.cell
          go_wp2_with fail
          all_goals (try (exfalso; omega))
          refine (text_any w.heap.size c s t st _ HCC.out h.cell (by have := h.lo; omega) h.lt hs ht hat).mono ?_; rintro e w3 ht
          have ht := took_run ht (show _ = r from hrr.out)
          obtain ⟨rfl, hR3⟩ := ht
          have A3 := Lib.hid (A.out.trans hR3)
          clear hR3
          obtain ⟨q, ok⟩ := r
          dsimp only at hrle hst
          cases ok
          · have hRq : Hid (R = (q, false)) := by rw [← hrun.out, hst.out]; rfl
            have hf : Hid (P = .tuple #[.int .i64 0, .int .i64 0, .int .i64 44, .int .i64 q.at_]) := by rw [← hP1.out, hRq.out]; rfl
            have hs1 := A3.out.at
            have B3 := B2.trans A3.out.below
            clear hP1 hst hrun hr hrr HRG hRq
            go_wp2_with fail
            go_quiet (fail)
            go_wp2_with fail
            (try rw [Exit.noGoto_ret])
            refine bodyPost_ret (results_tmp4 rfl _ _ _) rfl ?_
            exact ⟨by rw [hf.out]; rfl, below_drewN B3 _⟩
          · have hnx : Hid (Stm.runP (L s) (pss.drop (k + 1)).flatten q = R) := by rw [← hrun.out, hst.out]; rfl
            clear hst hrun hr hrr
            go_wp2_with fail
            go_roundw
            case rel => exact ⟨k + 1, q, by omega, by go_num, rfl, hrle, hnx, A3⟩
            case measure => simp [intOf]; omega
        | dig c1 c2 c3 n f2 bl h1 h2 h3 hf2 hn4 =>
          have hrr : Hid (Stm.stepP (L s) (.dig n bl f2) st = r) := by rw [← run_one]; exact hr
          go_wp2_with fail
          all_goals (try (exfalso; omega))
          refine (digits_any (gotOf f2) f2 (gotD_of f2 hf2).1 (gotD_of f2 hf2).2 w.heap.size c1 c2 c3 n bl s st _ HCC.out h1.cell h2.cell h3.cell (by have := h1.lo; omega) h1.lt (by have := h2.lo; omega) h2.lt (by have := h3.lo; omega) h3.lt hs hn4 hat).mono ?_; rintro e w3 ht
          have ht := took_run ht (show _ = r from hrr.out)
          obtain ⟨rfl, hR3⟩ := ht
          have A3 := Lib.hid (A.out.trans hR3)
          clear hR3
          obtain ⟨q, ok⟩ := r
          dsimp only at hrle hst
          cases ok
          · have hRq : Hid (R = (q, false)) := by rw [← hrun.out, hst.out]; rfl
            have hf : Hid (P = .tuple #[.int .i64 0, .int .i64 0, .int .i64 44, .int .i64 q.at_]) := by rw [← hP1.out, hRq.out]; rfl
            have hs1 := A3.out.at
            have B3 := B2.trans A3.out.below
            clear hP1 hst hrun hr hrr HRG hRq
            go_wp2_with fail
            go_quiet (fail)
            go_wp2_with fail
            (try rw [Exit.noGoto_ret])
            refine bodyPost_ret (results_tmp4 rfl _ _ _) rfl ?_
            exact ⟨by rw [hf.out]; rfl, below_drewN B3 _⟩
          · have hnx : Hid (Stm.runP (L s) (pss.drop (k + 1)).flatten q = R) := by rw [← hrun.out, hst.out]; rfl
            clear hst hrun hr hrr
            go_wp2_with fail
            go_roundw
            case rel => exact ⟨k + 1, q, by omega, by go_num, rfl, hrle, hnx, A3⟩
            case measure => simp [intOf]; omega
        | name0 c1 c2 c3 h1 h2 h3 =>
          have hrr : Hid (Stm.stepP (L s) (.name 0) st = r) := by rw [← run_one]; exact hr
          go_wp2_with fail
          all_goals (try (exfalso; omega))
          refine (name0_any w.heap.size c1 c2 c3 s st _ E3.out HCC.out H6.out h1.cell h2.cell h3.cell (by have := h1.lo; omega) h1.lt (by have := h2.lo; omega) h2.lt (by have := h3.lo; omega) h3.lt hs hat).mono ?_; rintro e w3 ht
          have ht := took_run ht (show _ = r from hrr.out)
          obtain ⟨rfl, hR3⟩ := ht
          have A3 := Lib.hid (A.out.trans hR3)
          clear hR3
          obtain ⟨q, ok⟩ := r
          dsimp only at hrle hst
          cases ok
          · have hRq : Hid (R = (q, false)) := by rw [← hrun.out, hst.out]; rfl
            have hf : Hid (P = .tuple #[.int .i64 0, .int .i64 0, .int .i64 44, .int .i64 q.at_]) := by rw [← hP1.out, hRq.out]; rfl
            have hs1 := A3.out.at
            have B3 := B2.trans A3.out.below
            clear hP1 hst hrun hr hrr HRG hRq
            go_wp2_with fail
            go_quiet (fail)
            go_wp2_with fail
            (try rw [Exit.noGoto_ret])
            refine bodyPost_ret (results_tmp4 rfl _ _ _) rfl ?_
            exact ⟨by rw [hf.out]; rfl, below_drewN B3 _⟩
          · have hnx : Hid (Stm.runP (L s) (pss.drop (k + 1)).flatten q = R) := by rw [← hrun.out, hst.out]; rfl
            clear hst hrun hr hrr
            go_wp2_with fail
            go_roundw
            case rel => exact ⟨k + 1, q, by omega, by go_num, rfl, hrle, hnx, A3⟩
            case measure => simp [intOf]; omega
        | name1 c1 c2 c3 h1 h2 h3 =>
          have hrr : Hid (Stm.stepP (L s) (.name 1) st = r) := by rw [← run_one]; exact hr
          go_wp2_with fail
          all_goals (try (exfalso; omega))
          refine (name1_any w.heap.size c1 c2 c3 s st _ E3.out HCC.out H6.out h1.cell h2.cell h3.cell (by have := h1.lo; omega) h1.lt (by have := h2.lo; omega) h2.lt (by have := h3.lo; omega) h3.lt hs hat).mono ?_; rintro e w3 ht
          have ht := took_run ht (show _ = r from hrr.out)
          obtain ⟨rfl, hR3⟩ := ht
          have A3 := Lib.hid (A.out.trans hR3)
          clear hR3
          obtain ⟨q, ok⟩ := r
          dsimp only at hrle hst
          cases ok
          · have hRq : Hid (R = (q, false)) := by rw [← hrun.out, hst.out]; rfl
            have hf : Hid (P = .tuple #[.int .i64 0, .int .i64 0, .int .i64 44, .int .i64 q.at_]) := by rw [← hP1.out, hRq.out]; rfl
            have hs1 := A3.out.at
            have B3 := B2.trans A3.out.below
            clear hP1 hst hrun hr hrr HRG hRq
            go_wp2_with fail
            go_quiet (fail)
            go_wp2_with fail
            (try rw [Exit.noGoto_ret])
            refine bodyPost_ret (results_tmp4 rfl _ _ _) rfl ?_
            exact ⟨by rw [hf.out]; rfl, below_drewN B3 _⟩
          · have hnx : Hid (Stm.runP (L s) (pss.drop (k + 1)).flatten q = R) := by rw [← hrun.out, hst.out]; rfl
            clear hst hrun hr hrr
            go_wp2_with fail
            go_roundw
            case rel => exact ⟨k + 1, q, by omega, by go_num, rfl, hrle, hnx, A3⟩
            case measure => simp [intOf]; omega
        | name2 c1 c2 c3 h1 h2 h3 =>
          have hrr : Hid (Stm.stepP (L s) (.name 2) st = r) := by rw [← run_one]; exact hr
          go_wp2_with fail
          all_goals (try (exfalso; omega))
          refine (name2_any w.heap.size c1 c2 c3 s st _ E3.out HCC.out H6.out h1.cell h2.cell h3.cell (by have := h1.lo; omega) h1.lt (by have := h2.lo; omega) h2.lt (by have := h3.lo; omega) h3.lt hs hat).mono ?_; rintro e w3 ht
          have ht := took_run ht (show _ = r from hrr.out)
          obtain ⟨rfl, hR3⟩ := ht
          have A3 := Lib.hid (A.out.trans hR3)
          clear hR3
          obtain ⟨q, ok⟩ := r
          dsimp only at hrle hst
          cases ok
          · have hRq : Hid (R = (q, false)) := by rw [← hrun.out, hst.out]; rfl
            have hf : Hid (P = .tuple #[.int .i64 0, .int .i64 0, .int .i64 44, .int .i64 q.at_]) := by rw [← hP1.out, hRq.out]; rfl
            have hs1 := A3.out.at
            have B3 := B2.trans A3.out.below
            clear hP1 hst hrun hr hrr HRG hRq
            go_wp2_with fail
            go_quiet (fail)
            go_wp2_with fail
            (try rw [Exit.noGoto_ret])
            refine bodyPost_ret (results_tmp4 rfl _ _ _) rfl ?_
            exact ⟨by rw [hf.out]; rfl, below_drewN B3 _⟩
          · have hnx : Hid (Stm.runP (L s) (pss.drop (k + 1)).flatten q = R) := by rw [← hrun.out, hst.out]; rfl
            clear hst hrun hr hrr
            go_wp2_with fail
            go_roundw
            case rel => exact ⟨k + 1, q, by omega, by go_num, rfl, hrle, hnx, A3⟩
            case measure => simp [intOf]; omega
      · obtain rfl : k = xs.length := by omega
        have hRq : Hid (R = (st, true)) := by
          rw [← hrun.out, HPL.out, List.drop_length]; rfl
        have hs1 := A.out.at
        have B3 := B2.trans A.out.below
        rw [hRq.out] at hP1 HRG
        clear hrun
        by_cases hend : st.at_ < s.size
        · have hendi : (st.at_ : Int) < s.size := by omega
          have hf : Hid (P = .tuple #[.int .i64 0, .int .i64 0, .int .i64 44, .int .i64 st.at_]) := by rw [← hP1.out, if_pos (Or.inr hend)]; rfl
          clear hP1 HRG hRq
          go_wp2_with fail
          go_quiet (fail)
          go_wp2_with fail
          (try rw [Exit.noGoto_ret])
          refine bodyPost_ret (results_tmp4 rfl _ _ _) rfl ?_
          exact ⟨by rw [hf.out]; rfl, below_drewN B3 _⟩
        · have hendi : ¬ (st.at_ : Int) < s.size := by omega
          have hrange : Stm.Range f st := HRG.out rfl (by show s.size ≤ st.at_; omega)
          have hmo := moment_any w.heap.size s st f now wr hn A.out.cells hrange (by omega)
          have hP2 : Hid (parseV (Stm.momentOf st f (nowY now)) = P) := by rw [← hP1.out, if_neg (show ¬ (true = false ∨ st.at_ < s.size) by simp; omega)]; rfl
          have hmf := momY_form st f (if f = 1 then Stm.nearY st.yr (nowY now - 49) else st.yr)
          rw [← momentOf_eq] at hmf
          obtain ⟨q, hq⟩ := name_it (Stm.momentOf st f (nowY now))
          rw [hq.out] at hmo hP2 hmf
          obtain ⟨qm, qf, qe, qa⟩ := q
          dsimp only at hmf
          have HMF := Lib.hid hmf
          have HMO := Lib.hid hmo
          clear hmf hmo hP1 HRG hRq hrange hq
          go_wp2_with fail
          refine HMO.out.mono ?_; rintro e w3 ⟨rfl, hb3⟩
          unfold momV
          have B4 := B3.trans hb3
          by_cases hqe : qe = 0
          · have h1 := HMF.out.2 hqe
            obtain ⟨rfl, rfl⟩ := h1
            subst hqe
            have hf : Hid (P = .tuple #[.int .i64 qm, .int .i64 f, .int .i64 0, .int .i64 0]) := by rw [← hP2.out]; rfl
            clear hP2 HMF HMO
            go_wp2_with fail
            (try rw [Exit.noGoto_ret])
            refine bodyPost_ret (results_tmp4 rfl _ _ _) rfl ?_
            exact ⟨by rw [hf.out]; rfl, B4⟩
          · have h1 := HMF.out.1 hqe
            obtain ⟨rfl, rfl⟩ := h1
            have q1 : (qe == 0) = false := by simp [hqe]
            have q2 : (qe != 0) = true := by simp [hqe]
            have hf : Hid (P = .tuple #[.int .i64 0, .int .i64 0, .int .i64 qe, .int .i64 qa]) := by rw [← hP2.out]; rfl
            clear hP2 HMF HMO
            go_wp2_with fail
            (try rw [Exit.noGoto_ret])
            refine bodyPost_ret (results_tmp4 rfl _ _ _) rfl ?_
            exact ⟨by rw [hf.out]; rfl, B4⟩
  · have hn' : isMom now = false := by simpa using hn
    have hf : Hid (P = .tuple #[.int .i64 0, .int .i64 0, .int .i64 40, .int .i64 0]) := by rw [← hP0.out]; unfold Hid Stm.parseP; rw [hn', if_pos rfl]; rfl
    clear hP0 hn
    go_enter Tryz.func98, Tryz.ntmps98
    go_wp2_with fail
    go_step3
    go_wp2_with fail
    refine (ismoment_any _ _).mono ?_; rintro e w1 ⟨rfl, rfl⟩
    rw [hmm, hn']
    go_wp2_with fail
    (try rw [Exit.noGoto_ret])
    refine bodyPost_ret (results_tmp4 rfl _ _ _) rfl ?_
    exact ⟨by rw [hf.out]; rfl, Below.refl _ _⟩
end Go.Proofs.YtkenianfpfamcaaGreatDoor
