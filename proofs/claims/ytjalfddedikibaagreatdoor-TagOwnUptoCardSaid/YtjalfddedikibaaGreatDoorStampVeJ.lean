/- stamp's pieces: the list of what takes a form. -/
import Derived.Test.YtjalfddedikibaaGreatDoorStampVdJ
namespace Go.Proofs.YtjalfddedikibaaGreatDoor
open Go Go.RowKit
set_option maxHeartbeats 4000000

theorem infoPiece : (Tryz.prog.info? 135).map (fun i => (i.zero, i.size, i.bytes)) = some (some Value.nilFunc, 1, 8) := by kernel_rfl
structure PS (w0 w : World) (vs : List Value) (ps : List (List Stm.Pc)) : Prop where
  pieces : Pieces w w0.heap.size w.heap.size vs ps
  below : Below w0.heap.size w0 w
theorem PS.start (w : World) : PS w w [] [] := ⟨.nil, Below.refl _ _⟩
theorem PS.snoc {w0 w w' : World} {vs : List Value} {ps : List (List Stm.Pc)} {v : Value} {p : List Stm.Pc} (h : PS w0 w vs ps) (hp : PieceOk w' w.heap.size w'.heap.size v p) (hb : Below w.heap.size w w') : PS w0 w' (vs ++ [v]) (ps ++ [p]) where
  pieces := Pieces.append (h.pieces.map fun _ _ k => (k.next hb).wide (Nat.le_refl _) hb.size) (.cons (hp.map fun _ _ k => k.wide h.below.size (Nat.le_refl _)) .nil)
  below := h.below.trans (hb.mono h.below.size)
theorem PS.alloc {w0 w : World} {vs : List Value} {ps : List (List Stm.Pc)} (h : PS w0 w vs ps) (o : Obj) : PS w0 (w.alloc o) vs ps where
  pieces := h.pieces.map fun _ _ k => (k.next ((Below.refl _ _).alloc (Nat.le_refl _) o)).wide (Nat.le_refl _) (by rw [size_alloc]; omega)
  below := h.below.alloc h.below.size o
theorem grown_of_below {w w' : World} (hb : Below w.heap.size w w') : w.grownBy w' none := ⟨hb.os, hb.tape, hb.output, hb.size, fun k hk _ => hb.block k hk⟩
theorem own_next {w w' : World} {base : Nat} {e : TypeId} {size : Nat} {v : Value} {n : Nat} {xs : List Value} (h : w.ownsRow base e size v n xs) (hb : Below w.heap.size w w') : w'.ownsRow base e size v n xs :=
  h.kept (grown_of_below hb) (by cases v.ownBlock <;> simp)
theorem CellsAt.news {w : World} {c : Nat} {cs : List Value} (h : CellsAt w c cs) : ∀ j u, cs[j]? = some u → w.cell? ((⟨c, 0, none⟩ : Addr).add j) = some u := by
  intro j u hu
  obtain ⟨hj, rfl⟩ := List.getElem?_eq_some_iff.1 hu
  rw [Addr.add_lit, Nat.zero_add]
  exact h.cell j hj

theorem PieceOk.shape {w : World} {lo hi : Nat} {v : Value} {ps : List Stm.Pc} (h : PieceOk w lo hi v ps) : ∃ fn cap, v = .func fn #[] cap := by cases h <;> exact ⟨_, _, rfl⟩
theorem pieces_cons {w : World} {lo hi : Nat} {v : Value} {vs : List Value} {p : List Stm.Pc} {ps : List (List Stm.Pc)} (h : Pieces w lo hi (v :: vs) (p :: ps)) : PieceOk w lo hi v p ∧ Pieces w lo hi vs ps := by cases h with | cons h t => exact ⟨h, t⟩
/-- the pieces of a form, as a slice of the call's own -/
def Pieced (w0 : World) (form : Nat) (e : Ending) (w' : World) : Prop :=
  ∃ g cap xs pss, e = .returned (.slice (some ⟨g, 0, none⟩) (xs.length : Nat) cap) ∧ xs.length ≤ 20 ∧ w0.heap.size ≤ g ∧ g < w'.heap.size ∧ (∀ j (h : j < xs.length), w'.cell? ⟨g, j, none⟩ = some xs[j]) ∧ Pieces w' w0.heap.size w'.heap.size xs pss ∧ pss.flatten = Stm.pcs form ∧ Below w0.heap.size w0 w'
/-- behind the two appends -/
theorem pieced_of {w0 wl w1 w2 w3 : World} {form l : Nat} {v1 v' : Value} {n1 n2 : Nat} {xs ys zs : List Value} {px py pz : List (List Stm.Pc)} (hl : wl.heap.size = l) (P : Pieces wl w0.heap.size l (xs ++ ys) (px ++ py)) (hb : Below w0.heap.size w0 wl)
    (cs : Array Value) (T : TypeId) (g1 : (wl.alloc (.cells cs T)).grownBy w1 (some l)) (o1 : w1.ownsRow l 135 1 v1 n1 (xs ++ ys))
    (Z : Pieces w2 w1.heap.size w2.heap.size zs pz) (b2 : Below w1.heap.size w1 w2) (ds : Array Value) (g2 : (w2.alloc (.cells ds T)).grownBy w3 v1.ownBlock)
    (o3 : w3.ownsRow l 135 1 v' n2 (xs ++ ys ++ zs)) (hn : n2 = xs.length + ys.length + zs.length) (h0 : 0 < n2) (h20 : n2 ≤ 20) (hf : (px ++ py ++ pz).flatten = Stm.pcs form) : Pieced w0 form (.returned v') w3 := by
  obtain ⟨g, cap, rfl, hg, hgl⟩ := o3.form h0
  have hlen : (xs ++ ys ++ zs).length = n2 := by rw [hn]; simp; omega
  have a1 : Below wl.heap.size wl (wl.alloc (.cells cs T)) := (Below.refl _ _).alloc (Nat.le_refl _) _
  have a2 : Below w2.heap.size w2 (w2.alloc (.cells ds T)) := (Below.refl _ _).alloc (Nat.le_refl _) _
  have s1 := size_alloc wl (.cells cs T)
  have s2 := size_alloc w2 (.cells ds T)
  have hsz1 := g1.size
  have hsz2 := b2.size
  have hsz3 := g2.size
  have hb0 := hb.size
  have hrow := o1.lt
  have P1 : Pieces w3 w0.heap.size w3.heap.size (xs ++ ys) (px ++ py) := P.map fun c v k =>
    ((((((k.next a1).grown g1 (fun g e => by have := k.hi; simp at e; omega)).next b2).next a2).grown g2 (fun g e => by have := k.hi; have := (hrow g e).1; omega))).wide (Nat.le_refl _) (by omega)
  have P2 : Pieces w3 w0.heap.size w3.heap.size zs pz := Z.map fun c v k =>
    (((k.next a2).grown g2 (fun g e => by have := k.lo; have := (hrow g e).2; omega))).wide (by omega) (by omega)
  refine ⟨g, cap, xs ++ ys ++ zs, px ++ py ++ pz, by rw [hlen], by omega, by omega, hgl, fun j hj => ?_, Pieces.append P1 P2, hf, ?_⟩
  · rw [World.ownsRow.cellAt o3 j (by rw [hlen] at hj; omega), List.getElem?_eq_getElem hj]
  · exact (((((hb.trans (a1.mono (by omega))).grown g1 (by omega) (by intro k e; simp at e; omega)).trans (b2.mono (by omega))).trans (a2.mono (by omega))).grown g2 (by omega) (by intro k e; have := (hrow k e).1; omega))

set_option maxRecDepth 100000 in
theorem pieces0_any (w : World) : Calls Tryz.prog 82 #[.int .i64 0] w (Pieced w 0) := by
  obtain ⟨i0, hi, hz0, hz1, hz2⟩ := info_parts infoPiece
  have HI := Lib.hid hi; have HZ0 := Lib.hid hz0; have HZ1 := Lib.hid hz1; have HZ2 := Lib.hid hz2
  clear hi hz0 hz1 hz2
  have P0 := Lib.hid (PS.start w)
  go_enter Tryz.func82, Tryz.ntmps82
  go_wp2_with fail
  refine (name2_mk _).mono ?_; rintro e w1 ⟨v0, rfl, hp, hb⟩
  obtain ⟨f0, c0, rfl⟩ := hp.shape
  have P1 := Lib.hid (P0.out.snoc hp hb); clear hp hb P0
  go_wp2_with fail
  refine (digits_mk 2 2 false (by decide) (by decide) _).mono ?_; rintro e w2 ⟨v1, rfl, hp, hb⟩
  obtain ⟨f1, c1, rfl⟩ := hp.shape
  have P2 := Lib.hid (P1.out.snoc hp hb); clear hp hb P1
  go_wp2_with fail
  refine (text_mk ⟨#[58]⟩ _ (by decide)).mono ?_; rintro e w3 ⟨v2, rfl, hp, hb⟩
  obtain ⟨f2, c2, rfl⟩ := hp.shape
  have P3 := Lib.hid (P2.out.snoc hp hb); clear hp hb P2
  go_wp2_with fail
  refine (digits_mk 2 3 false (by decide) (by decide) _).mono ?_; rintro e w4 ⟨v3, rfl, hp, hb⟩
  obtain ⟨f3, c3, rfl⟩ := hp.shape
  have P4 := Lib.hid (P3.out.snoc hp hb); clear hp hb P3
  go_wp2_with fail
  refine (text_mk ⟨#[58]⟩ _ (by decide)).mono ?_; rintro e w5 ⟨v4, rfl, hp, hb⟩
  obtain ⟨f4, c4, rfl⟩ := hp.shape
  have P5 := Lib.hid (P4.out.snoc hp hb); clear hp hb P4
  go_wp2_with fail
  refine (digits_mk 2 4 false (by decide) (by decide) _).mono ?_; rintro e w6 ⟨v5, rfl, hp, hb⟩
  obtain ⟨f5, c5, rfl⟩ := hp.shape
  have P6 := Lib.hid (P5.out.snoc hp hb); clear hp hb P5
  have C0 := Lib.hid (CellsAt.first w6 [Value.func f1 #[] c1, Value.func f2 #[] c2, Value.func f3 #[] c3, Value.func f4 #[] c4, Value.func f5 #[] c5] 135)
  have Pc := Lib.hid (P6.out.alloc (.cells #[Value.func f1 #[] c1, Value.func f2 #[] c2, Value.func f3 #[] c3, Value.func f4 #[] c4, Value.func f5 #[] c5] 135))
  clear P6
  go_wp2_with fail
  have hwc : ∃ wc, Hid (w6.alloc (.cells #[Value.func f1 #[] c1, Value.func f2 #[] c2, Value.func f3 #[] c3, Value.func f4 #[] c4, Value.func f5 #[] c5] 135) = wc) := ⟨_, rfl⟩
  obtain ⟨wc, hwc⟩ := hwc
  rw [hwc.out] at C0 Pc ⊢
  obtain ⟨cb, hcb⟩ := name_it w6.heap.size
  rw [hcb.out] at C0 ⊢
  have P7 := Pc
  clear Pc hwc hcb
  have hcl := C0.out.lt
  go_wp2_with fail
  refine (name0_mk _).mono ?_; rintro e w8 ⟨v6, rfl, hp, hb⟩
  obtain ⟨f6, c6, rfl⟩ := hp.shape
  have P8 := Lib.hid (P7.out.snoc hp hb); have C1 := Lib.hid (C0.out.next hb); clear hp hb P7 C0
  go_wp2_with fail
  refine (text_mk ⟨#[44, 32]⟩ _ (by decide)).mono ?_; rintro e w9 ⟨v7, rfl, hp, hb⟩
  obtain ⟨f7, c7, rfl⟩ := hp.shape
  have P9 := Lib.hid (P8.out.snoc hp hb); have C2 := Lib.hid (C1.out.next hb); clear hp hb P8 C1
  go_wp2_with fail
  refine (day_mk false _).mono ?_; rintro e w10 ⟨v8, rfl, hp, hb⟩
  obtain ⟨f8, c8, rfl⟩ := hp.shape
  have P10 := Lib.hid (P9.out.snoc hp hb); have C3 := Lib.hid (C2.out.next hb); clear hp hb P9 C2
  go_wp2_with fail
  refine (text_mk ⟨#[32]⟩ _ (by decide)).mono ?_; rintro e w11 ⟨v9, rfl, hp, hb⟩
  obtain ⟨f9, c9, rfl⟩ := hp.shape
  have P11 := Lib.hid (P10.out.snoc hp hb); have C4 := Lib.hid (C3.out.next hb); clear hp hb P10 C3
  go_wp2_with fail
  refine (text_mk ⟨#[32]⟩ _ (by decide)).mono ?_; rintro e w12 ⟨v10, rfl, hp, hb⟩
  obtain ⟨f10, c10, rfl⟩ := hp.shape
  have P12 := Lib.hid (P11.out.snoc hp hb); have C5 := Lib.hid (C4.out.next hb); clear hp hb P11 C4
  go_wp2_with fail
  refine (year_mk 4 (by decide) _).mono ?_; rintro e w13 ⟨v11, rfl, hp, hb⟩
  obtain ⟨f11, c11, rfl⟩ := hp.shape
  have P13 := Lib.hid (P12.out.snoc hp hb); have C6 := Lib.hid (C5.out.next hb); clear hp hb P12 C5
  go_wp2_with fail
  refine (text_mk ⟨#[32]⟩ _ (by decide)).mono ?_; rintro e w14 ⟨v12, rfl, hp, hb⟩
  obtain ⟨f12, c12, rfl⟩ := hp.shape
  have P14 := Lib.hid (P13.out.snoc hp hb); have C7 := Lib.hid (C6.out.next hb); clear hp hb P13 C6
  have HO : Hid ((w14.alloc (.cells #[Value.func f6 #[] c6, Value.func f7 #[] c7, Value.func f8 #[] c8, Value.func f9 #[] c9, Value.func f0 #[] c0, Value.func f10 #[] c10, Value.func f11 #[] c11, Value.func f12 #[] c12] 135)).ownsRow w14.heap.size 135 1 (.slice (some ⟨w14.heap.size, 0, none⟩) 8 8) 8 [Value.func f6 #[] c6, Value.func f7 #[] c7, Value.func f8 #[] c8, Value.func f9 #[] c9, Value.func f0 #[] c0, Value.func f10 #[] c10, Value.func f11 #[] c11, Value.func f12 #[] c12]) :=
    World.ownsRow_lit w14 #[Value.func f6 #[] c6, Value.func f7 #[] c7, Value.func f8 #[] c8, Value.func f9 #[] c9, Value.func f0 #[] c0, Value.func f10 #[] c10, Value.func f11 #[] c11, Value.func f12 #[] c12] 8 (Nat.le_refl _) (by unfold maxLen; omega) rfl
  have CC := Lib.hid (C7.out.next ((Below.refl _ _).alloc (Nat.le_refl _) (.cells #[Value.func f6 #[] c6, Value.func f7 #[] c7, Value.func f8 #[] c8, Value.func f9 #[] c9, Value.func f0 #[] c0, Value.func f10 #[] c10, Value.func f11 #[] c11, Value.func f12 #[] c12] 135)))
  have ONE : Hid (∀ u ∈ [Value.func f1 #[] c1, Value.func f2 #[] c2, Value.func f3 #[] c3, Value.func f4 #[] c4, Value.func f5 #[] c5], u.oneCell' = true) := by
    have := P14.out.pieces.one
    intro u hu
    simp at hu
    rcases hu with rfl | rfl | rfl | rfl | rfl <;> exact this _ (by simp)
  clear C7
  go_wp2_with (at_builtin; refine wpList_append_own _ rfl _ _ 132 rfl w14.heap.size 135 i0 Value.nilFunc 1 8 Tryz.underlying132 HI.out HZ0.out HZ1.out HZ2.out rfl (by decide) _ _ _ rfl HO.out ⟨cb, 0, none⟩ 5 5 [Value.func f1 #[] c1, Value.func f2 #[] c2, Value.func f3 #[] c3, Value.func f4 #[] c4, Value.func f5 #[] c5] rfl rfl CC.out.news ONE.out (by unfold maxLen; omega) (by omega) (by rw [size_alloc]; omega) ?_; intro va wa hown hgrow _; have HOW := Lib.hid hown; have HGR := Lib.hid hgrow; clear hown hgrow)
  have ZP := Lib.hid (PS.start wa)
  go_wp2_with fail
  refine (text_mk ⟨#[32, 71, 77, 84]⟩ _ (by decide)).mono ?_; rintro e z0 ⟨v13, rfl, hp, hb⟩
  obtain ⟨f13, c13, rfl⟩ := hp.shape
  have ZP0 := Lib.hid (ZP.out.snoc hp hb); have HOW0 := Lib.hid (own_next HOW.out hb); clear hp hb ZP
  have HB : Hid (CellsAt (z0.alloc (.cells #[Value.func f13 #[] c13] 135)) z0.heap.size [Value.func f13 #[] c13]) := CellsAt.first z0 [Value.func f13 #[] c13] 135
  have ONE2 : Hid (∀ u ∈ [Value.func f13 #[] c13], Value.oneCell' u = true) := by
    intro u hu
    simp at hu
    subst hu; rfl
  have HO2 := Lib.hid (HOW0.out.alloc (.cells #[Value.func f13 #[] c13] 135))
  have HSZ := Lib.hid ZP0.out.below.size
  have HGZ := Lib.hid HGR.out.size
  go_wp2_with (at_builtin; refine wpList_append_own _ rfl _ _ 132 rfl w14.heap.size 135 i0 Value.nilFunc 1 8 Tryz.underlying132 HI.out HZ0.out HZ1.out HZ2.out rfl (by decide) _ _ _ rfl HO2.out ⟨z0.heap.size, 0, none⟩ 1 1 [Value.func f13 #[] c13] rfl rfl HB.out.news ONE2.out (by unfold maxLen; omega) (by omega) (by have a := HSZ.out; have b := HGZ.out; rw [size_alloc] at b; rw [size_alloc]; omega) ?_; intro vz wz hown2 hgrow2 _; have HOZ := Lib.hid hown2; have HGZ2 := Lib.hid hgrow2; clear hown2 hgrow2)
  go_ret
  have PP := P14.out.pieces
  have BB := P14.out.below
  simp only [List.nil_append, List.cons_append] at PP
  obtain ⟨q0, PP⟩ := pieces_cons PP
  obtain ⟨q1, PP⟩ := pieces_cons PP
  obtain ⟨q2, PP⟩ := pieces_cons PP
  obtain ⟨q3, PP⟩ := pieces_cons PP
  obtain ⟨q4, PP⟩ := pieces_cons PP
  obtain ⟨q5, PP⟩ := pieces_cons PP
  obtain ⟨q6, PP⟩ := pieces_cons PP
  obtain ⟨q7, PP⟩ := pieces_cons PP
  obtain ⟨q8, PP⟩ := pieces_cons PP
  obtain ⟨q9, PP⟩ := pieces_cons PP
  obtain ⟨q10, PP⟩ := pieces_cons PP
  obtain ⟨q11, PP⟩ := pieces_cons PP
  obtain ⟨q12, PP⟩ := pieces_cons PP
  exact pieced_of (xs := [Value.func f6 #[] c6, Value.func f7 #[] c7, Value.func f8 #[] c8, Value.func f9 #[] c9, Value.func f0 #[] c0, Value.func f10 #[] c10, Value.func f11 #[] c11, Value.func f12 #[] c12]) (ys := [Value.func f1 #[] c1, Value.func f2 #[] c2, Value.func f3 #[] c3, Value.func f4 #[] c4, Value.func f5 #[] c5]) (zs := [Value.func f13 #[] c13]) (px := [[.name 0], ((L ⟨#[44, 32]⟩).map Stm.Pc.lit), [.dig 2 false 0], ((L ⟨#[32]⟩).map Stm.Pc.lit), [.name 2], ((L ⟨#[32]⟩).map Stm.Pc.lit), [.dig 4 false 1], ((L ⟨#[32]⟩).map Stm.Pc.lit)]) (py := [[.dig 2 false 2], ((L ⟨#[58]⟩).map Stm.Pc.lit), [.dig 2 false 3], ((L ⟨#[58]⟩).map Stm.Pc.lit), [.dig 2 false 4]]) (pz := [((L ⟨#[32, 71, 77, 84]⟩).map Stm.Pc.lit)]) rfl (.cons q6 (.cons q7 (.cons q8 (.cons q9 (.cons q0 (.cons q10 (.cons q11 (.cons q12 (.cons q1 (.cons q2 (.cons q3 (.cons q4 (.cons q5 .nil))))))))))))) BB _ _ HGR.out HOW.out ZP0.out.pieces ZP0.out.below _ HGZ2.out HOZ.out rfl (by decide) (by decide) rfl
set_option maxRecDepth 100000 in
theorem pieces1_any (w : World) : Calls Tryz.prog 82 #[.int .i64 1] w (Pieced w 1) := by
  obtain ⟨i0, hi, hz0, hz1, hz2⟩ := info_parts infoPiece
  have HI := Lib.hid hi; have HZ0 := Lib.hid hz0; have HZ1 := Lib.hid hz1; have HZ2 := Lib.hid hz2
  clear hi hz0 hz1 hz2
  have P0 := Lib.hid (PS.start w)
  go_enter Tryz.func82, Tryz.ntmps82
  go_wp2_with fail
  refine (name2_mk _).mono ?_; rintro e w1 ⟨v0, rfl, hp, hb⟩
  obtain ⟨f0, c0, rfl⟩ := hp.shape
  have P1 := Lib.hid (P0.out.snoc hp hb); clear hp hb P0
  go_wp2_with fail
  refine (digits_mk 2 2 false (by decide) (by decide) _).mono ?_; rintro e w2 ⟨v1, rfl, hp, hb⟩
  obtain ⟨f1, c1, rfl⟩ := hp.shape
  have P2 := Lib.hid (P1.out.snoc hp hb); clear hp hb P1
  go_wp2_with fail
  refine (text_mk ⟨#[58]⟩ _ (by decide)).mono ?_; rintro e w3 ⟨v2, rfl, hp, hb⟩
  obtain ⟨f2, c2, rfl⟩ := hp.shape
  have P3 := Lib.hid (P2.out.snoc hp hb); clear hp hb P2
  go_wp2_with fail
  refine (digits_mk 2 3 false (by decide) (by decide) _).mono ?_; rintro e w4 ⟨v3, rfl, hp, hb⟩
  obtain ⟨f3, c3, rfl⟩ := hp.shape
  have P4 := Lib.hid (P3.out.snoc hp hb); clear hp hb P3
  go_wp2_with fail
  refine (text_mk ⟨#[58]⟩ _ (by decide)).mono ?_; rintro e w5 ⟨v4, rfl, hp, hb⟩
  obtain ⟨f4, c4, rfl⟩ := hp.shape
  have P5 := Lib.hid (P4.out.snoc hp hb); clear hp hb P4
  go_wp2_with fail
  refine (digits_mk 2 4 false (by decide) (by decide) _).mono ?_; rintro e w6 ⟨v5, rfl, hp, hb⟩
  obtain ⟨f5, c5, rfl⟩ := hp.shape
  have P6 := Lib.hid (P5.out.snoc hp hb); clear hp hb P5
  have C0 := Lib.hid (CellsAt.first w6 [Value.func f1 #[] c1, Value.func f2 #[] c2, Value.func f3 #[] c3, Value.func f4 #[] c4, Value.func f5 #[] c5] 135)
  have Pc := Lib.hid (P6.out.alloc (.cells #[Value.func f1 #[] c1, Value.func f2 #[] c2, Value.func f3 #[] c3, Value.func f4 #[] c4, Value.func f5 #[] c5] 135))
  clear P6
  go_wp2_with fail
  have hwc : ∃ wc, Hid (w6.alloc (.cells #[Value.func f1 #[] c1, Value.func f2 #[] c2, Value.func f3 #[] c3, Value.func f4 #[] c4, Value.func f5 #[] c5] 135) = wc) := ⟨_, rfl⟩
  obtain ⟨wc, hwc⟩ := hwc
  rw [hwc.out] at C0 Pc ⊢
  obtain ⟨cb, hcb⟩ := name_it w6.heap.size
  rw [hcb.out] at C0 ⊢
  have P7 := Pc
  clear Pc hwc hcb
  have hcl := C0.out.lt
  go_wp2_with fail
  refine (name1_mk _).mono ?_; rintro e w8 ⟨v6, rfl, hp, hb⟩
  obtain ⟨f6, c6, rfl⟩ := hp.shape
  have P8 := Lib.hid (P7.out.snoc hp hb); have C1 := Lib.hid (C0.out.next hb); clear hp hb P7 C0
  go_wp2_with fail
  refine (text_mk ⟨#[44, 32]⟩ _ (by decide)).mono ?_; rintro e w9 ⟨v7, rfl, hp, hb⟩
  obtain ⟨f7, c7, rfl⟩ := hp.shape
  have P9 := Lib.hid (P8.out.snoc hp hb); have C2 := Lib.hid (C1.out.next hb); clear hp hb P8 C1
  go_wp2_with fail
  refine (day_mk false _).mono ?_; rintro e w10 ⟨v8, rfl, hp, hb⟩
  obtain ⟨f8, c8, rfl⟩ := hp.shape
  have P10 := Lib.hid (P9.out.snoc hp hb); have C3 := Lib.hid (C2.out.next hb); clear hp hb P9 C2
  go_wp2_with fail
  refine (text_mk ⟨#[45]⟩ _ (by decide)).mono ?_; rintro e w11 ⟨v9, rfl, hp, hb⟩
  obtain ⟨f9, c9, rfl⟩ := hp.shape
  have P11 := Lib.hid (P10.out.snoc hp hb); have C4 := Lib.hid (C3.out.next hb); clear hp hb P10 C3
  go_wp2_with fail
  refine (text_mk ⟨#[45]⟩ _ (by decide)).mono ?_; rintro e w12 ⟨v10, rfl, hp, hb⟩
  obtain ⟨f10, c10, rfl⟩ := hp.shape
  have P12 := Lib.hid (P11.out.snoc hp hb); have C5 := Lib.hid (C4.out.next hb); clear hp hb P11 C4
  go_wp2_with fail
  refine (year_mk 2 (by decide) _).mono ?_; rintro e w13 ⟨v11, rfl, hp, hb⟩
  obtain ⟨f11, c11, rfl⟩ := hp.shape
  have P13 := Lib.hid (P12.out.snoc hp hb); have C6 := Lib.hid (C5.out.next hb); clear hp hb P12 C5
  go_wp2_with fail
  refine (text_mk ⟨#[32]⟩ _ (by decide)).mono ?_; rintro e w14 ⟨v12, rfl, hp, hb⟩
  obtain ⟨f12, c12, rfl⟩ := hp.shape
  have P14 := Lib.hid (P13.out.snoc hp hb); have C7 := Lib.hid (C6.out.next hb); clear hp hb P13 C6
  have HO : Hid ((w14.alloc (.cells #[Value.func f6 #[] c6, Value.func f7 #[] c7, Value.func f8 #[] c8, Value.func f9 #[] c9, Value.func f0 #[] c0, Value.func f10 #[] c10, Value.func f11 #[] c11, Value.func f12 #[] c12] 135)).ownsRow w14.heap.size 135 1 (.slice (some ⟨w14.heap.size, 0, none⟩) 8 8) 8 [Value.func f6 #[] c6, Value.func f7 #[] c7, Value.func f8 #[] c8, Value.func f9 #[] c9, Value.func f0 #[] c0, Value.func f10 #[] c10, Value.func f11 #[] c11, Value.func f12 #[] c12]) :=
    World.ownsRow_lit w14 #[Value.func f6 #[] c6, Value.func f7 #[] c7, Value.func f8 #[] c8, Value.func f9 #[] c9, Value.func f0 #[] c0, Value.func f10 #[] c10, Value.func f11 #[] c11, Value.func f12 #[] c12] 8 (Nat.le_refl _) (by unfold maxLen; omega) rfl
  have CC := Lib.hid (C7.out.next ((Below.refl _ _).alloc (Nat.le_refl _) (.cells #[Value.func f6 #[] c6, Value.func f7 #[] c7, Value.func f8 #[] c8, Value.func f9 #[] c9, Value.func f0 #[] c0, Value.func f10 #[] c10, Value.func f11 #[] c11, Value.func f12 #[] c12] 135)))
  have ONE : Hid (∀ u ∈ [Value.func f1 #[] c1, Value.func f2 #[] c2, Value.func f3 #[] c3, Value.func f4 #[] c4, Value.func f5 #[] c5], u.oneCell' = true) := by
    have := P14.out.pieces.one
    intro u hu
    simp at hu
    rcases hu with rfl | rfl | rfl | rfl | rfl <;> exact this _ (by simp)
  clear C7
  go_wp2_with (at_builtin; refine wpList_append_own _ rfl _ _ 132 rfl w14.heap.size 135 i0 Value.nilFunc 1 8 Tryz.underlying132 HI.out HZ0.out HZ1.out HZ2.out rfl (by decide) _ _ _ rfl HO.out ⟨cb, 0, none⟩ 5 5 [Value.func f1 #[] c1, Value.func f2 #[] c2, Value.func f3 #[] c3, Value.func f4 #[] c4, Value.func f5 #[] c5] rfl rfl CC.out.news ONE.out (by unfold maxLen; omega) (by omega) (by rw [size_alloc]; omega) ?_; intro va wa hown hgrow _; have HOW := Lib.hid hown; have HGR := Lib.hid hgrow; clear hown hgrow)
  have ZP := Lib.hid (PS.start wa)
  go_wp2_with fail
  refine (text_mk ⟨#[32, 71, 77, 84]⟩ _ (by decide)).mono ?_; rintro e z0 ⟨v13, rfl, hp, hb⟩
  obtain ⟨f13, c13, rfl⟩ := hp.shape
  have ZP0 := Lib.hid (ZP.out.snoc hp hb); have HOW0 := Lib.hid (own_next HOW.out hb); clear hp hb ZP
  have HB : Hid (CellsAt (z0.alloc (.cells #[Value.func f13 #[] c13] 135)) z0.heap.size [Value.func f13 #[] c13]) := CellsAt.first z0 [Value.func f13 #[] c13] 135
  have ONE2 : Hid (∀ u ∈ [Value.func f13 #[] c13], Value.oneCell' u = true) := by
    intro u hu
    simp at hu
    subst hu; rfl
  have HO2 := Lib.hid (HOW0.out.alloc (.cells #[Value.func f13 #[] c13] 135))
  have HSZ := Lib.hid ZP0.out.below.size
  have HGZ := Lib.hid HGR.out.size
  go_wp2_with (at_builtin; refine wpList_append_own _ rfl _ _ 132 rfl w14.heap.size 135 i0 Value.nilFunc 1 8 Tryz.underlying132 HI.out HZ0.out HZ1.out HZ2.out rfl (by decide) _ _ _ rfl HO2.out ⟨z0.heap.size, 0, none⟩ 1 1 [Value.func f13 #[] c13] rfl rfl HB.out.news ONE2.out (by unfold maxLen; omega) (by omega) (by have a := HSZ.out; have b := HGZ.out; rw [size_alloc] at b; rw [size_alloc]; omega) ?_; intro vz wz hown2 hgrow2 _; have HOZ := Lib.hid hown2; have HGZ2 := Lib.hid hgrow2; clear hown2 hgrow2)
  go_ret
  have PP := P14.out.pieces
  have BB := P14.out.below
  simp only [List.nil_append, List.cons_append] at PP
  obtain ⟨q0, PP⟩ := pieces_cons PP
  obtain ⟨q1, PP⟩ := pieces_cons PP
  obtain ⟨q2, PP⟩ := pieces_cons PP
  obtain ⟨q3, PP⟩ := pieces_cons PP
  obtain ⟨q4, PP⟩ := pieces_cons PP
  obtain ⟨q5, PP⟩ := pieces_cons PP
  obtain ⟨q6, PP⟩ := pieces_cons PP
  obtain ⟨q7, PP⟩ := pieces_cons PP
  obtain ⟨q8, PP⟩ := pieces_cons PP
  obtain ⟨q9, PP⟩ := pieces_cons PP
  obtain ⟨q10, PP⟩ := pieces_cons PP
  obtain ⟨q11, PP⟩ := pieces_cons PP
  obtain ⟨q12, PP⟩ := pieces_cons PP
  exact pieced_of (xs := [Value.func f6 #[] c6, Value.func f7 #[] c7, Value.func f8 #[] c8, Value.func f9 #[] c9, Value.func f0 #[] c0, Value.func f10 #[] c10, Value.func f11 #[] c11, Value.func f12 #[] c12]) (ys := [Value.func f1 #[] c1, Value.func f2 #[] c2, Value.func f3 #[] c3, Value.func f4 #[] c4, Value.func f5 #[] c5]) (zs := [Value.func f13 #[] c13]) (px := [[.name 1], ((L ⟨#[44, 32]⟩).map Stm.Pc.lit), [.dig 2 false 0], ((L ⟨#[45]⟩).map Stm.Pc.lit), [.name 2], ((L ⟨#[45]⟩).map Stm.Pc.lit), [.dig 2 false 1], ((L ⟨#[32]⟩).map Stm.Pc.lit)]) (py := [[.dig 2 false 2], ((L ⟨#[58]⟩).map Stm.Pc.lit), [.dig 2 false 3], ((L ⟨#[58]⟩).map Stm.Pc.lit), [.dig 2 false 4]]) (pz := [((L ⟨#[32, 71, 77, 84]⟩).map Stm.Pc.lit)]) rfl (.cons q6 (.cons q7 (.cons q8 (.cons q9 (.cons q0 (.cons q10 (.cons q11 (.cons q12 (.cons q1 (.cons q2 (.cons q3 (.cons q4 (.cons q5 .nil))))))))))))) BB _ _ HGR.out HOW.out ZP0.out.pieces ZP0.out.below _ HGZ2.out HOZ.out rfl (by decide) (by decide) rfl
set_option maxRecDepth 100000 in
theorem pieces2_any (w : World) : Calls Tryz.prog 82 #[.int .i64 2] w (Pieced w 2) := by
  obtain ⟨i0, hi, hz0, hz1, hz2⟩ := info_parts infoPiece
  have HI := Lib.hid hi; have HZ0 := Lib.hid hz0; have HZ1 := Lib.hid hz1; have HZ2 := Lib.hid hz2
  clear hi hz0 hz1 hz2
  have P0 := Lib.hid (PS.start w)
  go_enter Tryz.func82, Tryz.ntmps82
  go_wp2_with fail
  refine (name2_mk _).mono ?_; rintro e w1 ⟨v0, rfl, hp, hb⟩
  obtain ⟨f0, c0, rfl⟩ := hp.shape
  have P1 := Lib.hid (P0.out.snoc hp hb); clear hp hb P0
  go_wp2_with fail
  refine (digits_mk 2 2 false (by decide) (by decide) _).mono ?_; rintro e w2 ⟨v1, rfl, hp, hb⟩
  obtain ⟨f1, c1, rfl⟩ := hp.shape
  have P2 := Lib.hid (P1.out.snoc hp hb); clear hp hb P1
  go_wp2_with fail
  refine (text_mk ⟨#[58]⟩ _ (by decide)).mono ?_; rintro e w3 ⟨v2, rfl, hp, hb⟩
  obtain ⟨f2, c2, rfl⟩ := hp.shape
  have P3 := Lib.hid (P2.out.snoc hp hb); clear hp hb P2
  go_wp2_with fail
  refine (digits_mk 2 3 false (by decide) (by decide) _).mono ?_; rintro e w4 ⟨v3, rfl, hp, hb⟩
  obtain ⟨f3, c3, rfl⟩ := hp.shape
  have P4 := Lib.hid (P3.out.snoc hp hb); clear hp hb P3
  go_wp2_with fail
  refine (text_mk ⟨#[58]⟩ _ (by decide)).mono ?_; rintro e w5 ⟨v4, rfl, hp, hb⟩
  obtain ⟨f4, c4, rfl⟩ := hp.shape
  have P5 := Lib.hid (P4.out.snoc hp hb); clear hp hb P4
  go_wp2_with fail
  refine (digits_mk 2 4 false (by decide) (by decide) _).mono ?_; rintro e w6 ⟨v5, rfl, hp, hb⟩
  obtain ⟨f5, c5, rfl⟩ := hp.shape
  have P6 := Lib.hid (P5.out.snoc hp hb); clear hp hb P5
  have C0 := Lib.hid (CellsAt.first w6 [Value.func f1 #[] c1, Value.func f2 #[] c2, Value.func f3 #[] c3, Value.func f4 #[] c4, Value.func f5 #[] c5] 135)
  have Pc := Lib.hid (P6.out.alloc (.cells #[Value.func f1 #[] c1, Value.func f2 #[] c2, Value.func f3 #[] c3, Value.func f4 #[] c4, Value.func f5 #[] c5] 135))
  clear P6
  go_wp2_with fail
  have hwc : ∃ wc, Hid (w6.alloc (.cells #[Value.func f1 #[] c1, Value.func f2 #[] c2, Value.func f3 #[] c3, Value.func f4 #[] c4, Value.func f5 #[] c5] 135) = wc) := ⟨_, rfl⟩
  obtain ⟨wc, hwc⟩ := hwc
  rw [hwc.out] at C0 Pc ⊢
  obtain ⟨cb, hcb⟩ := name_it w6.heap.size
  rw [hcb.out] at C0 ⊢
  have P7 := Pc
  clear Pc hwc hcb
  have hcl := C0.out.lt
  go_wp2_with fail
  refine (name0_mk _).mono ?_; rintro e w8 ⟨v6, rfl, hp, hb⟩
  obtain ⟨f6, c6, rfl⟩ := hp.shape
  have P8 := Lib.hid (P7.out.snoc hp hb); have C1 := Lib.hid (C0.out.next hb); clear hp hb P7 C0
  go_wp2_with fail
  refine (text_mk ⟨#[32]⟩ _ (by decide)).mono ?_; rintro e w9 ⟨v7, rfl, hp, hb⟩
  obtain ⟨f7, c7, rfl⟩ := hp.shape
  have P9 := Lib.hid (P8.out.snoc hp hb); have C2 := Lib.hid (C1.out.next hb); clear hp hb P8 C1
  go_wp2_with fail
  refine (text_mk ⟨#[32]⟩ _ (by decide)).mono ?_; rintro e w10 ⟨v8, rfl, hp, hb⟩
  obtain ⟨f8, c8, rfl⟩ := hp.shape
  have P10 := Lib.hid (P9.out.snoc hp hb); have C3 := Lib.hid (C2.out.next hb); clear hp hb P9 C2
  go_wp2_with fail
  refine (day_mk true _).mono ?_; rintro e w11 ⟨v9, rfl, hp, hb⟩
  obtain ⟨f9, c9, rfl⟩ := hp.shape
  have P11 := Lib.hid (P10.out.snoc hp hb); have C4 := Lib.hid (C3.out.next hb); clear hp hb P10 C3
  go_wp2_with fail
  refine (text_mk ⟨#[32]⟩ _ (by decide)).mono ?_; rintro e w12 ⟨v10, rfl, hp, hb⟩
  obtain ⟨f10, c10, rfl⟩ := hp.shape
  have P12 := Lib.hid (P11.out.snoc hp hb); have C5 := Lib.hid (C4.out.next hb); clear hp hb P11 C4
  have HO : Hid ((w12.alloc (.cells #[Value.func f6 #[] c6, Value.func f7 #[] c7, Value.func f0 #[] c0, Value.func f8 #[] c8, Value.func f9 #[] c9, Value.func f10 #[] c10] 135)).ownsRow w12.heap.size 135 1 (.slice (some ⟨w12.heap.size, 0, none⟩) 6 6) 6 [Value.func f6 #[] c6, Value.func f7 #[] c7, Value.func f0 #[] c0, Value.func f8 #[] c8, Value.func f9 #[] c9, Value.func f10 #[] c10]) :=
    World.ownsRow_lit w12 #[Value.func f6 #[] c6, Value.func f7 #[] c7, Value.func f0 #[] c0, Value.func f8 #[] c8, Value.func f9 #[] c9, Value.func f10 #[] c10] 6 (Nat.le_refl _) (by unfold maxLen; omega) rfl
  have CC := Lib.hid (C5.out.next ((Below.refl _ _).alloc (Nat.le_refl _) (.cells #[Value.func f6 #[] c6, Value.func f7 #[] c7, Value.func f0 #[] c0, Value.func f8 #[] c8, Value.func f9 #[] c9, Value.func f10 #[] c10] 135)))
  have ONE : Hid (∀ u ∈ [Value.func f1 #[] c1, Value.func f2 #[] c2, Value.func f3 #[] c3, Value.func f4 #[] c4, Value.func f5 #[] c5], u.oneCell' = true) := by
    have := P12.out.pieces.one
    intro u hu
    simp at hu
    rcases hu with rfl | rfl | rfl | rfl | rfl <;> exact this _ (by simp)
  clear C5
  go_wp2_with (at_builtin; refine wpList_append_own _ rfl _ _ 132 rfl w12.heap.size 135 i0 Value.nilFunc 1 8 Tryz.underlying132 HI.out HZ0.out HZ1.out HZ2.out rfl (by decide) _ _ _ rfl HO.out ⟨cb, 0, none⟩ 5 5 [Value.func f1 #[] c1, Value.func f2 #[] c2, Value.func f3 #[] c3, Value.func f4 #[] c4, Value.func f5 #[] c5] rfl rfl CC.out.news ONE.out (by unfold maxLen; omega) (by omega) (by rw [size_alloc]; omega) ?_; intro va wa hown hgrow _; have HOW := Lib.hid hown; have HGR := Lib.hid hgrow; clear hown hgrow)
  have ZP := Lib.hid (PS.start wa)
  go_wp2_with fail
  refine (text_mk ⟨#[32]⟩ _ (by decide)).mono ?_; rintro e z0 ⟨v11, rfl, hp, hb⟩
  obtain ⟨f11, c11, rfl⟩ := hp.shape
  have ZP0 := Lib.hid (ZP.out.snoc hp hb); have HOW0 := Lib.hid (own_next HOW.out hb); clear hp hb ZP
  go_wp2_with fail
  refine (year_mk 4 (by decide) _).mono ?_; rintro e z1 ⟨v12, rfl, hp, hb⟩
  obtain ⟨f12, c12, rfl⟩ := hp.shape
  have ZP1 := Lib.hid (ZP0.out.snoc hp hb); have HOW1 := Lib.hid (own_next HOW0.out hb); clear hp hb ZP0
  have HB : Hid (CellsAt (z1.alloc (.cells #[Value.func f11 #[] c11, Value.func f12 #[] c12] 135)) z1.heap.size [Value.func f11 #[] c11, Value.func f12 #[] c12]) := CellsAt.first z1 [Value.func f11 #[] c11, Value.func f12 #[] c12] 135
  have ONE2 : Hid (∀ u ∈ [Value.func f11 #[] c11, Value.func f12 #[] c12], Value.oneCell' u = true) := by
    intro u hu
    simp at hu
    rcases hu with rfl | rfl <;> rfl
  have HO2 := Lib.hid (HOW1.out.alloc (.cells #[Value.func f11 #[] c11, Value.func f12 #[] c12] 135))
  have HSZ := Lib.hid ZP1.out.below.size
  have HGZ := Lib.hid HGR.out.size
  go_wp2_with (at_builtin; refine wpList_append_own _ rfl _ _ 132 rfl w12.heap.size 135 i0 Value.nilFunc 1 8 Tryz.underlying132 HI.out HZ0.out HZ1.out HZ2.out rfl (by decide) _ _ _ rfl HO2.out ⟨z1.heap.size, 0, none⟩ 2 2 [Value.func f11 #[] c11, Value.func f12 #[] c12] rfl rfl HB.out.news ONE2.out (by unfold maxLen; omega) (by omega) (by have a := HSZ.out; have b := HGZ.out; rw [size_alloc] at b; rw [size_alloc]; omega) ?_; intro vz wz hown2 hgrow2 _; have HOZ := Lib.hid hown2; have HGZ2 := Lib.hid hgrow2; clear hown2 hgrow2)
  go_ret
  have PP := P12.out.pieces
  have BB := P12.out.below
  simp only [List.nil_append, List.cons_append] at PP
  obtain ⟨q0, PP⟩ := pieces_cons PP
  obtain ⟨q1, PP⟩ := pieces_cons PP
  obtain ⟨q2, PP⟩ := pieces_cons PP
  obtain ⟨q3, PP⟩ := pieces_cons PP
  obtain ⟨q4, PP⟩ := pieces_cons PP
  obtain ⟨q5, PP⟩ := pieces_cons PP
  obtain ⟨q6, PP⟩ := pieces_cons PP
  obtain ⟨q7, PP⟩ := pieces_cons PP
  obtain ⟨q8, PP⟩ := pieces_cons PP
  obtain ⟨q9, PP⟩ := pieces_cons PP
  obtain ⟨q10, PP⟩ := pieces_cons PP
  exact pieced_of (xs := [Value.func f6 #[] c6, Value.func f7 #[] c7, Value.func f0 #[] c0, Value.func f8 #[] c8, Value.func f9 #[] c9, Value.func f10 #[] c10]) (ys := [Value.func f1 #[] c1, Value.func f2 #[] c2, Value.func f3 #[] c3, Value.func f4 #[] c4, Value.func f5 #[] c5]) (zs := [Value.func f11 #[] c11, Value.func f12 #[] c12]) (px := [[.name 0], ((L ⟨#[32]⟩).map Stm.Pc.lit), [.name 2], ((L ⟨#[32]⟩).map Stm.Pc.lit), [.dig 2 true 0], ((L ⟨#[32]⟩).map Stm.Pc.lit)]) (py := [[.dig 2 false 2], ((L ⟨#[58]⟩).map Stm.Pc.lit), [.dig 2 false 3], ((L ⟨#[58]⟩).map Stm.Pc.lit), [.dig 2 false 4]]) (pz := [((L ⟨#[32]⟩).map Stm.Pc.lit), [.dig 4 false 1]]) rfl (.cons q6 (.cons q7 (.cons q0 (.cons q8 (.cons q9 (.cons q10 (.cons q1 (.cons q2 (.cons q3 (.cons q4 (.cons q5 .nil))))))))))) BB _ _ HGR.out HOW.out ZP1.out.pieces ZP1.out.below _ HGZ2.out HOZ.out rfl (by decide) (by decide) rfl
end Go.Proofs.YtjalfddedikibaaGreatDoor
