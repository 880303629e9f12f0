/- LedgerParses: the walk of the law: for every text of at most 1048576 bytes the law answers true. -/
import Derived.Test.YtfgaiopkclogmaaDoorLedgBe
import Derived.Test.YtfgaiopkclogmaaDoorLedgX
import Derived.Test.YtfgaiopkclogmaaDoorLedgPb
namespace Go.Proofs.YtfgaiopkclogmaaDoor
open Go Go.RowKit
set_option maxHeartbeats 4000000

set_option maxRecDepth 100000 in
theorem given_any (e : En) (w : World) : Calls Tryd.prog 8 #[encE e] w fun x w' => x = .returned (encE e) ∧ Below w.heap.size w w' := by
  obtain ⟨nm, hnm⟩ := name_it (bs e.name)
  obtain ⟨mt, hmt⟩ := name_it (bs e.meth)
  obtain ⟨tg, htg⟩ := name_it (bs e.tgt)
  obtain ⟨x1, hx1⟩ := name_it e.conn
  obtain ⟨x2, hx2⟩ := name_it e.numb
  obtain ⟨x3, hx3⟩ := name_it e.tick
  obtain ⟨x4, hx4⟩ := name_it e.stat
  obtain ⟨x5, hx5⟩ := name_it e.byts
  unfold encE
  rw [hnm.out, hmt.out, htg.out, hx1.out, hx2.out, hx3.out, hx4.out, hx5.out]
  go_enter Tryd.func8, Tryd.ntmps8
  go_wp2_with fail
  refine bodyPost_ret (v := .agg #[.string nm, .int .i64 x1, .int .i64 x2, .string mt, .string tg, .int .i64 x4, .int .i64 x5, .int .i64 x3]) (by simp [results, Tryd.results8, go_sem]) rfl ⟨rfl, ?_⟩
  have z1 : ∀ (W : World) (o : Obj), (W.alloc o).heap.size = W.heap.size + 1 := fun W o => Array.size_push ..
  exact (((Below.refl w.heap.size w).alloc (Nat.le_refl _) _).alloc (by rw [z1]; omega) _).alloc (by rw [z1, z1]; omega) _
theorem parV_form (S : List UInt8) : ∃ (p : En) (a c : Int), parV S = .tuple #[encE p, .int .i64 a, .int .i64 c] := by
  unfold parV
  split
  · exact ⟨_, _, _, rfl⟩
  · exact ⟨noE, _, _, rfl⟩
/-- the law's own two entries -/
structure LP (w W : World) (e : En) (m1 m2 : Nat) : Prop where
  a : Blk W m1 tE (cellsE e)
  b : Blk W m2 tR (cellsE e)
  env : EnvL W
  below : Below w.heap.size w W
theorem LP.next {w W W' : World} {e : En} {m1 m2 : Nat} (h : LP w W e m1 m2) (hb : Below W.heap.size W W') : LP w W' e m1 m2 :=
  ⟨h.a.below hb h.a.lt, h.b.below hb h.b.lt, h.env.next hb, h.below.trans (hb.mono h.below.size)⟩

set_option maxRecDepth 100000 in
theorem lawParses_any (s : ByteArray) (w : World) (hE : EnvL w) (hs : s.size ≤ 1048576) :
    Calls Tryd.prog 4 #[.string s] w fun e w' => e = .returned (.bool true) ∧ Below w.heap.size w w' := by
  have HP := fun wx hx => parse_any s wx hx (by omega)
  have HR := fun wx => rparse_any s wx (by omega)
  obtain ⟨p, a, c, hV⟩ := parV_form (L s)
  rw [hV] at HP HR
  have HP := Lib.hid HP
  have HR := Lib.hid HR
  have HE := Lib.hid hE
  have GV := Lib.hid (given_any p)
  have AW := Lib.hid (fun wx hx => awake_any wx hx)
  clear hV hE
  obtain ⟨nm, hnm⟩ := name_it (bs p.name)
  obtain ⟨mt, hmt⟩ := name_it (bs p.meth)
  obtain ⟨tg, htg⟩ := name_it (bs p.tgt)
  obtain ⟨x1, hx1⟩ := name_it p.conn
  obtain ⟨x2, hx2⟩ := name_it p.numb
  obtain ⟨x3, hx3⟩ := name_it p.tick
  obtain ⟨x4, hx4⟩ := name_it p.stat
  obtain ⟨x5, hx5⟩ := name_it p.byts
  have KC : Hid (cellsE p = #[.string nm, .int .i64 x1, .int .i64 x2, .string mt, .string tg, .int .i64 x4, .int .i64 x5, .int .i64 x3]) := by
    unfold cellsE Hid
    rw [hnm.out, hmt.out, htg.out, hx1.out, hx2.out, hx3.out, hx4.out, hx5.out]
  unfold encE at HP HR GV
  rw [hnm.out, hmt.out, htg.out, hx1.out, hx2.out, hx3.out, hx4.out, hx5.out] at HP HR GV
  clear hnm hmt htg hx1 hx2 hx3 hx4 hx5
  go_enter Tryd.func4, Tryd.ntmps4
  go_wp2_with fail
  refine (HP.out _ HE.out.env).mono ?_; rintro x w1 ⟨rfl, b1⟩
  have B1 := Lib.hid b1
  have E1 := Lib.hid (HE.out.next b1)
  clear b1 HP HE
  go_wp2_with fail
  have A1 : Hid (Blk (w1.alloc (.cells #[.string nm, .int .i64 x1, .int .i64 x2, .string mt, .string tg, .int .i64 x4, .int .i64 x5, .int .i64 x3] tE)) w1.heap.size tE (cellsE p)) := by unfold Hid; rw [KC.out]; exact Blk.new w1 tE _
  have D1 : Hid (Below w.heap.size w (w1.alloc (.cells #[.string nm, .int .i64 x1, .int .i64 x2, .string mt, .string tg, .int .i64 x4, .int .i64 x5, .int .i64 x3] tE))) := B1.out.alloc B1.out.size _
  have F1 : Hid (EnvL (w1.alloc (.cells #[.string nm, .int .i64 x1, .int .i64 x2, .string mt, .string tg, .int .i64 x4, .int .i64 x5, .int .i64 x3] tE))) := E1.out.alloc _
  obtain ⟨m1, hm1⟩ := name_it w1.heap.size
  rw [hm1.out] at A1
  rw [hm1.out]
  clear hm1 E1 B1
  refine (HR.out _).mono ?_; rintro x w2 ⟨rfl, b2⟩
  have A2 := Lib.hid (A1.out.below b2 A1.out.lt)
  have D2 := Lib.hid (D1.out.trans (b2.mono D1.out.size))
  have F2 := Lib.hid (F1.out.next b2)
  clear b2 A1 D1 F1 HR
  go_wp2_with fail
  have L3 : Hid (LP w (w2.alloc (.cells #[.string nm, .int .i64 x1, .int .i64 x2, .string mt, .string tg, .int .i64 x4, .int .i64 x5, .int .i64 x3] tR)) p m1 w2.heap.size) :=
    ⟨A2.out.alloc _, by rw [KC.out]; exact Blk.new w2 tR _, F2.out.alloc _, D2.out.alloc D2.out.size _⟩
  obtain ⟨m2, hm2⟩ := name_it w2.heap.size
  rw [hm2.out] at L3
  rw [hm2.out]
  obtain ⟨w3, hw3⟩ := name_it (w2.alloc (.cells #[.string nm, .int .i64 x1, .int .i64 x2, .string mt, .string tg, .int .i64 x4, .int .i64 x5, .int .i64 x3] tR))
  rw [hw3.out] at L3
  rw [hw3.out]
  clear hm2 hw3 A2 D2 F2
  have L4 := Lib.hid (L3.out.next (Below.refl _ _).drew)
  have CA : Hid (∀ W, LP w W p m1 m2 → W.cell? ⟨m1, 0, none⟩ = some (.string nm) ∧ W.cell? ⟨m1, 1, none⟩ = some (.int .i64 x1) ∧ W.cell? ⟨m1, 2, none⟩ = some (.int .i64 x2) ∧ W.cell? ⟨m1, 3, none⟩ = some (.string mt) ∧ W.cell? ⟨m1, 4, none⟩ = some (.string tg) ∧ W.cell? ⟨m1, 5, none⟩ = some (.int .i64 x4) ∧ W.cell? ⟨m1, 6, none⟩ = some (.int .i64 x5) ∧ W.cell? ⟨m1, 7, none⟩ = some (.int .i64 x3) ∧ W.cell? ⟨m2, 0, none⟩ = some (.string nm) ∧ W.cell? ⟨m2, 1, none⟩ = some (.int .i64 x1) ∧ W.cell? ⟨m2, 2, none⟩ = some (.int .i64 x2) ∧ W.cell? ⟨m2, 3, none⟩ = some (.string mt) ∧ W.cell? ⟨m2, 4, none⟩ = some (.string tg) ∧ W.cell? ⟨m2, 5, none⟩ = some (.int .i64 x4) ∧ W.cell? ⟨m2, 6, none⟩ = some (.int .i64 x5) ∧ W.cell? ⟨m2, 7, none⟩ = some (.int .i64 x3) ∧ Hid (LP w W p m1 m2)) := by
    intro W h
    have ha := h.a
    have hb := h.b
    rw [KC.out] at ha hb
    exact ⟨ha.cell 0, ha.cell 1, ha.cell 2, ha.cell 3, ha.cell 4, ha.cell 5, ha.cell 6, ha.cell 7, hb.cell 0, hb.cell 1, hb.cell 2, hb.cell 3, hb.cell 4, hb.cell 5, hb.cell 6, hb.cell 7, h⟩
  have GV2 : Hid (∀ W, LP w W p m1 m2 → Calls Tryd.prog 8 #[.agg #[.string nm, .int .i64 x1, .int .i64 x2, .string mt, .string tg, .int .i64 x4, .int .i64 x5, .int .i64 x3]] W fun x w' => x = .returned (.agg #[.string nm, .int .i64 x1, .int .i64 x2, .string mt, .string tg, .int .i64 x4, .int .i64 x5, .int .i64 x3]) ∧ LP w w' p m1 m2) := by
    intro W h
    exact (GV.out W).mono fun x w' ⟨he, hb⟩ => ⟨he, h.next hb⟩
  have AW2 : Hid (∀ W, LP w W p m1 m2 → Calls Tryd.prog 9 #[] W fun x w' => x = .returned (.bool true) ∧ LP w w' p m1 m2) := by
    intro W h
    exact (AW.out W h.env).mono fun x w' ⟨he, hb⟩ => ⟨he, h.next hb⟩
  clear GV AW
  go_region_held3 (fun W => W.cell? ⟨m1, 0, none⟩ = some (.string nm) ∧ W.cell? ⟨m1, 1, none⟩ = some (.int .i64 x1) ∧ W.cell? ⟨m1, 2, none⟩ = some (.int .i64 x2) ∧ W.cell? ⟨m1, 3, none⟩ = some (.string mt) ∧ W.cell? ⟨m1, 4, none⟩ = some (.string tg) ∧ W.cell? ⟨m1, 5, none⟩ = some (.int .i64 x4) ∧ W.cell? ⟨m1, 6, none⟩ = some (.int .i64 x5) ∧ W.cell? ⟨m1, 7, none⟩ = some (.int .i64 x3) ∧ W.cell? ⟨m2, 0, none⟩ = some (.string nm) ∧ W.cell? ⟨m2, 1, none⟩ = some (.int .i64 x1) ∧ W.cell? ⟨m2, 2, none⟩ = some (.int .i64 x2) ∧ W.cell? ⟨m2, 3, none⟩ = some (.string mt) ∧ W.cell? ⟨m2, 4, none⟩ = some (.string tg) ∧ W.cell? ⟨m2, 5, none⟩ = some (.int .i64 x4) ∧ W.cell? ⟨m2, 6, none⟩ = some (.int .i64 x5) ∧ W.cell? ⟨m2, 7, none⟩ = some (.int .i64 x3) ∧ Hid (LP w W p m1 m2))
    (first | exact CA.out _ L4.out | exact CA.out _ L5.out | go_keep)
    (first | (go_at_call 9; refine (AW2.out _ (by first | exact L4.out | exact Hid.out (by assumption))).mono ?_; rintro x w' ⟨rfl, L5⟩; have L5 := Lib.hid L5) | (go_at_call 8; refine (GV2.out _ (by first | exact Hid.out (by assumption) | exact L4.out)).mono ?_; rintro x w' ⟨rfl, L5⟩; have L5 := Lib.hid L5))
  all_goals (try (exfalso; omega))
  all_goals (go_wp2_with fail)
  all_goals go_ret
  all_goals exact ⟨rfl, L5.out.below⟩
end Go.Proofs.YtfgaiopkclogmaaDoor
