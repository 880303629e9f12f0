/- LedgerNil: the walk of the law: what a book that is nil answers. -/
import Derived.Test.YtfgaiopkclogmaaGreatDoorLedgDeJ
import Derived.Test.YtfgaiopkclogmaaGreatDoorLedgTcJ
import Derived.Test.YtfgaiopkclogmaaGreatDoorLedgCnJ
namespace Go.Proofs.YtfgaiopkclogmaaGreatDoor
open Go Go.RowKit Go.MuLone
set_option maxHeartbeats 8000000

set_option maxRecDepth 100000 in
theorem eqArr2 (a b c d e : Int) (w : World) : (Op.equalIn 9999 63 (.agg #[.int .i64 a, .int .i64 b, .int .i64 c, .int .i64 d, .int .i64 e]) (.agg #[.int .i64 a, .int .i64 b, .int .i64 c, .int .i64 d, .int .i64 e])).run Tryz.prog w = .ok true w := by
  have u3 := Tryz.underlying3
  have a3 := Tryz.isAgg3
  have z3 := Tryz.sizeOf3
  rw [show (9999 : Nat) = 9998 + 1 from rfl, Op.equalIn]
  simp only [Sem.run_bind, run_underlying Tryz.underlying63, Result.andThen_ok]
  simp only [Std.Legacy.Range.forIn_eq_forIn_range', Std.Legacy.Range.size, Nat.sub_zero, Nat.add_sub_cancel, Nat.div_one, List.range'_succ, List.range'_zero, List.forIn_cons, List.forIn_nil]
  go_simp
  try simp
/-- where the law stands: what came in in its box, what the nil book told in another -/
structure NS (w W : World) (e : En) (m : Nat) : Prop where
  a : Blk W w.heap.size tE (cellsE e)
  b : Blk W m tE #[.string ⟨#[]⟩, .int .i64 0, .int .i64 0, .string ⟨#[]⟩, .string ⟨#[]⟩, .int .i64 0, .int .i64 0, .int .i64 0]
  below : Below w.heap.size w W
theorem NS.next {w W W' : World} {e : En} {m : Nat} (h : NS w W e m) (hb : Below W.heap.size W W') : NS w W' e m := ⟨h.a.below hb h.a.lt, h.b.below hb h.b.lt, h.below.trans (hb.mono h.below.size)⟩

set_option maxRecDepth 100000 in
theorem lawNil_any (e : En) (n : Int) (w : World) (hZ : EnvZ w) :
    Calls Tryz.prog 7 #[encE e, .int .i64 n] w fun x w' => x = .returned (.bool true) ∧ Below w.heap.size w w' := by
  have NL := Lib.hid (ent_nil w)
  have H5 := Lib.hid hZ.l.env.n
  have HZ := Lib.hid hZ
  have OKN : Hid (∀ x ∈ ([] : List En), okE x) := fun x hx => by cases hx
  have z1 : ∀ (W : World) (o : Obj), (W.alloc o).heap.size = W.heap.size + 1 := fun W o => Array.size_push ..
  have B0 : Hid (Below w.heap.size w (w.alloc (.cells (cellsE e) tE))) := (Below.refl _ _).alloc (Nat.le_refl _) _
  have K0 := Lib.hid (Blk.new w tE (cellsE e))
  have EN := Lib.hid (fun W hW => entry_ent (.pointer none) [] n W (NL.out.next hW) (by decide))
  have ADN := Lib.hid (add_nil e)
  rw [entV_no (by simp)] at EN
  unfold noS at EN
  unfold visE at ADN
  unfold encE
  unfold cellsE at B0 K0
  clear hZ
  go_enter Tryz.func7, Tryz.ntmps7
  go_wp2_with fail
  refine (EN.out _ B0.out).mono ?_; rintro x w1 ⟨rfl, b1⟩
  have K1 := Lib.hid (K0.out.below b1 K0.out.lt)
  have B1 := Lib.hid (B0.out.trans (b1.mono B0.out.size))
  clear b1 K0 B0 EN
  go_wp2_with fail
  have S1 : Hid (NS w (w1.alloc (.cells #[.string ⟨#[]⟩, .int .i64 0, .int .i64 0, .string ⟨#[]⟩, .string ⟨#[]⟩, .int .i64 0, .int .i64 0, .int .i64 0] tE)) e w1.heap.size) := ⟨K1.out.alloc _, Blk.new w1 tE _, B1.out.alloc B1.out.size _⟩
  obtain ⟨m, hm⟩ := name_it w1.heap.size
  obtain ⟨w2, hw2⟩ := name_it (w1.alloc (.cells #[.string ⟨#[]⟩, .int .i64 0, .int .i64 0, .string ⟨#[]⟩, .string ⟨#[]⟩, .int .i64 0, .int .i64 0, .int .i64 0] tE))
  rw [hm.out, hw2.out] at S1
  rw [hm.out, hw2.out]
  clear K1 B1 hm hw2
  have ON := Lib.hid (only_any (.pointer none) [] fil0 w2 (HZ.out.next S1.out.below) (NL.out.next S1.out.below) OKN.out (by decide) (by decide))
  rw [encF0] at ON
  refine ON.out.mono ?_; rintro x w3 ⟨⟨o, vo, rfl, hbo, ho1, ho2⟩, b3⟩
  have S3 := Lib.hid (S1.out.next b3)
  have O3 := Lib.hid (show Bok w3 o vo [] from hbo)
  clear b3 hbo ho1 ho2 ON S1
  go_wp2_with fail
  refine (awake_any w3 (HZ.out.next S3.out.below).l).mono ?_; rintro x w4 ⟨rfl, b4⟩
  have S4 := Lib.hid (S3.out.next b4)
  have O4 := Lib.hid (O3.out.next b4)
  clear b4 S3 O3
  have a0 : w4.cell? ⟨w.heap.size, 0, none⟩ = some (.string (bs e.name)) := S4.out.a.cell 0
  have a1 : w4.cell? ⟨w.heap.size, 1, none⟩ = some (.int .i64 e.conn) := S4.out.a.cell 1
  have a2 : w4.cell? ⟨w.heap.size, 2, none⟩ = some (.int .i64 e.numb) := S4.out.a.cell 2
  have a3 : w4.cell? ⟨w.heap.size, 3, none⟩ = some (.string (bs e.meth)) := S4.out.a.cell 3
  have a4 : w4.cell? ⟨w.heap.size, 4, none⟩ = some (.string (bs e.tgt)) := S4.out.a.cell 4
  have a5 : w4.cell? ⟨w.heap.size, 5, none⟩ = some (.int .i64 e.stat) := S4.out.a.cell 5
  have a6 : w4.cell? ⟨w.heap.size, 6, none⟩ = some (.int .i64 e.byts) := S4.out.a.cell 6
  have a7 : w4.cell? ⟨w.heap.size, 7, none⟩ = some (.int .i64 e.tick) := S4.out.a.cell 7
  go_wp2_with fail
  refine (ADN.out w4).mono ?_; rintro x w5 ⟨rfl, b5⟩
  have S5 := Lib.hid (S4.out.next b5)
  have O5 := Lib.hid (O4.out.next b5)
  clear b5 S4 O4 a0 a1 a2 a3 a4 a5 a6 a7
  go_wp2_with fail
  refine (len_nil w5).mono ?_; rintro x w' ⟨rfl, rfl⟩
  have a0 : w5.cell? ⟨m, 0, none⟩ = some (.string ⟨#[]⟩) := S5.out.b.cell 0
  have a1 : w5.cell? ⟨m, 1, none⟩ = some (.int .i64 0) := S5.out.b.cell 1
  have a2 : w5.cell? ⟨m, 2, none⟩ = some (.int .i64 0) := S5.out.b.cell 2
  have a3 : w5.cell? ⟨m, 3, none⟩ = some (.string ⟨#[]⟩) := S5.out.b.cell 3
  have a4 : w5.cell? ⟨m, 4, none⟩ = some (.string ⟨#[]⟩) := S5.out.b.cell 4
  have a5 : w5.cell? ⟨m, 5, none⟩ = some (.int .i64 0) := S5.out.b.cell 5
  have a6 : w5.cell? ⟨m, 6, none⟩ = some (.int .i64 0) := S5.out.b.cell 6
  have a7 : w5.cell? ⟨m, 7, none⟩ = some (.int .i64 0) := S5.out.b.cell 7
  go_wp2_with fail
  refine (lines_ent (.pointer none) [] w5 (HZ.out.next S5.out.below).l (NL.out.next S5.out.below) OKN.out (by decide)).mono ?_; rintro x w6 ⟨⟨v6, rfl, hv6⟩, b6⟩
  have S6 := Lib.hid (S5.out.next b6)
  have O6 := Lib.hid (O5.out.next b6)
  obtain ⟨s6, c6, hv6'⟩ := row_slice hv6
  subst hv6'
  clear b6 hv6 S5 O5 a0 a1 a2 a3 a4 a5 a6 a7
  go_wp2_with fail
  refine (top_any (.pointer none) [] n w6 (HZ.out.next S6.out.below) (NL.out.next S6.out.below) OKN.out (by decide)).mono ?_; rintro x w7 ⟨⟨v7, rfl, hv7⟩, b7⟩
  have S7 := Lib.hid (S6.out.next b7)
  have O7 := Lib.hid (O6.out.next b7)
  have ht : topL [] n = [] := by unfold topL topC; simp [pathsL, cntF, srtT]
  rw [ht] at hv7
  obtain ⟨s7, c7, hv7'⟩ := row_slice hv7
  subst hv7'
  clear b7 hv7 S6 O6 ht
  go_wp2_with fail
  have TT := Lib.hid (totals_any (.pointer none) [] w7 (HZ.out.next S7.out.below) (NL.out.next S7.out.below) OKN.out (by decide))
  rw [show totL [] = #[.int .i64 0, .int .i64 0, .int .i64 0, .int .i64 0, .int .i64 0, .int .i64 0, .int .i64 0, .int .i64 0, .int .i64 0] from rfl] at TT
  have hEA := eqArr2
  refine TT.out.mono ?_; rintro x w8 ⟨rfl, b8⟩
  have S8 := Lib.hid (S7.out.next b8)
  have O8 := Lib.hid (O7.out.next b8)
  clear b8 S7 O7 TT
  go_wp2_with fail
  refine (len_any o vo [] w8 O8.out).mono ?_; rintro x w9 ⟨rfl, rfl⟩
  go_wp2_with fail
  go_ret
  exact ⟨rfl, S8.out.below⟩
end Go.Proofs.YtfgaiopkclogmaaGreatDoor
