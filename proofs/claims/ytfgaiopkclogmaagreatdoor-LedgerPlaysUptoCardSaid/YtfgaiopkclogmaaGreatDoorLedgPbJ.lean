/- Contract of the document's ledger Print: an entry's line. -/
import Derived.Test.YtfgaiopkclogmaaGreatDoorLedgPaJ
import Derived.Test.YtfgaiopkclogmaaGreatDoorLedgZJ
import Derived.Test.YtfgaiopkclogmaaGreatDoorLedgXJ
namespace Go.Proofs.YtfgaiopkclogmaaGreatDoor
open Go Go.RowKit
set_option maxHeartbeats 4000000

/-- the call's own entry -/
structure PR (w W : World) (e : En) : Prop where
  box : Blk W w.heap.size tR (cellsE e)
  below : Below w.heap.size w W
theorem PR.next {w W W' : World} {e : En} (h : PR w W e) (hb : Below W.heap.size W W') : PR w W' e :=
  ⟨h.box.below hb h.box.lt, h.below.trans (hb.mono h.below.size)⟩
theorem rdig_pr {n : Int} {x : List UInt8} {w W : World} {e : En} (hx : Lib.itoa n = x) (h0 : -9223372036854775808 ≤ n) (h1 : n ≤ 9223372036854775807) (h : PR w W e) :
    Calls Tryz.prog 79 #[.int .i64 n] W fun r w' => r = .returned (.string (bs x)) ∧ PR w w' e := by
  subst hx
  refine (rdigits_any n W h0 h1).mono ?_
  rintro r w2 ⟨rfl, hb⟩
  exact ⟨rfl, h.next hb⟩
theorem rdig_prb {n : Int} {b : ByteArray} {w W : World} {e : En} (hx : bs (Lib.itoa n) = b) (h0 : -9223372036854775808 ≤ n) (h1 : n ≤ 9223372036854775807) (h : PR w W e) :
    Calls Tryz.prog 79 #[.int .i64 n] W fun r w' => r = .returned (.string b) ∧ PR w w' e := by
  subst hx
  exact rdig_pr rfl h0 h1 h
theorem bs_appendL (x y : List UInt8) : bs x ++ bs y = bs (x ++ y) := by
  apply L_inj.1
  simp [L, bs, ByteArray.data_append]
theorem line_sum (nm mt qt d1 d2 d3 d4 d5 : List UInt8) :
    bs nm ++ ⟨#[32, 99, 111, 110, 110, 61]⟩ ++ bs d1 ++ ⟨#[32, 110, 117, 109, 98, 101, 114, 61]⟩ ++ bs d2 ++ ⟨#[32, 116, 105, 99, 107, 61]⟩ ++ bs d3 ++ ⟨#[32]⟩ ++ bs mt ++ ⟨#[32]⟩ ++ bs qt ++ ⟨#[32]⟩ ++ bs d4 ++ ⟨#[32]⟩ ++ bs d5 =
    bs (nm ++ (conL ++ (d1 ++ (numbL ++ (d2 ++ (tickL ++ (d3 ++ ([32] ++ (mt ++ ([32] ++ (qt ++ ([32] ++ (d4 ++ ([32] ++ d5)))))))))))))) := by
  rw [show (⟨#[32, 99, 111, 110, 110, 61]⟩ : ByteArray) = bs conL from rfl, show (⟨#[32, 110, 117, 109, 98, 101, 114, 61]⟩ : ByteArray) = bs numbL from rfl, show (⟨#[32, 116, 105, 99, 107, 61]⟩ : ByteArray) = bs tickL from rfl, show (⟨#[32]⟩ : ByteArray) = bs [32] from rfl]
  simp only [bs_appendL, List.append_assoc]

set_option maxRecDepth 100000 in
theorem rprint_any (e : En) (w : World) (hi : intsE e) (h1 : e.name.length ≤ 1048576) (h2 : e.meth.length ≤ 1048576) (h3 : e.tgt.length ≤ 1048576) :
    Calls Tryz.prog 49 #[encE e] w fun x w' => x = .returned (printV e) ∧ Below w.heap.size w w' := by
  obtain ⟨V, hV⟩ := name_it (printV e)
  rw [hV.out]
  have NR := Lib.hid (fun wx => rright_any e wx (by omega) (by omega) (by omega))
  have NQ := fun (hf : e.tgt.all isFld = true) wx => rquote_any (bs e.tgt) wx (by rw [size_bs]; omega) (by rw [L_bs]; exact hf)
  rw [L_bs] at NQ
  have P0 : Hid (PR w (w.alloc (.cells (cellsE e) tR)) e) := ⟨Blk.new w tR (cellsE e), (Below.refl w.heap.size w).alloc (Nat.le_refl _) _⟩
  cases hr : rightE e with
  | false =>
    have hv : Hid (V = .tuple #[.string ⟨#[]⟩, .int .i64 280]) := by rw [← hV.out]; unfold printV Hid; rw [hr]; rfl
    rw [hr] at NR
    clear hV NQ
    unfold encE at NR ⊢
    unfold cellsE at P0
    go_enter Tryz.func49, Tryz.ntmps49
    go_wp2_with fail
    refine (NR.out _).mono ?_; rintro x wa ⟨rfl, ba⟩
    have P1 := Lib.hid (P0.out.next ba)
    clear ba
    go_wp2_with fail
    go_ret2
    exact ⟨by rw [hv.out]; rfl, P1.out.below⟩
  | true =>
    have hv : Hid (V = .tuple #[.string (bs (printL e)), .int .i64 0]) := by rw [← hV.out]; unfold printV Hid; rw [hr]; rfl
    obtain ⟨hn, _, _, hT⟩ := rightE_facts hr
    have NQ := Lib.hid (NQ (tgt_fld hT.1))
    rw [hr] at NR
    clear hV hT hr hn
    have hvp := hv.out
    unfold printL at hvp
    have l1 := Lib.itoa_length_le e.conn hi.1.1 hi.1.2
    have l2 := Lib.itoa_length_le e.numb hi.2.1.1 hi.2.1.2
    have l3 := Lib.itoa_length_le e.tick hi.2.2.1.1 hi.2.2.1.2
    have l4 := Lib.itoa_length_le e.stat hi.2.2.2.1.1 hi.2.2.2.1.2
    have l5 := Lib.itoa_length_le e.byts hi.2.2.2.2.1 hi.2.2.2.2.2
    have hq : (quoteL e.tgt).length ≤ 2097154 := by
      have := esc_len e.tgt
      unfold quoteL; rw [List.length_append, List.length_append]; show 1 + _ + 1 ≤ _; omega
    obtain ⟨d1, hd1⟩ := name_it (Lib.itoa e.conn)
    obtain ⟨d2, hd2⟩ := name_it (Lib.itoa e.numb)
    obtain ⟨d3, hd3⟩ := name_it (Lib.itoa e.tick)
    obtain ⟨d4, hd4⟩ := name_it (Lib.itoa e.stat)
    obtain ⟨d5, hd5⟩ := name_it (Lib.itoa e.byts)
    obtain ⟨qt, hqt⟩ := name_it (quoteL e.tgt)
    rw [hd1.out] at l1 hvp
    rw [hd2.out] at l2 hvp
    rw [hd3.out] at l3 hvp
    rw [hd4.out] at l4 hvp
    rw [hd5.out] at l5 hvp
    rw [hqt.out] at hq NQ hvp
    rw [← line_sum] at hvp
    have HVP := Lib.hid hvp
    clear hv hvp hqt
    obtain ⟨nm, hnm⟩ := name_it (bs e.name)
    obtain ⟨mt, hmt⟩ := name_it (bs e.meth)
    obtain ⟨tg, htg⟩ := name_it (bs e.tgt)
    obtain ⟨b1, hb1⟩ := name_it (bs d1)
    obtain ⟨b2, hb2⟩ := name_it (bs d2)
    obtain ⟨b3, hb3⟩ := name_it (bs d3)
    obtain ⟨b4, hb4⟩ := name_it (bs d4)
    obtain ⟨b5, hb5⟩ := name_it (bs d5)
    obtain ⟨bq, hbq⟩ := name_it (bs qt)
    rw [hnm.out, hmt.out, hb1.out, hb2.out, hb3.out, hb4.out, hb5.out, hbq.out] at HVP
    rw [hbq.out] at NQ
    have z0 : nm.size ≤ 1048576 := by rw [← hnm.out, size_bs]; exact h1
    have z1 : b1.size ≤ 21 := by rw [← hb1.out, size_bs]; exact l1
    have z2 : b2.size ≤ 21 := by rw [← hb2.out, size_bs]; exact l2
    have z3 : b3.size ≤ 21 := by rw [← hb3.out, size_bs]; exact l3
    have z4 : b4.size ≤ 21 := by rw [← hb4.out, size_bs]; exact l4
    have z5 : b5.size ≤ 21 := by rw [← hb5.out, size_bs]; exact l5
    have z6 : mt.size ≤ 1048576 := by rw [← hmt.out, size_bs]; exact h2
    have z7 : bq.size ≤ 2097154 := by rw [← hbq.out, size_bs]; exact hq
    have HZ := Lib.hid (And.intro z0 (And.intro z1 (And.intro z2 (And.intro z3 (And.intro z4 (And.intro z5 (And.intro z6 z7)))))))
    have HI := Lib.hid hi
    have q1 := fun wx (i : Nat) (h : PR w wx e) => h
    clear hi l1 l2 l3 l4 l5 hq h1 h2 h3 z0 z1 z2 z3 z4 z5 z6 z7 q1
    have D1 : Hid (bs (Lib.itoa e.conn) = b1) := by unfold Hid; rw [hd1.out]; exact hb1.out
    have D2 : Hid (bs (Lib.itoa e.numb) = b2) := by unfold Hid; rw [hd2.out]; exact hb2.out
    have D3 : Hid (bs (Lib.itoa e.tick) = b3) := by unfold Hid; rw [hd3.out]; exact hb3.out
    have D4 : Hid (bs (Lib.itoa e.stat) = b4) := by unfold Hid; rw [hd4.out]; exact hb4.out
    have D5 : Hid (bs (Lib.itoa e.byts) = b5) := by unfold Hid; rw [hd5.out]; exact hb5.out
    have k0 : (cellsE e)[0]? = some (.string nm) := by rw [← hnm.out]; rfl
    have k3 : (cellsE e)[3]? = some (.string mt) := by rw [← hmt.out]; rfl
    have k4 : (cellsE e)[4]? = some (.string tg) := by rw [← htg.out]; rfl
    have K0 := Lib.hid k0
    have K3 := Lib.hid k3
    have K4 := Lib.hid k4
    clear k0 k3 k4 hd1 hd2 hd3 hd4 hd5 hb1 hb2 hb3 hb4 hb5 hbq
    unfold encE at NR ⊢
    rw [hnm.out, hmt.out, htg.out] at NR ⊢
    rw [htg.out] at NQ
    have PX := P0
    unfold cellsE at P0
    rw [hnm.out, hmt.out, htg.out] at P0
    clear hnm hmt htg
    go_enter Tryz.func49, Tryz.ntmps49
    go_wp2_with fail
    refine (NR.out _).mono ?_; rintro x wa ⟨rfl, ba⟩
    have P1 := Lib.hid (P0.out.next ba)
    clear ba P0 PX NR
    have c4 : wa.cell? ⟨w.heap.size, 4, none⟩ = some (.string tg) := (P1.out.box.cell 4).trans K4.out
    go_wp2_with fail
    refine (NQ.out _).mono ?_; rintro x wb ⟨rfl, bb⟩
    have P2 := Lib.hid (P1.out.next bb)
    clear bb P1 NQ c4
    go_wp2_with fail
    have P3 := Lib.hid (P2.out.next (Below.refl _ _).drew)
    obtain ⟨z0, z1, z2, z3, z4, z5, z6, z7⟩ := HZ.out
    obtain ⟨⟨i1, i2⟩, ⟨i3, i4⟩, ⟨i5, i6⟩, ⟨i7, i8⟩, ⟨i9, i10⟩⟩ := HI.out
    clear HI
    have s1 : ¬ 9223372036854775807 < nm.size + 6 := by omega
    have s2 : ¬ 9223372036854775807 < nm.size + 6 + b1.size := by omega
    have s3 : ¬ 9223372036854775807 < nm.size + 6 + b1.size + 8 := by omega
    have s4 : ¬ 9223372036854775807 < nm.size + 6 + b1.size + 8 + b2.size := by omega
    have s5 : ¬ 9223372036854775807 < nm.size + 6 + b1.size + 8 + b2.size + 6 := by omega
    have s6 : ¬ 9223372036854775807 < nm.size + 6 + b1.size + 8 + b2.size + 6 + b3.size := by omega
    have s7 : ¬ 9223372036854775807 < nm.size + 6 + b1.size + 8 + b2.size + 6 + b3.size + 1 := by omega
    have s8 : ¬ 9223372036854775807 < nm.size + 6 + b1.size + 8 + b2.size + 6 + b3.size + 1 + mt.size := by omega
    have s9 : ¬ 9223372036854775807 < nm.size + 6 + b1.size + 8 + b2.size + 6 + b3.size + 1 + mt.size + 1 := by omega
    have s10 : ¬ 9223372036854775807 < nm.size + 6 + b1.size + 8 + b2.size + 6 + b3.size + 1 + mt.size + 1 + bq.size := by omega
    have s11 : ¬ 9223372036854775807 < nm.size + 6 + b1.size + 8 + b2.size + 6 + b3.size + 1 + mt.size + 1 + bq.size + 1 := by omega
    have s12 : ¬ 9223372036854775807 < nm.size + 6 + b1.size + 8 + b2.size + 6 + b3.size + 1 + mt.size + 1 + bq.size + 1 + b4.size := by omega
    have s13 : ¬ 9223372036854775807 < nm.size + 6 + b1.size + 8 + b2.size + 6 + b3.size + 1 + mt.size + 1 + bq.size + 1 + b4.size + 1 := by omega
    have s14 : ¬ 9223372036854775807 < nm.size + 6 + b1.size + 8 + b2.size + 6 + b3.size + 1 + mt.size + 1 + bq.size + 1 + b4.size + 1 + b5.size := by omega
    clear z0 z1 z2 z3 z4 z5 z6 z7
    go_region_held3 (fun w' => w'.cell? ⟨w.heap.size, 0, none⟩ = some (.string nm) ∧ w'.cell? ⟨w.heap.size, 1, none⟩ = some (.int .i64 e.conn) ∧ w'.cell? ⟨w.heap.size, 2, none⟩ = some (.int .i64 e.numb) ∧ w'.cell? ⟨w.heap.size, 3, none⟩ = some (.string mt) ∧ w'.cell? ⟨w.heap.size, 5, none⟩ = some (.int .i64 e.stat) ∧ w'.cell? ⟨w.heap.size, 6, none⟩ = some (.int .i64 e.byts) ∧ w'.cell? ⟨w.heap.size, 7, none⟩ = some (.int .i64 e.tick) ∧ Hid (PR w w' e))
      (first | exact ⟨(P3.out.box.cell 0).trans K0.out, P3.out.box.cell 1, P3.out.box.cell 2, (P3.out.box.cell 3).trans K3.out, P3.out.box.cell 5, P3.out.box.cell 6, P3.out.box.cell 7, P3⟩ | exact ⟨(P4.out.box.cell 0).trans K0.out, P4.out.box.cell 1, P4.out.box.cell 2, (P4.out.box.cell 3).trans K3.out, P4.out.box.cell 5, P4.out.box.cell 6, P4.out.box.cell 7, P4⟩ | go_keep)
      (first | (go_at_call 79; refine (rdig_prb (by first | exact D1.out | exact D2.out | exact D3.out | exact D4.out | exact D5.out) (by assumption) (by assumption) (by first | exact P3.out | exact Hid.out (by assumption))).mono ?_; rintro e w' ⟨rfl, P4⟩; have P4 := Lib.hid P4))
    all_goals (try (exfalso; omega))
    go_wp2_with fail
    go_ret2
    exact ⟨by rw [HVP.out]; rfl, P4.out.below⟩
end Go.Proofs.YtfgaiopkclogmaaGreatDoor
