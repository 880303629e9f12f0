/- LedgerPrints: the walk of the law: for every entry the law answers true. -/
import Derived.Test.YtfgaiopkclogmaaDoorLedgLb
import Derived.Test.YtfgaiopkclogmaaDoorLedgS
namespace Go.Proofs.YtfgaiopkclogmaaDoor
open Go Go.RowKit
set_option maxHeartbeats 4000000

theorem parses_print {e : En} (h : okE e) : parV (printL e) = .tuple #[encE e, .int .i64 0, .int .i64 0] := by
  have hi := h.ints
  obtain ⟨h1, h2, h3⟩ := parse_print h.right ⟨by unfold mostI; exact hi.1.2, by unfold mostI; exact hi.2.1.2, by unfold mostI; exact hi.2.2.1.2, by unfold mostI; exact hi.2.2.2.2.2⟩
  have hb : parsesB (printL e) = true := by
    unfold parsesB; rw [h2, h3, decide_eq_true rfl]; rfl
  rw [parV_yes hb, h1]
theorem line_len {e : En} (h : okE e) : (printL e).length ≤ 1073741824 := by
  have l1 := Lib.itoa_length_le e.conn h.ints.1.1 h.ints.1.2
  have l2 := Lib.itoa_length_le e.numb h.ints.2.1.1 h.ints.2.1.2
  have l3 := Lib.itoa_length_le e.tick h.ints.2.2.1.1 h.ints.2.2.1.2
  have l4 := Lib.itoa_length_le e.stat h.ints.2.2.2.1.1 h.ints.2.2.2.1.2
  have l5 := Lib.itoa_length_le e.byts h.ints.2.2.2.2.1 h.ints.2.2.2.2.2
  have h1 := h.n1
  have h2 := h.n2
  have hq : (quoteL e.tgt).length ≤ 2097154 := by
    have h3 := h.n3
    have := esc_len e.tgt
    unfold quoteL; rw [List.length_append, List.length_append]; show 1 + _ + 1 ≤ _; omega
  unfold printL
  simp only [List.length_append, conL, numbL, tickL, List.length_cons, List.length_nil]
  omega

set_option maxRecDepth 100000 in
theorem lawPrints_any (e : En) (w : World) (hE : EnvL w) (hi : intsE e) (h1 : e.name.length ≤ 1048576) (h2 : e.meth.length ≤ 1048576) (h3 : e.tgt.length ≤ 1048576) :
    Calls Tryd.prog 3 #[encE e] w fun x w' => x = .returned (.bool true) ∧ Below w.heap.size w w' := by
  have PR0 := fun wx hx => print_any e wx hx hi h1 h2 h3
  have RP0 := fun wx => rprint_any e wx hi h1 h2 h3
  have GV := Lib.hid (given_any e)
  have AW := Lib.hid (fun wx hx => awake_any wx hx)
  have B0 := Lib.hid ((Below.refl w.heap.size w).alloc (Nat.le_refl _) (.cells (cellsE e) tE))
  have A0 := Lib.hid (Blk.new w tE (cellsE e))
  have F0 := Lib.hid (hE.alloc (.cells (cellsE e) tE))
  clear hE
  cases hr : rightE e with
  | false =>
    have hv : printV e = .tuple #[.string ⟨#[]⟩, .int .i64 280] := by unfold printV; rw [hr]; rfl
    rw [hv] at PR0 RP0
    have PRT := Lib.hid PR0
    have RPT := Lib.hid RP0
    clear PR0 RP0 hv hr hi h1 h2 h3
    have CE : Hid (∀ W, Blk W w.heap.size tE (cellsE e) → W.cell? ⟨w.heap.size, 0, none⟩ = some (.string (bs e.name)) ∧ W.cell? ⟨w.heap.size, 1, none⟩ = some (.int .i64 e.conn) ∧ W.cell? ⟨w.heap.size, 2, none⟩ = some (.int .i64 e.numb) ∧ W.cell? ⟨w.heap.size, 3, none⟩ = some (.string (bs e.meth)) ∧ W.cell? ⟨w.heap.size, 4, none⟩ = some (.string (bs e.tgt)) ∧ W.cell? ⟨w.heap.size, 5, none⟩ = some (.int .i64 e.stat) ∧ W.cell? ⟨w.heap.size, 6, none⟩ = some (.int .i64 e.byts) ∧ W.cell? ⟨w.heap.size, 7, none⟩ = some (.int .i64 e.tick)) :=
      fun W h => ⟨h.cell 0, h.cell 1, h.cell 2, h.cell 3, h.cell 4, h.cell 5, h.cell 6, h.cell 7⟩
    unfold cellsE at B0 F0
    have A0' : Hid (Blk (w.alloc (.cells #[.string (bs e.name), .int .i64 e.conn, .int .i64 e.numb, .string (bs e.meth), .string (bs e.tgt), .int .i64 e.stat, .int .i64 e.byts, .int .i64 e.tick] tE)) w.heap.size tE (cellsE e)) := A0
    clear A0
    unfold encE at PRT RPT GV ⊢
    go_enter Tryd.func3, Tryd.ntmps3
    go_wp2_with fail
    refine (PRT.out _ F0.out).mono ?_; rintro x w1 ⟨rfl, b1⟩
    have A1 := Lib.hid (A0'.out.below b1 A0'.out.lt)
    have D1 := Lib.hid (B0.out.trans (b1.mono B0.out.size))
    have F1 := Lib.hid (F0.out.next b1)
    clear b1 A0' B0 F0 PRT
    obtain ⟨c0, c1, c2, c3, c4, c5, c6, c7⟩ := CE.out _ A1.out
    go_wp2_with fail
    refine (GV.out _).mono ?_; rintro x w2 ⟨rfl, b2⟩
    have A2 := Lib.hid (A1.out.below b2 A1.out.lt)
    have D2 := Lib.hid (D1.out.trans (b2.mono D1.out.size))
    have F2 := Lib.hid (F1.out.next b2)
    clear b2 A1 D1 F1 GV c0 c1 c2 c3 c4 c5 c6 c7
    go_wp2_with fail
    refine (RPT.out _).mono ?_; rintro x w3 ⟨rfl, b3⟩
    have D3 := Lib.hid (D2.out.trans (b3.mono D2.out.size))
    have F3 := Lib.hid (F2.out.next b3)
    clear b3 A2 D2 F2 RPT
    go_wp2_with fail
    refine (AW.out _ F3.out).mono ?_; rintro x w4 ⟨rfl, b4⟩
    have D4 := Lib.hid (D3.out.trans (b4.mono D3.out.size))
    clear b4 D3 F3 AW
    go_wp2_with fail
    go_ret
    exact ⟨rfl, D4.out⟩
  | true =>
    have hok : okE e := ⟨hr, hi⟩
    rw [hok.print] at PR0 RP0
    have PS0 := fun wx hx => parse_any (bs (printL e)) wx hx (by rw [size_bs]; exact line_len hok)
    rw [L_bs, parses_print hok] at PS0
    obtain ⟨pl, hpl⟩ := name_it (bs (printL e))
    rw [hpl.out] at PR0 RP0 PS0
    have PRT := Lib.hid PR0
    have RPT := Lib.hid RP0
    have PST := Lib.hid PS0
    clear PR0 RP0 PS0 hpl hok hr hi h1 h2 h3
    obtain ⟨nm, hnm⟩ := name_it (bs e.name)
    obtain ⟨mt, hmt⟩ := name_it (bs e.meth)
    obtain ⟨tg, htg⟩ := name_it (bs e.tgt)
    obtain ⟨x1, hx1⟩ := name_it e.conn
    obtain ⟨x2, hx2⟩ := name_it e.numb
    obtain ⟨x3, hx3⟩ := name_it e.tick
    obtain ⟨x4, hx4⟩ := name_it e.stat
    obtain ⟨x5, hx5⟩ := name_it e.byts
    have CE : Hid (∀ W, Blk W w.heap.size tE (cellsE e) → W.cell? ⟨w.heap.size, 0, none⟩ = some (.string nm) ∧ W.cell? ⟨w.heap.size, 1, none⟩ = some (.int .i64 x1) ∧ W.cell? ⟨w.heap.size, 2, none⟩ = some (.int .i64 x2) ∧ W.cell? ⟨w.heap.size, 3, none⟩ = some (.string mt) ∧ W.cell? ⟨w.heap.size, 4, none⟩ = some (.string tg) ∧ W.cell? ⟨w.heap.size, 5, none⟩ = some (.int .i64 x4) ∧ W.cell? ⟨w.heap.size, 6, none⟩ = some (.int .i64 x5) ∧ W.cell? ⟨w.heap.size, 7, none⟩ = some (.int .i64 x3)) := by
      intro W h
      rw [← hnm.out, ← hmt.out, ← htg.out, ← hx1.out, ← hx2.out, ← hx3.out, ← hx4.out, ← hx5.out]
      exact ⟨h.cell 0, h.cell 1, h.cell 2, h.cell 3, h.cell 4, h.cell 5, h.cell 6, h.cell 7⟩
    have A0' : Hid (Blk (w.alloc (.cells #[.string (bs e.name), .int .i64 e.conn, .int .i64 e.numb, .string (bs e.meth), .string (bs e.tgt), .int .i64 e.stat, .int .i64 e.byts, .int .i64 e.tick] tE)) w.heap.size tE (cellsE e)) := A0
    clear A0
    unfold cellsE at B0 F0
    unfold encE at PRT RPT PST GV ⊢
    rw [hnm.out, hmt.out, htg.out, hx1.out, hx2.out, hx3.out, hx4.out, hx5.out] at PRT RPT PST GV B0 F0 A0' ⊢
    clear hnm hmt htg hx1 hx2 hx3 hx4 hx5
    go_enter Tryd.func3, Tryd.ntmps3
    go_wp2_with fail
    refine (PRT.out _ F0.out).mono ?_; rintro x w1 ⟨rfl, b1⟩
    have A1 := Lib.hid (A0'.out.below b1 A0'.out.lt)
    have D1 := Lib.hid (B0.out.trans (b1.mono B0.out.size))
    have F1 := Lib.hid (F0.out.next b1)
    clear b1 A0' B0 F0 PRT
    obtain ⟨c0, c1, c2, c3, c4, c5, c6, c7⟩ := CE.out _ A1.out
    go_wp2_with fail
    refine (GV.out _).mono ?_; rintro x w2 ⟨rfl, b2⟩
    have A2 := Lib.hid (A1.out.below b2 A1.out.lt)
    have D2 := Lib.hid (D1.out.trans (b2.mono D1.out.size))
    have F2 := Lib.hid (F1.out.next b2)
    clear b2 A1 D1 F1 GV c0 c1 c2 c3 c4 c5 c6 c7
    go_wp2_with fail
    refine (RPT.out _).mono ?_; rintro x w3 ⟨rfl, b3⟩
    have A3 := Lib.hid (A2.out.below b3 A2.out.lt)
    have D3 := Lib.hid (D2.out.trans (b3.mono D2.out.size))
    have F3 := Lib.hid (F2.out.next b3)
    clear b3 A2 D2 F2 RPT
    go_wp2_with fail
    refine (AW.out _ F3.out).mono ?_; rintro x w4 ⟨rfl, b4⟩
    have A4 := Lib.hid (A3.out.below b4 A3.out.lt)
    have D4 := Lib.hid (D3.out.trans (b4.mono D3.out.size))
    have F4 := Lib.hid (F3.out.next b4)
    clear b4 A3 D3 F3 AW
    go_wp2_with fail
    refine (PST.out _ F4.out.env).mono ?_; rintro x w5 ⟨rfl, b5⟩
    have A5 := Lib.hid (A4.out.below b5 A4.out.lt)
    have D5 := Lib.hid (D4.out.trans (b5.mono D4.out.size))
    clear b5 A4 D4 F4 PST
    have A6 := Lib.hid (A5.out.alloc (.cells #[.string nm, .int .i64 x1, .int .i64 x2, .string mt, .string tg, .int .i64 x4, .int .i64 x5, .int .i64 x3] tE))
    have D6 := Lib.hid (D5.out.alloc D5.out.size (.cells #[.string nm, .int .i64 x1, .int .i64 x2, .string mt, .string tg, .int .i64 x4, .int .i64 x5, .int .i64 x3] tE))
    obtain ⟨c0, c1, c2, c3, c4, c5, c6, c7⟩ := CE.out _ A6.out
    obtain ⟨k0, k1, k2, k3, k4, k5, k6, k7⟩ := CE.out _ A5.out
    have hlt := A5.out.lt
    have hne : ¬ w.heap.size = w5.heap.size := by omega
    go_wp2_with fail
    go_ret
    exact ⟨rfl, D6.out⟩
end Go.Proofs.YtfgaiopkclogmaaDoor
