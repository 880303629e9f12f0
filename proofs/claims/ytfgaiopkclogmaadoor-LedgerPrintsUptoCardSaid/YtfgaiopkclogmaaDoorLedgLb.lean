/- LedgerOnce: the walk of the law: for every text of at most 1048576 bytes the law answers true. -/
import Derived.Test.YtfgaiopkclogmaaDoorLedgLa
import Derived.Test.YtfgaiopkclogmaaDoorLedgR
namespace Go.Proofs.YtfgaiopkclogmaaDoor
open Go Go.RowKit
set_option maxHeartbeats 4000000

theorem parse_ints (S : List UInt8) (h : (parseEnd S).2 = false) : intsE (parsedE S) := by
  obtain ⟨hN, _, o1, o2⟩ := numS_step (st := pN S) h
  obtain ⟨hM, _⟩ := litS_step (st := (pM S).2) hN
  obtain ⟨hL, _, m1, m2⟩ := stS_step (st := pL S) hM
  obtain ⟨hK, _⟩ := litS_step (st := (pK S).2) hL
  obtain ⟨hJ, _, _, _, _⟩ := tgtS_step (st := pJ S) hK
  obtain ⟨hI, _⟩ := litS_step (st := pI S) hJ
  obtain ⟨hH, _⟩ := runS_step (st := pH S) hI
  obtain ⟨hG, _⟩ := litS_step (st := (pG S).2) hH
  obtain ⟨hF, _, g1, g2⟩ := numS_step (st := pF S) hG
  obtain ⟨hE, _⟩ := litS_step (st := (pE S).2) hF
  obtain ⟨hD, _, e1, e2⟩ := numS_step (st := pD S) hE
  obtain ⟨hC, _⟩ := litS_step (st := (pC S).2) hD
  obtain ⟨hB, _, c1, c2⟩ := numS_step (st := pB S) hC
  unfold mostI at o2 g2 e2 c2
  have c1' : 0 ≤ (parsedE S).conn := c1
  have c2' : (parsedE S).conn ≤ 9223372036854775807 := c2
  have e1' : 0 ≤ (parsedE S).numb := e1
  have e2' : (parsedE S).numb ≤ 9223372036854775807 := e2
  have g1' : 0 ≤ (parsedE S).tick := g1
  have g2' : (parsedE S).tick ≤ 9223372036854775807 := g2
  have m1' : 100 ≤ (parsedE S).stat := m1
  have m2' : (parsedE S).stat ≤ 599 := m2
  have o1' : 0 ≤ (parsedE S).byts := o1
  have o2' : (parsedE S).byts ≤ 9223372036854775807 := o2
  exact ⟨⟨by omega, c2'⟩, ⟨by omega, e2'⟩, ⟨by omega, g2'⟩, ⟨by omega, by omega⟩, ⟨by omega, o2'⟩⟩
theorem parV_no {S : List UInt8} (h : parsesB S = false) : parV S = .tuple #[noS, .int .i64 ((parseEnd S).1 : Nat), .int .i64 280] := by
  unfold parV; rw [h]; rfl
theorem parV_yes {S : List UInt8} (h : parsesB S = true) : parV S = .tuple #[encE (parsedE S), .int .i64 0, .int .i64 0] := by
  unfold parV; rw [if_pos h]
theorem parses_facts {S : List UInt8} (h : parsesB S = true) : (parseEnd S).2 = false ∧ (parseEnd S).1 = S.length := by
  unfold parsesB at h
  rw [Bool.and_eq_true, decide_eq_true_eq] at h
  exact ⟨by simpa using h.1, h.2⟩

set_option maxRecDepth 100000 in
theorem lawOnce_any (s : ByteArray) (w : World) (hE : EnvL w) (hs : s.size ≤ 1048576) :
    Calls Tryd.prog 5 #[.string s] w fun e w' => e = .returned (.bool true) ∧ Below w.heap.size w w' := by
  have HP := fun wx hx => parse_any s wx hx (by omega)
  have HE := Lib.hid hE
  have AW := Lib.hid (fun wx hx => awake_any wx hx)
  clear hE
  cases hb : parsesB (L s) with
  | false =>
    have hle := le_O (L s)
    rw [L_length] at hle
    rw [parV_no hb] at HP
    obtain ⟨n, hn⟩ := name_it (parseEnd (L s)).1
    rw [hn.out] at hle HP
    replace HP := Lib.hid HP
    clear hn hb
    unfold noS at HP
    go_enter Tryd.func5, Tryd.ntmps5
    go_wp2_with fail
    refine (HP.out _ HE.out.env).mono ?_; rintro x w1 ⟨rfl, b1⟩
    have D1 := Lib.hid (b1.alloc b1.size (.cells #[.string ⟨#[]⟩, .int .i64 0, .int .i64 0, .string ⟨#[]⟩, .string ⟨#[]⟩, .int .i64 0, .int .i64 0, .int .i64 0] tE))
    have F1 : Hid (EnvL (w1.alloc (.cells #[.string ⟨#[]⟩, .int .i64 0, .int .i64 0, .string ⟨#[]⟩, .string ⟨#[]⟩, .int .i64 0, .int .i64 0, .int .i64 0] tE))) := (HE.out.next b1).alloc _
    have A1 : Hid (Blk (w1.alloc (.cells #[.string ⟨#[]⟩, .int .i64 0, .int .i64 0, .string ⟨#[]⟩, .string ⟨#[]⟩, .int .i64 0, .int .i64 0, .int .i64 0] tE)) w1.heap.size tE (cellsE noE)) := Blk.new w1 tE _
    clear b1 HP HE
    go_wp2_with fail
    refine (AW.out _ F1.out).mono ?_; rintro x w2 ⟨rfl, b2⟩
    have A2 := Lib.hid (A1.out.below b2 A1.out.lt)
    have D2 := Lib.hid (D1.out.trans (b2.mono D1.out.size))
    obtain ⟨m, hm⟩ := name_it w1.heap.size
    rw [hm.out] at A2
    rw [hm.out]
    clear b2 A1 D1 F1 AW hm
    have c0 : w2.cell? ⟨m, 0, none⟩ = some (.string ⟨#[]⟩) := A2.out.cell 0
    have c1 : w2.cell? ⟨m, 1, none⟩ = some (.int .i64 0) := A2.out.cell 1
    have c2 : w2.cell? ⟨m, 2, none⟩ = some (.int .i64 0) := A2.out.cell 2
    have c3 : w2.cell? ⟨m, 3, none⟩ = some (.string ⟨#[]⟩) := A2.out.cell 3
    have c4 : w2.cell? ⟨m, 4, none⟩ = some (.string ⟨#[]⟩) := A2.out.cell 4
    have c5 : w2.cell? ⟨m, 5, none⟩ = some (.int .i64 0) := A2.out.cell 5
    have c6 : w2.cell? ⟨m, 6, none⟩ = some (.int .i64 0) := A2.out.cell 6
    have c7 : w2.cell? ⟨m, 7, none⟩ = some (.int .i64 0) := A2.out.cell 7
    go_wp2_with fail
    all_goals (try (exfalso; omega))
    go_ret
    exact ⟨ret_bool (by simp <;> omega), D2.out⟩
  | true =>
    obtain ⟨f1, f2⟩ := parses_facts hb
    obtain ⟨hpr, hrt⟩ := parse_once (L s) f1 f2
    have hin := parse_ints (L s) f1
    rw [parV_yes hb] at HP
    obtain ⟨p, hp⟩ := name_it (parsedE (L s))
    rw [hp.out] at hpr hrt hin HP
    have hok : okE p := ⟨hrt, hin⟩
    have PR0 := fun wx hx => print_any p wx hx hin hok.n1 hok.n2 hok.n3
    rw [hok.print, hpr, bs_L] at PR0
    replace HP := Lib.hid HP
    have PRT := Lib.hid PR0
    clear f1 f2 hpr hrt hin hok PR0 hp hb
    obtain ⟨nm, hnm⟩ := name_it (bs p.name)
    obtain ⟨mt, hmt⟩ := name_it (bs p.meth)
    obtain ⟨tg, htg⟩ := name_it (bs p.tgt)
    obtain ⟨x1, hx1⟩ := name_it p.conn
    obtain ⟨x2, hx2⟩ := name_it p.numb
    obtain ⟨x3, hx3⟩ := name_it p.tick
    obtain ⟨x4, hx4⟩ := name_it p.stat
    obtain ⟨x5, hx5⟩ := name_it p.byts
    unfold encE at HP PRT
    rw [hnm.out, hmt.out, htg.out, hx1.out, hx2.out, hx3.out, hx4.out, hx5.out] at HP PRT
    clear hnm hmt htg hx1 hx2 hx3 hx4 hx5
    go_enter Tryd.func5, Tryd.ntmps5
    go_wp2_with fail
    refine (HP.out _ HE.out.env).mono ?_; rintro x w1 ⟨rfl, b1⟩
    have D1 := Lib.hid (b1.alloc b1.size (.cells #[.string nm, .int .i64 x1, .int .i64 x2, .string mt, .string tg, .int .i64 x4, .int .i64 x5, .int .i64 x3] tE))
    have F1 : Hid (EnvL (w1.alloc (.cells #[.string nm, .int .i64 x1, .int .i64 x2, .string mt, .string tg, .int .i64 x4, .int .i64 x5, .int .i64 x3] tE))) := (HE.out.next b1).alloc _
    clear b1 HP HE
    go_wp2_with fail
    refine (PRT.out _ F1.out).mono ?_; rintro x w2 ⟨rfl, b2⟩
    have D2 := Lib.hid (D1.out.trans (b2.mono D1.out.size))
    have F2 := Lib.hid (F1.out.next b2)
    clear b2 D1 F1 PRT
    go_wp2_with fail
    refine (AW.out _ F2.out).mono ?_; rintro x w3 ⟨rfl, b3⟩
    have D3 := Lib.hid (D2.out.trans (b3.mono D2.out.size))
    clear b3
    go_wp2_with fail
    go_ret
    exact ⟨rfl, D3.out⟩
end Go.Proofs.YtfgaiopkclogmaaDoor
