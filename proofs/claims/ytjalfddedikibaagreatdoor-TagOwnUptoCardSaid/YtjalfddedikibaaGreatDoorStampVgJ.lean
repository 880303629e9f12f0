/- stamp's moment: what was read, as a moment. -/
import Derived.Test.YtjalfddedikibaaGreatDoorStampVfJ
import Derived.Test.YtjalfddedikibaaGreatDoorStampVeJ
namespace Go.Proofs.YtjalfddedikibaaGreatDoor
open Go Go.RowKit
set_option maxHeartbeats 4000000

def momV (r : Stm.PR) : Value := .tuple #[.int .i64 r.m, .int .i64 r.e, .int .i64 r.at_]
theorem nearY_go (y f : Int) : f + ((y - f).tmod 100 + 100) % 100 = Stm.nearY y f := by
  have := (t100 (y - f)).1
  unfold Stm.nearY
  omega
theorem days_q {y mo d N E : Int} (h1 : Hid (Cal.daysN y mo d = N)) (h2 : Hid (Cal.daysE y mo d = E)) (w : World) (k : Nat) :
    Calls Tryz.prog 117 #[.int .i64 y, .int .i64 mo, .int .i64 d] (w.drewN k) fun e w' => e = .returned (.tuple #[.int .i64 N, .int .i64 E]) ∧ ∃ m, w' = w.drewN m := by
  rw [← h1.out, ← h2.out]
  exact quiet_left (days_any y mo d _)
theorem weekday_q {n W : Int} (h : Hid (wday n = W)) (h1 : -1000000 ≤ n) (h2 : n ≤ 10000000) (w : World) (k : Nat) :
    Calls Tryz.prog 118 #[.int .i64 n] (w.drewN k) fun e w' => e = .returned (.int .i64 W) ∧ ∃ m, w' = w.drewN m := by
  rw [← h.out]
  exact quiet_left (weekday_any n _ h1 h2)

set_option maxRecDepth 100000 in
theorem moment_any (b : Nat) (s : ByteArray) (st : Stm.St) (f : Nat) (now : Int) (w : World) (hn : isMom now = true) (h : CellsAt w b (rdCells s st)) (hr : Stm.Range f st) (hs : st.at_ ≤ 1099511627) :
    Calls Tryz.prog 83 #[.pointer (some ⟨b, 0, none⟩), .int .i64 f, .int .i64 now] w fun e w' => e = .returned (momV (Stm.momentOf st f (nowY now))) ∧ Below b w w' := by
  obtain ⟨P, hP0⟩ := name_it (momV (Stm.momentOf st f (nowY now)))
  rw [hP0.out]
  obtain ⟨at_, wd, mo, dy, yr, hh, mi, ss, dyAt, yrAt, hhAt, miAt, ssAt⟩ := st
  obtain ⟨wd0, wd1, mo0, mo1, dy0, dy1, yr0, yr1, yrL, hh0, hh1, mi0, mi1, ss0, ss1, pA, pB, pC⟩ := hr
  dsimp only at wd0 wd1 mo0 mo1 dy0 dy1 yr0 yr1 yrL hh0 hh1 mi0 mi1 ss0 ss1 pA pB pC hs
  subst pA pB
  have hcl : (hhAt : Int) ≤ 1099511627 := by omega
  have A : Hid (CellsAt w b [.string s, .int .i64 at_, .int .i64 yr, .int .i64 mo, .int .i64 dy, .int .i64 hh, .int .i64 mi, .int .i64 ss, .int .i64 wd, .int .i64 (dyAt : Nat), .int .i64 (yrAt : Nat), .int .i64 (hhAt : Nat)]) := h
  have hbl : b ≤ w.heap.size := Nat.le_of_lt h.lt
  have hP2 : Hid (momV (momY ⟨at_, wd, mo, dy, yr, hh, mi, ss, dyAt, yrAt, hhAt, hhAt + 3, hhAt + 6⟩ f (if f = 1 then Stm.nearY yr (nowY now - 49) else yr)) = P) := by rw [← hP0.out, momentOf_eq]; rfl
  have HYL := Lib.hid yrL
  clear h hP0 yrL
  by_cases hf1 : f = 1
  · have hP := hP2
    rw [if_pos hf1] at hP
    have HB1 : ((f : Int) == 1) = true := by simp [hf1]
    have hyl := HYL.out hf1
    obtain ⟨ny, nmo, nd, nh, nmi, ns, nwd, HD, -, HSE, ⟨ny0, ny1⟩, -, -, -, -, -, -⟩ := date_of hn
    have hyn : nowY now = ny := by
      have := HD.out
      unfold splitD dateV at this
      rw [if_pos hn] at this
      simp at this
      exact this.1
    rw [hyn] at hP
    obtain ⟨u1, u2, u3⟩ := Stm.nearY_bd yr (ny - 49)
    have hgo := nearY_go yr (ny - 49)
    obtain ⟨t1, t2, t3⟩ := t100 (yr - (ny - 49))
    obtain ⟨tm, htm⟩ := name_it ((yr - (ny - 49)).tmod 100)
    have htm' : (yr - (ny - 49)).tmod 100 = tm := htm.out
    rw [htm'] at hgo t2 t3
    have hgo2 : ny - 49 + tm % 100 = ny - 49 + (tm + 100) % 100 := by omega
    rw [hgo] at hgo2
    clear hgo
    have hgo := hgo2
    clear hgo2
    obtain ⟨Y, hY⟩ := name_it (Stm.nearY yr (ny - 49))
    rw [hY.out] at hP u1 u2 hgo
    have hY1 : -48 ≤ Y := by omega
    have hY2 : Y ≤ 10049 := by omega
    clear hP2 hf1 HYL hyn t1 u1 u2 u3 hY htm
    go_enter Tryz.func83, Tryz.ntmps83
    go_wp2_with fail
    refine (split_any _ _).mono ?_; rintro e w1 ⟨rfl, hb1⟩
    rw [HD.out, HSE.out]
    unfold dateV
    have hA0 := Lib.hid (A.out.next hb1)
    have hbd : b < w1.heap.size := hA0.out.lt
    have k0 := hA0.out.cell 0 (by simp)
    have k1 := hA0.out.cell 1 (by simp)
    have k2 := hA0.out.cell 2 (by simp)
    have k3 := hA0.out.cell 3 (by simp)
    have k4 := hA0.out.cell 4 (by simp)
    have k5 := hA0.out.cell 5 (by simp)
    have k6 := hA0.out.cell 6 (by simp)
    have k7 := hA0.out.cell 7 (by simp)
    have k8 := hA0.out.cell 8 (by simp)
    have k9 := hA0.out.cell 9 (by simp)
    have k10 := hA0.out.cell 10 (by simp)
    have k11 := hA0.out.cell 11 (by simp)
    have g2 := hA0.out.free 2
    simp only [List.getElem_cons_zero, List.getElem_cons_succ] at k0 k1 k2 k3 k4 k5 k6 k7 k8 k9 k10 k11
    have A1 : Hid (CellsAt ((w1.setCell ⟨b, 2, none⟩ (.int .i64 Y)).alloc (.cells #[.int .i64 ny, .int .i64 nmo, .int .i64 nd, .int .i64 nh, .int .i64 nmi, .int .i64 ns, .int .i64 nwd] 129)) b [.string s, .int .i64 at_, .int .i64 Y, .int .i64 mo, .int .i64 dy, .int .i64 hh, .int .i64 mi, .int .i64 ss, .int .i64 wd, .int .i64 (dyAt : Nat), .int .i64 (yrAt : Nat), .int .i64 (hhAt : Nat)]) := (hA0.out.set 2 (by simp) (.int .i64 Y)).next ((Below.refl _ _).alloc (Nat.le_refl _) _)
    have B1 := ((hb1.mono hbl).setCell (p := ⟨b, 2, none⟩) (Nat.le_refl _) (.int .i64 Y)).alloc (by rw [World.size_setCell]; omega) (.cells #[.int .i64 ny, .int .i64 nmo, .int .i64 nd, .int .i64 nh, .int .i64 nmi, .int .i64 ns, .int .i64 nwd] 129)
    clear hA0 A
    by_cases h1 : Y < 1
    · have hf : Hid (P = .tuple #[.int .i64 0, .int .i64 41, .int .i64 (yrAt : Nat)]) := by rw [← hP.out]; unfold Hid momY; rw [if_pos (Or.inl h1)]; rfl
      clear hP
      go_wp2_with fail
      all_goals (try (exfalso; omega))
      clear hgo
      generalize (w1.setCell _ _).alloc _ = wg at A1 B1 ⊢
      clear k0 k1 k2 k3 k4 k5 k6 k7 k8 k9 k10 k11 g2
      have c0 := A1.out.cell 0 (by simp)
      have c1 := A1.out.cell 1 (by simp)
      have c2 := A1.out.cell 2 (by simp)
      have c3 := A1.out.cell 3 (by simp)
      have c4 := A1.out.cell 4 (by simp)
      have c5 := A1.out.cell 5 (by simp)
      have c6 := A1.out.cell 6 (by simp)
      have c7 := A1.out.cell 7 (by simp)
      have c8 := A1.out.cell 8 (by simp)
      have c9 := A1.out.cell 9 (by simp)
      have c10 := A1.out.cell 10 (by simp)
      have c11 := A1.out.cell 11 (by simp)
      simp only [List.getElem_cons_zero, List.getElem_cons_succ] at c0 c1 c2 c3 c4 c5 c6 c7 c8 c9 c10 c11
      go_quiet (fail)
      go_wp2_with fail
      all_goals (try (exfalso; omega))
      go_ret3
      exact ⟨by rw [hf.out]; rfl, below_drewN B1 _⟩
    · by_cases h2 : 9999 < Y
      · have hf : Hid (P = .tuple #[.int .i64 0, .int .i64 41, .int .i64 (yrAt : Nat)]) := by rw [← hP.out]; unfold Hid momY; rw [if_pos (Or.inr h2)]; rfl
        clear hP
        go_wp2_with fail
        all_goals (try (exfalso; omega))
        clear hgo
        generalize (w1.setCell _ _).alloc _ = wg at A1 B1 ⊢
        clear k0 k1 k2 k3 k4 k5 k6 k7 k8 k9 k10 k11 g2
        have c0 := A1.out.cell 0 (by simp)
        have c1 := A1.out.cell 1 (by simp)
        have c2 := A1.out.cell 2 (by simp)
        have c3 := A1.out.cell 3 (by simp)
        have c4 := A1.out.cell 4 (by simp)
        have c5 := A1.out.cell 5 (by simp)
        have c6 := A1.out.cell 6 (by simp)
        have c7 := A1.out.cell 7 (by simp)
        have c8 := A1.out.cell 8 (by simp)
        have c9 := A1.out.cell 9 (by simp)
        have c10 := A1.out.cell 10 (by simp)
        have c11 := A1.out.cell 11 (by simp)
        simp only [List.getElem_cons_zero, List.getElem_cons_succ] at c0 c1 c2 c3 c4 c5 c6 c7 c8 c9 c10 c11
        go_quiet (fail)
        go_wp2_with fail
        all_goals (try (exfalso; omega))
        go_ret3
        exact ⟨by rw [hf.out]; rfl, below_drewN B1 _⟩
      · have hy0 : (Y == 0) = false := by rw [beq_eq_false_iff_ne]; omega
        have hP2 : Hid (momV (if Cal.daysOk Y mo dy = false then ⟨0, 0, 41, (dyAt : Nat)⟩
            else if 23 < hh then ⟨0, 0, 42, (hhAt : Nat)⟩ else if 59 < mi then ⟨0, 0, 42, ((hhAt + 3 : Nat) : Int)⟩ else if 60 < ss then ⟨0, 0, 42, ((hhAt + 6 : Nat) : Int)⟩
            else if wd ≠ (Cal.daysOf Y mo dy + 3) % 7 then ⟨0, 0, 43, 0⟩
            else if 253402300799 < Cal.daysOf Y mo dy * 86400 + hh * 3600 + mi * 60 + ss then ⟨0, 0, 40, 0⟩ else ⟨Cal.daysOf Y mo dy * 86400 + hh * 3600 + mi * 60 + ss, (f : Nat), 0, 0⟩) = P) := by
          rw [← hP.out]; unfold Hid momY; rw [if_neg (show ¬ (Y < 1 ∨ 9999 < Y) by omega)]
        clear hP
        by_cases h3 : Cal.daysOk Y mo dy = true
        · obtain ⟨N, hN⟩ := name_it (Cal.daysOf Y mo dy)
          obtain ⟨n1, n2⟩ := daysOf_bd h3
          rw [hN.out] at n1 n2
          have HN : Hid (Cal.daysN Y mo dy = N) := by unfold Cal.daysN; rw [if_pos h3]; exact hN
          have HE : Hid (Cal.daysE Y mo dy = 0) := by unfold Cal.daysE; rw [if_pos h3]; rfl
          have hP3 : Hid (momV (if 23 < hh then ⟨0, 0, 42, (hhAt : Nat)⟩ else if 59 < mi then ⟨0, 0, 42, ((hhAt + 3 : Nat) : Int)⟩ else if 60 < ss then ⟨0, 0, 42, ((hhAt + 6 : Nat) : Int)⟩
              else if wd ≠ (N + 3) % 7 then ⟨0, 0, 43, 0⟩
              else if 253402300799 < N * 86400 + hh * 3600 + mi * 60 + ss then ⟨0, 0, 40, 0⟩ else ⟨N * 86400 + hh * 3600 + mi * 60 + ss, (f : Nat), 0, 0⟩) = P) := by
            rw [← hP2.out, if_neg (show ¬ Cal.daysOk Y mo dy = false by rw [h3]; decide), hN.out]; rfl
          clear hP2 hN h3
          go_wp2_with fail
          all_goals (try (exfalso; omega))
          clear hgo
          generalize (w1.setCell _ _).alloc _ = wg at A1 B1 ⊢
          clear k0 k1 k2 k3 k4 k5 k6 k7 k8 k9 k10 k11 g2
          have c0 := A1.out.cell 0 (by simp)
          have c1 := A1.out.cell 1 (by simp)
          have c2 := A1.out.cell 2 (by simp)
          have c3 := A1.out.cell 3 (by simp)
          have c4 := A1.out.cell 4 (by simp)
          have c5 := A1.out.cell 5 (by simp)
          have c6 := A1.out.cell 6 (by simp)
          have c7 := A1.out.cell 7 (by simp)
          have c8 := A1.out.cell 8 (by simp)
          have c9 := A1.out.cell 9 (by simp)
          have c10 := A1.out.cell 10 (by simp)
          have c11 := A1.out.cell 11 (by simp)
          simp only [List.getElem_cons_zero, List.getElem_cons_succ] at c0 c1 c2 c3 c4 c5 c6 c7 c8 c9 c10 c11
          go_quiet ((go_at_call 117; first | (with_reducible exact days_q HN HE _ _)))
          have A2 := Lib.hid (A1.out.drewN nq)
          have B2 := below_drewN B1 nq
          generalize World.drewN _ nq = g2 at A2 B2 ⊢
          clear A1 B1 c0 c1 c2 c3 c4 c5 c6 c7 c8 c9 c10 c11
          have c0 := A2.out.cell 0 (by simp)
          have c1 := A2.out.cell 1 (by simp)
          have c2 := A2.out.cell 2 (by simp)
          have c3 := A2.out.cell 3 (by simp)
          have c4 := A2.out.cell 4 (by simp)
          have c5 := A2.out.cell 5 (by simp)
          have c6 := A2.out.cell 6 (by simp)
          have c7 := A2.out.cell 7 (by simp)
          have c8 := A2.out.cell 8 (by simp)
          have c9 := A2.out.cell 9 (by simp)
          have c10 := A2.out.cell 10 (by simp)
          have c11 := A2.out.cell 11 (by simp)
          simp only [List.getElem_cons_zero, List.getElem_cons_succ] at c0 c1 c2 c3 c4 c5 c6 c7 c8 c9 c10 c11
          by_cases h4 : 23 < hh
          · have hf : Hid (P = .tuple #[.int .i64 0, .int .i64 42, .int .i64 (hhAt : Nat)]) := by rw [← hP3.out, if_pos h4]; rfl
            clear hP3
            go_wp2_with fail
            all_goals (try (exfalso; omega))
            go_quiet (fail)
            go_wp2_with fail
            all_goals (try (exfalso; omega))
            go_ret3
            exact ⟨by rw [hf.out]; rfl, below_drewN B2 _⟩
          · have hP3b : Hid (momV (if 59 < mi then ⟨0, 0, 42, ((hhAt + 3 : Nat) : Int)⟩ else if 60 < ss then ⟨0, 0, 42, ((hhAt + 6 : Nat) : Int)⟩ else if wd ≠ (N + 3) % 7 then ⟨0, 0, 43, 0⟩ else if 253402300799 < N * 86400 + hh * 3600 + mi * 60 + ss then ⟨0, 0, 40, 0⟩ else ⟨N * 86400 + hh * 3600 + mi * 60 + ss, (f : Nat), 0, 0⟩) = P) := by rw [← hP3.out, if_neg h4]; all_goals rfl
            clear hP3
            by_cases h5 : 59 < mi
            · have hf : Hid (P = .tuple #[.int .i64 0, .int .i64 42, .int .i64 ((hhAt + 3 : Nat) : Int)]) := by rw [← hP3b.out, if_pos h5]; rfl
              clear hP3b
              go_wp2_with fail
              all_goals (try (exfalso; omega))
              go_quiet (fail)
              go_wp2_with fail
              all_goals (try (exfalso; omega))
              go_ret3
              exact ⟨by rw [hf.out]; rfl, below_drewN B2 _⟩
            · have hP3bb : Hid (momV (if 60 < ss then ⟨0, 0, 42, ((hhAt + 6 : Nat) : Int)⟩ else if wd ≠ (N + 3) % 7 then ⟨0, 0, 43, 0⟩ else if 253402300799 < N * 86400 + hh * 3600 + mi * 60 + ss then ⟨0, 0, 40, 0⟩ else ⟨N * 86400 + hh * 3600 + mi * 60 + ss, (f : Nat), 0, 0⟩) = P) := by rw [← hP3b.out, if_neg h5]; all_goals rfl
              clear hP3b
              by_cases h6 : 60 < ss
              · have hf : Hid (P = .tuple #[.int .i64 0, .int .i64 42, .int .i64 ((hhAt + 6 : Nat) : Int)]) := by rw [← hP3bb.out, if_pos h6]; rfl
                clear hP3bb
                go_wp2_with fail
                all_goals (try (exfalso; omega))
                go_quiet (fail)
                go_wp2_with fail
                all_goals (try (exfalso; omega))
                go_ret3
                exact ⟨by rw [hf.out]; rfl, below_drewN B2 _⟩
              · have hP3bbb : Hid (momV (if wd ≠ (N + 3) % 7 then ⟨0, 0, 43, 0⟩ else if 253402300799 < N * 86400 + hh * 3600 + mi * 60 + ss then ⟨0, 0, 40, 0⟩ else ⟨N * 86400 + hh * 3600 + mi * 60 + ss, (f : Nat), 0, 0⟩) = P) := by rw [← hP3bb.out, if_neg h6]; all_goals rfl
                clear hP3bb
                obtain ⟨W, HW⟩ := name_it (wday N)
                have hWe : Hid ((N + 3) % 7 = W) := HW
                rw [hWe.out] at hP3bbb
                clear hWe
                by_cases h7 : wd = W
                · have hP3bbbc : Hid (momV (if 253402300799 < N * 86400 + hh * 3600 + mi * 60 + ss then ⟨0, 0, 40, 0⟩ else ⟨N * 86400 + hh * 3600 + mi * 60 + ss, (f : Nat), 0, 0⟩) = P) := by rw [← hP3bbb.out, if_neg (show ¬ wd ≠ W from fun h => h h7)]; all_goals rfl
                  clear hP3bbb
                  have q1 : (wd == W) = true := by simp [h7]
                  have q2 : (wd != W) = false := by simp [h7]
                  clear h7
                  go_wp2_with fail
                  all_goals (try (exfalso; omega))
                  go_quiet ((go_at_call 118; first | (with_reducible exact weekday_q HW (by omega) (by omega) _ _)))
                  have A3 := Lib.hid (A2.out.drewN nq)
                  have B3 := below_drewN B2 nq
                  generalize World.drewN _ nq = g3 at A3 B3 ⊢
                  clear A2 B2 c0 c1 c2 c3 c4 c5 c6 c7 c8 c9 c10 c11
                  have c0 := A3.out.cell 0 (by simp)
                  have c1 := A3.out.cell 1 (by simp)
                  have c2 := A3.out.cell 2 (by simp)
                  have c3 := A3.out.cell 3 (by simp)
                  have c4 := A3.out.cell 4 (by simp)
                  have c5 := A3.out.cell 5 (by simp)
                  have c6 := A3.out.cell 6 (by simp)
                  have c7 := A3.out.cell 7 (by simp)
                  have c8 := A3.out.cell 8 (by simp)
                  have c9 := A3.out.cell 9 (by simp)
                  have c10 := A3.out.cell 10 (by simp)
                  have c11 := A3.out.cell 11 (by simp)
                  simp only [List.getElem_cons_zero, List.getElem_cons_succ] at c0 c1 c2 c3 c4 c5 c6 c7 c8 c9 c10 c11
                  go_wp2_with fail
                  all_goals (try (exfalso; omega))
                  go_quiet (fail)
                  have A4 := Lib.hid (A3.out.drewN nq)
                  have B4 := below_drewN B3 nq
                  generalize World.drewN _ nq = g4 at A4 B4 ⊢
                  clear A3 B3 c0 c1 c2 c3 c4 c5 c6 c7 c8 c9 c10 c11
                  have c0 := A4.out.cell 0 (by simp)
                  have c1 := A4.out.cell 1 (by simp)
                  have c2 := A4.out.cell 2 (by simp)
                  have c3 := A4.out.cell 3 (by simp)
                  have c4 := A4.out.cell 4 (by simp)
                  have c5 := A4.out.cell 5 (by simp)
                  have c6 := A4.out.cell 6 (by simp)
                  have c7 := A4.out.cell 7 (by simp)
                  have c8 := A4.out.cell 8 (by simp)
                  have c9 := A4.out.cell 9 (by simp)
                  have c10 := A4.out.cell 10 (by simp)
                  have c11 := A4.out.cell 11 (by simp)
                  simp only [List.getElem_cons_zero, List.getElem_cons_succ] at c0 c1 c2 c3 c4 c5 c6 c7 c8 c9 c10 c11
                  have hM : Hid (isMom (N * 86400 + hh * 3600 + mi * 60 + ss) = decide (¬ 253402300799 < N * 86400 + hh * 3600 + mi * 60 + ss)) := by unfold Hid isMom; rw [decide_eq_decide]; omega
                  have hmo := fun wx => ismoment_any (N * 86400 + hh * 3600 + mi * 60 + ss) wx
                  have HMO := Lib.hid hmo
                  clear hmo
                  go_wp2_with fail
                  all_goals (try (exfalso; omega))
                  refine (HMO.out _).mono ?_; rintro e wm ⟨rfl, rfl⟩
                  by_cases h8 : 253402300799 < N * 86400 + hh * 3600 + mi * 60 + ss
                  · have hf : Hid (P = .tuple #[.int .i64 0, .int .i64 40, .int .i64 (0)]) := by rw [← hP3bbbc.out, if_pos h8]; rfl
                    clear hP3bbbc
                    rw [show decide (-62135596800 ≤ N * 86400 + hh * 3600 + mi * 60 + ss ∧ N * 86400 + hh * 3600 + mi * 60 + ss ≤ 253402300799) = false from decide_eq_false (by omega)]
                    go_wp2_with fail
                    all_goals (try (exfalso; omega))
                    go_ret3
                    exact ⟨by rw [hf.out]; rfl, B4⟩
                  · have hf : Hid (P = .tuple #[.int .i64 (N * 86400 + hh * 3600 + mi * 60 + ss), .int .i64 0, .int .i64 0]) := by rw [← hP3bbbc.out, if_neg h8]; rfl
                    clear hP3bbbc
                    rw [show decide (-62135596800 ≤ N * 86400 + hh * 3600 + mi * 60 + ss ∧ N * 86400 + hh * 3600 + mi * 60 + ss ≤ 253402300799) = true from decide_eq_true (by omega)]
                    go_wp2_with fail
                    all_goals (try (exfalso; omega))
                    go_ret3
                    exact ⟨by rw [hf.out]; rfl, B4⟩
                · have hf : Hid (P = .tuple #[.int .i64 0, .int .i64 43, .int .i64 (0)]) := by rw [← hP3bbb.out, if_pos h7]; rfl
                  clear hP3bbb
                  have q1 : (wd == W) = false := by simp [h7]
                  have q2 : (wd != W) = true := by simp [h7]
                  go_wp2_with fail
                  all_goals (try (exfalso; omega))
                  go_quiet ((go_at_call 118; first | (with_reducible exact weekday_q HW (by omega) (by omega) _ _)))
                  go_wp2_with fail
                  all_goals (try (exfalso; omega))
                  go_ret3
                  exact ⟨by rw [hf.out]; rfl, below_drewN B2 _⟩
        · have h3' : Cal.daysOk Y mo dy = false := by simpa using h3
          have HN : Hid (Cal.daysN Y mo dy = 0) := by unfold Cal.daysN; rw [if_neg h3]; rfl
          have HE : Hid (Cal.daysE Y mo dy = 41) := by unfold Cal.daysE; rw [if_neg h3]; rfl
          have hf : Hid (P = .tuple #[.int .i64 0, .int .i64 41, .int .i64 (dyAt : Nat)]) := by rw [← hP2.out, if_pos h3']; rfl
          clear hP2 h3 h3'
          go_wp2_with fail
          all_goals (try (exfalso; omega))
          clear hgo
          generalize (w1.setCell _ _).alloc _ = wg at A1 B1 ⊢
          clear k0 k1 k2 k3 k4 k5 k6 k7 k8 k9 k10 k11 g2
          have c0 := A1.out.cell 0 (by simp)
          have c1 := A1.out.cell 1 (by simp)
          have c2 := A1.out.cell 2 (by simp)
          have c3 := A1.out.cell 3 (by simp)
          have c4 := A1.out.cell 4 (by simp)
          have c5 := A1.out.cell 5 (by simp)
          have c6 := A1.out.cell 6 (by simp)
          have c7 := A1.out.cell 7 (by simp)
          have c8 := A1.out.cell 8 (by simp)
          have c9 := A1.out.cell 9 (by simp)
          have c10 := A1.out.cell 10 (by simp)
          have c11 := A1.out.cell 11 (by simp)
          simp only [List.getElem_cons_zero, List.getElem_cons_succ] at c0 c1 c2 c3 c4 c5 c6 c7 c8 c9 c10 c11
          go_quiet ((go_at_call 117; first | (with_reducible exact days_q HN HE _ _)))
          have A2 := Lib.hid (A1.out.drewN nq)
          have B2 := below_drewN B1 nq
          generalize World.drewN _ nq = g2 at A2 B2 ⊢
          clear A1 B1 c0 c1 c2 c3 c4 c5 c6 c7 c8 c9 c10 c11
          have c0 := A2.out.cell 0 (by simp)
          have c1 := A2.out.cell 1 (by simp)
          have c2 := A2.out.cell 2 (by simp)
          have c3 := A2.out.cell 3 (by simp)
          have c4 := A2.out.cell 4 (by simp)
          have c5 := A2.out.cell 5 (by simp)
          have c6 := A2.out.cell 6 (by simp)
          have c7 := A2.out.cell 7 (by simp)
          have c8 := A2.out.cell 8 (by simp)
          have c9 := A2.out.cell 9 (by simp)
          have c10 := A2.out.cell 10 (by simp)
          have c11 := A2.out.cell 11 (by simp)
          simp only [List.getElem_cons_zero, List.getElem_cons_succ] at c0 c1 c2 c3 c4 c5 c6 c7 c8 c9 c10 c11
          go_wp2_with fail
          all_goals (try (exfalso; omega))
          go_quiet (fail)
          go_wp2_with fail
          all_goals (try (exfalso; omega))
          go_ret3
          exact ⟨by rw [hf.out]; rfl, below_drewN B2 _⟩
  · have hP := hP2
    rw [if_neg hf1] at hP
    have HB1 : ((f : Int) == 1) = false := by simp; omega
    clear hP2 HYL hf1
    have A1 := A
    have B1 := Below.refl b w
    clear A
    go_enter Tryz.func83, Tryz.ntmps83
    by_cases h1 : yr < 1
    · have hf : Hid (P = .tuple #[.int .i64 0, .int .i64 41, .int .i64 (yrAt : Nat)]) := by rw [← hP.out]; unfold Hid momY; rw [if_pos (Or.inl h1)]; rfl
      clear hP
      obtain rfl : yr = 0 := by omega
      have c0 := A1.out.cell 0 (by simp)
      have c1 := A1.out.cell 1 (by simp)
      have c2 := A1.out.cell 2 (by simp)
      have c3 := A1.out.cell 3 (by simp)
      have c4 := A1.out.cell 4 (by simp)
      have c5 := A1.out.cell 5 (by simp)
      have c6 := A1.out.cell 6 (by simp)
      have c7 := A1.out.cell 7 (by simp)
      have c8 := A1.out.cell 8 (by simp)
      have c9 := A1.out.cell 9 (by simp)
      have c10 := A1.out.cell 10 (by simp)
      have c11 := A1.out.cell 11 (by simp)
      simp only [List.getElem_cons_zero, List.getElem_cons_succ] at c0 c1 c2 c3 c4 c5 c6 c7 c8 c9 c10 c11
      go_wp2_with fail
      all_goals (try (exfalso; omega))
      go_quiet (fail)
      go_wp2_with fail
      all_goals (try (exfalso; omega))
      go_ret3
      exact ⟨by rw [hf.out]; rfl, below_drewN B1 _⟩
    · by_cases h2 : 9999 < yr
      · exact absurd h2 (by omega)
      · have hy0 : (yr == 0) = false := by rw [beq_eq_false_iff_ne]; omega
        have hP2 : Hid (momV (if Cal.daysOk yr mo dy = false then ⟨0, 0, 41, (dyAt : Nat)⟩
            else if 23 < hh then ⟨0, 0, 42, (hhAt : Nat)⟩ else if 59 < mi then ⟨0, 0, 42, ((hhAt + 3 : Nat) : Int)⟩ else if 60 < ss then ⟨0, 0, 42, ((hhAt + 6 : Nat) : Int)⟩
            else if wd ≠ (Cal.daysOf yr mo dy + 3) % 7 then ⟨0, 0, 43, 0⟩
            else if 253402300799 < Cal.daysOf yr mo dy * 86400 + hh * 3600 + mi * 60 + ss then ⟨0, 0, 40, 0⟩ else ⟨Cal.daysOf yr mo dy * 86400 + hh * 3600 + mi * 60 + ss, (f : Nat), 0, 0⟩) = P) := by
          rw [← hP.out]; unfold Hid momY; rw [if_neg (show ¬ (yr < 1 ∨ 9999 < yr) by omega)]
        clear hP
        by_cases h3 : Cal.daysOk yr mo dy = true
        · obtain ⟨N, hN⟩ := name_it (Cal.daysOf yr mo dy)
          obtain ⟨n1, n2⟩ := daysOf_bd h3
          rw [hN.out] at n1 n2
          have HN : Hid (Cal.daysN yr mo dy = N) := by unfold Cal.daysN; rw [if_pos h3]; exact hN
          have HE : Hid (Cal.daysE yr mo dy = 0) := by unfold Cal.daysE; rw [if_pos h3]; rfl
          have hP3 : Hid (momV (if 23 < hh then ⟨0, 0, 42, (hhAt : Nat)⟩ else if 59 < mi then ⟨0, 0, 42, ((hhAt + 3 : Nat) : Int)⟩ else if 60 < ss then ⟨0, 0, 42, ((hhAt + 6 : Nat) : Int)⟩
              else if wd ≠ (N + 3) % 7 then ⟨0, 0, 43, 0⟩
              else if 253402300799 < N * 86400 + hh * 3600 + mi * 60 + ss then ⟨0, 0, 40, 0⟩ else ⟨N * 86400 + hh * 3600 + mi * 60 + ss, (f : Nat), 0, 0⟩) = P) := by
            rw [← hP2.out, if_neg (show ¬ Cal.daysOk yr mo dy = false by rw [h3]; decide), hN.out]; rfl
          clear hP2 hN h3
          have c0 := A1.out.cell 0 (by simp)
          have c1 := A1.out.cell 1 (by simp)
          have c2 := A1.out.cell 2 (by simp)
          have c3 := A1.out.cell 3 (by simp)
          have c4 := A1.out.cell 4 (by simp)
          have c5 := A1.out.cell 5 (by simp)
          have c6 := A1.out.cell 6 (by simp)
          have c7 := A1.out.cell 7 (by simp)
          have c8 := A1.out.cell 8 (by simp)
          have c9 := A1.out.cell 9 (by simp)
          have c10 := A1.out.cell 10 (by simp)
          have c11 := A1.out.cell 11 (by simp)
          simp only [List.getElem_cons_zero, List.getElem_cons_succ] at c0 c1 c2 c3 c4 c5 c6 c7 c8 c9 c10 c11
          go_wp2_with fail
          all_goals (try (exfalso; omega))
          go_quiet ((go_at_call 117; first | (with_reducible exact days_q HN HE _ _)))
          have A2 := Lib.hid (A1.out.drewN nq)
          have B2 := below_drewN B1 nq
          generalize World.drewN _ nq = g2 at A2 B2 ⊢
          clear A1 B1 c0 c1 c2 c3 c4 c5 c6 c7 c8 c9 c10 c11
          have c0 := A2.out.cell 0 (by simp)
          have c1 := A2.out.cell 1 (by simp)
          have c2 := A2.out.cell 2 (by simp)
          have c3 := A2.out.cell 3 (by simp)
          have c4 := A2.out.cell 4 (by simp)
          have c5 := A2.out.cell 5 (by simp)
          have c6 := A2.out.cell 6 (by simp)
          have c7 := A2.out.cell 7 (by simp)
          have c8 := A2.out.cell 8 (by simp)
          have c9 := A2.out.cell 9 (by simp)
          have c10 := A2.out.cell 10 (by simp)
          have c11 := A2.out.cell 11 (by simp)
          simp only [List.getElem_cons_zero, List.getElem_cons_succ] at c0 c1 c2 c3 c4 c5 c6 c7 c8 c9 c10 c11
          by_cases h4 : 23 < hh
          · have hf : Hid (P = .tuple #[.int .i64 0, .int .i64 42, .int .i64 (hhAt : Nat)]) := by rw [← hP3.out, if_pos h4]; rfl
            clear hP3
            go_wp2_with fail
            all_goals (try (exfalso; omega))
            go_quiet (fail)
            go_wp2_with fail
            all_goals (try (exfalso; omega))
            go_ret3
            exact ⟨by rw [hf.out]; rfl, below_drewN B2 _⟩
          · have hP3b : Hid (momV (if 59 < mi then ⟨0, 0, 42, ((hhAt + 3 : Nat) : Int)⟩ else if 60 < ss then ⟨0, 0, 42, ((hhAt + 6 : Nat) : Int)⟩ else if wd ≠ (N + 3) % 7 then ⟨0, 0, 43, 0⟩ else if 253402300799 < N * 86400 + hh * 3600 + mi * 60 + ss then ⟨0, 0, 40, 0⟩ else ⟨N * 86400 + hh * 3600 + mi * 60 + ss, (f : Nat), 0, 0⟩) = P) := by rw [← hP3.out, if_neg h4]; all_goals rfl
            clear hP3
            by_cases h5 : 59 < mi
            · have hf : Hid (P = .tuple #[.int .i64 0, .int .i64 42, .int .i64 ((hhAt + 3 : Nat) : Int)]) := by rw [← hP3b.out, if_pos h5]; rfl
              clear hP3b
              go_wp2_with fail
              all_goals (try (exfalso; omega))
              go_quiet (fail)
              go_wp2_with fail
              all_goals (try (exfalso; omega))
              go_ret3
              exact ⟨by rw [hf.out]; rfl, below_drewN B2 _⟩
            · have hP3bb : Hid (momV (if 60 < ss then ⟨0, 0, 42, ((hhAt + 6 : Nat) : Int)⟩ else if wd ≠ (N + 3) % 7 then ⟨0, 0, 43, 0⟩ else if 253402300799 < N * 86400 + hh * 3600 + mi * 60 + ss then ⟨0, 0, 40, 0⟩ else ⟨N * 86400 + hh * 3600 + mi * 60 + ss, (f : Nat), 0, 0⟩) = P) := by rw [← hP3b.out, if_neg h5]; all_goals rfl
              clear hP3b
              by_cases h6 : 60 < ss
              · have hf : Hid (P = .tuple #[.int .i64 0, .int .i64 42, .int .i64 ((hhAt + 6 : Nat) : Int)]) := by rw [← hP3bb.out, if_pos h6]; rfl
                clear hP3bb
                go_wp2_with fail
                all_goals (try (exfalso; omega))
                go_quiet (fail)
                go_wp2_with fail
                all_goals (try (exfalso; omega))
                go_ret3
                exact ⟨by rw [hf.out]; rfl, below_drewN B2 _⟩
              · have hP3bbb : Hid (momV (if wd ≠ (N + 3) % 7 then ⟨0, 0, 43, 0⟩ else if 253402300799 < N * 86400 + hh * 3600 + mi * 60 + ss then ⟨0, 0, 40, 0⟩ else ⟨N * 86400 + hh * 3600 + mi * 60 + ss, (f : Nat), 0, 0⟩) = P) := by rw [← hP3bb.out, if_neg h6]; all_goals rfl
                clear hP3bb
                obtain ⟨W, HW⟩ := name_it (wday N)
                have hWe : Hid ((N + 3) % 7 = W) := HW
                rw [hWe.out] at hP3bbb
                clear hWe
                by_cases h7 : wd = W
                · have hP3bbbc : Hid (momV (if 253402300799 < N * 86400 + hh * 3600 + mi * 60 + ss then ⟨0, 0, 40, 0⟩ else ⟨N * 86400 + hh * 3600 + mi * 60 + ss, (f : Nat), 0, 0⟩) = P) := by rw [← hP3bbb.out, if_neg (show ¬ wd ≠ W from fun h => h h7)]; all_goals rfl
                  clear hP3bbb
                  have q1 : (wd == W) = true := by simp [h7]
                  have q2 : (wd != W) = false := by simp [h7]
                  clear h7
                  go_wp2_with fail
                  all_goals (try (exfalso; omega))
                  go_quiet ((go_at_call 118; first | (with_reducible exact weekday_q HW (by omega) (by omega) _ _)))
                  have A3 := Lib.hid (A2.out.drewN nq)
                  have B3 := below_drewN B2 nq
                  generalize World.drewN _ nq = g3 at A3 B3 ⊢
                  clear A2 B2 c0 c1 c2 c3 c4 c5 c6 c7 c8 c9 c10 c11
                  have c0 := A3.out.cell 0 (by simp)
                  have c1 := A3.out.cell 1 (by simp)
                  have c2 := A3.out.cell 2 (by simp)
                  have c3 := A3.out.cell 3 (by simp)
                  have c4 := A3.out.cell 4 (by simp)
                  have c5 := A3.out.cell 5 (by simp)
                  have c6 := A3.out.cell 6 (by simp)
                  have c7 := A3.out.cell 7 (by simp)
                  have c8 := A3.out.cell 8 (by simp)
                  have c9 := A3.out.cell 9 (by simp)
                  have c10 := A3.out.cell 10 (by simp)
                  have c11 := A3.out.cell 11 (by simp)
                  simp only [List.getElem_cons_zero, List.getElem_cons_succ] at c0 c1 c2 c3 c4 c5 c6 c7 c8 c9 c10 c11
                  go_wp2_with fail
                  all_goals (try (exfalso; omega))
                  go_quiet (fail)
                  have A4 := Lib.hid (A3.out.drewN nq)
                  have B4 := below_drewN B3 nq
                  generalize World.drewN _ nq = g4 at A4 B4 ⊢
                  clear A3 B3 c0 c1 c2 c3 c4 c5 c6 c7 c8 c9 c10 c11
                  have c0 := A4.out.cell 0 (by simp)
                  have c1 := A4.out.cell 1 (by simp)
                  have c2 := A4.out.cell 2 (by simp)
                  have c3 := A4.out.cell 3 (by simp)
                  have c4 := A4.out.cell 4 (by simp)
                  have c5 := A4.out.cell 5 (by simp)
                  have c6 := A4.out.cell 6 (by simp)
                  have c7 := A4.out.cell 7 (by simp)
                  have c8 := A4.out.cell 8 (by simp)
                  have c9 := A4.out.cell 9 (by simp)
                  have c10 := A4.out.cell 10 (by simp)
                  have c11 := A4.out.cell 11 (by simp)
                  simp only [List.getElem_cons_zero, List.getElem_cons_succ] at c0 c1 c2 c3 c4 c5 c6 c7 c8 c9 c10 c11
                  have hM : Hid (isMom (N * 86400 + hh * 3600 + mi * 60 + ss) = decide (¬ 253402300799 < N * 86400 + hh * 3600 + mi * 60 + ss)) := by unfold Hid isMom; rw [decide_eq_decide]; omega
                  have hmo := fun wx => ismoment_any (N * 86400 + hh * 3600 + mi * 60 + ss) wx
                  have HMO := Lib.hid hmo
                  clear hmo
                  go_wp2_with fail
                  all_goals (try (exfalso; omega))
                  refine (HMO.out _).mono ?_; rintro e wm ⟨rfl, rfl⟩
                  by_cases h8 : 253402300799 < N * 86400 + hh * 3600 + mi * 60 + ss
                  · have hf : Hid (P = .tuple #[.int .i64 0, .int .i64 40, .int .i64 (0)]) := by rw [← hP3bbbc.out, if_pos h8]; rfl
                    clear hP3bbbc
                    rw [show decide (-62135596800 ≤ N * 86400 + hh * 3600 + mi * 60 + ss ∧ N * 86400 + hh * 3600 + mi * 60 + ss ≤ 253402300799) = false from decide_eq_false (by omega)]
                    go_wp2_with fail
                    all_goals (try (exfalso; omega))
                    go_ret3
                    exact ⟨by rw [hf.out]; rfl, B4⟩
                  · have hf : Hid (P = .tuple #[.int .i64 (N * 86400 + hh * 3600 + mi * 60 + ss), .int .i64 0, .int .i64 0]) := by rw [← hP3bbbc.out, if_neg h8]; rfl
                    clear hP3bbbc
                    rw [show decide (-62135596800 ≤ N * 86400 + hh * 3600 + mi * 60 + ss ∧ N * 86400 + hh * 3600 + mi * 60 + ss ≤ 253402300799) = true from decide_eq_true (by omega)]
                    go_wp2_with fail
                    all_goals (try (exfalso; omega))
                    go_ret3
                    exact ⟨by rw [hf.out]; rfl, B4⟩
                · have hf : Hid (P = .tuple #[.int .i64 0, .int .i64 43, .int .i64 (0)]) := by rw [← hP3bbb.out, if_pos h7]; rfl
                  clear hP3bbb
                  have q1 : (wd == W) = false := by simp [h7]
                  have q2 : (wd != W) = true := by simp [h7]
                  go_wp2_with fail
                  all_goals (try (exfalso; omega))
                  go_quiet ((go_at_call 118; first | (with_reducible exact weekday_q HW (by omega) (by omega) _ _)))
                  go_wp2_with fail
                  all_goals (try (exfalso; omega))
                  go_ret3
                  exact ⟨by rw [hf.out]; rfl, below_drewN B2 _⟩
        · have h3' : Cal.daysOk yr mo dy = false := by simpa using h3
          have HN : Hid (Cal.daysN yr mo dy = 0) := by unfold Cal.daysN; rw [if_neg h3]; rfl
          have HE : Hid (Cal.daysE yr mo dy = 41) := by unfold Cal.daysE; rw [if_neg h3]; rfl
          have hf : Hid (P = .tuple #[.int .i64 0, .int .i64 41, .int .i64 (dyAt : Nat)]) := by rw [← hP2.out, if_pos h3']; rfl
          clear hP2 h3 h3'
          have c0 := A1.out.cell 0 (by simp)
          have c1 := A1.out.cell 1 (by simp)
          have c2 := A1.out.cell 2 (by simp)
          have c3 := A1.out.cell 3 (by simp)
          have c4 := A1.out.cell 4 (by simp)
          have c5 := A1.out.cell 5 (by simp)
          have c6 := A1.out.cell 6 (by simp)
          have c7 := A1.out.cell 7 (by simp)
          have c8 := A1.out.cell 8 (by simp)
          have c9 := A1.out.cell 9 (by simp)
          have c10 := A1.out.cell 10 (by simp)
          have c11 := A1.out.cell 11 (by simp)
          simp only [List.getElem_cons_zero, List.getElem_cons_succ] at c0 c1 c2 c3 c4 c5 c6 c7 c8 c9 c10 c11
          go_wp2_with fail
          all_goals (try (exfalso; omega))
          go_quiet ((go_at_call 117; first | (with_reducible exact days_q HN HE _ _)))
          have A2 := Lib.hid (A1.out.drewN nq)
          have B2 := below_drewN B1 nq
          generalize World.drewN _ nq = g2 at A2 B2 ⊢
          clear A1 B1 c0 c1 c2 c3 c4 c5 c6 c7 c8 c9 c10 c11
          have c0 := A2.out.cell 0 (by simp)
          have c1 := A2.out.cell 1 (by simp)
          have c2 := A2.out.cell 2 (by simp)
          have c3 := A2.out.cell 3 (by simp)
          have c4 := A2.out.cell 4 (by simp)
          have c5 := A2.out.cell 5 (by simp)
          have c6 := A2.out.cell 6 (by simp)
          have c7 := A2.out.cell 7 (by simp)
          have c8 := A2.out.cell 8 (by simp)
          have c9 := A2.out.cell 9 (by simp)
          have c10 := A2.out.cell 10 (by simp)
          have c11 := A2.out.cell 11 (by simp)
          simp only [List.getElem_cons_zero, List.getElem_cons_succ] at c0 c1 c2 c3 c4 c5 c6 c7 c8 c9 c10 c11
          go_wp2_with fail
          all_goals (try (exfalso; omega))
          go_quiet (fail)
          go_wp2_with fail
          all_goals (try (exfalso; omega))
          go_ret3
          exact ⟨by rw [hf.out]; rfl, below_drewN B2 _⟩
end Go.Proofs.YtjalfddedikibaaGreatDoor
