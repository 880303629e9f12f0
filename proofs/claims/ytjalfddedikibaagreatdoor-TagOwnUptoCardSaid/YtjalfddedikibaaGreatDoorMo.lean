/- Contract of the document's near: the year around now's. Contract of the document's Parse: the moment that a text says. -/
import Derived.Test.YtjalfddedikibaaGreatDoorStampRJ
import Derived.Test.YtjalfddedikibaaGreatDoorMb
namespace Go.Proofs.YtjalfddedikibaaGreatDoor
open Go Go.RowKit
set_option maxHeartbeats 2000000

theorem t100 (n : Int) : (n.tmod 100 + 100) % 100 = n % 100 ∧ -100 < n.tmod 100 ∧ n.tmod 100 < 100 := by
  have h := Int.tmod_def n 100
  have k : n.tdiv 100 = if 0 ≤ n then n / 100 else -((-n) / 100) := by
    split
    · exact Int.tdiv_eq_ediv_of_nonneg (by omega)
    · have := Int.neg_tdiv (a := -n) (b := 100)
      rw [Int.neg_neg] at this
      rw [this, Int.tdiv_eq_ediv_of_nonneg (by omega)]
  split at k <;> omega
def nowY (now : Int) : Int := Cal.yOf (splitN now)

set_option maxRecDepth 100000 in
theorem rnear_any (c now : Int) (w : World) (hn : isMom now = true) (c0 : 0 ≤ c) (c1 : c ≤ 99) :
    Calls Tryz.prog 69 #[.int .i64 c, .int .i64 now] w fun e w' => e = .returned (.int .i64 (Stm.nearY c (nowY now - 49))) ∧ Below w.heap.size w w' := by
  obtain ⟨y, mo, d, h, mi, s, wd, HD, HW, HE, ⟨y0, y1⟩, -, -, -, -, -, -⟩ := date_of hn
  have hyn : nowY now = y := by
    have := HD.out
    unfold splitD dateV at this
    rw [if_pos hn] at this
    simp at this
    exact this.1
  rw [hyn]
  have hnb := Stm.nearY_bd c (y - 49)
  obtain ⟨T, hT⟩ := name_it (Stm.nearY c (y - 49))
  rw [hT.out] at hnb ⊢
  obtain ⟨t1, t2, t3⟩ := hnb
  have HT := Lib.hid t3
  clear t3 hyn hT
  have hc : c % 100 = c := by omega
  rw [hc] at HT
  clear hc
  go_enter Tryz.func69, Tryz.ntmps69
  go_wp2_with fail
  refine (rsplit_any _ _).mono ?_; rintro e w1 ⟨rfl, hb1⟩
  rw [HD.out, HE.out]
  unfold dateV
  have A0 := Lib.hid (CellsAt.first w1 [.int .i64 y, .int .i64 mo, .int .i64 d, .int .i64 h, .int .i64 mi, .int .i64 s, .int .i64 wd] 144)
  have B0 := hb1.alloc hb1.size (.cells #[.int .i64 y, .int .i64 mo, .int .i64 d, .int .i64 h, .int .i64 mi, .int .i64 s, .int .i64 wd] 144)
  go_wp2_with fail
  all_goals (try (exfalso; omega))
  generalize w1.alloc _ = w2 at A0 B0 ⊢
  have e0 := A0.out.cell 0 (by simp)
  simp only [List.getElem_cons_zero] at e0
  go_loop [7] (fun i => ∃ z : Int, y - 49 ≤ z ∧ z ≤ T ∧ i = .int .i64 z) (fun i => (20000 - intOf i).toNat)
  case atStart => exact ⟨y - 49, by omega, by omega, rfl⟩
  case round =>
    obtain ⟨z, z1, z2, rfl⟩ := hrel
    obtain ⟨u1, u2, u3⟩ := t100 z
    have hmod : Hid ((z.tmod 100 + 100) % 100 = z % 100) := u1
    clear u1
    by_cases hz : z = T
    · subst hz
      have hq : ((z.tmod 100 + 100) % 100 == c) = true := by rw [hmod.out, HT.out]; simp
      go_wp2_with fail
      all_goals (try (exfalso; omega))
      go_ret
      exact ⟨rfl, B0⟩
    · have hq : ((z.tmod 100 + 100) % 100 == c) = false := by
        rw [hmod.out]; simp only [beq_eq_false_iff_ne, ne_eq]
        intro e; have := HT.out; omega
      go_wp2_with fail
      all_goals (try (exfalso; omega))
      go_round
      case rel => exact ⟨z + 1, by omega, by omega, rfl⟩
      case measure => simp [intOf]; omega
end Go.Proofs.YtjalfddedikibaaGreatDoor
namespace Go.Proofs.YtjalfddedikibaaGreatDoor
open Go Go.RowKit
set_option maxHeartbeats 4000000

theorem results_tmp4 {fn : Func} {t u v x : Tmp} (h : fn.results = #[.tmp t, .tmp u, .tmp v, .tmp x]) (tmps : Array Value) (P : Program) (w : World) :
    (results fn tmps).run P w = .ok (.tuple #[tmps.getD t undef, tmps.getD u undef, tmps.getD v undef, tmps.getD x undef]) w := by simp [results, h]
def parseV (r : Stm.PR) : Value := .tuple #[.int .i64 r.m, .int .i64 r.form, .int .i64 r.e, .int .i64 r.at_]
def momY (st : Stm.St) (form : Nat) (y : Int) : Stm.PR :=
  if y < 1 ∨ 9999 < y then ⟨0, 0, 41, st.yrAt⟩
  else if Cal.daysOk y st.mo st.dy = false then ⟨0, 0, 41, st.dyAt⟩
  else if 23 < st.hh then ⟨0, 0, 42, st.hhAt⟩
  else if 59 < st.mi then ⟨0, 0, 42, st.miAt⟩
  else if 60 < st.ss then ⟨0, 0, 42, st.ssAt⟩
  else if st.wd ≠ (Cal.daysOf y st.mo st.dy + 3) % 7 then ⟨0, 0, 43, 0⟩
  else if 253402300799 < Cal.daysOf y st.mo st.dy * 86400 + st.hh * 3600 + st.mi * 60 + st.ss then ⟨0, 0, 40, 0⟩ else ⟨Cal.daysOf y st.mo st.dy * 86400 + st.hh * 3600 + st.mi * 60 + st.ss, form, 0, 0⟩
theorem momentOf_eq (st : Stm.St) (form : Nat) (n : Int) : Stm.momentOf st form n = momY st form (if form = 1 then Stm.nearY st.yr (n - 49) else st.yr) := rfl
theorem daysOf_bd {y mo d : Int} (h : Cal.daysOk y mo d = true) : -719162 ≤ Cal.daysOf y mo d ∧ Cal.daysOf y mo d ≤ 2932896 := by
  unfold Cal.daysOk at h
  rw [decide_eq_true_eq] at h
  obtain ⟨a, b, c, d⟩ := h
  obtain ⟨m1, m2⟩ := Cal.mdays_in y mo (by omega)
  have h1 := Cal.cum_le y mo m1 m2
  have h2 := Cal.cum_bd y mo
  have h3 := Cal.dby_succ y
  have h4 := Cal.dby_mono (y + 1) 10000 (by omega)
  have h5 : Cal.dby 10000 = 3652059 := by simp [Cal.dby]
  have h6 := Cal.dby_bd y a (by omega)
  unfold Cal.daysOf
  omega

theorem step_le (s : List UInt8) (p : Stm.Pc) (st : Stm.St) (h : st.at_ ≤ s.length) : (Stm.stepP s p st).1.at_ ≤ s.length := by
  cases p with
  | lit c =>
    rw [step_lit]
    by_cases hc : s[st.at_]? = some c
    · rw [if_pos (decide_eq_true hc)]; exact (List.getElem?_eq_some_iff.1 hc).1
    · rw [if_neg (by simp [hc])]; exact h
  | name k =>
    cases hr : Stm.firstOf (s.drop st.at_) (Stm.namesOf k) 0 with
    | none => rw [step_name_none hr]; exact h
    | some q =>
      obtain ⟨n, x⟩ := q
      rw [step_name_some hr]
      show (Stm.setName k n _).at_ ≤ _
      rw [Stm.at_setName]; exact first_le s st.at_ k n x hr h
  | dig w b f =>
    have := (digs_le s w b st.at_ 0 h (by omega)).1
    unfold Stm.stepP
    simp only []
    split
    · rw [Stm.at_setDig]; exact this
    · exact this
theorem run_le (s : List UInt8) : ∀ (ps : List Stm.Pc) (st : Stm.St), st.at_ ≤ s.length → (Stm.runP s ps st).1.at_ ≤ s.length
  | [], st, h => h
  | p :: ps, st, h => by
    rw [Stm.runP_cons]
    split
    · exact run_le s ps _ (step_le s p st h)
    · exact step_le s p st h

set_option maxRecDepth 100000 in
theorem rparse_any (s : ByteArray) (now : Int) (w : World) (hs : s.size ≤ 1099511627) :
    Calls Tryz.prog 51 #[.string s, .int .i64 now] w fun e w' => e = .returned (parseV (Stm.parseP (L s) (isMom now) (nowY now))) ∧ Below w.heap.size w w' := by
  obtain ⟨P, hP0⟩ := name_it (parseV (Stm.parseP (L s) (isMom now) (nowY now)))
  rw [hP0.out]
  by_cases hn : isMom now = true
  · have hn' : -62135596800 ≤ now ∧ now ≤ 253402300799 := by unfold isMom at hn; exact of_decide_eq_true hn
    obtain ⟨n1, n2⟩ := hn'
    have hf3 := Stm.formOf_lt (L s)
    have hrg := fun h1 h2 => Stm.range_of (s := L s) (form := Stm.formOf (L s)) hf3 h1 h2
    have hP1 : Hid (parseV (let r := Stm.runP (L s) (Stm.pcs (Stm.formOf (L s))) Stm.st0
      if r.2 = false ∨ r.1.at_ < (L s).length then ⟨0, 0, 44, r.1.at_⟩ else Stm.momentOf r.1 (Stm.formOf (L s)) (nowY now)) = P) := by
      rw [← hP0.out]; unfold Hid Stm.parseP; rw [hn]; rfl
    clear hP0
    obtain ⟨f, hf⟩ := name_it (Stm.formOf (L s))
    have hle : (Stm.runP (L s) (Stm.pcs f) Stm.st0).1.at_ ≤ (L s).length := run_le (L s) _ _ (Nat.zero_le _)
    rw [hf.out] at hf3 hrg hP1
    obtain ⟨R, hR⟩ := name_it (Stm.runP (L s) (Stm.pcs f) Stm.st0)
    rw [hR.out] at hrg hle hP1
    rw [L_length] at hrg hle hP1
    have HRG := Lib.hid hrg
    clear hrg
    obtain ⟨st, ok⟩ := R
    obtain ⟨at_, wd, mo, dy, yr, hh, mi, ss, dyAt, yrAt, hhAt, miAt, ssAt⟩ := st
    dsimp only at hle hP1 HRG
    go_enter Tryz.func51, Tryz.ntmps51
    go_wp2_with fail
    refine (rformOf_any s _ hs).mono ?_; rintro e w1 ⟨rfl, hb1⟩
    rw [hf.out]
    go_wp2_with fail
    refine (rread_any s f hf3 _ hs).mono ?_; rintro e w2 ⟨rfl, hb2⟩
    rw [hR.out]
    have B2 := hb1.trans (hb2.mono hb1.size)
    clear hb1 hb2 hR hf
    cases ok
    · have hf : Hid (P = .tuple #[.int .i64 0, .int .i64 0, .int .i64 44, .int .i64 at_]) := by rw [← hP1.out, if_pos (Or.inl rfl)]; rfl
      rw [show readV (⟨at_, wd, mo, dy, yr, hh, mi, ss, dyAt, yrAt, hhAt, miAt, ssAt⟩, false) s.size = .tuple #[.agg #[.int .i64 0, .int .i64 0, .int .i64 0, .int .i64 0, .int .i64 0, .int .i64 0, .int .i64 0, .int .i64 0, .int .i64 0, .int .i64 0, .int .i64 0, .int .i64 0], .bool false, .int .i64 at_] from rfl]
      clear hP1 HRG
      go_wp2_with fail
      refine bodyPost_ret (results_tmp4 rfl _ _ _) rfl ?_
      exact ⟨by rw [hf.out]; rfl, B2.alloc B2.size _⟩
    · rw [show readV (⟨at_, wd, mo, dy, yr, hh, mi, ss, dyAt, yrAt, hhAt, miAt, ssAt⟩, true) s.size = .tuple #[.agg #[.int .i64 wd, .int .i64 mo, .int .i64 dy, .int .i64 yr, .int .i64 hh, .int .i64 mi, .int .i64 ss, .int .i64 (dyAt : Nat), .int .i64 (yrAt : Nat), .int .i64 (hhAt : Nat), .int .i64 (miAt : Nat), .int .i64 (ssAt : Nat)], .bool ((at_ : Int) == (s.size : Int)), .int .i64 at_] from rfl]
      by_cases hend : at_ = s.size
      · have he : ((at_ : Int) == (s.size : Int)) = true := by simp [hend]
        rw [he]
        have hr := HRG.out rfl (by omega)
        obtain ⟨wd0, wd1, mo0, mo1, dy0, dy1, yr0, yr1, yrL, hh0, hh1, mi0, mi1, ss0, ss1, -, -, -⟩ := hr
        dsimp only at wd0 wd1 mo0 mo1 dy0 dy1 yr0 yr1 yrL hh0 hh1 mi0 mi1 ss0 ss1
        have HYL := Lib.hid yrL
        have hP2 : Hid (parseV (momY ⟨at_, wd, mo, dy, yr, hh, mi, ss, dyAt, yrAt, hhAt, miAt, ssAt⟩ f (if f = 1 then Stm.nearY yr (nowY now - 49) else yr)) = P) := by
          rw [← hP1.out, if_neg (show ¬ (true = false ∨ at_ < s.size) by simp; omega), momentOf_eq]; rfl
        clear hP1 HRG hend he yrL
        have A := Lib.hid (CellsAt.first w2 [.int .i64 wd, .int .i64 mo, .int .i64 dy, .int .i64 yr, .int .i64 hh, .int .i64 mi, .int .i64 ss, .int .i64 (dyAt : Nat), .int .i64 (yrAt : Nat), .int .i64 (hhAt : Nat), .int .i64 (miAt : Nat), .int .i64 (ssAt : Nat)] 112)
        have B := B2.alloc B2.size (.cells #[.int .i64 wd, .int .i64 mo, .int .i64 dy, .int .i64 yr, .int .i64 hh, .int .i64 mi, .int .i64 ss, .int .i64 (dyAt : Nat), .int .i64 (yrAt : Nat), .int .i64 (hhAt : Nat), .int .i64 (miAt : Nat), .int .i64 (ssAt : Nat)] 112)
        by_cases hf1 : f = 1
        · have hP := hP2
          rw [if_pos hf1] at hP
          have HB1 : ((f : Int) == 1) = true := by simp [hf1]
          have hyl := HYL.out hf1
          obtain ⟨u1, u2, u3⟩ := Stm.nearY_bd yr (nowY now - 49)
          have hny : 1 ≤ nowY now ∧ nowY now ≤ 9999 := by
            have := Cal.yOf_ok (n := splitN now) (by unfold splitN; omega) (by unfold splitN; omega)
            exact ⟨this.1, this.2.1⟩
          have hnear := fun wx => rnear_any yr now wx hn yr0 hyl
          obtain ⟨Y, hY⟩ := name_it (Stm.nearY yr (nowY now - 49))
          rw [hY.out] at hP u1 u2 hnear
          have hY1 : -48 ≤ Y := by omega
          have hY2 : Y ≤ 10049 := by omega
          have HNR := Lib.hid hnear
          clear hP2 u1 u2 u3 hny hY hf1 HYL hnear
          go_wp2_with fail
          refine (HNR.out _).mono ?_; rintro e w4 ⟨rfl, hb4⟩
          have A4 := A.out.next hb4
          have B4 := B.trans (hb4.mono B.size)
          have k0 := A4.cell 0 (by simp)
          have k1 := A4.cell 1 (by simp)
          have k2 := A4.cell 2 (by simp)
          have k3 := A4.cell 3 (by simp)
          have k4 := A4.cell 4 (by simp)
          have k5 := A4.cell 5 (by simp)
          have k6 := A4.cell 6 (by simp)
          have k7 := A4.cell 7 (by simp)
          have k8 := A4.cell 8 (by simp)
          have k9 := A4.cell 9 (by simp)
          have k10 := A4.cell 10 (by simp)
          have k11 := A4.cell 11 (by simp)
          have g3 := A4.free 3
          simp only [List.getElem_cons_zero, List.getElem_cons_succ] at k0 k1 k2 k3 k4 k5 k6 k7 k8 k9 k10 k11
          have A6 : Hid (CellsAt (w4.setCell ⟨w2.heap.size, 3, none⟩ (.int .i64 Y)) w2.heap.size [.int .i64 wd, .int .i64 mo, .int .i64 dy, .int .i64 Y, .int .i64 hh, .int .i64 mi, .int .i64 ss, .int .i64 (dyAt : Nat), .int .i64 (yrAt : Nat), .int .i64 (hhAt : Nat), .int .i64 (miAt : Nat), .int .i64 (ssAt : Nat)]) := A4.set 3 (by simp) (.int .i64 Y)
          have B6 := B4.setCell (p := ⟨w2.heap.size, 3, none⟩) B2.size (.int .i64 Y)
          clear A4 B4 A B HNR hb4
          have A := A6
          have B := B6
          clear A6 B6
          by_cases h1 : Y < 1
          · have hf : Hid (P = .tuple #[.int .i64 0, .int .i64 0, .int .i64 41, .int .i64 (yrAt : Nat)]) := by rw [← hP.out]; unfold Hid momY; rw [if_pos (Or.inl h1)]; rfl
            clear hP
            go_wp2_with fail
            all_goals (try (exfalso; omega))
            generalize w4.setCell _ _ = wg at A B ⊢
            clear k0 k1 k2 k3 k4 k5 k6 k7 k8 k9 k10 k11 g3
            have c0 := A.out.cell 0 (by simp)
            have c1 := A.out.cell 1 (by simp)
            have c2 := A.out.cell 2 (by simp)
            have c3 := A.out.cell 3 (by simp)
            have c4 := A.out.cell 4 (by simp)
            have c5 := A.out.cell 5 (by simp)
            have c6 := A.out.cell 6 (by simp)
            have c7 := A.out.cell 7 (by simp)
            have c8 := A.out.cell 8 (by simp)
            have c9 := A.out.cell 9 (by simp)
            have c10 := A.out.cell 10 (by simp)
            have c11 := A.out.cell 11 (by simp)
            simp only [List.getElem_cons_zero, List.getElem_cons_succ] at c0 c1 c2 c3 c4 c5 c6 c7 c8 c9 c10 c11
            go_wp2_with fail
            all_goals (try (exfalso; omega))
            go_quiet (fail)
            go_wp2_with fail
            refine bodyPost_ret (results_tmp4 rfl _ _ _) rfl ?_
            exact ⟨by rw [hf.out]; rfl, below_drewN B _⟩
          · by_cases h2 : 9999 < Y
            · have hf : Hid (P = .tuple #[.int .i64 0, .int .i64 0, .int .i64 41, .int .i64 (yrAt : Nat)]) := by rw [← hP.out]; unfold Hid momY; rw [if_pos (Or.inr h2)]; rfl
              clear hP
              go_wp2_with fail
              all_goals (try (exfalso; omega))
              generalize w4.setCell _ _ = wg at A B ⊢
              clear k0 k1 k2 k3 k4 k5 k6 k7 k8 k9 k10 k11 g3
              have c0 := A.out.cell 0 (by simp)
              have c1 := A.out.cell 1 (by simp)
              have c2 := A.out.cell 2 (by simp)
              have c3 := A.out.cell 3 (by simp)
              have c4 := A.out.cell 4 (by simp)
              have c5 := A.out.cell 5 (by simp)
              have c6 := A.out.cell 6 (by simp)
              have c7 := A.out.cell 7 (by simp)
              have c8 := A.out.cell 8 (by simp)
              have c9 := A.out.cell 9 (by simp)
              have c10 := A.out.cell 10 (by simp)
              have c11 := A.out.cell 11 (by simp)
              simp only [List.getElem_cons_zero, List.getElem_cons_succ] at c0 c1 c2 c3 c4 c5 c6 c7 c8 c9 c10 c11
              go_wp2_with fail
              all_goals (try (exfalso; omega))
              go_quiet (fail)
              go_wp2_with fail
              refine bodyPost_ret (results_tmp4 rfl _ _ _) rfl ?_
              exact ⟨by rw [hf.out]; rfl, below_drewN B _⟩
            · have hP2 : Hid (parseV (if Cal.daysOk Y mo dy = false then ⟨0, 0, 41, (dyAt : Nat)⟩
                  else if 23 < hh then ⟨0, 0, 42, (hhAt : Nat)⟩ else if 59 < mi then ⟨0, 0, 42, (miAt : Nat)⟩ else if 60 < ss then ⟨0, 0, 42, (ssAt : Nat)⟩
                  else if wd ≠ (Cal.daysOf Y mo dy + 3) % 7 then ⟨0, 0, 43, 0⟩
                  else if 253402300799 < Cal.daysOf Y mo dy * 86400 + hh * 3600 + mi * 60 + ss then ⟨0, 0, 40, 0⟩ else ⟨Cal.daysOf Y mo dy * 86400 + hh * 3600 + mi * 60 + ss, (f : Nat), 0, 0⟩) = P) := by
                rw [← hP.out]; unfold Hid momY; rw [if_neg (show ¬ (Y < 1 ∨ 9999 < Y) by omega)]
              clear hP
              go_wp2_with fail
              all_goals (try (exfalso; omega))
              generalize w4.setCell _ _ = wg at A B ⊢
              clear k0 k1 k2 k3 k4 k5 k6 k7 k8 k9 k10 k11 g3
              have c0 := A.out.cell 0 (by simp)
              have c1 := A.out.cell 1 (by simp)
              have c2 := A.out.cell 2 (by simp)
              have c3 := A.out.cell 3 (by simp)
              have c4 := A.out.cell 4 (by simp)
              have c5 := A.out.cell 5 (by simp)
              have c6 := A.out.cell 6 (by simp)
              have c7 := A.out.cell 7 (by simp)
              have c8 := A.out.cell 8 (by simp)
              have c9 := A.out.cell 9 (by simp)
              have c10 := A.out.cell 10 (by simp)
              have c11 := A.out.cell 11 (by simp)
              simp only [List.getElem_cons_zero, List.getElem_cons_succ] at c0 c1 c2 c3 c4 c5 c6 c7 c8 c9 c10 c11
              all_goals (try (exfalso; omega))
              refine (rdays_any _ _ _ _).mono ?_; rintro e w5 ⟨rfl, hb5⟩
              have A5 := Lib.hid (A.out.next hb5)
              have B5 := B.trans (hb5.mono B.size)
              clear c0 c1 c2 c3 c4 c5 c6 c7 c8 c9 c10 c11 A B
              have c0 := A5.out.cell 0 (by simp)
              have c1 := A5.out.cell 1 (by simp)
              have c2 := A5.out.cell 2 (by simp)
              have c3 := A5.out.cell 3 (by simp)
              have c4 := A5.out.cell 4 (by simp)
              have c5 := A5.out.cell 5 (by simp)
              have c6 := A5.out.cell 6 (by simp)
              have c7 := A5.out.cell 7 (by simp)
              have c8 := A5.out.cell 8 (by simp)
              have c9 := A5.out.cell 9 (by simp)
              have c10 := A5.out.cell 10 (by simp)
              have c11 := A5.out.cell 11 (by simp)
              simp only [List.getElem_cons_zero, List.getElem_cons_succ] at c0 c1 c2 c3 c4 c5 c6 c7 c8 c9 c10 c11
              by_cases h3 : Cal.daysOk Y mo dy = true
              · obtain ⟨N, hN⟩ := name_it (Cal.daysOf Y mo dy)
                obtain ⟨n1, n2⟩ := daysOf_bd h3
                rw [hN.out] at n1 n2
                have e1 : Cal.daysN Y mo dy = N := by unfold Cal.daysN; rw [if_pos h3]; exact hN.out
                have e2 : Cal.daysE Y mo dy = 0 := by unfold Cal.daysE; rw [if_pos h3]
                rw [e1, e2]
                have hP3 : Hid (parseV (if 23 < hh then ⟨0, 0, 42, (hhAt : Nat)⟩ else if 59 < mi then ⟨0, 0, 42, (miAt : Nat)⟩ else if 60 < ss then ⟨0, 0, 42, (ssAt : Nat)⟩
                    else if wd ≠ (N + 3) % 7 then ⟨0, 0, 43, 0⟩
                    else if 253402300799 < N * 86400 + hh * 3600 + mi * 60 + ss then ⟨0, 0, 40, 0⟩ else ⟨N * 86400 + hh * 3600 + mi * 60 + ss, (f : Nat), 0, 0⟩) = P) := by
                  rw [← hP2.out, if_neg (show ¬ Cal.daysOk Y mo dy = false by rw [h3]; decide), hN.out]; rfl
                clear hP2 e1 e2 hN h3
                by_cases h4 : 23 < hh
                · have hf : Hid (P = .tuple #[.int .i64 0, .int .i64 0, .int .i64 42, .int .i64 (hhAt : Nat)]) := by rw [← hP3.out, if_pos h4]; rfl
                  clear hP3
                  go_wp2_with fail
                  all_goals (try (exfalso; omega))
                  go_quiet (fail)
                  go_wp2_with fail
                  refine bodyPost_ret (results_tmp4 rfl _ _ _) rfl ?_
                  exact ⟨by rw [hf.out]; rfl, below_drewN B5 _⟩
                · have hP3b : Hid (parseV (if 59 < mi then ⟨0, 0, 42, (miAt : Nat)⟩ else if 60 < ss then ⟨0, 0, 42, (ssAt : Nat)⟩
        else if wd ≠ (N + 3) % 7 then ⟨0, 0, 43, 0⟩ else if 253402300799 < N * 86400 + hh * 3600 + mi * 60 + ss then ⟨0, 0, 40, 0⟩ else ⟨N * 86400 + hh * 3600 + mi * 60 + ss, (f : Nat), 0, 0⟩) = P) := by rw [← hP3.out, if_neg h4]; all_goals rfl
                  clear hP3
                  by_cases h5 : 59 < mi
                  · have hf : Hid (P = .tuple #[.int .i64 0, .int .i64 0, .int .i64 42, .int .i64 (miAt : Nat)]) := by rw [← hP3b.out, if_pos h5]; rfl
                    clear hP3b
                    go_wp2_with fail
                    all_goals (try (exfalso; omega))
                    go_quiet (fail)
                    go_wp2_with fail
                    refine bodyPost_ret (results_tmp4 rfl _ _ _) rfl ?_
                    exact ⟨by rw [hf.out]; rfl, below_drewN B5 _⟩
                  · have hP3bb : Hid (parseV (if 60 < ss then ⟨0, 0, 42, (ssAt : Nat)⟩ else if wd ≠ (N + 3) % 7 then ⟨0, 0, 43, 0⟩ else if 253402300799 < N * 86400 + hh * 3600 + mi * 60 + ss then ⟨0, 0, 40, 0⟩ else ⟨N * 86400 + hh * 3600 + mi * 60 + ss, (f : Nat), 0, 0⟩) = P) := by rw [← hP3b.out, if_neg h5]; all_goals rfl
                    clear hP3b
                    by_cases h6 : 60 < ss
                    · have hf : Hid (P = .tuple #[.int .i64 0, .int .i64 0, .int .i64 42, .int .i64 (ssAt : Nat)]) := by rw [← hP3bb.out, if_pos h6]; rfl
                      clear hP3bb
                      go_wp2_with fail
                      all_goals (try (exfalso; omega))
                      go_quiet (fail)
                      go_wp2_with fail
                      refine bodyPost_ret (results_tmp4 rfl _ _ _) rfl ?_
                      exact ⟨by rw [hf.out]; rfl, below_drewN B5 _⟩
                    · have hP3bbb : Hid (parseV (if wd ≠ (N + 3) % 7 then ⟨0, 0, 43, 0⟩ else if 253402300799 < N * 86400 + hh * 3600 + mi * 60 + ss then ⟨0, 0, 40, 0⟩ else ⟨N * 86400 + hh * 3600 + mi * 60 + ss, (f : Nat), 0, 0⟩) = P) := by rw [← hP3bb.out, if_neg h6]; all_goals rfl
                      clear hP3bb
                      obtain ⟨W, hW⟩ := name_it (wday N)
                      have hWe : Hid ((N + 3) % 7 = W) := hW
                      rw [hWe.out] at hP3bbb
                      have hwk : ∀ (wx : World) (q : Nat), Calls Tryz.prog 71 #[.int .i64 N] (wx.drewN q) fun e w' => e = .returned (.int .i64 W) ∧ ∃ m, w' = wx.drewN m := by
                        intro wx q
                        rw [← hW.out]
                        exact quiet_left (rweekday_any N _ (by omega) (by omega))
                      have HWK := Lib.hid hwk
                      clear hwk hW hWe
                      by_cases h7 : wd = W
                      · have hP3bbbc : Hid (parseV (if 253402300799 < N * 86400 + hh * 3600 + mi * 60 + ss then ⟨0, 0, 40, 0⟩ else ⟨N * 86400 + hh * 3600 + mi * 60 + ss, (f : Nat), 0, 0⟩) = P) := by rw [← hP3bbb.out, if_neg (show ¬ wd ≠ W from fun h => h h7)]; all_goals rfl
                        clear hP3bbb
                        have q1 : (wd == W) = true := by simp [h7]
                        have q2 : (wd != W) = false := by simp [h7]
                        clear h7
                        by_cases h8 : 253402300799 < N * 86400 + hh * 3600 + mi * 60 + ss
                        · have hf : Hid (P = .tuple #[.int .i64 0, .int .i64 0, .int .i64 40, .int .i64 0]) := by rw [← hP3bbbc.out, if_pos h8]; rfl
                          clear hP3bbbc
                          go_wp2_with fail
                          all_goals (try (exfalso; omega))
                          go_quiet ((go_at_call 71; first | (with_reducible exact HWK.out _ _)))
                          go_wp2_with fail
                          refine bodyPost_ret (results_tmp4 rfl _ _ _) rfl ?_
                          exact ⟨by rw [hf.out]; rfl, below_drewN B5 _⟩
                        · have hf : Hid (P = .tuple #[.int .i64 (N * 86400 + hh * 3600 + mi * 60 + ss), .int .i64 (f : Nat), .int .i64 0, .int .i64 0]) := by rw [← hP3bbbc.out, if_neg h8]; rfl
                          clear hP3bbbc
                          go_wp2_with fail
                          all_goals (try (exfalso; omega))
                          go_quiet ((go_at_call 71; first | (with_reducible exact HWK.out _ _)))
                          go_wp2_with fail
                          refine bodyPost_ret (results_tmp4 rfl _ _ _) rfl ?_
                          exact ⟨by rw [hf.out]; rfl, below_drewN B5 _⟩
                      · have hf : Hid (P = .tuple #[.int .i64 0, .int .i64 0, .int .i64 43, .int .i64 0]) := by rw [← hP3bbb.out, if_pos h7]; rfl
                        clear hP3bbb
                        have q1 : (wd == W) = false := by simp [h7]
                        have q2 : (wd != W) = true := by simp [h7]
                        go_wp2_with fail
                        all_goals (try (exfalso; omega))
                        go_quiet ((go_at_call 71; first | (with_reducible exact HWK.out _ _)))
                        go_wp2_with fail
                        refine bodyPost_ret (results_tmp4 rfl _ _ _) rfl ?_
                        exact ⟨by rw [hf.out]; rfl, below_drewN B5 _⟩
              · have h3' : Cal.daysOk Y mo dy = false := by simpa using h3
                have e1 : Cal.daysN Y mo dy = 0 := by unfold Cal.daysN; rw [if_neg h3]
                have e2 : Cal.daysE Y mo dy = 41 := by unfold Cal.daysE; rw [if_neg h3]
                rw [e1, e2]
                have hf : Hid (P = .tuple #[.int .i64 0, .int .i64 0, .int .i64 41, .int .i64 (dyAt : Nat)]) := by rw [← hP2.out, if_pos h3']; rfl
                clear hP2 e1 e2 h3 h3'
                go_wp2_with fail
                all_goals (try (exfalso; omega))
                go_quiet (fail)
                go_wp2_with fail
                refine bodyPost_ret (results_tmp4 rfl _ _ _) rfl ?_
                exact ⟨by rw [hf.out]; rfl, below_drewN B5 _⟩
        · have hP := hP2
          rw [if_neg hf1] at hP
          have HB1 : ((f : Int) == 1) = false := by simp; omega
          clear hP2 HYL hf1
          by_cases h1 : yr < 1
          · have hf : Hid (P = .tuple #[.int .i64 0, .int .i64 0, .int .i64 41, .int .i64 (yrAt : Nat)]) := by rw [← hP.out]; unfold Hid momY; rw [if_pos (Or.inl h1)]; rfl
            clear hP
            go_wp2_with fail
            all_goals (try (exfalso; omega))
            generalize w2.alloc _ = wg at A B ⊢
            have c0 := A.out.cell 0 (by simp)
            have c1 := A.out.cell 1 (by simp)
            have c2 := A.out.cell 2 (by simp)
            have c3 := A.out.cell 3 (by simp)
            have c4 := A.out.cell 4 (by simp)
            have c5 := A.out.cell 5 (by simp)
            have c6 := A.out.cell 6 (by simp)
            have c7 := A.out.cell 7 (by simp)
            have c8 := A.out.cell 8 (by simp)
            have c9 := A.out.cell 9 (by simp)
            have c10 := A.out.cell 10 (by simp)
            have c11 := A.out.cell 11 (by simp)
            simp only [List.getElem_cons_zero, List.getElem_cons_succ] at c0 c1 c2 c3 c4 c5 c6 c7 c8 c9 c10 c11
            go_wp2_with fail
            all_goals (try (exfalso; omega))
            go_quiet (fail)
            go_wp2_with fail
            refine bodyPost_ret (results_tmp4 rfl _ _ _) rfl ?_
            exact ⟨by rw [hf.out]; rfl, below_drewN B _⟩
          · by_cases h2 : 9999 < yr
            · exact absurd h2 (by omega)
            · have hP2 : Hid (parseV (if Cal.daysOk yr mo dy = false then ⟨0, 0, 41, (dyAt : Nat)⟩
                  else if 23 < hh then ⟨0, 0, 42, (hhAt : Nat)⟩ else if 59 < mi then ⟨0, 0, 42, (miAt : Nat)⟩ else if 60 < ss then ⟨0, 0, 42, (ssAt : Nat)⟩
                  else if wd ≠ (Cal.daysOf yr mo dy + 3) % 7 then ⟨0, 0, 43, 0⟩
                  else if 253402300799 < Cal.daysOf yr mo dy * 86400 + hh * 3600 + mi * 60 + ss then ⟨0, 0, 40, 0⟩ else ⟨Cal.daysOf yr mo dy * 86400 + hh * 3600 + mi * 60 + ss, (f : Nat), 0, 0⟩) = P) := by
                rw [← hP.out]; unfold Hid momY; rw [if_neg (show ¬ (yr < 1 ∨ 9999 < yr) by omega)]
              clear hP
              go_wp2_with fail
              all_goals (try (exfalso; omega))
              generalize w2.alloc _ = wg at A B ⊢
              have c0 := A.out.cell 0 (by simp)
              have c1 := A.out.cell 1 (by simp)
              have c2 := A.out.cell 2 (by simp)
              have c3 := A.out.cell 3 (by simp)
              have c4 := A.out.cell 4 (by simp)
              have c5 := A.out.cell 5 (by simp)
              have c6 := A.out.cell 6 (by simp)
              have c7 := A.out.cell 7 (by simp)
              have c8 := A.out.cell 8 (by simp)
              have c9 := A.out.cell 9 (by simp)
              have c10 := A.out.cell 10 (by simp)
              have c11 := A.out.cell 11 (by simp)
              simp only [List.getElem_cons_zero, List.getElem_cons_succ] at c0 c1 c2 c3 c4 c5 c6 c7 c8 c9 c10 c11
              all_goals (try (exfalso; omega))
              refine (rdays_any _ _ _ _).mono ?_; rintro e w5 ⟨rfl, hb5⟩
              have A5 := Lib.hid (A.out.next hb5)
              have B5 := B.trans (hb5.mono B.size)
              clear c0 c1 c2 c3 c4 c5 c6 c7 c8 c9 c10 c11 A B
              have c0 := A5.out.cell 0 (by simp)
              have c1 := A5.out.cell 1 (by simp)
              have c2 := A5.out.cell 2 (by simp)
              have c3 := A5.out.cell 3 (by simp)
              have c4 := A5.out.cell 4 (by simp)
              have c5 := A5.out.cell 5 (by simp)
              have c6 := A5.out.cell 6 (by simp)
              have c7 := A5.out.cell 7 (by simp)
              have c8 := A5.out.cell 8 (by simp)
              have c9 := A5.out.cell 9 (by simp)
              have c10 := A5.out.cell 10 (by simp)
              have c11 := A5.out.cell 11 (by simp)
              simp only [List.getElem_cons_zero, List.getElem_cons_succ] at c0 c1 c2 c3 c4 c5 c6 c7 c8 c9 c10 c11
              by_cases h3 : Cal.daysOk yr mo dy = true
              · obtain ⟨N, hN⟩ := name_it (Cal.daysOf yr mo dy)
                obtain ⟨n1, n2⟩ := daysOf_bd h3
                rw [hN.out] at n1 n2
                have e1 : Cal.daysN yr mo dy = N := by unfold Cal.daysN; rw [if_pos h3]; exact hN.out
                have e2 : Cal.daysE yr mo dy = 0 := by unfold Cal.daysE; rw [if_pos h3]
                rw [e1, e2]
                have hP3 : Hid (parseV (if 23 < hh then ⟨0, 0, 42, (hhAt : Nat)⟩ else if 59 < mi then ⟨0, 0, 42, (miAt : Nat)⟩ else if 60 < ss then ⟨0, 0, 42, (ssAt : Nat)⟩
                    else if wd ≠ (N + 3) % 7 then ⟨0, 0, 43, 0⟩
                    else if 253402300799 < N * 86400 + hh * 3600 + mi * 60 + ss then ⟨0, 0, 40, 0⟩ else ⟨N * 86400 + hh * 3600 + mi * 60 + ss, (f : Nat), 0, 0⟩) = P) := by
                  rw [← hP2.out, if_neg (show ¬ Cal.daysOk yr mo dy = false by rw [h3]; decide), hN.out]; rfl
                clear hP2 e1 e2 hN h3
                by_cases h4 : 23 < hh
                · have hf : Hid (P = .tuple #[.int .i64 0, .int .i64 0, .int .i64 42, .int .i64 (hhAt : Nat)]) := by rw [← hP3.out, if_pos h4]; rfl
                  clear hP3
                  go_wp2_with fail
                  all_goals (try (exfalso; omega))
                  go_quiet (fail)
                  go_wp2_with fail
                  refine bodyPost_ret (results_tmp4 rfl _ _ _) rfl ?_
                  exact ⟨by rw [hf.out]; rfl, below_drewN B5 _⟩
                · have hP3b : Hid (parseV (if 59 < mi then ⟨0, 0, 42, (miAt : Nat)⟩ else if 60 < ss then ⟨0, 0, 42, (ssAt : Nat)⟩
        else if wd ≠ (N + 3) % 7 then ⟨0, 0, 43, 0⟩ else if 253402300799 < N * 86400 + hh * 3600 + mi * 60 + ss then ⟨0, 0, 40, 0⟩ else ⟨N * 86400 + hh * 3600 + mi * 60 + ss, (f : Nat), 0, 0⟩) = P) := by rw [← hP3.out, if_neg h4]; all_goals rfl
                  clear hP3
                  by_cases h5 : 59 < mi
                  · have hf : Hid (P = .tuple #[.int .i64 0, .int .i64 0, .int .i64 42, .int .i64 (miAt : Nat)]) := by rw [← hP3b.out, if_pos h5]; rfl
                    clear hP3b
                    go_wp2_with fail
                    all_goals (try (exfalso; omega))
                    go_quiet (fail)
                    go_wp2_with fail
                    refine bodyPost_ret (results_tmp4 rfl _ _ _) rfl ?_
                    exact ⟨by rw [hf.out]; rfl, below_drewN B5 _⟩
                  · have hP3bb : Hid (parseV (if 60 < ss then ⟨0, 0, 42, (ssAt : Nat)⟩ else if wd ≠ (N + 3) % 7 then ⟨0, 0, 43, 0⟩ else if 253402300799 < N * 86400 + hh * 3600 + mi * 60 + ss then ⟨0, 0, 40, 0⟩ else ⟨N * 86400 + hh * 3600 + mi * 60 + ss, (f : Nat), 0, 0⟩) = P) := by rw [← hP3b.out, if_neg h5]; all_goals rfl
                    clear hP3b
                    by_cases h6 : 60 < ss
                    · have hf : Hid (P = .tuple #[.int .i64 0, .int .i64 0, .int .i64 42, .int .i64 (ssAt : Nat)]) := by rw [← hP3bb.out, if_pos h6]; rfl
                      clear hP3bb
                      go_wp2_with fail
                      all_goals (try (exfalso; omega))
                      go_quiet (fail)
                      go_wp2_with fail
                      refine bodyPost_ret (results_tmp4 rfl _ _ _) rfl ?_
                      exact ⟨by rw [hf.out]; rfl, below_drewN B5 _⟩
                    · have hP3bbb : Hid (parseV (if wd ≠ (N + 3) % 7 then ⟨0, 0, 43, 0⟩ else if 253402300799 < N * 86400 + hh * 3600 + mi * 60 + ss then ⟨0, 0, 40, 0⟩ else ⟨N * 86400 + hh * 3600 + mi * 60 + ss, (f : Nat), 0, 0⟩) = P) := by rw [← hP3bb.out, if_neg h6]; all_goals rfl
                      clear hP3bb
                      obtain ⟨W, hW⟩ := name_it (wday N)
                      have hWe : Hid ((N + 3) % 7 = W) := hW
                      rw [hWe.out] at hP3bbb
                      have hwk : ∀ (wx : World) (q : Nat), Calls Tryz.prog 71 #[.int .i64 N] (wx.drewN q) fun e w' => e = .returned (.int .i64 W) ∧ ∃ m, w' = wx.drewN m := by
                        intro wx q
                        rw [← hW.out]
                        exact quiet_left (rweekday_any N _ (by omega) (by omega))
                      have HWK := Lib.hid hwk
                      clear hwk hW hWe
                      by_cases h7 : wd = W
                      · have hP3bbbc : Hid (parseV (if 253402300799 < N * 86400 + hh * 3600 + mi * 60 + ss then ⟨0, 0, 40, 0⟩ else ⟨N * 86400 + hh * 3600 + mi * 60 + ss, (f : Nat), 0, 0⟩) = P) := by rw [← hP3bbb.out, if_neg (show ¬ wd ≠ W from fun h => h h7)]; all_goals rfl
                        clear hP3bbb
                        have q1 : (wd == W) = true := by simp [h7]
                        have q2 : (wd != W) = false := by simp [h7]
                        clear h7
                        by_cases h8 : 253402300799 < N * 86400 + hh * 3600 + mi * 60 + ss
                        · have hf : Hid (P = .tuple #[.int .i64 0, .int .i64 0, .int .i64 40, .int .i64 0]) := by rw [← hP3bbbc.out, if_pos h8]; rfl
                          clear hP3bbbc
                          go_wp2_with fail
                          all_goals (try (exfalso; omega))
                          go_quiet ((go_at_call 71; first | (with_reducible exact HWK.out _ _)))
                          go_wp2_with fail
                          refine bodyPost_ret (results_tmp4 rfl _ _ _) rfl ?_
                          exact ⟨by rw [hf.out]; rfl, below_drewN B5 _⟩
                        · have hf : Hid (P = .tuple #[.int .i64 (N * 86400 + hh * 3600 + mi * 60 + ss), .int .i64 (f : Nat), .int .i64 0, .int .i64 0]) := by rw [← hP3bbbc.out, if_neg h8]; rfl
                          clear hP3bbbc
                          go_wp2_with fail
                          all_goals (try (exfalso; omega))
                          go_quiet ((go_at_call 71; first | (with_reducible exact HWK.out _ _)))
                          go_wp2_with fail
                          refine bodyPost_ret (results_tmp4 rfl _ _ _) rfl ?_
                          exact ⟨by rw [hf.out]; rfl, below_drewN B5 _⟩
                      · have hf : Hid (P = .tuple #[.int .i64 0, .int .i64 0, .int .i64 43, .int .i64 0]) := by rw [← hP3bbb.out, if_pos h7]; rfl
                        clear hP3bbb
                        have q1 : (wd == W) = false := by simp [h7]
                        have q2 : (wd != W) = true := by simp [h7]
                        go_wp2_with fail
                        all_goals (try (exfalso; omega))
                        go_quiet ((go_at_call 71; first | (with_reducible exact HWK.out _ _)))
                        go_wp2_with fail
                        refine bodyPost_ret (results_tmp4 rfl _ _ _) rfl ?_
                        exact ⟨by rw [hf.out]; rfl, below_drewN B5 _⟩
              · have h3' : Cal.daysOk yr mo dy = false := by simpa using h3
                have e1 : Cal.daysN yr mo dy = 0 := by unfold Cal.daysN; rw [if_neg h3]
                have e2 : Cal.daysE yr mo dy = 41 := by unfold Cal.daysE; rw [if_neg h3]
                rw [e1, e2]
                have hf : Hid (P = .tuple #[.int .i64 0, .int .i64 0, .int .i64 41, .int .i64 (dyAt : Nat)]) := by rw [← hP2.out, if_pos h3']; rfl
                clear hP2 e1 e2 h3 h3'
                go_wp2_with fail
                all_goals (try (exfalso; omega))
                go_quiet (fail)
                go_wp2_with fail
                refine bodyPost_ret (results_tmp4 rfl _ _ _) rfl ?_
                exact ⟨by rw [hf.out]; rfl, below_drewN B5 _⟩
      · have he : ((at_ : Int) == (s.size : Int)) = false := by simp; omega
        rw [he]
        have hf : Hid (P = .tuple #[.int .i64 0, .int .i64 0, .int .i64 44, .int .i64 at_]) := by rw [← hP1.out, if_pos (Or.inr (by omega))]; rfl
        clear hP1 HRG he
        go_wp2_with fail
        refine bodyPost_ret (results_tmp4 rfl _ _ _) rfl ?_
        exact ⟨by rw [hf.out]; rfl, B2.alloc B2.size _⟩
  · have hn' : isMom now = false := by simpa using hn
    have hf : Hid (P = .tuple #[.int .i64 0, .int .i64 0, .int .i64 40, .int .i64 0]) := by rw [← hP0.out]; unfold Hid Stm.parseP; rw [hn', if_pos rfl]; rfl
    have hcase : now < -62135596800 ∨ (-62135596800 ≤ now ∧ 253402300799 < now) := by
      unfold isMom at hn'
      rw [decide_eq_false_iff_not] at hn'
      omega
    clear hP0 hn hn'
    rcases hcase with h | ⟨h, h'⟩
    all_goals
      go_enter Tryz.func51, Tryz.ntmps51
      go_wp2_with fail
      all_goals (try (exfalso; omega))
      refine bodyPost_ret (results_tmp4 rfl _ _ _) rfl ?_
      exact ⟨by rw [hf.out]; rfl, Below.refl _ _⟩
end Go.Proofs.YtjalfddedikibaaGreatDoor
