/- StampDays, StampCycle: the walks of the laws. -/
import Derived.Test.YtmfnofpphnlbnaaDoorStampN
namespace Go.Proofs.YtmfnofpphnlbnaaDoor
open Go Go.RowKit
set_option maxHeartbeats 4000000

/-- the date of a moment of a day -/
theorem split_at {y m d r : Int} (h : Cal.daysOk y m d = true) (r0 : 0 ≤ r) (r1 : r < 86400) :
    splitD (Cal.daysOf y m d * 86400 + r) = dateV y m d (r / 3600) (r / 60 % 60) (r % 60) ((Cal.daysOf y m d + 719162) % 7) ∧ splitE (Cal.daysOf y m d * 86400 + r) = 0 := by
  have hb := daysOf_bd h
  have hd := Stm.daysOf_date h
  obtain ⟨N, hN⟩ : ∃ N, N = Cal.daysOf y m d := ⟨_, rfl⟩
  rw [← hN] at hb hd ⊢
  have hm : isMom (N * 86400 + r) = true := by unfold isMom; exact decide_eq_true (by omega)
  have e1 : splitN (N * 86400 + r) = N + 719162 := by unfold splitN; omega
  have e2 : splitR (N * 86400 + r) = r := by unfold splitR; omega
  obtain ⟨a, b, c⟩ := date_is (by omega) (by omega) hd
  refine ⟨?_, by unfold splitE; rw [if_pos hm]⟩
  unfold splitD
  rw [if_pos hm, e1, e2, a, b, c]
theorem daysBad {y m d : Int} (h : Cal.daysOk y m d = false) : y < 1 ∨ (1 ≤ y ∧ 9999 < y) ∨ (1 ≤ y ∧ y ≤ 9999 ∧ d < 1) ∨ (1 ≤ y ∧ y ≤ 9999 ∧ 1 ≤ d ∧ Cal.mdays y m < d) := by
  unfold Cal.daysOk at h
  rw [decide_eq_false_iff_not] at h
  omega

set_option maxRecDepth 100000 in
theorem lawDays_any (y m d : Int) (w : World) (hE : EnvS w) :
    Calls Tryd.prog 7 #[.int .i64 y, .int .i64 m, .int .i64 d] w fun e w' => e = .returned (.bool true) ∧ Below w.heap.size w w' := by
  have HE := Lib.hid hE
  clear hE
  obtain ⟨M, hM⟩ := name_it (Cal.mdays y m)
  by_cases hok : Cal.daysOk y m d = true
  · have hk := hok
    unfold Cal.daysOk at hk
    rw [decide_eq_true_eq, hM.out] at hk
    obtain ⟨y1, y2, d1, d2⟩ := hk
    have hM31 := Cal.mdays_lo y m
    obtain ⟨m1, m2⟩ := Cal.mdays_in y m (by rw [hM.out]; omega)
    rw [hM.out] at hM31
    have hbd := daysOf_bd hok
    have hs0 := split_at hok (r := 0) (by omega) (by omega)
    have hdate := Stm.next_date (Stm.daysOf_date hok)
    have hyr := Cal.isDate_year (Stm.daysOf_date hok)
    have e1 : Hid (Cal.daysN y m d = Cal.daysOf y m d) := by unfold Cal.daysN; rw [if_pos hok]; rfl
    have e2 : Hid (Cal.daysE y m d = 0) := by unfold Cal.daysE; rw [if_pos hok]; rfl
    have hnx := fun wx => next_any y m d wx (by omega) (by omega) (by omega) (by omega) (by omega) (by omega)
    obtain ⟨N, hN⟩ := name_it (Cal.daysOf y m d)
    rw [hN.out] at hbd hs0 hdate hyr e1
    obtain ⟨n1, n2⟩ := hbd
    have q1 := Int.emod_nonneg (N + 719162) (b := 7) (by omega)
    have q2 := Int.emod_lt_of_pos (N + 719162) (b := 7) (by omega)
    have q3 : Hid ((N + 1 + 719162) % 7 = ((N + 719162) % 7 + 1) % 7) := by unfold Hid; omega
    obtain ⟨W, hW⟩ := name_it ((N + 719162) % 7)
    rw [hW.out] at q1 q2 q3 hs0
    obtain ⟨Y', hY⟩ := name_it (Stm.nextY y m d)
    obtain ⟨M', hM'⟩ := name_it (Stm.nextM y m d)
    obtain ⟨D', hD⟩ := name_it (Stm.nextD y m d)
    rw [hY.out, hM'.out, hD.out] at hdate hnx
    have hy' : y ≤ Y' ∧ Y' ≤ y + 1 := by rw [← hY.out]; unfold Stm.nextY; split <;> (try split) <;> omega
    have HS0 : Hid (splitD (N * 86400) = dateV y m d 0 0 0 W ∧ splitE (N * 86400) = 0) := by
      have := hs0; rw [Int.add_zero] at this; exact this
    have HNX := Lib.hid hnx
    have HD := Lib.hid hdate
    clear hs0 hnx hdate hW hY hM' hD hN hok
    go_enter Tryd.func7, Tryd.ntmps7
    go_wp2_with fail
    refine (awake_any _ HE.out).mono ?_; rintro e w1 ⟨rfl, hb1⟩
    go_wp2_with fail
    refine (days_any _ _ _ _).mono ?_; rintro e w2 ⟨rfl, rfl⟩
    rw [e1.out, e2.out]
    go_wp2_with fail
    all_goals (try (exfalso; omega))
    refine (rmdays_any _ _ _).mono ?_; rintro e w2 ⟨rfl, hb2⟩
    rw [hM.out]
    have b2 := hb1.trans (hb2.mono hb1.size)
    go_wp2_with fail
    all_goals (try (exfalso; omega))
    refine (split_any _ _).mono ?_; rintro e w3 ⟨rfl, hb3⟩
    rw [HS0.out.1, HS0.out.2]
    unfold dateV
    have b3 := b2.trans (hb3.mono b2.size)
    have A1 := Lib.hid (CellsAt.first w3 (dateL y m d 0 0 0 W) 32)
    have b4 := b3.alloc b3.size (.cells #[.int .i64 y, .int .i64 m, .int .i64 d, .int .i64 0, .int .i64 0, .int .i64 0, .int .i64 W] 32)
    go_wp2_with fail
    all_goals (try (exfalso; omega))
    refine (HNX.out _).mono ?_; rintro e w4 ⟨rfl, hb4⟩
    have b5 := b4.trans (hb4.mono b4.size)
    have A2 := Lib.hid (A1.out.next hb4)
    have cW := A2.out.cell 6 (by simp [dateL])
    simp only [dateL, List.getElem_cons_zero, List.getElem_cons_succ] at cW
    by_cases hY9 : 9999 < Y'
    · have hn : N = 2932896 := by
        have h1 := (Cal.isDate_year HD.out).1
        have h2 := Cal.dby_mono 10000 Y' (by omega)
        have h3 := Cal.dby_mono (y + 1) 10000 (by omega)
        have h4 : Cal.dby 10000 = 3652059 := by simp [Cal.dby]
        omega
      subst hn
      go_wp2_with fail
      all_goals (try (exfalso; omega))
      go_ret
      exact ⟨rfl, b5⟩
    · have hok' := Stm.ok_of_date HD.out (by omega) (by omega)
      have hs1 := split_at hok'.1 (r := 86399) (by omega) (by omega)
      have e3 : Hid (Cal.daysN Y' M' D' = N + 1) := by unfold Cal.daysN; rw [if_pos hok'.1, hok'.2]; unfold Hid; omega
      have e4 : Hid (Cal.daysE Y' M' D' = 0) := by unfold Cal.daysE; rw [if_pos hok'.1]; rfl
      have HS1 : Hid (splitD ((N + 1) * 86400 + 86399) = dateV Y' M' D' 23 59 59 ((W + 1) % 7) ∧ splitE ((N + 1) * 86400 + 86399) = 0) := by
        have h5 : Cal.daysOf Y' M' D' = N + 1 := by rw [hok'.2]; omega
        rw [h5, q3.out] at hs1
        exact hs1
      clear hs1 hok'
      go_wp2_with fail
      all_goals (try (exfalso; omega))
      refine (days_any _ _ _ _).mono ?_; rintro e w5 ⟨rfl, rfl⟩
      rw [e3.out, e4.out]
      go_wp2_with fail
      all_goals (try (exfalso; omega))
      refine (split_any _ _).mono ?_; rintro e w6 ⟨rfl, hb6⟩
      rw [HS1.out.1, HS1.out.2]
      unfold dateV
      have b6 := b5.trans (hb6.mono b5.size)
      have b7 := b6.alloc b6.size (.cells #[.int .i64 Y', .int .i64 M', .int .i64 D', .int .i64 23, .int .i64 59, .int .i64 59, .int .i64 ((W + 1) % 7)] 32)
      have cW2 := (A2.out.next hb6).cell 6 (by simp [dateL])
      have hlt := (A2.out.next hb6).lt
      simp only [dateL, List.getElem_cons_zero, List.getElem_cons_succ] at cW2
      go_wp2_with fail
      all_goals (try (exfalso; omega))
      go_ret
      exact ⟨rfl, b7⟩
  · have hok : Cal.daysOk y m d = false := by simpa using hok
    have e1 : Hid (Cal.daysN y m d = 0) := by unfold Cal.daysN; rw [hok]; rfl
    have e2 : Hid (Cal.daysE y m d = 41) := by unfold Cal.daysE; rw [hok]; rfl
    have hcs := daysBad hok
    rw [hM.out] at hcs
    clear hok
    rcases hcs with h | ⟨h, h'⟩ | ⟨h, h', h2⟩ | ⟨h, h', h2, h3⟩
    all_goals
      go_enter Tryd.func7, Tryd.ntmps7
      go_wp2_with fail
      refine (awake_any _ HE.out).mono ?_; rintro e w1 ⟨rfl, hb1⟩
      go_wp2_with fail
      refine (days_any _ _ _ _).mono ?_; rintro e w2 ⟨rfl, rfl⟩
      rw [e1.out, e2.out]
      go_wp2_with (go_at_call 19; refine (rmdays_any _ _ _).mono ?_; rintro e w2 ⟨rfl, hb2⟩; rw [hM.out])
      all_goals (try (exfalso; omega))
      go_ret
      first | exact ⟨rfl, hb1⟩ | exact ⟨rfl, hb1.trans (Below.mono (by assumption) hb1.size)⟩

theorem cycle_split {m : Int} (h0 : -62135596800 ≤ m) (h1 : m ≤ 240779519999) : ∃ y mo d h mi s wd : Int, Hid (splitD m = dateV y mo d h mi s wd) ∧ Hid (splitE m = 0) ∧ Hid (splitD (m + 12622780800) = dateV (y + 400) mo d h mi s wd) ∧ Hid (splitE (m + 12622780800) = 0) ∧ 1 ≤ y ∧ y ≤ 9999 := by
  have a1 : isMom m = true := by unfold isMom; exact decide_eq_true (by omega)
  have a2 : isMom (m + 12622780800) = true := by unfold isMom; exact decide_eq_true (by omega)
  have n1 : splitN (m + 12622780800) = splitN m + 146097 := by unfold splitN; omega
  have n2 : splitR (m + 12622780800) = splitR m := by unfold splitR; omega
  have n3 : 0 ≤ splitN m := by unfold splitN; omega
  have n4 : splitN m + 146097 < 3652059 := by unfold splitN; omega
  obtain ⟨e1, e2, e3⟩ := Stm.cycle_date n3 n4
  have hy := Cal.yOf_ok n3 (show splitN m < 3652059 by omega)
  refine ⟨_, _, _, _, _, _, _, by unfold Hid splitD; rw [if_pos a1], by unfold Hid splitE; rw [if_pos a1], ?_, by unfold Hid splitE; rw [if_pos a2], hy.1, hy.2.1⟩
  unfold Hid splitD
  rw [if_pos a2, n1, n2, e1, e2, e3, show (splitN m + 146097) % 7 = splitN m % 7 by omega]

set_option maxRecDepth 100000 in
theorem lawCycle_any (m : Int) (w : World) (hE : EnvS w) :
    Calls Tryd.prog 8 #[.int .i64 m] w fun e w' => e = .returned (.bool true) ∧ Below w.heap.size w w' := by
  have HE := Lib.hid hE
  clear hE
  by_cases hm : -62135596800 ≤ m ∧ m ≤ 240779519999
  · obtain ⟨m1, m2⟩ := hm
    obtain ⟨y, mo, d, h, mi, s, wd, HD, HE1, HD2, HE2, y1, y2⟩ := cycle_split m1 m2
    go_enter Tryd.func8, Tryd.ntmps8
    go_wp2_with fail
    refine (awake_any _ HE.out).mono ?_; rintro e w1 ⟨rfl, hb1⟩
    go_wp2_with fail
    all_goals (try (exfalso; omega))
    refine (split_any _ _).mono ?_; rintro e w2 ⟨rfl, hb2⟩
    rw [HD.out, HE1.out]
    unfold dateV
    have b2 := hb1.trans (hb2.mono hb1.size)
    have A1 := Lib.hid (CellsAt.first w2 (dateL y mo d h mi s wd) 32)
    have b3 := b2.alloc b2.size (.cells #[.int .i64 y, .int .i64 mo, .int .i64 d, .int .i64 h, .int .i64 mi, .int .i64 s, .int .i64 wd] 32)
    go_wp2_with fail
    all_goals (try (exfalso; omega))
    refine (split_any _ _).mono ?_; rintro e w3 ⟨rfl, hb3⟩
    rw [HD2.out, HE2.out]
    unfold dateV
    have b4 := b3.trans (hb3.mono b3.size)
    have A2 := Lib.hid (A1.out.next hb3)
    have hlt := A2.out.lt
    have c0 := A2.out.cell 0 (by simp [dateL])
    have c1 := A2.out.cell 1 (by simp [dateL])
    have c2 := A2.out.cell 2 (by simp [dateL])
    have c3 := A2.out.cell 3 (by simp [dateL])
    have c4 := A2.out.cell 4 (by simp [dateL])
    have c5 := A2.out.cell 5 (by simp [dateL])
    have c6 := A2.out.cell 6 (by simp [dateL])
    simp only [dateL, List.getElem_cons_zero, List.getElem_cons_succ] at c0 c1 c2 c3 c4 c5 c6
    go_wp2_with fail
    all_goals (try (exfalso; omega))
    go_ret
    exact ⟨rfl, b4.alloc b4.size _⟩
  · have hcs : m < -62135596800 ∨ (-62135596800 ≤ m ∧ 240779519999 < m) := by omega
    clear hm
    rcases hcs with h | ⟨h, h'⟩
    all_goals
      go_enter Tryd.func8, Tryd.ntmps8
      go_wp2_with fail
      refine (awake_any _ HE.out).mono ?_; rintro e w1 ⟨rfl, hb1⟩
      go_wp2_with fail
      all_goals (try (exfalso; omega))
      go_ret
      exact ⟨rfl, hb1⟩
end Go.Proofs.YtmfnofpphnlbnaaDoor
