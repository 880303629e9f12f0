/- Contracts of Join (program and document), and of the laws' own plain, next, later, leapt. -/
import Derived.Test.YtmfnofpphnlbnaaDoorStampL
import Derived.Test.YtmfnofpphnlbnaaDoorStmF
namespace Go.Proofs.YtmfnofpphnlbnaaDoor
open Go Go.RowKit
set_option maxHeartbeats 4000000

def dateL (y mo d h mi s wd : Int) : List Value := [.int .i64 y, .int .i64 mo, .int .i64 d, .int .i64 h, .int .i64 mi, .int .i64 s, .int .i64 wd]
def timeOk (h mi s : Int) : Bool := decide (0 ≤ h ∧ h ≤ 23 ∧ 0 ≤ mi ∧ mi ≤ 59 ∧ 0 ≤ s ∧ s ≤ 59)
def joinV (y mo d h mi s wd : Int) : Value :=
  if Cal.daysOk y mo d = false then .tuple #[.int .i64 0, .int .i64 41]
  else if timeOk h mi s = false then .tuple #[.int .i64 0, .int .i64 42]
  else if wd ≠ wday (Cal.daysOf y mo d) then .tuple #[.int .i64 0, .int .i64 43]
  else .tuple #[.int .i64 (Cal.daysOf y mo d * 86400 + h * 3600 + mi * 60 + s), .int .i64 0]
theorem time_cases {h mi s : Int} (ht : timeOk h mi s = false) : h < 0 ∨ (0 ≤ h ∧ 23 < h) ∨ (0 ≤ h ∧ h ≤ 23 ∧ mi < 0) ∨ (0 ≤ h ∧ h ≤ 23 ∧ 0 ≤ mi ∧ 59 < mi) ∨ (0 ≤ h ∧ h ≤ 23 ∧ 0 ≤ mi ∧ mi ≤ 59 ∧ s < 0) ∨ (0 ≤ h ∧ h ≤ 23 ∧ 0 ≤ mi ∧ mi ≤ 59 ∧ 0 ≤ s ∧ 59 < s) := by
  unfold timeOk at ht
  rw [decide_eq_false_iff_not] at ht
  omega

set_option maxRecDepth 100000 in
theorem plain_any (y mo d h mi s wd : Int) (w : World) :
    Calls Tryd.prog 22 #[dateV y mo d h mi s wd] w fun e w' => e = .returned (dateV y mo d h mi s wd) ∧ Below w.heap.size w w' := by
  unfold dateV
  go_enter Tryd.func22, Tryd.ntmps22
  go_wp2_with fail
  refine bodyPost_ret (v := .agg #[.int .i64 y, .int .i64 mo, .int .i64 d, .int .i64 h, .int .i64 mi, .int .i64 s, .int .i64 wd]) (by simp [results, Tryd.results22, go_sem]) rfl ⟨rfl, ?_⟩
  have h1 := (Below.refl w.heap.size w).alloc (Nat.le_refl _) (.cells #[.int .i64 y, .int .i64 mo, .int .i64 d, .int .i64 h, .int .i64 mi, .int .i64 s, .int .i64 wd] 32)
  exact h1.alloc h1.size _

set_option maxRecDepth 100000 in
theorem join_any (y mo d h mi s wd : Int) (w : World) :
    Calls Tryd.prog 31 #[dateV y mo d h mi s wd] w fun e w' => e = .returned (joinV y mo d h mi s wd) ∧ Below w.heap.size w w' := by
  unfold dateV
  obtain ⟨V, hV⟩ := name_it (joinV y mo d h mi s wd)
  rw [hV.out]
  have A0 := CellsAt.first w (dateL y mo d h mi s wd) 32
  have hb0 := (Below.refl w.heap.size w).alloc (Nat.le_refl _) (.cells #[.int .i64 y, .int .i64 mo, .int .i64 d, .int .i64 h, .int .i64 mi, .int .i64 s, .int .i64 wd] 32)
  by_cases hok : Cal.daysOk y mo d = true
  · obtain ⟨N, hN⟩ := name_it (Cal.daysOf y mo d)
    obtain ⟨n1, n2⟩ := daysOf_bd hok
    rw [hN.out] at n1 n2
    have e1 : Hid (Cal.daysN y mo d = N) := by unfold Cal.daysN; rw [if_pos hok]; exact hN
    have e2 : Hid (Cal.daysE y mo d = 0) := by unfold Cal.daysE; rw [if_pos hok]; rfl
    have hV2 : Hid ((if timeOk h mi s = false then .tuple #[.int .i64 0, .int .i64 42] else if wd ≠ wday N then .tuple #[.int .i64 0, .int .i64 43] else .tuple #[.int .i64 (N * 86400 + h * 3600 + mi * 60 + s), .int .i64 0]) = V) := by
      rw [← hV.out]; unfold Hid joinV; rw [if_neg (show ¬ Cal.daysOk y mo d = false by rw [hok]; decide), hN.out]
    clear hV hN hok
    have A0' := Lib.hid A0
    clear A0
    by_cases ht : timeOk h mi s = true
    · obtain ⟨W, hW⟩ := name_it (wday N)
      have hV3 : Hid ((if wd ≠ W then .tuple #[.int .i64 0, .int .i64 43] else .tuple #[.int .i64 (N * 86400 + h * 3600 + mi * 60 + s), .int .i64 0]) = V) := by
        rw [← hV2.out, if_neg (show ¬ timeOk h mi s = false by rw [ht]; decide), hW.out]; rfl
      have hwk : ∀ (wx : World) (q : Nat), Calls Tryd.prog 51 #[.int .i64 N] (wx.drewN q) fun e w' => e = .returned (.int .i64 W) ∧ ∃ m, w' = wx.drewN m := by
        intro wx q
        rw [← hW.out]
        exact quiet_left (weekday_any N _ (by omega) (by omega))
      have HWK := Lib.hid hwk
      clear hwk hV2 hW
      unfold timeOk at ht
      rw [decide_eq_true_eq] at ht
      obtain ⟨t1, t2, t3, t4, t5, t6⟩ := ht
      by_cases hw : wd = W
      · have hf : Hid (V = .tuple #[.int .i64 (N * 86400 + h * 3600 + mi * 60 + s), .int .i64 0]) := by rw [← hV3.out, if_neg (by simp [hw])]; rfl
        have q1 : (wd == W) = true := by simp [hw]
        have q2 : (wd != W) = false := by simp [hw]
        clear hV3 hw
        go_enter Tryd.func31, Tryd.ntmps31
        go_wp2_with fail
        refine (days_any _ _ _ _).mono ?_; rintro e w1 ⟨rfl, rfl⟩
        rw [e1.out, e2.out]
        have B := hb0
        clear A0'
        go_wp2_with fail
        all_goals (try (exfalso; omega))
        go_quiet ((go_at_call 51; first | (with_reducible exact HWK.out _ _)))
        go_wp2_with fail
        all_goals (try (exfalso; omega))
        go_ret2
        exact ⟨by rw [hf.out]; rfl, below_drewN B _⟩
      · have hf : Hid (V = .tuple #[.int .i64 0, .int .i64 43]) := by rw [← hV3.out, if_pos hw]; rfl
        have q1 : (wd == W) = false := by simp [hw]
        have q2 : (wd != W) = true := by simp [hw]
        clear hV3 hw
        go_enter Tryd.func31, Tryd.ntmps31
        go_wp2_with fail
        refine (days_any _ _ _ _).mono ?_; rintro e w1 ⟨rfl, rfl⟩
        rw [e1.out, e2.out]
        have B := hb0
        clear A0'
        go_wp2_with fail
        all_goals (try (exfalso; omega))
        go_quiet ((go_at_call 51; first | (with_reducible exact HWK.out _ _)))
        go_wp2_with fail
        all_goals (try (exfalso; omega))
        go_ret2
        exact ⟨by rw [hf.out]; rfl, below_drewN B _⟩
    · have ht' : timeOk h mi s = false := by simpa using ht
      have hf : Hid (V = .tuple #[.int .i64 0, .int .i64 42]) := by rw [← hV2.out, if_pos ht']; rfl
      have hcs := time_cases ht'
      clear hV2 ht ht'
      rcases hcs with h1 | ⟨h1, h2⟩ | ⟨h1, h2, h3⟩ | ⟨h1, h2, h3, h4⟩ | ⟨h1, h2, h3, h4, h5⟩ | ⟨h1, h2, h3, h4, h5, h6⟩
      all_goals
        go_enter Tryd.func31, Tryd.ntmps31
        go_wp2_with fail
        refine (days_any _ _ _ _).mono ?_; rintro e w1 ⟨rfl, rfl⟩
        rw [e1.out, e2.out]
        have B := hb0
        clear A0'
        go_wp2_with fail
        all_goals (try (exfalso; omega))
        go_ret2
        exact ⟨by rw [hf.out]; rfl, B⟩
  · have hok' : Cal.daysOk y mo d = false := by simpa using hok
    have e1 : Hid (Cal.daysN y mo d = 0) := by unfold Cal.daysN; rw [if_neg hok]; rfl
    have e2 : Hid (Cal.daysE y mo d = 41) := by unfold Cal.daysE; rw [if_neg hok]; rfl
    have hf : Hid (V = .tuple #[.int .i64 0, .int .i64 41]) := by rw [← hV.out]; unfold Hid joinV; rw [if_pos hok']
    clear hV hok hok'
    have A0' := Lib.hid A0
    clear A0
    go_enter Tryd.func31, Tryd.ntmps31
    go_wp2_with fail
    refine (days_any _ _ _ _).mono ?_; rintro e w1 ⟨rfl, rfl⟩
    rw [e1.out, e2.out]
    have B := hb0
    clear A0'
    go_wp2_with fail
    all_goals (try (exfalso; omega))
    go_ret2
    exact ⟨by rw [hf.out]; rfl, B⟩

set_option maxRecDepth 100000 in
theorem rjoin_any (y mo d h mi s wd : Int) (w : World) :
    Calls Tryd.prog 32 #[dateV y mo d h mi s wd] w fun e w' => e = .returned (joinV y mo d h mi s wd) ∧ Below w.heap.size w w' := by
  unfold dateV
  obtain ⟨V, hV⟩ := name_it (joinV y mo d h mi s wd)
  rw [hV.out]
  have A0 := CellsAt.first w (dateL y mo d h mi s wd) 35
  have hb0 := (Below.refl w.heap.size w).alloc (Nat.le_refl _) (.cells #[.int .i64 y, .int .i64 mo, .int .i64 d, .int .i64 h, .int .i64 mi, .int .i64 s, .int .i64 wd] 35)
  by_cases hok : Cal.daysOk y mo d = true
  · obtain ⟨N, hN⟩ := name_it (Cal.daysOf y mo d)
    obtain ⟨n1, n2⟩ := daysOf_bd hok
    rw [hN.out] at n1 n2
    have e1 : Hid (Cal.daysN y mo d = N) := by unfold Cal.daysN; rw [if_pos hok]; exact hN
    have e2 : Hid (Cal.daysE y mo d = 0) := by unfold Cal.daysE; rw [if_pos hok]; rfl
    have hV2 : Hid ((if timeOk h mi s = false then .tuple #[.int .i64 0, .int .i64 42] else if wd ≠ wday N then .tuple #[.int .i64 0, .int .i64 43] else .tuple #[.int .i64 (N * 86400 + h * 3600 + mi * 60 + s), .int .i64 0]) = V) := by
      rw [← hV.out]; unfold Hid joinV; rw [if_neg (show ¬ Cal.daysOk y mo d = false by rw [hok]; decide), hN.out]
    clear hV hN hok
    have A0' := Lib.hid A0
    clear A0
    by_cases ht : timeOk h mi s = true
    · obtain ⟨W, hW⟩ := name_it (wday N)
      have hV3 : Hid ((if wd ≠ W then .tuple #[.int .i64 0, .int .i64 43] else .tuple #[.int .i64 (N * 86400 + h * 3600 + mi * 60 + s), .int .i64 0]) = V) := by
        rw [← hV2.out, if_neg (show ¬ timeOk h mi s = false by rw [ht]; decide), hW.out]; rfl
      have hwk : ∀ (wx : World) (q : Nat), Calls Tryd.prog 36 #[.int .i64 N] (wx.drewN q) fun e w' => e = .returned (.int .i64 W) ∧ ∃ m, w' = wx.drewN m := by
        intro wx q
        rw [← hW.out]
        exact quiet_left (rweekday_any N _ (by omega) (by omega))
      have HWK := Lib.hid hwk
      clear hwk hV2 hW
      unfold timeOk at ht
      rw [decide_eq_true_eq] at ht
      obtain ⟨t1, t2, t3, t4, t5, t6⟩ := ht
      by_cases hw : wd = W
      · have hf : Hid (V = .tuple #[.int .i64 (N * 86400 + h * 3600 + mi * 60 + s), .int .i64 0]) := by rw [← hV3.out, if_neg (by simp [hw])]; rfl
        have q1 : (wd == W) = true := by simp [hw]
        have q2 : (wd != W) = false := by simp [hw]
        clear hV3 hw
        go_enter Tryd.func32, Tryd.ntmps32
        go_wp2_with fail
        refine (rdays_any _ _ _ _).mono ?_; rintro e w1 ⟨rfl, hb1⟩
        rw [e1.out, e2.out]
        have A := Lib.hid (A0'.out.next hb1)
        have B := hb0.trans (hb1.mono hb0.size)
        clear A0' hb1
        have c0 := A.out.cell 0 (by simp [dateL])
        have c1 := A.out.cell 1 (by simp [dateL])
        have c2 := A.out.cell 2 (by simp [dateL])
        have c3 := A.out.cell 3 (by simp [dateL])
        have c4 := A.out.cell 4 (by simp [dateL])
        have c5 := A.out.cell 5 (by simp [dateL])
        have c6 := A.out.cell 6 (by simp [dateL])
        simp only [dateL, List.getElem_cons_zero, List.getElem_cons_succ] at c0 c1 c2 c3 c4 c5 c6
        go_wp2_with fail
        all_goals (try (exfalso; omega))
        go_quiet ((go_at_call 36; first | (with_reducible exact HWK.out _ _)))
        go_wp2_with fail
        all_goals (try (exfalso; omega))
        go_ret2
        exact ⟨by rw [hf.out]; rfl, below_drewN B _⟩
      · have hf : Hid (V = .tuple #[.int .i64 0, .int .i64 43]) := by rw [← hV3.out, if_pos hw]; rfl
        have q1 : (wd == W) = false := by simp [hw]
        have q2 : (wd != W) = true := by simp [hw]
        clear hV3 hw
        go_enter Tryd.func32, Tryd.ntmps32
        go_wp2_with fail
        refine (rdays_any _ _ _ _).mono ?_; rintro e w1 ⟨rfl, hb1⟩
        rw [e1.out, e2.out]
        have A := Lib.hid (A0'.out.next hb1)
        have B := hb0.trans (hb1.mono hb0.size)
        clear A0' hb1
        have c0 := A.out.cell 0 (by simp [dateL])
        have c1 := A.out.cell 1 (by simp [dateL])
        have c2 := A.out.cell 2 (by simp [dateL])
        have c3 := A.out.cell 3 (by simp [dateL])
        have c4 := A.out.cell 4 (by simp [dateL])
        have c5 := A.out.cell 5 (by simp [dateL])
        have c6 := A.out.cell 6 (by simp [dateL])
        simp only [dateL, List.getElem_cons_zero, List.getElem_cons_succ] at c0 c1 c2 c3 c4 c5 c6
        go_wp2_with fail
        all_goals (try (exfalso; omega))
        go_quiet ((go_at_call 36; first | (with_reducible exact HWK.out _ _)))
        go_wp2_with fail
        all_goals (try (exfalso; omega))
        go_ret2
        exact ⟨by rw [hf.out]; rfl, below_drewN B _⟩
    · have ht' : timeOk h mi s = false := by simpa using ht
      have hf : Hid (V = .tuple #[.int .i64 0, .int .i64 42]) := by rw [← hV2.out, if_pos ht']; rfl
      have hcs := time_cases ht'
      clear hV2 ht ht'
      rcases hcs with h1 | ⟨h1, h2⟩ | ⟨h1, h2, h3⟩ | ⟨h1, h2, h3, h4⟩ | ⟨h1, h2, h3, h4, h5⟩ | ⟨h1, h2, h3, h4, h5, h6⟩
      all_goals
        go_enter Tryd.func32, Tryd.ntmps32
        go_wp2_with fail
        refine (rdays_any _ _ _ _).mono ?_; rintro e w1 ⟨rfl, hb1⟩
        rw [e1.out, e2.out]
        have A := Lib.hid (A0'.out.next hb1)
        have B := hb0.trans (hb1.mono hb0.size)
        clear A0' hb1
        have c0 := A.out.cell 0 (by simp [dateL])
        have c1 := A.out.cell 1 (by simp [dateL])
        have c2 := A.out.cell 2 (by simp [dateL])
        have c3 := A.out.cell 3 (by simp [dateL])
        have c4 := A.out.cell 4 (by simp [dateL])
        have c5 := A.out.cell 5 (by simp [dateL])
        have c6 := A.out.cell 6 (by simp [dateL])
        simp only [dateL, List.getElem_cons_zero, List.getElem_cons_succ] at c0 c1 c2 c3 c4 c5 c6
        go_wp2_with fail
        all_goals (try (exfalso; omega))
        go_ret2
        exact ⟨by rw [hf.out]; rfl, B⟩
  · have hok' : Cal.daysOk y mo d = false := by simpa using hok
    have e1 : Hid (Cal.daysN y mo d = 0) := by unfold Cal.daysN; rw [if_neg hok]; rfl
    have e2 : Hid (Cal.daysE y mo d = 41) := by unfold Cal.daysE; rw [if_neg hok]; rfl
    have hf : Hid (V = .tuple #[.int .i64 0, .int .i64 41]) := by rw [← hV.out]; unfold Hid joinV; rw [if_pos hok']
    clear hV hok hok'
    have A0' := Lib.hid A0
    clear A0
    go_enter Tryd.func32, Tryd.ntmps32
    go_wp2_with fail
    refine (rdays_any _ _ _ _).mono ?_; rintro e w1 ⟨rfl, hb1⟩
    rw [e1.out, e2.out]
    have A := Lib.hid (A0'.out.next hb1)
    have B := hb0.trans (hb1.mono hb0.size)
    clear A0' hb1
    have c0 := A.out.cell 0 (by simp [dateL])
    have c1 := A.out.cell 1 (by simp [dateL])
    have c2 := A.out.cell 2 (by simp [dateL])
    have c3 := A.out.cell 3 (by simp [dateL])
    have c4 := A.out.cell 4 (by simp [dateL])
    have c5 := A.out.cell 5 (by simp [dateL])
    have c6 := A.out.cell 6 (by simp [dateL])
    simp only [dateL, List.getElem_cons_zero, List.getElem_cons_succ] at c0 c1 c2 c3 c4 c5 c6
    go_wp2_with fail
    all_goals (try (exfalso; omega))
    go_ret2
    exact ⟨by rw [hf.out]; rfl, B⟩

set_option maxRecDepth 100000 in
theorem next_any (y m d : Int) (w : World) (y0 : 0 ≤ y) (y1 : y ≤ 100000) (d0 : 0 ≤ d) (d1 : d ≤ 100) (m0 : 0 ≤ m) (m1 : m ≤ 100) :
    Calls Tryd.prog 28 #[.int .i64 y, .int .i64 m, .int .i64 d] w fun e w' => e = .returned (.tuple #[.int .i64 (Stm.nextY y m d), .int .i64 (Stm.nextM y m d), .int .i64 (Stm.nextD y m d)]) ∧ Below w.heap.size w w' := by
  obtain ⟨M, hM⟩ := name_it (Cal.mdays y m)
  obtain ⟨V, hV⟩ := name_it (Value.tuple #[.int .i64 (Stm.nextY y m d), .int .i64 (Stm.nextM y m d), .int .i64 (Stm.nextD y m d)])
  rw [hV.out]
  by_cases c1 : d < M
  · have hf : Hid (V = .tuple #[.int .i64 y, .int .i64 m, .int .i64 (d + 1)]) := by
      rw [← hV.out]; unfold Hid Stm.nextY Stm.nextM Stm.nextD; rw [hM.out, if_pos c1, if_pos c1, if_pos c1]
    go_enter Tryd.func28, Tryd.ntmps28
    go_wp2_with fail
    refine (rmdays_any _ _ _).mono ?_; rintro e w1 ⟨rfl, hb⟩
    rw [hM.out]
    go_wp2_with fail
    all_goals (try (exfalso; omega))
    go_ret3
    exact ⟨by rw [hf.out]; rfl, hb⟩
  · by_cases c2 : m < 12
    · have hf : Hid (V = .tuple #[.int .i64 y, .int .i64 (m + 1), .int .i64 1]) := by
        rw [← hV.out]; unfold Hid Stm.nextY Stm.nextM Stm.nextD; rw [hM.out, if_neg c1, if_neg c1, if_neg c1, if_pos c2, if_pos c2]
      go_enter Tryd.func28, Tryd.ntmps28
      go_wp2_with fail
      refine (rmdays_any _ _ _).mono ?_; rintro e w1 ⟨rfl, hb⟩
      rw [hM.out]
      go_wp2_with fail
      all_goals (try (exfalso; omega))
      go_ret3
      exact ⟨by rw [hf.out]; rfl, hb⟩
    · have hf : Hid (V = .tuple #[.int .i64 (y + 1), .int .i64 1, .int .i64 1]) := by
        rw [← hV.out]; unfold Hid Stm.nextY Stm.nextM Stm.nextD; rw [hM.out, if_neg c1, if_neg c1, if_neg c1, if_neg c2, if_neg c2]
      go_enter Tryd.func28, Tryd.ntmps28
      go_wp2_with fail
      refine (rmdays_any _ _ _).mono ?_; rintro e w1 ⟨rfl, hb⟩
      rw [hM.out]
      go_wp2_with fail
      all_goals (try (exfalso; omega))
      go_ret3
      exact ⟨by rw [hf.out]; rfl, hb⟩

set_option maxRecDepth 100000 in
theorem leapt_any (s : ByteArray) (w : World) (hs : s.size ≤ 1099511627) :
    Calls Tryd.prog 30 #[.string s] w fun e w' => e = .returned (.bool (Stm.leaptB (L s))) ∧ w = w' := by
  obtain ⟨R, hR⟩ := name_it (Stm.leaptB (L s))
  rw [hR.out]
  go_enter Tryd.func30, Tryd.ntmps30
  go_wp2_with fail
  go_loop [3] (fun i => ∃ k : Nat, k ≤ s.size ∧ i = .int .i64 k ∧ Hid (Stm.leaptB ((L s).drop k) = R)) (fun i => s.size - (intOf i).toNat)
  case atStart => exact ⟨0, Nat.zero_le _, rfl, hR⟩
  case round =>
    obtain ⟨k, hk, rfl, hd⟩ := hrel
    by_cases hlt : k + 3 ≤ s.size
    · have hki : (k : Int) + 3 ≤ s.size := by omega
      have hks : k < s.size := by omega
      have hst : Stm.leaptB ((L s).drop k) = if [58, 54, 48].isPrefixOf ((L s).drop k) then true else Stm.leaptB ((L s).drop (k + 1)) := by
        rw [L_drop hks]; rfl
      have heq : Hid (((s.extract k (k + 3)).toList == (⟨#[58, 54, 48]⟩ : ByteArray).toList) = [58, 54, 48].isPrefixOf ((L s).drop k)) := by
        rw [str_eq, extract_bs, L_bs]
        unfold Hid
        rw [Bool.eq_iff_iff, decide_eq_true_eq, List.isPrefixOf_iff_prefix, List.prefix_iff_eq_take, List.drop_take, Nat.add_sub_cancel_left]
        exact ⟨fun h => h.symm, fun h => h.symm⟩
      obtain ⟨b, hb⟩ := name_it ([58, 54, 48].isPrefixOf ((L s).drop k))
      rw [hb.out] at hst heq
      have HST := Lib.hid hst
      clear hst hb
      have heq' : ((s.extract k (k + 3)).toList == (⟨#[58, 54, 48]⟩ : ByteArray).toList) = b := heq.out
      clear heq
      cases b
      · have hn : Hid (Stm.leaptB ((L s).drop (k + 1)) = R) := by rw [← hd.out, HST.out]; rfl
        clear HST hd
        go_wp2_with fail
        all_goals (try (exfalso; omega))
        all_goals (try (exfalso; simp_all; done))
        go_round
        case rel => exact ⟨k + 1, by omega, by go_num, hn⟩
        case measure => simp [intOf]; omega
      · have hn : Hid (R = true) := by rw [← hd.out, HST.out]; rfl
        clear HST hd
        go_wp2_with fail
        all_goals (try (exfalso; omega))
        all_goals (try (exfalso; simp_all; done))
        go_ret
        exact ⟨by rw [hn.out]; rfl, rfl⟩
    · have hki : ¬ (k : Int) + 3 ≤ s.size := by omega
      have hn : Hid (R = false) := by
        rw [← hd.out]
        have hl : ((L s).drop k).length ≤ 2 := by rw [List.length_drop, L_length]; omega
        obtain ⟨l, hl2⟩ : ∃ l, l = (L s).drop k := ⟨_, rfl⟩
        rw [← hl2] at hl ⊢
        match l, hl with
        | [], _ => rfl
        | [x], _ => unfold Hid; simp [Stm.leaptB, List.isPrefixOf]
        | [x, y], _ => unfold Hid; simp [Stm.leaptB, List.isPrefixOf]
      go_wp2_with fail
      all_goals (try (exfalso; omega))
      go_ret
      exact ⟨by rw [hn.out]; rfl, rfl⟩
end Go.Proofs.YtmfnofpphnlbnaaDoor
