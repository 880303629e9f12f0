/- Contracts of tag's matter: the two steps of dates. -/
import Derived.Test.YtjalfddedikibaaGreatDoorTagMJ
namespace Go.Proofs.YtjalfddedikibaaGreatDoor
open Go Go.RowKit Go.Sort
set_option maxHeartbeats 4000000

set_option maxRecDepth 100000 in
theorem unmod_any (mb : Nat) (rd : Bool) (v : Value) (l : List Fd) (s : Sta) (now : Int) (w : World) (hE : EnvS w) (hm : Blk w mb tM (cellsM rd v s now)) (hv : FdSl w v l) (hl : fSum l ≤ 1048576) :
    Calls Tryz.prog 20 #[.pointer (some ⟨mb, 0, none⟩)] w fun e w' => e = .returned (.int .i64 (unmodT s (dateT now (valuesF l [73, 102, 45, 85, 110, 109, 111, 100, 105, 102, 105, 101, 100, 45, 83, 105, 110, 99, 101])) (valuesF l [73, 102, 45, 77, 97, 116, 99, 104]))) ∧ Below w.heap.size w w' := by
  have FI := Lib.hid (find_any v l ⟨#[73, 102, 45, 77, 97, 116, 99, 104]⟩ w hv hl (by decide))
  have e0 : L ⟨#[73, 102, 45, 77, 97, 116, 99, 104]⟩ = [73, 102, 45, 77, 97, 116, 99, 104] := rfl
  rw [e0] at FI
  obtain ⟨vs, hvs⟩ := name_it (valuesF l [73, 102, 45, 77, 97, 116, 99, 104])
  rw [hvs.out] at FI ⊢
  obtain ⟨x, hx⟩ := findV_pair vs
  rw [hx] at FI
  obtain ⟨D, HD⟩ := name_it (dateT now (valuesF l [73, 102, 45, 85, 110, 109, 111, 100, 105, 102, 105, 101, 100, 45, 83, 105, 110, 99, 101]))
  rw [HD.out]
  have H1 : Hid (∀ R, unmodT s D vs = R → decide (vs ≠ []) = false → R = (if (D.2 && (s.there && (s.timed && decide (D.1 < s.time)))) = true then 2 else 0)) := fun R h1 h2 => by rw [← h1]; unfold unmodT; rw [if_pos (Decidable.of_not_not (of_decide_eq_false h2))]
  have H0 : Hid (∀ R, unmodT s D vs = R → decide (vs ≠ []) = true → R = 0) := fun R h1 h2 => by rw [← h1]; unfold unmodT; rw [if_neg (of_decide_eq_true h2)]
  obtain ⟨R, hR⟩ := name_it (unmodT s D vs)
  rw [hR.out]
  obtain ⟨ne, hne⟩ := name_it (decide (vs ≠ []))
  rw [hne.out] at FI
  have HT1 : ne = false → R = (if (D.2 && (s.there && (s.timed && decide (D.1 < s.time)))) = true then 2 else 0) := fun h => H1.out R hR.out (hne.out.trans h)
  have HT0 : ne = true → R = 0 := fun h => H0.out R hR.out (hne.out.trans h)
  have q0 : w.cell? ⟨mb, 1, none⟩ = some v := pm_cell hm 1 rfl
  have HM := Lib.hid hm
  have HV := Lib.hid hv
  have HE := Lib.hid hE
  have HL := Lib.hid hl
  have hml := hm.lt
  clear hm hv hE hl hvs hx hR hne H0 H1 e0
  go_enter Tryz.func20, Tryz.ntmps20
  go_wp2_with fail
  refine FI.out.mono ?_; rintro e w1 ⟨rfl, b1⟩
  have M1 := Lib.hid (HM.out.below b1 hml)
  have HV1 := Lib.hid (HV.out.next b1)
  have B1 := Lib.hid b1
  clear FI HM HV q0
  cases ne with
  | true =>
    have h0 := Lib.hid (HT0 rfl)
    clear HT0 HT1 HV1 M1 b1 HE HL HD
    go_wp2_with fail
    go_ret
    exact ⟨ret_int h0.out.symm, B1.out⟩
  | false =>
    replace HT1 := HT1 rfl
    clear HT0
    have DT := Lib.hid (date_any ⟨#[73, 102, 45, 85, 110, 109, 111, 100, 105, 102, 105, 101, 100, 45, 83, 105, 110, 99, 101]⟩ mb rd v l s now w1 (HE.out.next b1) M1.out HV1.out HL.out (by decide))
    have e2 : L ⟨#[73, 102, 45, 85, 110, 109, 111, 100, 105, 102, 105, 101, 100, 45, 83, 105, 110, 99, 101]⟩ = [73, 102, 45, 85, 110, 109, 111, 100, 105, 102, 105, 101, 100, 45, 83, 105, 110, 99, 101] := rfl
    rw [e2, HD.out] at DT
    obtain ⟨t, ok⟩ := D
    unfold dateR at DT
    simp only at DT HT1
    clear HD e2 HE HV1 b1
    go_wp2_with fail
    refine DT.out.mono ?_; rintro e w2 ⟨rfl, b2⟩
    have M2 := Lib.hid (M1.out.below b2 M1.out.lt)
    have B2 := Lib.hid (B1.out.trans (b2.mono B1.out.size))
    have x0 : w2.cell? ⟨mb, 2, none⟩ = some (.bool s.there) := pm_cell M2.out 2 rfl
    have x1 : w2.cell? ⟨mb, 7, none⟩ = some (.bool s.timed) := pm_cell M2.out 7 rfl
    have x2 : w2.cell? ⟨mb, 6, none⟩ = some (.int .i64 s.time) := pm_cell M2.out 6 rfl
    clear b2 DT M1 B1
    rcases s with ⟨sth, stg, stt, stm, std⟩
    simp only at x0 x1 x2 HT1
    clear M2
    cases ok <;> cases sth <;> cases std
    all_goals
      by_cases hc : t < stm
      · have hd : decide (t < stm) = true := decide_eq_true hc
        rw [hd] at HT1
        go_wp2_with fail
        all_goals (try (exfalso; omega))
        go_ret
        exact ⟨ret_int (HT1.trans rfl).symm, B2.out⟩
      · have hd : decide (t < stm) = false := decide_eq_false hc
        rw [hd] at HT1
        go_wp2_with fail
        all_goals (try (exfalso; omega))
        go_ret
        exact ⟨ret_int (HT1.trans rfl).symm, B2.out⟩

set_option maxRecDepth 100000 in
theorem mod_any (mb : Nat) (rd : Bool) (v : Value) (l : List Fd) (s : Sta) (now : Int) (w : World) (hE : EnvS w) (hm : Blk w mb tM (cellsM rd v s now)) (hv : FdSl w v l) (hl : fSum l ≤ 1048576) :
    Calls Tryz.prog 22 #[.pointer (some ⟨mb, 0, none⟩)] w fun e w' => e = .returned (.int .i64 ((modT rd) s (dateT now (valuesF l [73, 102, 45, 77, 111, 100, 105, 102, 105, 101, 100, 45, 83, 105, 110, 99, 101])) (valuesF l [73, 102, 45, 78, 111, 110, 101, 45, 77, 97, 116, 99, 104]))) ∧ Below w.heap.size w w' := by
  have FI := Lib.hid (find_any v l ⟨#[73, 102, 45, 78, 111, 110, 101, 45, 77, 97, 116, 99, 104]⟩ w hv hl (by decide))
  have e0 : L ⟨#[73, 102, 45, 78, 111, 110, 101, 45, 77, 97, 116, 99, 104]⟩ = [73, 102, 45, 78, 111, 110, 101, 45, 77, 97, 116, 99, 104] := rfl
  rw [e0] at FI
  obtain ⟨vs, hvs⟩ := name_it (valuesF l [73, 102, 45, 78, 111, 110, 101, 45, 77, 97, 116, 99, 104])
  rw [hvs.out] at FI ⊢
  obtain ⟨x, hx⟩ := findV_pair vs
  rw [hx] at FI
  obtain ⟨D, HD⟩ := name_it (dateT now (valuesF l [73, 102, 45, 77, 111, 100, 105, 102, 105, 101, 100, 45, 83, 105, 110, 99, 101]))
  rw [HD.out]
  have H1 : Hid (∀ R, (modT rd) s D vs = R → decide (vs ≠ []) = false → R = (if (rd && (D.2 && (s.there && (s.timed && decide (s.time ≤ D.1))))) = true then 1 else 0)) := fun R h1 h2 => by rw [← h1]; unfold modT; rw [if_pos (Decidable.of_not_not (of_decide_eq_false h2))]
  have H0 : Hid (∀ R, (modT rd) s D vs = R → decide (vs ≠ []) = true → R = 0) := fun R h1 h2 => by rw [← h1]; unfold modT; rw [if_neg (of_decide_eq_true h2)]
  obtain ⟨R, hR⟩ := name_it ((modT rd) s D vs)
  rw [hR.out]
  obtain ⟨ne, hne⟩ := name_it (decide (vs ≠ []))
  rw [hne.out] at FI
  have HT1 : ne = false → R = (if (rd && (D.2 && (s.there && (s.timed && decide (s.time ≤ D.1))))) = true then 1 else 0) := fun h => H1.out R hR.out (hne.out.trans h)
  have HT0 : ne = true → R = 0 := fun h => H0.out R hR.out (hne.out.trans h)
  have q0 : w.cell? ⟨mb, 1, none⟩ = some v := pm_cell hm 1 rfl
  have HM := Lib.hid hm
  have HV := Lib.hid hv
  have HE := Lib.hid hE
  have HL := Lib.hid hl
  have hml := hm.lt
  clear hm hv hE hl hvs hx hR hne H0 H1 e0
  go_enter Tryz.func22, Tryz.ntmps22
  go_wp2_with fail
  refine FI.out.mono ?_; rintro e w1 ⟨rfl, b1⟩
  have M1 := Lib.hid (HM.out.below b1 hml)
  have HV1 := Lib.hid (HV.out.next b1)
  have B1 := Lib.hid b1
  clear FI HM HV q0
  cases ne with
  | true =>
    have h0 := Lib.hid (HT0 rfl)
    clear HT0 HT1 HV1 M1 b1 HE HL HD
    go_wp2_with fail
    go_ret
    exact ⟨ret_int h0.out.symm, B1.out⟩
  | false =>
    replace HT1 := HT1 rfl
    clear HT0
    have xr : w1.cell? ⟨mb, 0, none⟩ = some (.bool rd) := pm_cell M1.out 0 rfl
    cases rd with
    | false =>
      simp only [Bool.false_and] at HT1
      clear HD HE HV1 b1 M1
      go_wp2_with fail
      go_ret
      exact ⟨ret_int (HT1.trans rfl).symm, B1.out⟩
    | true =>
      simp only [Bool.true_and] at HT1
      have DT := Lib.hid (date_any ⟨#[73, 102, 45, 77, 111, 100, 105, 102, 105, 101, 100, 45, 83, 105, 110, 99, 101]⟩ mb true v l s now w1 (HE.out.next b1) M1.out HV1.out HL.out (by decide))
      have e2 : L ⟨#[73, 102, 45, 77, 111, 100, 105, 102, 105, 101, 100, 45, 83, 105, 110, 99, 101]⟩ = [73, 102, 45, 77, 111, 100, 105, 102, 105, 101, 100, 45, 83, 105, 110, 99, 101] := rfl
      rw [e2, HD.out] at DT
      obtain ⟨t, ok⟩ := D
      unfold dateR at DT
      simp only at DT HT1
      clear HD e2 HE HV1 b1
      go_wp2_with fail
      refine DT.out.mono ?_; rintro e w2 ⟨rfl, b2⟩
      have M2 := Lib.hid (M1.out.below b2 M1.out.lt)
      have B2 := Lib.hid (B1.out.trans (b2.mono B1.out.size))
      have x0 : w2.cell? ⟨mb, 2, none⟩ = some (.bool s.there) := pm_cell M2.out 2 rfl
      have x1 : w2.cell? ⟨mb, 7, none⟩ = some (.bool s.timed) := pm_cell M2.out 7 rfl
      have x2 : w2.cell? ⟨mb, 6, none⟩ = some (.int .i64 s.time) := pm_cell M2.out 6 rfl
      clear b2 DT M1 B1 xr
      rcases s with ⟨sth, stg, stt, stm, std⟩
      simp only at x0 x1 x2 HT1
      clear M2
      cases ok <;> cases sth <;> cases std
      all_goals
        by_cases hc : stm ≤ t
        · have hd : decide (stm ≤ t) = true := decide_eq_true hc
          rw [hd] at HT1
          go_wp2_with fail
          all_goals (try (exfalso; omega))
          go_ret
          exact ⟨ret_int (HT1.trans rfl).symm, B2.out⟩
        · have hd : decide (stm ≤ t) = false := decide_eq_false hc
          rw [hd] at HT1
          go_wp2_with fail
          all_goals (try (exfalso; omega))
          go_ret
          exact ⟨ret_int (HT1.trans rfl).symm, B2.out⟩
end Go.Proofs.YtjalfddedikibaaGreatDoor
