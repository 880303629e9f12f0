/- StampBack: the walk of the law. -/
import Derived.Test.YtmfnofpphnlbnaaDoorStampSb
namespace Go.Proofs.YtmfnofpphnlbnaaDoor
open Go Go.RowKit
set_option maxHeartbeats 4000000

theorem t3 (n : Int) : (n.tmod 3 + 3) % 3 = n % 3 ∧ -3 < n.tmod 3 ∧ n.tmod 3 < 3 := by
  have h := Int.tmod_def n 3
  have k : n.tdiv 3 = if 0 ≤ n then n / 3 else -((-n) / 3) := by
    split
    · exact Int.tdiv_eq_ediv_of_nonneg (by omega)
    · have := Int.neg_tdiv (a := -n) (b := 3)
      rw [Int.neg_neg] at this
      rw [this, Int.tdiv_eq_ediv_of_nonneg (by omega)]
  split at k <;> omega
theorem write_le {m : Int} {form : Nat} : (writeOf m form).length ≤ 64 := by
  unfold writeOf writeL Stm.txt Stm.clk
  obtain ⟨n, hn⟩ := name_it (splitN m % 7).toNat
  obtain ⟨k, hk⟩ := name_it (Cal.mOf (splitN m) - 1).toNat
  rw [hn.out, hk.out]
  have a := long_len n
  have b := short_len n
  have c := mon_len k
  split
  · simp only [Stm.d2, Stm.d4, List.length_append, List.length_cons, List.length_nil] 
    split <;> simp only [List.length_cons, List.length_nil] <;> omega
  · split
    · simp only [Stm.d2, List.length_append, List.length_cons, List.length_nil] 
      split <;> simp only [List.length_cons, List.length_nil] <;> omega
    · simp only [Stm.d2, Stm.d4, List.length_append, List.length_cons, List.length_nil] 
      split <;> simp only [List.length_cons, List.length_nil] <;> omega
theorem back_split {m : Int} (hm : isMom m = true) : ∃ y mo d h mi s wd : Int, Hid (splitD m = dateV y mo d h mi s wd) ∧ Hid (splitE m = 0) ∧ Hid (nowY m = y) ∧
    Hid (joinV y mo d h mi s wd = .tuple #[.int .i64 m, .int .i64 0]) ∧ 1 ≤ y ∧ y ≤ 9999 := by
  have ba := isMom_of hm
  have n0 : 0 ≤ splitN m := by unfold splitN; omega
  have n1 : splitN m < 3652059 := by unfold splitN; omega
  have r0 : 0 ≤ splitR m := by unfold splitR; omega
  have r1 : splitR m < 86400 := by unfold splitR; omega
  have hmr : (splitN m - 719162) * 86400 + splitR m = m := by unfold splitN splitR; omega
  have hy := Cal.yOf_ok n0 n1
  obtain ⟨d1, d2, d3, d4, d5⟩ := Cal.isDate_of n0 n1
  have hdd : Cal.daysOf (Cal.yOf (splitN m)) (Cal.mOf (splitN m)) (Cal.dOf (splitN m)) = splitN m - 719162 := by unfold Cal.daysOf; omega
  have hok : Cal.daysOk (Cal.yOf (splitN m)) (Cal.mOf (splitN m)) (Cal.dOf (splitN m)) = true := by unfold Cal.daysOk; simp; omega
  have htm : timeOk (splitR m / 3600) (splitR m / 60 % 60) (splitR m % 60) = true := by unfold timeOk; exact decide_eq_true (by omega)
  refine ⟨nowY m, Cal.mOf (splitN m), Cal.dOf (splitN m), splitR m / 3600, splitR m / 60 % 60, splitR m % 60, splitN m % 7, by unfold Hid splitD; rw [if_pos hm]; rfl, by unfold Hid splitE; rw [if_pos hm], rfl, ?_, hy.1, hy.2.1⟩
  unfold Hid joinV nowY
  rw [hok, htm, hdd, if_neg (by decide), if_neg (by decide), if_neg (by unfold wday; omega)]
  rw [show (splitN m - 719162) * 86400 + splitR m / 3600 * 3600 + splitR m / 60 % 60 * 60 + splitR m % 60 = m by omega]

set_option maxRecDepth 100000 in
theorem lawBack_any (m form now : Int) (w : World) (hE : EnvS w) :
    Calls Tryd.prog 12 #[.int .i64 m, .int .i64 form, .int .i64 now] w fun e w' => e = .returned (.bool true) ∧ Below w.heap.size w w' := by
  have HE := Lib.hid hE
  clear hE
  obtain ⟨q1, q2, q3⟩ := t3 form
  by_cases hm : isMom m = true ∧ isMom now = true
  · obtain ⟨ha, hb⟩ := hm
    obtain ⟨a1, a2⟩ := isMom_of ha
    obtain ⟨b1, b2⟩ := isMom_of hb
    obtain ⟨f, hf⟩ : ∃ f : Nat, form % 3 = f := ⟨(form % 3).toNat, by omega⟩
    have hf3 : f < 3 := by omega
    have HF : Hid (form.tmod 3 % 3 = (f : Int)) := by unfold Hid; omega
    clear q1 hf
    have va := writeV_ok (form := f) ha hf3
    have hla : (bs (writeOf m f)).size ≤ 64 := by rw [size_bs]; exact write_le
    obtain ⟨y, mo, d, h, mi, s, wd, D1, E1, Y1, J1, y0, y1⟩ := back_split ha
    obtain ⟨y', mo', d', h', mi', s', wd', D2, E2, Y2, -, z0, z1⟩ := back_split hb
    have hbk := back_write (nY := nowY now) (form := f) ha hf3
    rw [Y1.out, Y2.out] at hbk
    have hps := fun wx hx => parse_any (bs (writeOf m f)) now wx hx (by omega)
    rw [hb, Y2.out, L_bs] at hps
    obtain ⟨p, hp⟩ := name_it (Stm.parseP (writeOf m f) true y')
    rw [hp.out] at hps hbk
    clear hp
    obtain ⟨S, hS⟩ := name_it (bs (writeOf m f))
    rw [hS.out] at va hps hla
    have VA : Hid (writeV m f = .tuple #[.string S, .int .i64 0]) := va
    obtain ⟨pm, pf, pe, pa⟩ := p
    unfold parseV at hps
    have HP := Lib.hid hps
    have HB := Lib.hid hbk
    clear va hS ha hb hps hbk
    go_enter Tryd.func12, Tryd.ntmps12
    go_wp2_with fail
    refine (awake_any _ HE.out).mono ?_; rintro e w1 ⟨rfl, hb1⟩
    have HE1 := Lib.hid (HE.out.next hb1)
    go_wp2_with fail
    all_goals (try (exfalso; omega))
    rw [HF.out]
    refine (write_any _ _ _ HE1.out).mono ?_; rintro e w2 ⟨rfl, hb2⟩
    rw [VA.out]
    have HE2 := Lib.hid (HE1.out.next hb2)
    have c2 := hb1.trans (hb2.mono hb1.size)
    go_wp2_with fail
    all_goals (try (exfalso; omega))
    refine (split_any _ _).mono ?_; rintro e w3 ⟨rfl, hb3⟩
    rw [D1.out, E1.out]
    unfold dateV
    have c3 := c2.trans (hb3.mono c2.size)
    have HE3 := Lib.hid ((HE2.out.next hb3).alloc (.cells #[.int .i64 y, .int .i64 mo, .int .i64 d, .int .i64 h, .int .i64 mi, .int .i64 s, .int .i64 wd] 32))
    have A1 := Lib.hid (CellsAt.first w3 (dateL y mo d h mi s wd) 32)
    have c4 := c3.alloc c3.size (.cells #[.int .i64 y, .int .i64 mo, .int .i64 d, .int .i64 h, .int .i64 mi, .int .i64 s, .int .i64 wd] 32)
    go_wp2_with fail
    all_goals (try (exfalso; omega))
    refine (join_any _ _ _ _ _ _ _ _).mono ?_; rintro e w4 ⟨rfl, hb4⟩
    rw [J1.out]
    have HE4 := Lib.hid (HE3.out.next hb4)
    have A2 := Lib.hid (A1.out.next hb4)
    have c5 := c4.trans (hb4.mono c4.size)
    go_wp2_with fail
    all_goals (try (exfalso; omega))
    refine (split_any _ _).mono ?_; rintro e w5 ⟨rfl, hb5⟩
    rw [D2.out, E2.out]
    unfold dateV
    have c6 := c5.trans (hb5.mono c5.size)
    have A3 := Lib.hid ((A2.out.next hb5).next ((Below.refl _ _).alloc (Nat.le_refl _) (.cells #[.int .i64 y', .int .i64 mo', .int .i64 d', .int .i64 h', .int .i64 mi', .int .i64 s', .int .i64 wd'] 32)))
    have B3 : Hid (CellsAt (w5.alloc (.cells #[.int .i64 y', .int .i64 mo', .int .i64 d', .int .i64 h', .int .i64 mi', .int .i64 s', .int .i64 wd'] 32)) w5.heap.size (dateL y' mo' d' h' mi' s' wd')) := CellsAt.first w5 (dateL y' mo' d' h' mi' s' wd') 32
    have c7 := c6.alloc c6.size (.cells #[.int .i64 y', .int .i64 mo', .int .i64 d', .int .i64 h', .int .i64 mi', .int .i64 s', .int .i64 wd'] 32)
    have HE5 := Lib.hid ((HE4.out.next hb5).alloc (.cells #[.int .i64 y', .int .i64 mo', .int .i64 d', .int .i64 h', .int .i64 mi', .int .i64 s', .int .i64 wd'] 32))
    go_wp2_with fail
    all_goals (try (exfalso; omega))
    refine (HP.out _ HE5.out).mono ?_; rintro e w6 ⟨rfl, hb6⟩
    have c8 := c7.trans (hb6.mono c7.size)
    have A4 := Lib.hid (A3.out.next hb6)
    have B4 := Lib.hid (B3.out.next hb6)
    clear A1 A2 A3 B3 HP
    have x0 := A4.out.cell 0 (by simp [dateL])
    have z0 := B4.out.cell 0 (by simp [dateL])
    simp only [dateL, List.getElem_cons_zero] at x0 z0
    by_cases hf1 : f = 1
    · have g1 : ((f : Int) != 1) = false := by simp; omega
      by_cases ar : y' - 49 ≤ y ∧ y ≤ y' + 50
      · obtain ⟨rfl, rfl, rfl, rfl⟩ : pm = m ∧ pf = f ∧ pe = 0 ∧ pa = 0 := by
          have := HB.out.1 (Or.inr ar)
          injection this with i1 i2 i3 i4
          exact ⟨i1, i2, i3, i4⟩
        obtain ⟨ar1, ar2⟩ := ar
        clear HB
        go_wp2_with fail
        all_goals (try (exfalso; omega))
        go_ret
        exact ⟨rfl, c8⟩
      · have hne : Hid (pe ≠ 0 ∨ pm ≠ m) := HB.out.2 hf1 ar
        clear HB
        have ar' : y < y' - 49 ∨ (y' - 49 ≤ y ∧ y' + 50 < y) := by omega
        clear ar
        by_cases hpe : pe = 0
        · subst hpe
          have hpm : pm ≠ m := by rcases hne.out with h | h; exact absurd rfl h; exact h
          have g2 : (pm != m) = true := by simp [hpm]
          have g3 : (pm == m) = false := by simp [hpm]
          rcases ar' with ar1 | ⟨ar1, ar2⟩
          · go_wp2_with fail
            all_goals (try (exfalso; omega))
            go_ret
            exact ⟨rfl, c8⟩
          · go_wp2_with fail
            all_goals (try (exfalso; omega))
            go_ret
            exact ⟨rfl, c8⟩
        · have g2 : (pe != 0) = true := by simp [hpe]
          have g3 : (pe == 0) = false := by simp [hpe]
          rcases ar' with ar1 | ⟨ar1, ar2⟩
          · go_wp2_with fail
            all_goals (try (exfalso; omega))
            go_ret
            exact ⟨rfl, c8⟩
          · go_wp2_with fail
            all_goals (try (exfalso; omega))
            go_ret
            exact ⟨rfl, c8⟩
    · have g1 : ((f : Int) != 1) = true := by simp; omega
      have g2 : ((f : Int) == 1) = false := by simp; omega
      obtain ⟨rfl, rfl, rfl, rfl⟩ : pm = m ∧ pf = f ∧ pe = 0 ∧ pa = 0 := by
        have := HB.out.1 (Or.inl hf1)
        injection this with i1 i2 i3 i4
        exact ⟨i1, i2, i3, i4⟩
      clear HB
      have ar : y < y' - 49 ∨ (y' - 49 ≤ y ∧ y' + 50 < y) ∨ (y' - 49 ≤ y ∧ y ≤ y' + 50) := by omega
      rcases ar with ar1 | ⟨ar1, ar2⟩ | ⟨ar1, ar2⟩
      all_goals
        go_wp2_with fail
        all_goals (try (exfalso; omega))
        go_ret
        exact ⟨rfl, c8⟩
  · have hcs : m < -62135596800 ∨ (-62135596800 ≤ m ∧ 253402300799 < m) ∨ (-62135596800 ≤ m ∧ m ≤ 253402300799 ∧ now < -62135596800) ∨ (-62135596800 ≤ m ∧ m ≤ 253402300799 ∧ -62135596800 ≤ now ∧ 253402300799 < now) := by
      unfold isMom at hm
      rw [decide_eq_true_eq, decide_eq_true_eq] at hm
      omega
    clear hm q1 q2 q3
    rcases hcs with h | ⟨h, h'⟩ | ⟨h, h', h2⟩ | ⟨h, h', h2, h3⟩
    all_goals
      go_enter Tryd.func12, Tryd.ntmps12
      go_wp2_with fail
      refine (awake_any _ HE.out).mono ?_; rintro e w1 ⟨rfl, hb1⟩
      go_wp2_with fail
      all_goals (try (exfalso; omega))
      go_ret
      exact ⟨rfl, hb1⟩
end Go.Proofs.YtmfnofpphnlbnaaDoor
