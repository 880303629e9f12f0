/- StampOrder, StampOne, StampBack: the walks of the laws. -/
import Derived.Test.YtmfnofpphnlbnaaDoorStampS
namespace Go.Proofs.YtmfnofpphnlbnaaDoor
open Go Go.RowKit
set_option maxHeartbeats 4000000

theorem writeV_ok {m : Int} {form : Nat} (hm : isMom m = true) (hf : form < 3) : writeV m form = .tuple #[.string (bs (writeOf m form)), .int .i64 0] := by
  unfold writeV
  have : okForm (form : Int) = true := by unfold okForm; exact decide_eq_true (by omega)
  rw [hm, this]; rfl
theorem isMom_of {m : Int} (h : isMom m = true) : -62135596800 ≤ m ∧ m ≤ 253402300799 := by unfold isMom at h; exact of_decide_eq_true h
/-- what a moment's text says -/
theorem back_write {m nY : Int} {form : Nat} (hm : isMom m = true) (hf : form < 3) :
    ((form ≠ 1 ∨ (nY - 49 ≤ nowY m ∧ nowY m ≤ nY + 50)) → Stm.parseP (writeOf m form) true nY = ⟨m, form, 0, 0⟩) ∧
    (form = 1 → ¬ (nY - 49 ≤ nowY m ∧ nowY m ≤ nY + 50) → (Stm.parseP (writeOf m form) true nY).e ≠ 0 ∨ (Stm.parseP (writeOf m form) true nY).m ≠ m) := by
  have hb := isMom_of hm
  have n0 : 0 ≤ splitN m := by unfold splitN; omega
  have n1 : splitN m < 3652059 := by unfold splitN; omega
  have r0 : 0 ≤ splitR m := by unfold splitR; omega
  have r1 : splitR m < 86400 := by unfold splitR; omega
  have hmr : (splitN m - 719162) * 86400 + splitR m = m := by unfold splitN splitR; omega
  have hy := Cal.yOf_ok n0 n1
  have hd := Cal.isDate_of n0 n1
  have h := Stm.back_date (n := splitN m) (r := splitR m) (nY := nY) (form := form) hf hd hy.1 hy.2.1 r0 r1 (by omega)
  rw [hmr] at h
  exact ⟨h.1, fun h1 h2 => h.2 h1 h2 _ rfl⟩
theorem write_len {m : Int} (hm : isMom m = true) : (writeOf m 0).length = 29 := by
  obtain ⟨y, mo, d, h, mi, s, wd, -, HW, -, ⟨y0, y1⟩, ⟨mo0, mo1⟩, ⟨d0, d1⟩, ⟨h0, h1⟩, ⟨mi0, mi1⟩, ⟨s0, s1⟩, ⟨wd0, wd1⟩⟩ := date_of hm
  rw [HW.out]
  unfold writeL Stm.txt Stm.clk
  rw [if_pos rfl, if_neg (show ¬ ((0 : Nat) = 2 ∧ d < 10) by omega), if_neg (show ¬ ((0 : Nat) = 1) by decide)]
  have l1 := Stm.short3 (wd := wd.toNat) (by omega)
  have l2 := Stm.mon3 (m := (mo - 1).toNat) (by omega)
  simp only [Stm.d2, Stm.d4, List.length_append, List.length_cons, List.length_nil, l1, l2]
theorem write_inj {a b : Int} (ha : isMom a = true) (hb : isMom b = true) (h : writeOf a 0 = writeOf b 0) : a = b := by
  have h1 := (back_write (nY := 0) (form := 0) ha (by decide)).1 (Or.inl (by decide))
  have h2 := (back_write (nY := 0) (form := 0) hb (by decide)).1 (Or.inl (by decide))
  rw [h, h2] at h1
  exact (congrArg Stm.PR.m h1).symm
theorem order_split {a b : Int} (ha : isMom a = true) (hb : isMom b = true) : ∃ y mo d h mi s wd y' mo' d' h' mi' s' wd' : Int,
    Hid (splitD a = dateV y mo d h mi s wd) ∧ Hid (splitE a = 0) ∧ Hid (splitD b = dateV y' mo' d' h' mi' s' wd') ∧ Hid (splitE b = 0) ∧
    Hid (Stm.lexGt [y, mo, d, h, mi, s] [y', mo', d', h', mi', s'] = decide (a > b)) ∧ Hid (Stm.lexGt [y', mo', d', h', mi', s'] [y, mo, d, h, mi, s] = decide (b > a)) := by
  have ba := isMom_of ha
  have bb := isMom_of hb
  have n0 : 0 ≤ splitN a := by unfold splitN; omega
  have n1 : splitN a < 3652059 := by unfold splitN; omega
  have r0 : 0 ≤ splitR a := by unfold splitR; omega
  have r1 : splitR a < 86400 := by unfold splitR; omega
  have k0 : 0 ≤ splitN b := by unfold splitN; omega
  have k1 : splitN b < 3652059 := by unfold splitN; omega
  have t0 : 0 ≤ splitR b := by unfold splitR; omega
  have t1 : splitR b < 86400 := by unfold splitR; omega
  have o1 := Stm.order_date (Cal.isDate_of n0 n1) (Cal.isDate_of k0 k1) r0 r1 t0 t1
  have o2 := Stm.order_date (Cal.isDate_of k0 k1) (Cal.isDate_of n0 n1) t0 t1 r0 r1
  have ea : splitN a * 86400 + splitR a = a + 62135596800 := by unfold splitN splitR; omega
  have eb : splitN b * 86400 + splitR b = b + 62135596800 := by unfold splitN splitR; omega
  rw [ea, eb] at o1 o2
  refine ⟨_, _, _, _, _, _, _, _, _, _, _, _, _, _, by unfold Hid splitD; rw [if_pos ha], by unfold Hid splitE; rw [if_pos ha], by unfold Hid splitD; rw [if_pos hb], by unfold Hid splitE; rw [if_pos hb], ?_, ?_⟩
  · unfold Hid; rw [o1, decide_eq_decide]; omega
  · unfold Hid; rw [o2, decide_eq_decide]; omega

set_option maxRecDepth 100000 in
theorem lawOrder_any (a b : Int) (w : World) (hE : EnvS w) :
    Calls Tryd.prog 9 #[.int .i64 a, .int .i64 b] w fun e w' => e = .returned (.bool true) ∧ Below w.heap.size w w' := by
  have HE := Lib.hid hE
  clear hE
  by_cases hm : isMom a = true ∧ isMom b = true
  · obtain ⟨ha, hb⟩ := hm
    obtain ⟨a1, a2⟩ := isMom_of ha
    obtain ⟨b1, b2⟩ := isMom_of hb
    have va := writeV_ok (form := 0) ha (by decide)
    have vb := writeV_ok (form := 0) hb (by decide)
    have hla : (bs (writeOf a 0)).size = 29 := by rw [size_bs, write_len ha]
    have hlb : (bs (writeOf b 0)).size = 29 := by rw [size_bs, write_len hb]
    have heq : ((bs (writeOf a 0)).toList == (bs (writeOf b 0)).toList) = (a == b) := by
      rw [str_eq, L_bs, L_bs, Bool.eq_iff_iff, decide_eq_true_eq, beq_iff_eq]
      exact ⟨write_inj ha hb, fun h => by rw [h]⟩
    obtain ⟨S, hS⟩ := name_it (bs (writeOf a 0))
    obtain ⟨T, hT⟩ := name_it (bs (writeOf b 0))
    rw [hS.out] at va hla heq
    rw [hT.out] at vb hlb heq
    have VA : Hid (writeV a 0 = .tuple #[.string S, .int .i64 0]) := va
    have VB : Hid (writeV b 0 = .tuple #[.string T, .int .i64 0]) := vb
    obtain ⟨y, mo, d, h, mi, s, wd, y', mo', d', h', mi', s', wd', D1, E1, D2, E2, O1, O2⟩ := order_split ha hb
    clear va vb hS hT ha hb
    go_enter Tryd.func9, Tryd.ntmps9
    go_wp2_with fail
    refine (awake_any _ HE.out).mono ?_; rintro e w1 ⟨rfl, hb1⟩
    have HE1 := Lib.hid (HE.out.next hb1)
    go_wp2_with fail
    all_goals (try (exfalso; omega))
    refine (print_any _ _ HE1.out).mono ?_; rintro e w2 ⟨rfl, hb2⟩
    rw [VA.out]
    have HE2 := Lib.hid (HE1.out.next hb2)
    have c2 := hb1.trans (hb2.mono hb1.size)
    go_wp2_with fail
    all_goals (try (exfalso; omega))
    refine (print_any _ _ HE2.out).mono ?_; rintro e w3 ⟨rfl, hb3⟩
    rw [VB.out]
    have c3 := c2.trans (hb3.mono c2.size)
    go_wp2_with fail
    all_goals (try (exfalso; omega))
    refine (split_any _ _).mono ?_; rintro e w4 ⟨rfl, hb4⟩
    rw [D1.out, E1.out]
    unfold dateV
    have c4 := c3.trans (hb4.mono c3.size)
    have A1 := Lib.hid (CellsAt.first w4 (dateL y mo d h mi s wd) 32)
    have c5 := c4.alloc c4.size (.cells #[.int .i64 y, .int .i64 mo, .int .i64 d, .int .i64 h, .int .i64 mi, .int .i64 s, .int .i64 wd] 32)
    go_wp2_with fail
    all_goals (try (exfalso; omega))
    refine (split_any _ _).mono ?_; rintro e w5 ⟨rfl, hb5⟩
    rw [D2.out, E2.out]
    unfold dateV
    have A2 := Lib.hid (A1.out.next hb5)
    have c6 := c5.trans (hb5.mono c5.size)
    have hlt := A2.out.lt
    have x0 := A2.out.cell 0 (by simp [dateL])
    have x1 := A2.out.cell 1 (by simp [dateL])
    have x2 := A2.out.cell 2 (by simp [dateL])
    have x3 := A2.out.cell 3 (by simp [dateL])
    have x4 := A2.out.cell 4 (by simp [dateL])
    have x5 := A2.out.cell 5 (by simp [dateL])
    have x6 := A2.out.cell 6 (by simp [dateL])
    simp only [dateL, List.getElem_cons_zero, List.getElem_cons_succ] at x0 x1 x2 x3 x4 x5 x6
    have A3 := Lib.hid (A2.out.next ((Below.refl _ _).alloc (Nat.le_refl _) (.cells #[.int .i64 y', .int .i64 mo', .int .i64 d', .int .i64 h', .int .i64 mi', .int .i64 s', .int .i64 wd'] 32)))
    have B3 : Hid (CellsAt (w5.alloc (.cells #[.int .i64 y', .int .i64 mo', .int .i64 d', .int .i64 h', .int .i64 mi', .int .i64 s', .int .i64 wd'] 32)) w5.heap.size (dateL y' mo' d' h' mi' s' wd')) := CellsAt.first w5 (dateL y' mo' d' h' mi' s' wd') 32
    have c7 := c6.alloc c6.size (.cells #[.int .i64 y', .int .i64 mo', .int .i64 d', .int .i64 h', .int .i64 mi', .int .i64 s', .int .i64 wd'] 32)
    go_wp2_with fail
    all_goals (try (exfalso; omega))
    refine (later_any _ _ _ _ _ _ _ _ _ _ _ _ _ _ _).mono ?_; rintro e w6 ⟨rfl, hb6⟩
    rw [O1.out]
    have c8 := c7.trans (hb6.mono c7.size)
    have A4 := Lib.hid (A3.out.next hb6)
    have B4 := Lib.hid (B3.out.next hb6)
    clear x0 x1 x2 x3 x4 x5 x6 hlt A1 A2 A3 B3
    have x0 := A4.out.cell 0 (by simp [dateL])
    have x1 := A4.out.cell 1 (by simp [dateL])
    have x2 := A4.out.cell 2 (by simp [dateL])
    have x3 := A4.out.cell 3 (by simp [dateL])
    have x4 := A4.out.cell 4 (by simp [dateL])
    have x5 := A4.out.cell 5 (by simp [dateL])
    have x6 := A4.out.cell 6 (by simp [dateL])
    have z0 := B4.out.cell 0 (by simp [dateL])
    have z1 := B4.out.cell 1 (by simp [dateL])
    have z2 := B4.out.cell 2 (by simp [dateL])
    have z3 := B4.out.cell 3 (by simp [dateL])
    have z4 := B4.out.cell 4 (by simp [dateL])
    have z5 := B4.out.cell 5 (by simp [dateL])
    have z6 := B4.out.cell 6 (by simp [dateL])
    simp only [dateL, List.getElem_cons_zero, List.getElem_cons_succ] at x0 x1 x2 x3 x4 x5 x6 z0 z1 z2 z3 z4 z5 z6
    go_wp2_with fail
    all_goals (try (exfalso; omega))
    refine (later_any _ _ _ _ _ _ _ _ _ _ _ _ _ _ _).mono ?_; rintro e w7 ⟨rfl, hb7⟩
    rw [O2.out]
    have c9 := c8.trans (hb7.mono c8.size)
    go_wp2_with fail
    all_goals (try (exfalso; omega))
    go_ret
    exact ⟨rfl, c9⟩
  · have hcs : a < -62135596800 ∨ (-62135596800 ≤ a ∧ 253402300799 < a) ∨ (-62135596800 ≤ a ∧ a ≤ 253402300799 ∧ b < -62135596800) ∨ (-62135596800 ≤ a ∧ a ≤ 253402300799 ∧ -62135596800 ≤ b ∧ 253402300799 < b) := by
      unfold isMom at hm
      rw [decide_eq_true_eq, decide_eq_true_eq] at hm
      omega
    clear hm
    rcases hcs with h | ⟨h, h'⟩ | ⟨h, h', h2⟩ | ⟨h, h', h2, h3⟩
    all_goals
      go_enter Tryd.func9, Tryd.ntmps9
      go_wp2_with fail
      refine (awake_any _ HE.out).mono ?_; rintro e w1 ⟨rfl, hb1⟩
      go_wp2_with fail
      all_goals (try (exfalso; omega))
      go_ret
      exact ⟨rfl, hb1⟩
end Go.Proofs.YtmfnofpphnlbnaaDoor
