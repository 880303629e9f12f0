/- StampSplits, StampJoins, StampDays, StampCycle: the walks of the laws. -/
import Derived.Test.YtmfnofpphnlbnaaDoorStampM
namespace Go.Proofs.YtmfnofpphnlbnaaDoor
open Go Go.RowKit
set_option maxHeartbeats 4000000

/-- the date of a moment, whatever it is -/
theorem date7 (m : Int) : ∃ y mo d h mi s wd E : Int, Hid (splitD m = dateV y mo d h mi s wd) ∧ Hid (splitE m = E) := by
  by_cases hm : isMom m = true
  · exact ⟨_, _, _, _, _, _, _, _, by unfold Hid splitD; rw [if_pos hm], rfl⟩
  · exact ⟨0, 0, 0, 0, 0, 0, 0, _, by unfold Hid splitD; rw [if_neg hm], rfl⟩
theorem plain_b {y mo d h mi s wd : Int} {w : World} (W0 : World) (b c : Nat) (A : CellsAt w b (dateL y mo d h mi s wd)) (A' : CellsAt w c (dateL y mo d h mi s wd)) (hB : Below W0.heap.size W0 w) :
    Calls Tryd.prog 22 #[.agg #[.int .i64 y, .int .i64 mo, .int .i64 d, .int .i64 h, .int .i64 mi, .int .i64 s, .int .i64 wd]] w fun e w' => e = .returned (.agg #[.int .i64 y, .int .i64 mo, .int .i64 d, .int .i64 h, .int .i64 mi, .int .i64 s, .int .i64 wd]) ∧ (CellsAt w' b (dateL y mo d h mi s wd) ∧ CellsAt w' c (dateL y mo d h mi s wd) ∧ Below W0.heap.size W0 w') :=
  (plain_any y mo d h mi s wd w).mono fun _ _ ⟨h1, h2⟩ => ⟨h1, A.next h2, A'.next h2, hB.trans (h2.mono hB.size)⟩

set_option maxRecDepth 100000 in
theorem lawSplits_any (m : Int) (w : World) (hE : EnvS w) :
    Calls Tryd.prog 4 #[.int .i64 m] w fun e w' => e = .returned (.bool true) ∧ Below w.heap.size w w' := by
  have HE := Lib.hid hE
  clear hE
  obtain ⟨y, mo, d, h, mi, s, wd, E, HD, HSE⟩ := date7 m
  go_enter Tryd.func4, Tryd.ntmps4
  go_wp2_with fail
  refine (awake_any _ HE.out).mono ?_; rintro e w1 ⟨rfl, hb1⟩
  go_wp2_with fail
  refine (split_any _ _).mono ?_; rintro e w2 ⟨rfl, hb2⟩
  rw [HD.out, HSE.out]
  unfold dateV
  have b2 := hb1.trans (hb2.mono hb1.size)
  have A1 := Lib.hid (CellsAt.first w2 (dateL y mo d h mi s wd) 32)
  have b3 := b2.alloc b2.size (.cells #[.int .i64 y, .int .i64 mo, .int .i64 d, .int .i64 h, .int .i64 mi, .int .i64 s, .int .i64 wd] 32)
  go_wp2_with fail
  refine (rsplit_any _ _).mono ?_; rintro e w3 ⟨rfl, hb3⟩
  rw [HD.out, HSE.out]
  unfold dateV
  have A2 := Lib.hid (A1.out.next hb3)
  have b4 := b3.trans (hb3.mono b3.size)
  have A3 := Lib.hid (A2.out.next ((Below.refl _ _).alloc (Nat.le_refl _) (.cells #[.int .i64 y, .int .i64 mo, .int .i64 d, .int .i64 h, .int .i64 mi, .int .i64 s, .int .i64 wd] 35)))
  have C3 : Hid (CellsAt (w3.alloc (.cells #[.int .i64 y, .int .i64 mo, .int .i64 d, .int .i64 h, .int .i64 mi, .int .i64 s, .int .i64 wd] 35)) w3.heap.size (dateL y mo d h mi s wd)) := CellsAt.first w3 (dateL y mo d h mi s wd) 35
  have b5 := b4.alloc b4.size (.cells #[.int .i64 y, .int .i64 mo, .int .i64 d, .int .i64 h, .int .i64 mi, .int .i64 s, .int .i64 wd] 35)
  clear A1 A2 b2 b3 b4 hb1 hb2 hb3
  go_wp2_with fail
  generalize w3.alloc _ = w4 at A3 C3 b5 ⊢
  obtain ⟨bA, hbA⟩ := name_it w2.heap.size
  obtain ⟨bC, hbC⟩ := name_it w3.heap.size
  rw [hbA.out] at A3 ⊢
  rw [hbC.out] at C3 ⊢
  clear hbA hbC
  have AA : Hid (CellsAt w4 bA (dateL y mo d h mi s wd) ∧ CellsAt w4 bC (dateL y mo d h mi s wd) ∧ Below w.heap.size w w4) := ⟨A3.out, C3.out, b5⟩
  have AD : Hid (CellsAt w4.drew bA (dateL y mo d h mi s wd) ∧ CellsAt w4.drew bC (dateL y mo d h mi s wd) ∧ Below w.heap.size w w4.drew) := ⟨A3.out.next (Below.refl _ _).drew, C3.out.next (Below.refl _ _).drew, b5.drew⟩
  have cs : Hid (∀ wx, (CellsAt wx bA (dateL y mo d h mi s wd) ∧ CellsAt wx bC (dateL y mo d h mi s wd) ∧ Below w.heap.size w wx) →
      (wx.cell? ⟨bA, 0, none⟩ = some (.int .i64 y) ∧ wx.cell? ⟨bA, 1, none⟩ = some (.int .i64 mo) ∧ wx.cell? ⟨bA, 2, none⟩ = some (.int .i64 d) ∧ wx.cell? ⟨bA, 3, none⟩ = some (.int .i64 h) ∧ wx.cell? ⟨bA, 4, none⟩ = some (.int .i64 mi) ∧ wx.cell? ⟨bA, 5, none⟩ = some (.int .i64 s) ∧ wx.cell? ⟨bA, 6, none⟩ = some (.int .i64 wd) ∧
      wx.cell? ⟨bC, 0, none⟩ = some (.int .i64 y) ∧ wx.cell? ⟨bC, 1, none⟩ = some (.int .i64 mo) ∧ wx.cell? ⟨bC, 2, none⟩ = some (.int .i64 d) ∧ wx.cell? ⟨bC, 3, none⟩ = some (.int .i64 h) ∧ wx.cell? ⟨bC, 4, none⟩ = some (.int .i64 mi) ∧ wx.cell? ⟨bC, 5, none⟩ = some (.int .i64 s) ∧ wx.cell? ⟨bC, 6, none⟩ = some (.int .i64 wd) ∧
      Hid (CellsAt wx bA (dateL y mo d h mi s wd) ∧ CellsAt wx bC (dateL y mo d h mi s wd) ∧ Below w.heap.size w wx))) := by
    intro wx hx
    obtain ⟨P, Q, R⟩ := hx
    exact ⟨P.cell 0 (by simp [dateL]), P.cell 1 (by simp [dateL]), P.cell 2 (by simp [dateL]), P.cell 3 (by simp [dateL]), P.cell 4 (by simp [dateL]), P.cell 5 (by simp [dateL]), P.cell 6 (by simp [dateL]),
      Q.cell 0 (by simp [dateL]), Q.cell 1 (by simp [dateL]), Q.cell 2 (by simp [dateL]), Q.cell 3 (by simp [dateL]), Q.cell 4 (by simp [dateL]), Q.cell 5 (by simp [dateL]), Q.cell 6 (by simp [dateL]), ⟨P, Q, R⟩⟩
  obtain ⟨x0, x1, x2, x3, x4, x5, x6, z0, z1, z2, z3, z4, z5, z6, -⟩ := cs.out w4 AA.out
  clear A3 C3 b5
  go_wp2_with fail
  go_region_held3 (fun w' => w'.cell? ⟨bA, 0, none⟩ = some (.int .i64 y) ∧ w'.cell? ⟨bA, 1, none⟩ = some (.int .i64 mo) ∧ w'.cell? ⟨bA, 2, none⟩ = some (.int .i64 d) ∧ w'.cell? ⟨bA, 3, none⟩ = some (.int .i64 h) ∧ w'.cell? ⟨bA, 4, none⟩ = some (.int .i64 mi) ∧ w'.cell? ⟨bA, 5, none⟩ = some (.int .i64 s) ∧ w'.cell? ⟨bA, 6, none⟩ = some (.int .i64 wd) ∧
      w'.cell? ⟨bC, 0, none⟩ = some (.int .i64 y) ∧ w'.cell? ⟨bC, 1, none⟩ = some (.int .i64 mo) ∧ w'.cell? ⟨bC, 2, none⟩ = some (.int .i64 d) ∧ w'.cell? ⟨bC, 3, none⟩ = some (.int .i64 h) ∧ w'.cell? ⟨bC, 4, none⟩ = some (.int .i64 mi) ∧ w'.cell? ⟨bC, 5, none⟩ = some (.int .i64 s) ∧ w'.cell? ⟨bC, 6, none⟩ = some (.int .i64 wd) ∧
      Hid (CellsAt w' bA (dateL y mo d h mi s wd) ∧ CellsAt w' bC (dateL y mo d h mi s wd) ∧ Below w.heap.size w w'))
    (first | exact cs.out _ AD.out | exact cs.out _ B'.out | go_keep)
    (first | (go_at_call 22; refine (plain_b w bA bC (by first | exact AD.out.1 | exact (Hid.out (by assumption)).1) (by first | exact AD.out.2.1 | exact (Hid.out (by assumption)).2.1) (by first | exact AD.out.2.2 | exact (Hid.out (by assumption)).2.2)).mono ?_; rintro e w' ⟨rfl, B'⟩; have B' := Lib.hid B'))
  all_goals (go_wp2_with fail)
  all_goals go_ret
  all_goals exact ⟨rfl, B'.out.2.2⟩

set_option maxRecDepth 100000 in
theorem lawJoins_any (y mo d h mi s wd : Int) (w : World) (hE : EnvS w) :
    Calls Tryd.prog 11 #[.agg #[.int .i64 y, .int .i64 mo, .int .i64 d, .int .i64 h, .int .i64 mi, .int .i64 s, .int .i64 wd]] w fun e w' => e = .returned (.bool true) ∧ Below w.heap.size w w' := by
  have HE := Lib.hid (hE.alloc (.cells #[.int .i64 y, .int .i64 mo, .int .i64 d, .int .i64 h, .int .i64 mi, .int .i64 s, .int .i64 wd] 32))
  clear hE
  obtain ⟨N, E, HV⟩ : ∃ N E, Hid (joinV y mo d h mi s wd = .tuple #[.int .i64 N, .int .i64 E]) := by
    unfold Hid joinV
    repeat' split
    all_goals exact ⟨_, _, rfl⟩
  have A0 := Lib.hid (CellsAt.first w (dateL y mo d h mi s wd) 32)
  have b0 := (Below.refl w.heap.size w).alloc (Nat.le_refl _) (.cells #[.int .i64 y, .int .i64 mo, .int .i64 d, .int .i64 h, .int .i64 mi, .int .i64 s, .int .i64 wd] 32)
  have hj := fun wx => join_any y mo d h mi s wd wx
  have hrj := fun wx => rjoin_any y mo d h mi s wd wx
  have hp := fun wx => plain_any y mo d h mi s wd wx
  rw [HV.out] at hj hrj
  unfold dateV at hj hrj hp
  have HJ := Lib.hid hj
  have HRJ := Lib.hid hrj
  have HP := Lib.hid hp
  clear hj hrj hp HV
  go_enter Tryd.func11, Tryd.ntmps11
  go_wp2_with fail
  refine (awake_any _ HE.out).mono ?_; rintro e w1 ⟨rfl, hb1⟩
  have A1 := Lib.hid (A0.out.next hb1)
  have b1 := b0.trans (hb1.mono b0.size)
  have c0 := A1.out.cell 0 (by simp [dateL])
  have c1 := A1.out.cell 1 (by simp [dateL])
  have c2 := A1.out.cell 2 (by simp [dateL])
  have c3 := A1.out.cell 3 (by simp [dateL])
  have c4 := A1.out.cell 4 (by simp [dateL])
  have c5 := A1.out.cell 5 (by simp [dateL])
  have c6 := A1.out.cell 6 (by simp [dateL])
  simp only [dateL, List.getElem_cons_zero, List.getElem_cons_succ] at c0 c1 c2 c3 c4 c5 c6
  go_wp2_with fail
  refine (HJ.out _).mono ?_; rintro e w2 ⟨rfl, hb2⟩
  have A2 := Lib.hid (A1.out.next hb2)
  have b2 := b1.trans (hb2.mono b1.size)
  clear c0 c1 c2 c3 c4 c5 c6 A1
  have c0 := A2.out.cell 0 (by simp [dateL])
  have c1 := A2.out.cell 1 (by simp [dateL])
  have c2 := A2.out.cell 2 (by simp [dateL])
  have c3 := A2.out.cell 3 (by simp [dateL])
  have c4 := A2.out.cell 4 (by simp [dateL])
  have c5 := A2.out.cell 5 (by simp [dateL])
  have c6 := A2.out.cell 6 (by simp [dateL])
  simp only [dateL, List.getElem_cons_zero, List.getElem_cons_succ] at c0 c1 c2 c3 c4 c5 c6
  go_wp2_with fail
  refine (HP.out _).mono ?_; rintro e w3 ⟨rfl, hb3⟩
  have b3 := b2.trans (hb3.mono b2.size)
  go_wp2_with fail
  refine (HRJ.out _).mono ?_; rintro e w4 ⟨rfl, hb4⟩
  have b4 := b3.trans (hb4.mono b3.size)
  go_wp2_with fail
  go_ret
  exact ⟨rfl, b4⟩
end Go.Proofs.YtmfnofpphnlbnaaDoor
