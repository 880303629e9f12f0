/- stamp's formOf: the form that a text is to be in. -/
import Derived.Test.YtjalfddedikibaaGreatDoorStampVcJ
namespace Go.Proofs.YtjalfddedikibaaGreatDoor
open Go Go.RowKit
set_option maxHeartbeats 2000000

set_option maxRecDepth 100000 in
theorem formOf_any (s : ByteArray) (w : World) (hE : EnvS w) (_hs : s.size ≤ 1099511627) :
    Calls Tryz.prog 81 #[.string s] w fun e w' => e = .returned (.int .i64 (Stm.formOf (L s))) ∧ w = w' := by
  obtain ⟨R, hR⟩ := name_it (Stm.formOf (L s))
  rw [hR.out]
  obtain ⟨X, hX⟩ : ∃ X : Nat → ByteArray, Hid (∀ j, bs (Stm.longN.getD j []) = X j) := ⟨_, fun _ => rfl⟩
  have e0 := hE.week 0 (by decide)
  have e1 := hE.week 1 (by decide)
  have e2 := hE.week 2 (by decide)
  have e3 := hE.week 3 (by decide)
  have e4 := hE.week 4 (by decide)
  have e5 := hE.week 5 (by decide)
  have e6 := hE.week 6 (by decide)
  rw [hX.out] at e0 e1 e2 e3 e4 e5 e6
  have hi0 : ∀ w, (Instr.index 150 (.agg #[.string (X 0), .string (X 1), .string (X 2), .string (X 3), .string (X 4), .string (X 5), .string (X 6)]) (.int .i64 0)).run Tryz.prog w = .ok (.string (X 0)) w := fun _ => by kernel_rfl
  have hi1 : ∀ w, (Instr.index 150 (.agg #[.string (X 0), .string (X 1), .string (X 2), .string (X 3), .string (X 4), .string (X 5), .string (X 6)]) (.int .i64 1)).run Tryz.prog w = .ok (.string (X 1)) w := fun _ => by kernel_rfl
  have hi2 : ∀ w, (Instr.index 150 (.agg #[.string (X 0), .string (X 1), .string (X 2), .string (X 3), .string (X 4), .string (X 5), .string (X 6)]) (.int .i64 2)).run Tryz.prog w = .ok (.string (X 2)) w := fun _ => by kernel_rfl
  have hi3 : ∀ w, (Instr.index 150 (.agg #[.string (X 0), .string (X 1), .string (X 2), .string (X 3), .string (X 4), .string (X 5), .string (X 6)]) (.int .i64 3)).run Tryz.prog w = .ok (.string (X 3)) w := fun _ => by kernel_rfl
  have hi4 : ∀ w, (Instr.index 150 (.agg #[.string (X 0), .string (X 1), .string (X 2), .string (X 3), .string (X 4), .string (X 5), .string (X 6)]) (.int .i64 4)).run Tryz.prog w = .ok (.string (X 4)) w := fun _ => by kernel_rfl
  have hi5 : ∀ w, (Instr.index 150 (.agg #[.string (X 0), .string (X 1), .string (X 2), .string (X 3), .string (X 4), .string (X 5), .string (X 6)]) (.int .i64 5)).run Tryz.prog w = .ok (.string (X 5)) w := fun _ => by kernel_rfl
  have hi6 : ∀ w, (Instr.index 150 (.agg #[.string (X 0), .string (X 1), .string (X 2), .string (X 3), .string (X 4), .string (X 5), .string (X 6)]) (.int .i64 6)).run Tryz.prog w = .ok (.string (X 6)) w := fun _ => by kernel_rfl
  clear hE
  go_enter Tryz.func81, Tryz.ntmps81
  go_wp2_with fail
  go_loop [4, 6, 9, 15] (fun _ i _ _ => ∃ k : Nat, k ≤ 7 ∧ i = .int .i64 k ∧ Hid (Stm.formFrom (L s) (Stm.longN.drop k) = R)) (fun _ i _ _ => 7 - (intOf i).toNat)
  case atStart => exact ⟨0, by omega, rfl, hR⟩
  case round =>
    obtain ⟨k, hk, rfl, hk1⟩ := hrel
    by_cases hlt : k < 7
    · have hst := Lib.hid (formFrom_step (L s) k hlt)
      have hso := short_of k hlt
      have l2 := long_len k
      have E1 : Hid (bs (Stm.shortN.getD k []) ++ ⟨#[44]⟩ = bs (Stm.shortN.getD k [] ++ [44])) := by unfold Hid; apply L_inj.1; simp [L, bs, ByteArray.data_append]
      have E2 : Hid (X k ++ ⟨#[44]⟩ = bs (Stm.longN.getD k [] ++ [44])) := by rw [← hX.out]; unfold Hid; apply L_inj.1; simp [L, bs, ByteArray.data_append]
      rw [hso.1, hX.out] at E1
      have z3 : (3 : Int) ≤ (X k).size := by have := hso.2; rw [hX.out] at this; exact this
      have z9 : (X k).size ≤ 9 := by rw [← hX.out, size_bs]; exact l2
      obtain ⟨b1, hb1⟩ := name_it ((Stm.shortN.getD k [] ++ [44]).isPrefixOf (L s))
      obtain ⟨b2, hb2⟩ := name_it ((Stm.longN.getD k [] ++ [44]).isPrefixOf (L s))
      rw [hb1.out, hb2.out] at hst
      obtain ⟨y, hy⟩ := name_it ((X k).extract 0 3)
      have zy : y.size ≤ 9 := by rw [← hy.out, ByteArray.size_extract]; omega
      rw [hy.out] at E1
      have hy' : (X k).extract 0 3 = y := hy.out
      have c1 : ∀ w, Calls Tryz.prog 61 #[.string s, .string (y ++ ⟨#[44]⟩)] w fun e w' => e = .returned (.bool b1) ∧ w = w' := by
        intro w
        rw [E1.out, ← hb1.out]
        exact (Tryz.strings_HasPrefix _ _ _).mono fun e w' ⟨h1, h2⟩ => ⟨h1, h2.symm⟩
      have c2 : ∀ w, Calls Tryz.prog 61 #[.string s, .string (X k ++ ⟨#[44]⟩)] w fun e w' => e = .returned (.bool b2) ∧ w = w' := by
        intro w
        rw [E2.out, ← hb2.out]
        exact (Tryz.strings_HasPrefix _ _ _).mono fun e w' ⟨h1, h2⟩ => ⟨h1, h2.symm⟩
      have C1 := Lib.hid c1
      have C2 := Lib.hid c2
      have hnx : Hid (b1 = false → b2 = false → Stm.formFrom (L s) (Stm.longN.drop (k + 1)) = R) := by
        rintro rfl rfl; rw [← hk1.out, hst.out]; rfl
      have hr1 : Hid (b1 = false → b2 = true → R = 1) := by rintro rfl rfl; rw [← hk1.out, hst.out]; rfl
      have hr0 : Hid (b1 = true → R = 0) := by rintro rfl; rw [← hk1.out, hst.out]; rfl
      clear c1 c2 hst E1 E2 hso l2 hb1 hb2 hk1 hy
      have h7 : k = 0 ∨ k = 1 ∨ k = 2 ∨ k = 3 ∨ k = 4 ∨ k = 5 ∨ k = 6 := by omega
      rcases h7 with rfl | rfl | rfl | rfl | rfl | rfl | rfl
      all_goals
        go_wp2_with fail
        all_goals (try (exfalso; omega))
        refine (C1.out _).mono ?_; rintro e w1 ⟨rfl, rfl⟩
        cases b1
        · go_wp2_with fail
          all_goals (try (exfalso; omega))
          refine (C2.out _).mono ?_; rintro e w1 ⟨rfl, rfl⟩
          cases b2
          · go_wp2_with fail
            go_round
            case rel =>
              refine ⟨_, ?_, ?_, hnx.out (by first | trivial | rfl) (by first | trivial | rfl)⟩
              · omega
              · go_num
            case measure => simp [intOf]
          · have hr : Hid (R = 1) := hr1.out (by first | trivial | rfl) (by first | trivial | rfl)
            go_wp2_with fail
            go_ret
            exact ⟨by rw [hr.out]; rfl, rfl⟩
        · have hr : Hid (R = 0) := hr0.out (by first | trivial | rfl)
          go_wp2_with fail
          go_ret
          exact ⟨by rw [hr.out]; rfl, rfl⟩
    · obtain rfl : k = 7 := by omega
      have hr : Hid (R = 2) := by rw [← hk1.out]; rfl
      go_wp2_with fail
      go_ret
      exact ⟨by rw [hr.out]; rfl, rfl⟩
end Go.Proofs.YtjalfddedikibaaGreatDoor
