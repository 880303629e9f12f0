/- Contracts: the number of a day (program and reference). -/
import Derived.Test.YtjalfddedikibaaDoorStampAJ
namespace Go.Proofs.YtjalfddedikibaaDoor
open Go Go.RowKit
set_option maxHeartbeats 1000000

def pairII (a b : Int) : Value := .tuple #[.int .i64 a, .int .i64 b]
theorem days_any (y m d : Int) (w : World) :
    Calls Tryd.prog 93 #[.int .i64 y, .int .i64 m, .int .i64 d] w fun e w' => e = .returned (.tuple #[.int .i64 (Cal.daysN y m d), .int .i64 (Cal.daysE y m d)]) ∧ w = w' := by
  obtain ⟨N, hN⟩ := name_it (Cal.daysN y m d)
  obtain ⟨E, hE⟩ := name_it (Cal.daysE y m d)
  rw [hN.out, hE.out]
  have hmd := Cal.mdays_lo y m
  have hout : ¬ (1 ≤ y ∧ y ≤ 9999 ∧ 1 ≤ d ∧ d ≤ Cal.mdays y m) → Hid (N = 0 ∧ E = 41) := by
    intro h
    have : Cal.daysOk y m d = false := by unfold Cal.daysOk; exact decide_eq_false h
    rw [← hN.out, ← hE.out]; unfold Cal.daysN Cal.daysE; rw [this]; exact ⟨rfl, rfl⟩
  by_cases h : 1 ≤ y ∧ y ≤ 9999 ∧ 1 ≤ d ∧ d ≤ Cal.mdays y m
  · have hmi := Cal.mdays_in y m (by omega)
    have hok : Hid (N = Cal.daysOf y m d ∧ E = 0) := by
      have : Cal.daysOk y m d = true := by unfold Cal.daysOk; exact decide_eq_true h
      rw [← hN.out, ← hE.out]; unfold Cal.daysN Cal.daysE; rw [this]; exact ⟨rfl, rfl⟩
    obtain ⟨h1, h2, h3, h4⟩ := h
    obtain ⟨h5, h6⟩ := hmi
    clear hout hN hE
    have hdb := Cal.dby_bd y (by omega) (by omega)
    go_enter Tryd.func93, Tryd.ntmps93
    go_wp2_with (first | (go_at_call 101; refine (mdays_any _ _ _).mono ?_; rintro e w' ⟨rfl, rfl⟩) | (go_at_call 100; refine (ydays_any _ _ (by omega) (by omega)).mono ?_; rintro e w' ⟨rfl, rfl⟩))
    go_loop [8, 9] (fun n k => ∃ j : Int, 1 ≤ j ∧ j ≤ m ∧ k = .int .i64 j ∧ n = .int .i64 (Cal.dby y - 719162 + d - 1 + Cal.cum y j)) (fun _ k => (12 - intOf k).toNat)
    case atStart => exact ⟨1, by omega, by omega, rfl, by rw [Cal.cum_one]; go_num⟩
    case round =>
      obtain ⟨j, j1, j2, rfl, rfl⟩ := hrel
      have hc := Cal.cum_bd y j
      have hm1 := Cal.mdays_lo y j
      by_cases hj : j < m
      · have hs := Lib.hid (Cal.cum_succ y j (by omega) (by omega))
        go_wp2_with (first | (go_at_call 101; refine (mdays_any _ _ _).mono ?_; rintro e w' ⟨rfl, rfl⟩))
        go_round
        case rel => exact ⟨j + 1, by omega, by omega, rfl, by rw [hs.out]; go_num⟩
        case measure => simp [intOf]; omega
      · obtain rfl : j = m := by omega
        go_wp2_with fail
        go_ret2
        exact ⟨by rw [hok.out.1, hok.out.2]; unfold Cal.daysOf; congr 3; simp; omega, rfl⟩
  · have ho := hout h
    clear hout hN hE
    have hcase : y < 1 ∨ (1 ≤ y ∧ 9999 < y) ∨ (1 ≤ y ∧ y ≤ 9999 ∧ d < 1) ∨ (1 ≤ y ∧ y ≤ 9999 ∧ 1 ≤ d ∧ Cal.mdays y m < d) := by omega
    clear h
    rcases hcase with h | ⟨h, h'⟩ | ⟨h, h', h''⟩ | ⟨h, h', h'', h3⟩
    all_goals
      go_enter Tryd.func93, Tryd.ntmps93
      go_wp2_with (first | (go_at_call 101; refine (mdays_any _ _ _).mono ?_; rintro e w' ⟨rfl, rfl⟩))
      all_goals go_ret2
      all_goals exact ⟨by rw [ho.out.1, ho.out.2]; rfl, rfl⟩

end Go.Proofs.YtjalfddedikibaaDoor
