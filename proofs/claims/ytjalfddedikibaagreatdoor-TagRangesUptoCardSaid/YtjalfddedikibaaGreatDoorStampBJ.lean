/- Contracts: the number of a day (program and reference). -/
import Derived.Test.YtjalfddedikibaaGreatDoorStampAJ
namespace Go.Proofs.YtjalfddedikibaaGreatDoor
open Go Go.RowKit
set_option maxHeartbeats 1000000

def pairII (a b : Int) : Value := .tuple #[.int .i64 a, .int .i64 b]
theorem days_any (y m d : Int) (w : World) :
    Calls Tryz.prog 117 #[.int .i64 y, .int .i64 m, .int .i64 d] w fun e w' => e = .returned (.tuple #[.int .i64 (Cal.daysN y m d), .int .i64 (Cal.daysE y m d)]) ∧ w = w' := by
  obtain ⟨N, hN⟩ := name_it (Cal.daysN y m d)
  obtain ⟨E, hE⟩ := name_it (Cal.daysE y m d)
  rw [hN.out, hE.out]
  have hmd := Cal.mdays_lo y m
  have hout : ¬ (1 ≤ y ∧ y ≤ 9999 ∧ 1 ≤ d ∧ d ≤ Cal.mdays y m) → Hid (N = 0 ∧ E = 41) := by
    intro h
    have : Cal.daysOk y m d = false := by unfold Cal.daysOk; exact decide_eq_false h
    rw [← hN.out, ← hE.out]; unfold Cal.daysN Cal.daysE; rw [this]; exact ⟨rfl, rfl⟩
  by_cases h : 1 ≤ y ∧ y ≤ 9999 ∧ 1 ≤ d ∧ d ≤ Cal.mdays y m
  · have hmi := Cal.mdays_in y m (by omega)
    have hok : Hid (N = Cal.daysOf y m d ∧ E = 0) := by
      have : Cal.daysOk y m d = true := by unfold Cal.daysOk; exact decide_eq_true h
      rw [← hN.out, ← hE.out]; unfold Cal.daysN Cal.daysE; rw [this]; exact ⟨rfl, rfl⟩
    obtain ⟨h1, h2, h3, h4⟩ := h
    obtain ⟨h5, h6⟩ := hmi
    clear hout hN hE
    have hdb := Cal.dby_bd y (by omega) (by omega)
    go_enter Tryz.func117, Tryz.ntmps117
    go_wp2_with (first | (go_at_call 136; refine (mdays_any _ _ _).mono ?_; rintro e w' ⟨rfl, rfl⟩) | (go_at_call 135; refine (ydays_any _ _ (by omega) (by omega)).mono ?_; rintro e w' ⟨rfl, rfl⟩))
    go_loop [8, 9] (fun n k => ∃ j : Int, 1 ≤ j ∧ j ≤ m ∧ k = .int .i64 j ∧ n = .int .i64 (Cal.dby y - 719162 + d - 1 + Cal.cum y j)) (fun _ k => (12 - intOf k).toNat)
    case atStart => exact ⟨1, by omega, by omega, rfl, by rw [Cal.cum_one]; go_num⟩
    case round =>
      obtain ⟨j, j1, j2, rfl, rfl⟩ := hrel
      have hc := Cal.cum_bd y j
      have hm1 := Cal.mdays_lo y j
      by_cases hj : j < m
      · have hs := Lib.hid (Cal.cum_succ y j (by omega) (by omega))
        go_wp2_with (first | (go_at_call 136; refine (mdays_any _ _ _).mono ?_; rintro e w' ⟨rfl, rfl⟩))
        go_round
        case rel => exact ⟨j + 1, by omega, by omega, rfl, by rw [hs.out]; go_num⟩
        case measure => simp [intOf]; omega
      · obtain rfl : j = m := by omega
        go_wp2_with fail
        go_ret2
        exact ⟨by rw [hok.out.1, hok.out.2]; unfold Cal.daysOf; congr 3; simp; omega, rfl⟩
  · have ho := hout h
    clear hout hN hE
    have hcase : y < 1 ∨ (1 ≤ y ∧ 9999 < y) ∨ (1 ≤ y ∧ y ≤ 9999 ∧ d < 1) ∨ (1 ≤ y ∧ y ≤ 9999 ∧ 1 ≤ d ∧ Cal.mdays y m < d) := by omega
    clear h
    rcases hcase with h | ⟨h, h'⟩ | ⟨h, h', h''⟩ | ⟨h, h', h'', h3⟩
    all_goals
      go_enter Tryz.func117, Tryz.ntmps117
      go_wp2_with (first | (go_at_call 136; refine (mdays_any _ _ _).mono ?_; rintro e w' ⟨rfl, rfl⟩))
      all_goals go_ret2
      all_goals exact ⟨by rw [ho.out.1, ho.out.2]; rfl, rfl⟩

theorem rdays_any (y m d : Int) (w : World) :
    Calls Tryz.prog 70 #[.int .i64 y, .int .i64 m, .int .i64 d] w fun e w' => e = .returned (.tuple #[.int .i64 (Cal.daysN y m d), .int .i64 (Cal.daysE y m d)]) ∧ Below w.heap.size w w' := by
  have s1 : (0 : Int) ≤ 1 := by omega
  have s2 : (0 : Int) ≤ 2 := by omega
  have s3 : (0 : Int) ≤ 3 := by omega
  obtain ⟨N, hN⟩ := name_it (Cal.daysN y m d)
  obtain ⟨E, hE⟩ := name_it (Cal.daysE y m d)
  rw [hN.out, hE.out]
  have hmd := Cal.mdays_lo y m
  have hout : ¬ (1 ≤ y ∧ y ≤ 9999 ∧ 1 ≤ d ∧ d ≤ Cal.mdays y m) → Hid (N = 0 ∧ E = 41) := by
    intro h
    have : Cal.daysOk y m d = false := by unfold Cal.daysOk; exact decide_eq_false h
    rw [← hN.out, ← hE.out]; unfold Cal.daysN Cal.daysE; rw [this]; exact ⟨rfl, rfl⟩
  by_cases h : 1 ≤ y ∧ y ≤ 9999 ∧ 1 ≤ d ∧ d ≤ Cal.mdays y m
  · have hmi := Cal.mdays_in y m (by omega)
    have hok : Hid (N = Cal.daysOf y m d ∧ E = 0) := by
      have : Cal.daysOk y m d = true := by unfold Cal.daysOk; exact decide_eq_true h
      rw [← hN.out, ← hE.out]; unfold Cal.daysN Cal.daysE; rw [this]; exact ⟨rfl, rfl⟩
    obtain ⟨h1, h2, h3, h4⟩ := h
    obtain ⟨h5, h6⟩ := hmi
    clear hout hN hE
    have hdb := Cal.dby_bd y (by omega) (by omega)
    go_enter Tryz.func70, Tryz.ntmps70
    go_wp2_with fail
    refine (rmdays_any _ _ _).mono ?_; rintro e w1 ⟨rfl, hb1⟩
    go_wp2_with fail
    go_loopw [8, 9] (fun n k wr => ∃ j : Int, 1 ≤ j ∧ j ≤ m ∧ k = .int .i64 j ∧ n = .int .i64 (d - 1 + Cal.cum y j) ∧ Below w.heap.size w wr) (fun _ k _ => (12 - intOf k).toNat)
    case atStart => exact ⟨1, by omega, by omega, rfl, by rw [Cal.cum_one]; go_num, hb1⟩
    case round =>
      obtain ⟨j, j1, j2, rfl, rfl, hbr⟩ := hrel
      have hc := Cal.cum_bd y j
      have hm1 := Cal.mdays_lo y j
      by_cases hj : j < m
      · have hs := Lib.hid (Cal.cum_succ y j (by omega) (by omega))
        go_wp2_with (first | (go_at_call 98; refine (rmdays_any _ _ _).mono ?_; rintro e w2 ⟨rfl, hb2⟩))
        go_roundw
        case rel => exact ⟨j + 1, by omega, by omega, rfl, by rw [hs.out]; go_num, hbr.trans (Below.mono ‹Below wr.heap.size wr _› hbr.size)⟩
        case measure => simp [intOf]; omega
      · obtain rfl : j = m := by omega
        go_wp2_with fail
        go_loopw [8, 10] (fun n k wr => ∃ x : Int, 1970 ≤ x ∧ (x ≤ y ∨ x = 1970) ∧ k = .int .i64 x ∧ n = .int .i64 (d - 1 + Cal.cum y j + (Cal.dby x - 719162)) ∧ Below w.heap.size w wr) (fun _ k _ => (10000 - intOf k).toNat)
        case atStart => exact ⟨1970, by omega, by omega, rfl, by rw [Cal.dby70]; go_num, hbr⟩
        case round =>
          obtain ⟨x, x1, x2, rfl, rfl, hbx⟩ := hrel
          have hx := Cal.dby_bd x (by omega) (by omega)
          have hyx := Cal.ydays_bd x
          by_cases hxy : x < y
          · have hs := Lib.hid (Cal.dby_succ x)
            go_wp2_with (first | (go_at_call 99; refine (rydays_any _ _).mono ?_; rintro e w2 ⟨rfl, rfl⟩))
            go_roundw
            case rel => exact ⟨x + 1, by omega, by omega, rfl, by rw [hs.out]; go_num, hbx⟩
            case measure => simp [intOf]; omega
          · have hxy' : (y < 1970 ∧ x = 1970) ∨ x = y := by omega
            go_wp2_with fail
            go_loopw [8, 11] (fun n k wr => ∃ z : Int, (y < 1970 → y ≤ z) ∧ (y < 1970 → z ≤ 1970) ∧ (1970 ≤ y → z = y) ∧ k = .int .i64 z ∧ n = .int .i64 (if y < 1970 then d - 1 + Cal.cum y j - (Cal.dby z - Cal.dby y) else d - 1 + Cal.cum y j + (Cal.dby y - 719162)) ∧ Below w.heap.size w wr) (fun _ k _ => (10000 - intOf k).toNat)
            case atStart =>
              refine ⟨y, by omega, by omega, by omega, rfl, ?_, hbx⟩
              split
              · obtain rfl : x = 1970 := by omega
                rw [Cal.dby70]; go_num
              · obtain rfl : x = y := by omega
                rfl
            case round =>
              obtain ⟨z, z1, z2, z3, rfl, rfl, hbz⟩ := hrel
              by_cases hy : y < 1970
              · have z1 := z1 hy
                have z2 := z2 hy
                clear z3
                rw [if_pos hy] at *
                have hz := Cal.dby_bd z (by omega) (by omega)
                have hyz := Cal.ydays_bd z
                by_cases hzy : z < 1970
                · have hs := Lib.hid (Cal.dby_succ z)
                  go_wp2_with (first | (go_at_call 99; refine (rydays_any _ _).mono ?_; rintro e w2 ⟨rfl, rfl⟩))
                  go_roundw
                  case rel => exact ⟨z + 1, by omega, by omega, by omega, rfl, by rw [if_pos hy, hs.out]; go_num, hbz⟩
                  case measure => simp [intOf]; omega
                · obtain rfl : z = 1970 := by omega
                  go_wp2_with fail
                  go_ret2
                  exact ⟨by rw [hok.out.1, hok.out.2]; unfold Cal.daysOf; rw [Cal.dby70]; congr 3; simp; omega, hbz⟩
              · obtain rfl := z3 (by omega)
                rw [if_neg hy] at *
                go_wp2_with fail
                go_ret2
                exact ⟨by rw [hok.out.1, hok.out.2]; unfold Cal.daysOf; congr 3; simp; omega, hbz⟩
  · have ho := hout h
    clear hout hN hE
    have hcase : y < 1 ∨ (1 ≤ y ∧ 9999 < y) ∨ (1 ≤ y ∧ y ≤ 9999 ∧ d < 1) ∨ (1 ≤ y ∧ y ≤ 9999 ∧ 1 ≤ d ∧ Cal.mdays y m < d) := by omega
    clear h
    rcases hcase with h | ⟨h, h'⟩ | ⟨h, h', h''⟩ | ⟨h, h', h'', h3⟩
    all_goals
      go_enter Tryz.func70, Tryz.ntmps70
      go_wp2_with (first | (go_at_call 98; refine (rmdays_any _ _ _).mono ?_; rintro e w1 ⟨rfl, hb1⟩))
      all_goals go_ret2
      all_goals exact ⟨by rw [ho.out.1, ho.out.2]; rfl, by first | assumption | exact Below.refl _ _⟩
end Go.Proofs.YtjalfddedikibaaGreatDoor
