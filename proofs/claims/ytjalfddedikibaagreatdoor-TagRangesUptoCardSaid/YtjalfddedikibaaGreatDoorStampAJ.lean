/- Contracts: leap years, months' days, years' days, the number of a day (program and reference); every argument. -/
import Derived.Test.YtjalfddedikibaaGreatDoorMa
import Derived.Test.YtjalfddedikibaaGreatDoorMb
namespace Go.Proofs.YtjalfddedikibaaGreatDoor
open Go Go.RowKit
set_option maxHeartbeats 1000000

theorem leap_any (y : Int) (w : World) :
    Calls Tryz.prog 146 #[.int .i64 y] w fun e w' => e = .returned (.bool (Cal.leapB y)) ∧ w = w' := by
  obtain ⟨R, hR⟩ := name_it (Cal.leapB y)
  rw [hR.out]
  go_enter Tryz.func146, Tryz.ntmps146
  go_wp2
  all_goals go_ret
  all_goals
    have a4 := Cal.tmod0 y 4
    have a100 := Cal.tmod0 y 100
    have a400 := Cal.tmod0 y 400
    exact ⟨ret_bool (by rw [← hR.out, Cal.leapB_iff, Bool.eq_iff_iff]; simp; omega), rfl⟩
theorem rleap_any (y : Int) (w : World) :
    Calls Tryz.prog 128 #[.int .i64 y] w fun e w' => e = .returned (.bool (Cal.leapB y)) ∧ w = w' := by
  obtain ⟨R, hR⟩ := name_it (Cal.leapB y)
  rw [hR.out]
  go_enter Tryz.func128, Tryz.ntmps128
  go_wp2
  all_goals go_ret
  all_goals
    have a4 := Cal.tmod0 y 4
    have a100 := Cal.tmod0 y 100
    have a400 := Cal.tmod0 y 400
    exact ⟨ret_bool (by rw [← hR.out, Cal.leapB_iff, Bool.eq_iff_iff]; (try simp only [beq_iff_eq, beq_eq_false_iff_ne, ne_eq] at *); simp; omega), rfl⟩

theorem mdays_any (y m : Int) (w : World) :
    Calls Tryz.prog 136 #[.int .i64 y, .int .i64 m] w fun e w' => e = .returned (.int .i64 (Cal.mdays y m)) ∧ w = w' := by
  obtain ⟨R, hR⟩ := name_it (Cal.mdays y m)
  rw [hR.out]
  go_enter Tryz.func136, Tryz.ntmps136
  go_wp2_with (go_at_call 146; refine (leap_any _ _).mono ?_; rintro e w' ⟨rfl, rfl⟩)
  all_goals go_ret
  all_goals exact ⟨ret_int (by rw [← hR.out]; (try simp only [beq_iff_eq, beq_eq_false_iff_ne, ne_eq] at *); simp [Cal.mdays, *]), rfl⟩
theorem rmdays_any (y m : Int) (w : World) :
    Calls Tryz.prog 98 #[.int .i64 y, .int .i64 m] w fun e w' => e = .returned (.int .i64 (Cal.mdays y m)) ∧ Below w.heap.size w w' := by
  obtain ⟨R, hR⟩ := name_it (Cal.mdays y m)
  rw [hR.out]
  by_cases hm : m < 1 ∨ 12 < m
  · rcases hm with hm | hm
    all_goals
      go_enter Tryz.func98, Tryz.ntmps98
      go_wp2_with fail
      all_goals go_ret
      all_goals exact ⟨ret_int (by rw [← hR.out]; (try simp only [beq_iff_eq, beq_eq_false_iff_ne, ne_eq] at *); unfold Cal.mdays; rw [if_neg (by omega), if_neg (by omega), if_neg (by omega)]), Below.refl _ _⟩
  · have h12 : m = 1 ∨ m = 2 ∨ m = 3 ∨ m = 4 ∨ m = 5 ∨ m = 6 ∨ m = 7 ∨ m = 8 ∨ m = 9 ∨ m = 10 ∨ m = 11 ∨ m = 12 := by omega
    clear hm
    rcases h12 with rfl | rfl | rfl | rfl | rfl | rfl | rfl | rfl | rfl | rfl | rfl | rfl
    all_goals
      go_enter Tryz.func98, Tryz.ntmps98
      go_wp2_with (go_at_call 128; refine (rleap_any _ _).mono ?_; rintro e w' ⟨rfl, rfl⟩)
      all_goals go_ret
      all_goals exact ⟨ret_int (by rw [← hR.out]; (try simp only [beq_iff_eq, beq_eq_false_iff_ne, ne_eq] at *); simp [Cal.mdays, *]), by first | exact Below.refl _ _ | exact (Below.refl _ _).alloc (Nat.le_refl _) _⟩
theorem ydays_any (y : Int) (w : World) (h1 : 1 ≤ y) (h2 : y ≤ 10001) :
    Calls Tryz.prog 135 #[.int .i64 y] w fun e w' => e = .returned (.int .i64 (Cal.dby y)) ∧ w = w' := by
  obtain ⟨R, hR⟩ := name_it (Cal.dby y)
  rw [hR.out]
  go_enter Tryz.func135, Tryz.ntmps135
  go_wp2_with fail
  go_ret
  exact ⟨ret_int (by rw [← hR.out]; rfl), rfl⟩
theorem rydays_any (y : Int) (w : World) :
    Calls Tryz.prog 99 #[.int .i64 y] w fun e w' => e = .returned (.int .i64 (Cal.ydays y)) ∧ w = w' := by
  obtain ⟨R, hR⟩ := name_it (Cal.ydays y)
  rw [hR.out]
  go_enter Tryz.func99, Tryz.ntmps99
  go_wp2_with (go_at_call 128; refine (rleap_any _ _).mono ?_; rintro e w' ⟨rfl, rfl⟩)
  all_goals go_ret
  all_goals exact ⟨ret_int (by rw [← hR.out]; simp [Cal.ydays, *]), rfl⟩
theorem ismoment_any (m : Int) (w : World) :
    Calls Tryz.prog 80 #[.int .i64 m] w fun e w' => e = .returned (.bool (decide (-62135596800 ≤ m ∧ m ≤ 253402300799))) ∧ w = w' := by
  obtain ⟨R, hR⟩ := name_it (decide (-62135596800 ≤ m ∧ m ≤ 253402300799))
  rw [hR.out]
  go_enter Tryz.func80, Tryz.ntmps80
  go_wp2_with fail
  all_goals go_ret
  all_goals exact ⟨ret_bool (by rw [← hR.out, Bool.eq_iff_iff]; simp; omega), rfl⟩
def wday (n : Int) : Int := (n + 3) % 7
theorem wday_t (n : Int) : (n.tmod 7 + 7) % 7 = n % 7 ∧ -7 < n.tmod 7 ∧ n.tmod 7 < 7 := by
  have h := Int.tmod_def n 7
  have k : n.tdiv 7 = if 0 ≤ n then n / 7 else -((-n) / 7) := by
    split
    · exact Int.tdiv_eq_ediv_of_nonneg (by omega)
    · have := Int.neg_tdiv (a := -n) (b := 7)
      rw [Int.neg_neg] at this
      rw [this, Int.tdiv_eq_ediv_of_nonneg (by omega)]
  split at k <;> omega
theorem weekday_any (n : Int) (w : World) (h1 : -1000000 ≤ n) (h2 : n ≤ 10000000) :
    Calls Tryz.prog 118 #[.int .i64 n] w fun e w' => e = .returned (.int .i64 (wday n)) ∧ w = w' := by
  obtain ⟨R, hR⟩ := name_it (wday n)
  rw [hR.out]
  have ht := wday_t (n + 3)
  have hb1 := ht.2.1
  have hb2 := ht.2.2
  have HT := Lib.hid ht.1; clear ht
  go_enter Tryz.func118, Tryz.ntmps118
  go_wp2_with fail
  go_ret
  exact ⟨ret_int (by rw [← hR.out]; exact HT.out), rfl⟩
theorem rweekday_any (n : Int) (w : World) (h1 : -1000000 ≤ n) (h2 : n ≤ 10000000) :
    Calls Tryz.prog 71 #[.int .i64 n] w fun e w' => e = .returned (.int .i64 (wday n)) ∧ w = w' := by
  obtain ⟨R, hR⟩ := name_it (wday n)
  rw [hR.out]
  have ht := wday_t (n + 3)
  have hb1 := ht.2.1
  have hb2 := ht.2.2
  have HT := Lib.hid ht.1; clear ht
  go_enter Tryz.func71, Tryz.ntmps71
  go_wp2_with fail
  go_ret
  exact ⟨ret_int (by rw [← hR.out]; exact HT.out), rfl⟩
end Go.Proofs.YtjalfddedikibaaGreatDoor
