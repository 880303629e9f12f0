/- The calendar in plain arithmetic: leap years, months' days, days before a year and a month, the date of a day. No program in sight. -/
namespace Go.Proofs.YtmfnofpphnlbnaaDoor.Cal

def leapB (y : Int) : Bool := (y % 4 == 0) && ((y % 100 != 0) || (y % 400 == 0))
theorem leapB_iff (y : Int) : leapB y = decide (y % 4 = 0 ∧ (y % 100 ≠ 0 ∨ y % 400 = 0)) := by
  unfold leapB; rw [Bool.eq_iff_iff]; simp

theorem tmod0 (x n : Int) : x.tmod n = 0 ↔ x % n = 0 := by
  rw [← Int.dvd_iff_tmod_eq_zero, Int.dvd_iff_emod_eq_zero]

/-- days of a month; 0 where there is none such -/
def mdays (y m : Int) : Int :=
  if m = 1 ∨ m = 3 ∨ m = 5 ∨ m = 7 ∨ m = 8 ∨ m = 10 ∨ m = 12 then 31
  else if m = 4 ∨ m = 6 ∨ m = 9 ∨ m = 11 then 30
  else if m = 2 then (if leapB y = true then 29 else 28) else 0
def ydays (y : Int) : Int := if leapB y = true then 366 else 365
/-- days between the beginnings of the year 1 and of y -/
def dby (y : Int) : Int := 365 * (y - 1) + (y - 1) / 4 - (y - 1) / 100 + (y - 1) / 400
/-- days of the year ahead of a month -/
def cum (y m : Int) : Int :=
  if m ≤ 1 then 0 else if m = 2 then 31 else (if leapB y = true then 1 else 0) +
    (if m = 3 then 59 else if m = 4 then 90 else if m = 5 then 120 else if m = 6 then 151 else if m = 7 then 181 else if m = 8 then 212 else if m = 9 then 243 else if m = 10 then 273 else if m = 11 then 304 else if m = 12 then 334 else 365)

theorem mdays_lo (y m : Int) : 0 ≤ mdays y m ∧ mdays y m ≤ 31 := by
  unfold mdays; split <;> (try split) <;> (try split) <;> (try split) <;> omega
theorem mdays_pos (y m : Int) (h1 : 1 ≤ m) (h2 : m ≤ 12) : 28 ≤ mdays y m := by
  unfold mdays; split <;> (try split) <;> (try split) <;> (try split) <;> omega
theorem mdays_in (y m : Int) (h : 1 ≤ mdays y m) : 1 ≤ m ∧ m ≤ 12 := by
  unfold mdays at h; split at h <;> (try split at h) <;> (try split at h) <;> (try split at h) <;> omega
theorem ydays_bd (y : Int) : 365 ≤ ydays y ∧ ydays y ≤ 366 := by unfold ydays; split <;> omega
theorem dby_succ (y : Int) : dby (y + 1) = dby y + ydays y := by
  unfold dby ydays; rw [leapB_iff]; simp only [decide_eq_true_eq]; split <;> omega
theorem cum_succ (y m : Int) (h1 : 1 ≤ m) (h2 : m ≤ 12) : cum y (m + 1) = cum y m + mdays y m := by
  have : m = 1 ∨ m = 2 ∨ m = 3 ∨ m = 4 ∨ m = 5 ∨ m = 6 ∨ m = 7 ∨ m = 8 ∨ m = 9 ∨ m = 10 ∨ m = 11 ∨ m = 12 := by omega
  rcases this with rfl | rfl | rfl | rfl | rfl | rfl | rfl | rfl | rfl | rfl | rfl | rfl <;> (unfold cum mdays; simp; try (split <;> omega))
theorem cum_one (y : Int) : cum y 1 = 0 := by unfold cum; simp
theorem cum_end (y : Int) : cum y 13 = ydays y := by unfold cum ydays; simp; split <;> omega
theorem cum_bd (y m : Int) : 0 ≤ cum y m ∧ cum y m ≤ 366 := by
  by_cases h1 : m ≤ 1
  · simp [cum, h1]
  · by_cases h2 : 12 < m
    · unfold cum
      rw [if_neg h1, if_neg (by omega), if_neg (show ¬ m = 3 by omega), if_neg (show ¬ m = 4 by omega), if_neg (show ¬ m = 5 by omega), if_neg (show ¬ m = 6 by omega), if_neg (show ¬ m = 7 by omega), if_neg (show ¬ m = 8 by omega), if_neg (show ¬ m = 9 by omega), if_neg (show ¬ m = 10 by omega), if_neg (show ¬ m = 11 by omega), if_neg (show ¬ m = 12 by omega)]
      split <;> omega
    · have : m = 2 ∨ m = 3 ∨ m = 4 ∨ m = 5 ∨ m = 6 ∨ m = 7 ∨ m = 8 ∨ m = 9 ∨ m = 10 ∨ m = 11 ∨ m = 12 := by omega
      rcases this with rfl | rfl | rfl | rfl | rfl | rfl | rfl | rfl | rfl | rfl | rfl <;> (unfold cum; simp; try (split <;> omega))
theorem dby_bd (y : Int) (h1 : 1 ≤ y) (h2 : y ≤ 10000) : 0 ≤ dby y ∧ dby y ≤ 3652059 := by unfold dby; omega
theorem dby_mono (a b : Int) (h : a ≤ b) : dby a ≤ dby b := by unfold dby; omega
theorem dby_lt (a b : Int) (h : a < b) : dby a + 365 ≤ dby b := by unfold dby; omega
theorem dby70 : dby 1970 = 719162 := by simp [dby]
theorem dby_guess (n : Int) (h0 : 0 ≤ n) : dby (n / 366 + 1) ≤ n := by unfold dby; omega
theorem dby_top (n : Int) (h : n < 3652059) (y : Int) (hy : dby y ≤ n) : y ≤ 9999 := by unfold dby at hy; omega

/-- which date a day is that is counted from the 1st of January of the year 1 on -/
def IsDate (n y m d : Int) : Prop := 1 ≤ m ∧ m ≤ 12 ∧ 1 ≤ d ∧ d ≤ mdays y m ∧ dby y + cum y m + d - 1 = n

theorem cum_le (y m : Int) (h1 : 1 ≤ m) (h2 : m ≤ 12) : cum y m + mdays y m ≤ ydays y := by
  have h := cum_end y
  have : m = 1 ∨ m = 2 ∨ m = 3 ∨ m = 4 ∨ m = 5 ∨ m = 6 ∨ m = 7 ∨ m = 8 ∨ m = 9 ∨ m = 10 ∨ m = 11 ∨ m = 12 := by omega
  rcases this with rfl | rfl | rfl | rfl | rfl | rfl | rfl | rfl | rfl | rfl | rfl | rfl <;> (unfold cum mdays ydays; simp; try (split <;> omega))
theorem cum_lt (y a b : Int) (h0 : 1 ≤ a) (h : a < b) (hb : b ≤ 12) : cum y a + mdays y a ≤ cum y b := by
  have ha : a = 1 ∨ a = 2 ∨ a = 3 ∨ a = 4 ∨ a = 5 ∨ a = 6 ∨ a = 7 ∨ a = 8 ∨ a = 9 ∨ a = 10 ∨ a = 11 := by omega
  have hb' : b = 2 ∨ b = 3 ∨ b = 4 ∨ b = 5 ∨ b = 6 ∨ b = 7 ∨ b = 8 ∨ b = 9 ∨ b = 10 ∨ b = 11 ∨ b = 12 := by omega
  rcases ha with rfl | rfl | rfl | rfl | rfl | rfl | rfl | rfl | rfl | rfl | rfl <;> rcases hb' with rfl | rfl | rfl | rfl | rfl | rfl | rfl | rfl | rfl | rfl | rfl <;>
    first | (exfalso; omega) | (unfold cum mdays; simp; try (split <;> omega))

theorem isDate_year {n y m d : Int} (h : IsDate n y m d) : dby y ≤ n ∧ n < dby (y + 1) := by
  obtain ⟨h1, h2, h3, h4, h5⟩ := h
  have := cum_le y m h1 h2; have := cum_bd y m; rw [dby_succ]; omega
theorem year_unique {n a b : Int} (h1 : dby a ≤ n) (h2 : n < dby (a + 1)) (h3 : dby b ≤ n) (h4 : n < dby (b + 1)) : a = b := by
  have l1 : a ≤ b := by
    rcases Int.lt_or_le b a with h | h
    · have := dby_mono (b + 1) a (by omega); omega
    · exact h
  have l2 : b ≤ a := by
    rcases Int.lt_or_le a b with h | h
    · have := dby_mono (a + 1) b (by omega); omega
    · exact h
  omega
theorem isDate_unique {n y m d y' m' d' : Int} (h : IsDate n y m d) (h' : IsDate n y' m' d') : y = y' ∧ m = m' ∧ d = d' := by
  have a := isDate_year h
  have b := isDate_year h'
  obtain rfl := year_unique a.1 a.2 b.1 b.2
  obtain ⟨h1, h2, h3, h4, h5⟩ := h
  obtain ⟨g1, g2, g3, g4, g5⟩ := h'
  have l1 : m ≤ m' := by
    rcases Int.lt_or_le m' m with h | h
    · have := cum_lt y m' m g1 h h2; omega
    · exact h
  have l2 : m' ≤ m := by
    rcases Int.lt_or_le m m' with h | h
    · have := cum_lt y m m' h1 h g2; omega
    · exact h
  obtain rfl : m = m' := by omega
  exact ⟨rfl, rfl, by omega⟩

/-- A year, month and day in which a day lies: plain search. -/
def monthIn (y r : Int) : Nat → Int → Int
  | 0, m => m
  | f + 1, m => if r < cum y (m + 1) then m else monthIn y r f (m + 1)
def yearIn (n : Int) : Nat → Int → Int
  | 0, y => y
  | f + 1, y => if n < dby (y + 1) then y else yearIn n f (y + 1)
theorem yearIn_ok (n : Int) : ∀ (f : Nat) (y : Int), dby y ≤ n → n < dby (y + f + 1) → dby (yearIn n f y) ≤ n ∧ n < dby (yearIn n f y + 1)
  | 0, y, h, h' => ⟨h, by simpa [yearIn] using h'⟩
  | f + 1, y, h, h' => by
    unfold yearIn
    split
    · exact ⟨h, by assumption⟩
    · exact yearIn_ok n f (y + 1) (by omega) (by rw [show y + 1 + (f : Int) + 1 = y + ((f + 1 : Nat) : Int) + 1 by omega]; exact h')
theorem monthIn_ok (y r : Int) : ∀ (f : Nat) (m : Int), 1 ≤ m → m + f ≤ 12 → cum y m ≤ r → r < cum y (m + f + 1) → 1 ≤ monthIn y r f m ∧ monthIn y r f m ≤ 12 ∧ cum y (monthIn y r f m) ≤ r ∧ r < cum y (monthIn y r f m + 1)
  | 0, m, h1, h2, h, h' => ⟨h1, by simpa [monthIn] using h2, h, by simpa [monthIn] using h'⟩
  | f + 1, m, h1, h2, h, h' => by
    unfold monthIn
    split
    · exact ⟨h1, by omega, h, by assumption⟩
    · exact monthIn_ok y r f (m + 1) (by omega) (by omega) (by omega) (by rw [show m + 1 + (f : Int) + 1 = m + ((f + 1 : Nat) : Int) + 1 by omega]; exact h')
def yOf (n : Int) : Int := yearIn n 9998 1
def mOf (n : Int) : Int := monthIn (yOf n) (n - dby (yOf n)) 11 1
def dOf (n : Int) : Int := n - dby (yOf n) - cum (yOf n) (mOf n) + 1
theorem yOf_ok {n : Int} (h0 : 0 ≤ n) (h1 : n < 3652059) : 1 ≤ yOf n ∧ yOf n ≤ 9999 ∧ dby (yOf n) ≤ n ∧ n < dby (yOf n + 1) := by
  have h := yearIn_ok n 9998 1 (by simpa [dby] using h0) (by simp [dby]; omega)
  change dby (yOf n) ≤ n ∧ n < dby (yOf n + 1) at h
  refine ⟨?_, dby_top n h1 _ h.1, h.1, h.2⟩
  rcases Int.lt_or_le (yOf n) 1 with g | g
  · have := dby_mono (yOf n + 1) 1 (by omega); simp [dby] at this h; omega
  · exact g
theorem isDate_of {n : Int} (h0 : 0 ≤ n) (h1 : n < 3652059) : IsDate n (yOf n) (mOf n) (dOf n) := by
  obtain ⟨a, b, c, d⟩ := yOf_ok h0 h1
  have e := monthIn_ok (yOf n) (n - dby (yOf n)) 11 1 (by omega) (by omega) (by rw [cum_one]; omega) (by have := cum_end (yOf n); simp; rw [this, dby_succ] at *; omega)
  change 1 ≤ mOf n ∧ mOf n ≤ 12 ∧ cum (yOf n) (mOf n) ≤ n - dby (yOf n) ∧ n - dby (yOf n) < cum (yOf n) (mOf n + 1) at e
  rw [cum_succ _ _ e.1 e.2.1] at e
  refine ⟨e.1, e.2.1, ?_, ?_, ?_⟩ <;> unfold dOf <;> omega

/-- number of a day, counted from 1970 on; the error's number -/
def daysOk (y m d : Int) : Bool := decide (1 ≤ y ∧ y ≤ 9999 ∧ 1 ≤ d ∧ d ≤ mdays y m)
def daysOf (y m d : Int) : Int := dby y + cum y m + d - 1 - 719162
def daysN (y m d : Int) : Int := if daysOk y m d = true then daysOf y m d else 0
def daysE (y m d : Int) : Int := if daysOk y m d = true then 0 else 41
end Go.Proofs.YtmfnofpphnlbnaaDoor.Cal
