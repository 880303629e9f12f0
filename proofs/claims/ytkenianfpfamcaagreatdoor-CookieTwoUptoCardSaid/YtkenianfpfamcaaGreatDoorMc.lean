/- The calendar in plain arithmetic: leap years, months' days, days before a year and a month, the date of a day. No program in sight. Dates as text, in plain Lean: names, pieces of the three forms, reading a text piece by piece, writing a date. No program in sight. Reading and writing are inverse, in plain Lean: which texts the three forms read, piece by piece. No program in sight. The texts of the three forms as a whole, in plain Lean: what is read is what is written. No program in sight. What holds of a text that one of the forms reads whole: the ranges of its numbers and where its time stands. No program in sight. Laws of the calendar and of dates as text, in plain Lean: 400 years, the day behind a day, the order of dates, what is written is read, unlike texts. No program in sight. There and back; unlike texts say unlike moments: in plain Lean. No program in sight. -/
namespace Go.Proofs.YtkenianfpfamcaaGreatDoor.Cal

def leapB (y : Int) : Bool := (y % 4 == 0) && ((y % 100 != 0) || (y % 400 == 0))
theorem leapB_iff (y : Int) : leapB y = decide (y % 4 = 0 ∧ (y % 100 ≠ 0 ∨ y % 400 = 0)) := by
  unfold leapB; rw [Bool.eq_iff_iff]; simp

theorem tmod0 (x n : Int) : x.tmod n = 0 ↔ x % n = 0 := by
  rw [← Int.dvd_iff_tmod_eq_zero, Int.dvd_iff_emod_eq_zero]

/-- days of a month; 0 where there is none such -/
def mdays (y m : Int) : Int :=
  if m = 1 ∨ m = 3 ∨ m = 5 ∨ m = 7 ∨ m = 8 ∨ m = 10 ∨ m = 12 then 31
  else if m = 4 ∨ m = 6 ∨ m = 9 ∨ m = 11 then 30
  else if m = 2 then (if leapB y = true then 29 else 28) else 0
def ydays (y : Int) : Int := if leapB y = true then 366 else 365
/-- days between the beginnings of the year 1 and of y -/
def dby (y : Int) : Int := 365 * (y - 1) + (y - 1) / 4 - (y - 1) / 100 + (y - 1) / 400
/-- days of the year ahead of a month -/
def cum (y m : Int) : Int :=
  if m ≤ 1 then 0 else if m = 2 then 31 else (if leapB y = true then 1 else 0) +
    (if m = 3 then 59 else if m = 4 then 90 else if m = 5 then 120 else if m = 6 then 151 else if m = 7 then 181 else if m = 8 then 212 else if m = 9 then 243 else if m = 10 then 273 else if m = 11 then 304 else if m = 12 then 334 else 365)

theorem mdays_lo (y m : Int) : 0 ≤ mdays y m ∧ mdays y m ≤ 31 := by
  unfold mdays; split <;> (try split) <;> (try split) <;> (try split) <;> omega
theorem mdays_pos (y m : Int) (h1 : 1 ≤ m) (h2 : m ≤ 12) : 28 ≤ mdays y m := by
  unfold mdays; split <;> (try split) <;> (try split) <;> (try split) <;> omega
theorem mdays_in (y m : Int) (h : 1 ≤ mdays y m) : 1 ≤ m ∧ m ≤ 12 := by
  unfold mdays at h; split at h <;> (try split at h) <;> (try split at h) <;> (try split at h) <;> omega
theorem dby_succ (y : Int) : dby (y + 1) = dby y + ydays y := by
  unfold dby ydays; rw [leapB_iff]; simp only [decide_eq_true_eq]; split <;> omega
theorem cum_succ (y m : Int) (h1 : 1 ≤ m) (h2 : m ≤ 12) : cum y (m + 1) = cum y m + mdays y m := by
  have : m = 1 ∨ m = 2 ∨ m = 3 ∨ m = 4 ∨ m = 5 ∨ m = 6 ∨ m = 7 ∨ m = 8 ∨ m = 9 ∨ m = 10 ∨ m = 11 ∨ m = 12 := by omega
  rcases this with rfl | rfl | rfl | rfl | rfl | rfl | rfl | rfl | rfl | rfl | rfl | rfl <;> (unfold cum mdays; simp; try (split <;> omega))
theorem cum_one (y : Int) : cum y 1 = 0 := by unfold cum; simp
theorem cum_end (y : Int) : cum y 13 = ydays y := by unfold cum ydays; simp; split <;> omega
theorem cum_bd (y m : Int) : 0 ≤ cum y m ∧ cum y m ≤ 366 := by
  by_cases h1 : m ≤ 1
  · simp [cum, h1]
  · by_cases h2 : 12 < m
    · unfold cum
      rw [if_neg h1, if_neg (by omega), if_neg (show ¬ m = 3 by omega), if_neg (show ¬ m = 4 by omega), if_neg (show ¬ m = 5 by omega), if_neg (show ¬ m = 6 by omega), if_neg (show ¬ m = 7 by omega), if_neg (show ¬ m = 8 by omega), if_neg (show ¬ m = 9 by omega), if_neg (show ¬ m = 10 by omega), if_neg (show ¬ m = 11 by omega), if_neg (show ¬ m = 12 by omega)]
      split <;> omega
    · have : m = 2 ∨ m = 3 ∨ m = 4 ∨ m = 5 ∨ m = 6 ∨ m = 7 ∨ m = 8 ∨ m = 9 ∨ m = 10 ∨ m = 11 ∨ m = 12 := by omega
      rcases this with rfl | rfl | rfl | rfl | rfl | rfl | rfl | rfl | rfl | rfl | rfl <;> (unfold cum; simp; try (split <;> omega))
theorem dby_bd (y : Int) (h1 : 1 ≤ y) (h2 : y ≤ 10000) : 0 ≤ dby y ∧ dby y ≤ 3652059 := by unfold dby; omega
theorem dby_mono (a b : Int) (h : a ≤ b) : dby a ≤ dby b := by unfold dby; omega
theorem dby_guess (n : Int) (h0 : 0 ≤ n) : dby (n / 366 + 1) ≤ n := by unfold dby; omega
theorem dby_top (n : Int) (h : n < 3652059) (y : Int) (hy : dby y ≤ n) : y ≤ 9999 := by unfold dby at hy; omega

/-- which date a day is that is counted from the 1st of January of the year 1 on -/
def IsDate (n y m d : Int) : Prop := 1 ≤ m ∧ m ≤ 12 ∧ 1 ≤ d ∧ d ≤ mdays y m ∧ dby y + cum y m + d - 1 = n

theorem cum_le (y m : Int) (h1 : 1 ≤ m) (h2 : m ≤ 12) : cum y m + mdays y m ≤ ydays y := by
  have h := cum_end y
  have : m = 1 ∨ m = 2 ∨ m = 3 ∨ m = 4 ∨ m = 5 ∨ m = 6 ∨ m = 7 ∨ m = 8 ∨ m = 9 ∨ m = 10 ∨ m = 11 ∨ m = 12 := by omega
  rcases this with rfl | rfl | rfl | rfl | rfl | rfl | rfl | rfl | rfl | rfl | rfl | rfl <;> (unfold cum mdays ydays; simp; try (split <;> omega))
theorem cum_lt (y a b : Int) (h0 : 1 ≤ a) (h : a < b) (hb : b ≤ 12) : cum y a + mdays y a ≤ cum y b := by
  have ha : a = 1 ∨ a = 2 ∨ a = 3 ∨ a = 4 ∨ a = 5 ∨ a = 6 ∨ a = 7 ∨ a = 8 ∨ a = 9 ∨ a = 10 ∨ a = 11 := by omega
  have hb' : b = 2 ∨ b = 3 ∨ b = 4 ∨ b = 5 ∨ b = 6 ∨ b = 7 ∨ b = 8 ∨ b = 9 ∨ b = 10 ∨ b = 11 ∨ b = 12 := by omega
  rcases ha with rfl | rfl | rfl | rfl | rfl | rfl | rfl | rfl | rfl | rfl | rfl <;> rcases hb' with rfl | rfl | rfl | rfl | rfl | rfl | rfl | rfl | rfl | rfl | rfl <;>
    first | (exfalso; omega) | (unfold cum mdays; simp; try (split <;> omega))

/-- A year, month and day in which a day lies: plain search. -/
def monthIn (y r : Int) : Nat → Int → Int
  | 0, m => m
  | f + 1, m => if r < cum y (m + 1) then m else monthIn y r f (m + 1)
def yearIn (n : Int) : Nat → Int → Int
  | 0, y => y
  | f + 1, y => if n < dby (y + 1) then y else yearIn n f (y + 1)
theorem yearIn_ok (n : Int) : ∀ (f : Nat) (y : Int), dby y ≤ n → n < dby (y + f + 1) → dby (yearIn n f y) ≤ n ∧ n < dby (yearIn n f y + 1)
  | 0, y, h, h' => ⟨h, by simpa [yearIn] using h'⟩
  | f + 1, y, h, h' => by
    unfold yearIn
    split
    · exact ⟨h, by assumption⟩
    · exact yearIn_ok n f (y + 1) (by omega) (by rw [show y + 1 + (f : Int) + 1 = y + ((f + 1 : Nat) : Int) + 1 by omega]; exact h')
theorem monthIn_ok (y r : Int) : ∀ (f : Nat) (m : Int), 1 ≤ m → m + f ≤ 12 → cum y m ≤ r → r < cum y (m + f + 1) → 1 ≤ monthIn y r f m ∧ monthIn y r f m ≤ 12 ∧ cum y (monthIn y r f m) ≤ r ∧ r < cum y (monthIn y r f m + 1)
  | 0, m, h1, h2, h, h' => ⟨h1, by simpa [monthIn] using h2, h, by simpa [monthIn] using h'⟩
  | f + 1, m, h1, h2, h, h' => by
    unfold monthIn
    split
    · exact ⟨h1, by omega, h, by assumption⟩
    · exact monthIn_ok y r f (m + 1) (by omega) (by omega) (by omega) (by rw [show m + 1 + (f : Int) + 1 = m + ((f + 1 : Nat) : Int) + 1 by omega]; exact h')
def yOf (n : Int) : Int := yearIn n 9998 1
def mOf (n : Int) : Int := monthIn (yOf n) (n - dby (yOf n)) 11 1
def dOf (n : Int) : Int := n - dby (yOf n) - cum (yOf n) (mOf n) + 1
theorem yOf_ok {n : Int} (h0 : 0 ≤ n) (h1 : n < 3652059) : 1 ≤ yOf n ∧ yOf n ≤ 9999 ∧ dby (yOf n) ≤ n ∧ n < dby (yOf n + 1) := by
  have h := yearIn_ok n 9998 1 (by simpa [dby] using h0) (by simp [dby]; omega)
  change dby (yOf n) ≤ n ∧ n < dby (yOf n + 1) at h
  refine ⟨?_, dby_top n h1 _ h.1, h.1, h.2⟩
  rcases Int.lt_or_le (yOf n) 1 with g | g
  · have := dby_mono (yOf n + 1) 1 (by omega); simp [dby] at this h; omega
  · exact g
theorem isDate_of {n : Int} (h0 : 0 ≤ n) (h1 : n < 3652059) : IsDate n (yOf n) (mOf n) (dOf n) := by
  obtain ⟨a, b, c, d⟩ := yOf_ok h0 h1
  have e := monthIn_ok (yOf n) (n - dby (yOf n)) 11 1 (by omega) (by omega) (by rw [cum_one]; omega) (by have := cum_end (yOf n); simp; rw [this, dby_succ] at *; omega)
  change 1 ≤ mOf n ∧ mOf n ≤ 12 ∧ cum (yOf n) (mOf n) ≤ n - dby (yOf n) ∧ n - dby (yOf n) < cum (yOf n) (mOf n + 1) at e
  rw [cum_succ _ _ e.1 e.2.1] at e
  refine ⟨e.1, e.2.1, ?_, ?_, ?_⟩ <;> unfold dOf <;> omega

/-- number of a day, counted from 1970 on; the error's number -/
def daysOk (y m d : Int) : Bool := decide (1 ≤ y ∧ y ≤ 9999 ∧ 1 ≤ d ∧ d ≤ mdays y m)
def daysOf (y m d : Int) : Int := dby y + cum y m + d - 1 - 719162
def daysN (y m d : Int) : Int := if daysOk y m d = true then daysOf y m d else 0
def daysE (y m d : Int) : Int := if daysOk y m d = true then 0 else 41
end Go.Proofs.YtkenianfpfamcaaGreatDoor.Cal
namespace Go.Proofs.YtkenianfpfamcaaGreatDoor.Stm

def monday : List UInt8 := [77, 111, 110, 100, 97, 121]
def tuesday : List UInt8 := [84, 117, 101, 115, 100, 97, 121]
def wednesday : List UInt8 := [87, 101, 100, 110, 101, 115, 100, 97, 121]
def thursday : List UInt8 := [84, 104, 117, 114, 115, 100, 97, 121]
def friday : List UInt8 := [70, 114, 105, 100, 97, 121]
def saturday : List UInt8 := [83, 97, 116, 117, 114, 100, 97, 121]
def sunday : List UInt8 := [83, 117, 110, 100, 97, 121]
def longN : List (List UInt8) := [monday, tuesday, wednesday, thursday, friday, saturday, sunday]
def shortN : List (List UInt8) := longN.map (List.take 3)
def monN : List (List UInt8) := [[74, 97, 110], [70, 101, 98], [77, 97, 114], [65, 112, 114], [77, 97, 121], [74, 117, 110], [74, 117, 108], [65, 117, 103], [83, 101, 112], [79, 99, 116], [78, 111, 118], [68, 101, 99]]

/-- the names of a kind: 0 a weekday's short ones, 1 its long ones, else a month's -/
def namesOf (k : Nat) : List (List UInt8) := if k = 0 then shortN else if k = 1 then longN else monN
/-- the first of some names that begins a text, counted from n on -/
def firstOf (t : List UInt8) : List (List UInt8) → Nat → Option (Nat × List UInt8)
  | [], _ => none
  | w :: ws, n => if w.isPrefixOf t then some (n, w) else firstOf t ws (n + 1)

inductive Pc
  | lit (c : UInt8)
  | name (k : Nat)
  | dig (w : Nat) (blank : Bool) (f : Nat)
  deriving DecidableEq

structure St where
  at_ : Nat
  wd : Int
  mo : Int
  dy : Int
  yr : Int
  hh : Int
  mi : Int
  ss : Int
  dyAt : Nat
  yrAt : Nat
  hhAt : Nat
  miAt : Nat
  ssAt : Nat
  deriving DecidableEq
def st0 : St := ⟨0, 0, 0, 0, 0, 0, 0, 0, 0, 0, 0, 0, 0⟩

def isDig (c : UInt8) : Bool := decide (48 ≤ c.toNat ∧ c.toNat ≤ 57)
/-- so many digits from a place on: the place, the number, whether they stand there; a blank may stand for the first -/
def digs (s : List UInt8) : Nat → Bool → Nat → Int → Nat × Int × Bool
  | 0, _, a, v => (a, v, true)
  | w + 1, b, a, v => match s[a]? with
    | none => (a, v, false)
    | some c => if b && c == 32 then digs s w false (a + 1) (10 * v)
      else if isDig c then digs s w false (a + 1) (10 * v + ((c.toNat : Int) - 48)) else (a, v, false)

def setName (k : Nat) (n : Nat) (st : St) : St := if k = 2 then { st with mo := (n : Int) + 1 } else { st with wd := n }
def setDig (f : Nat) (v : Int) (p : Nat) (st : St) : St :=
  if f = 0 then { st with dy := v, dyAt := p } else if f = 1 then { st with yr := v, yrAt := p } else if f = 2 then { st with hh := v, hhAt := p }
  else if f = 3 then { st with mi := v, miAt := p } else { st with ss := v, ssAt := p }
def stepP (s : List UInt8) (p : Pc) (st : St) : St × Bool :=
  match p with
  | .lit c => if s[st.at_]? = some c then ({ st with at_ := st.at_ + 1 }, true) else (st, false)
  | .name k => match firstOf (s.drop st.at_) (namesOf k) 0 with
    | none => (st, false)
    | some (n, w) => (setName k n { st with at_ := st.at_ + w.length }, true)
  | .dig w b f =>
    let r := digs s w b st.at_ 0
    if r.2.2 then (setDig f r.2.1 st.at_ { st with at_ := r.1 }, true) else ({ st with at_ := r.1 }, false)
def runP (s : List UInt8) : List Pc → St → St × Bool
  | [], st => (st, true)
  | p :: ps, st => let r := stepP s p st; if r.2 then runP s ps r.1 else r

theorem runP_cons (s : List UInt8) (p : Pc) (ps : List Pc) (st : St) : runP s (p :: ps) st = if (stepP s p st).2 then runP s ps (stepP s p st).1 else stepP s p st := rfl
theorem runP_append (s : List UInt8) : ∀ (a b : List Pc) (st : St), runP s (a ++ b) st = if (runP s a st).2 then runP s b (runP s a st).1 else runP s a st
  | [], b, st => rfl
  | p :: a, b, st => by
    rw [List.cons_append, runP_cons, runP_cons]
    by_cases h : (stepP s p st).2 = true
    · rw [if_pos h, if_pos h]; exact runP_append s a b _
    · rw [if_neg h, if_neg h, if_neg h]

/-! the three forms -/
def clockP : List Pc := [.dig 2 false 2, .lit 58, .dig 2 false 3, .lit 58, .dig 2 false 4]
def pcs (form : Nat) : List Pc :=
  if form = 0 then [.name 0, .lit 44, .lit 32, .dig 2 false 0, .lit 32, .name 2, .lit 32, .dig 4 false 1, .lit 32] ++ clockP ++ [.lit 32, .lit 71, .lit 77, .lit 84]
  else if form = 1 then [.name 1, .lit 44, .lit 32, .dig 2 false 0, .lit 45, .name 2, .lit 45, .dig 2 false 1, .lit 32] ++ clockP ++ [.lit 32, .lit 71, .lit 77, .lit 84]
  else [.name 0, .lit 32, .name 2, .lit 32, .dig 2 true 0, .lit 32] ++ clockP ++ [.lit 32, .dig 4 false 1]

def formFrom (t : List UInt8) : List (List UInt8) → Nat
  | [] => 2
  | w :: ws => if (w.take 3 ++ [44]).isPrefixOf t then 0 else if (w ++ [44]).isPrefixOf t then 1 else formFrom t ws
def formOf (t : List UInt8) : Nat := formFrom t longN

/-- the year within the hundred years from 'from' on whose last two digits are c's -/
def nearY (c lo : Int) : Int := lo + (c - lo) % 100
structure PR where
  m : Int
  form : Int
  e : Int
  at_ : Int
  deriving DecidableEq
/-- what was read, as a moment -/
def momentOf (st : St) (form : Nat) (nowY : Int) : PR :=
  let y := if form = 1 then nearY st.yr (nowY - 49) else st.yr
  if y < 1 ∨ 9999 < y then ⟨0, 0, 41, st.yrAt⟩
  else if Cal.daysOk y st.mo st.dy = false then ⟨0, 0, 41, st.dyAt⟩
  else if 23 < st.hh then ⟨0, 0, 42, st.hhAt⟩
  else if 59 < st.mi then ⟨0, 0, 42, st.miAt⟩
  else if 60 < st.ss then ⟨0, 0, 42, st.ssAt⟩
  else if st.wd ≠ (Cal.daysOf y st.mo st.dy + 3) % 7 then ⟨0, 0, 43, 0⟩
  else
    let m := Cal.daysOf y st.mo st.dy * 86400 + st.hh * 3600 + st.mi * 60 + st.ss
    if 253402300799 < m then ⟨0, 0, 40, 0⟩ else ⟨m, form, 0, 0⟩
def parseP (s : List UInt8) (nowOk : Bool) (nowY : Int) : PR :=
  if nowOk = false then ⟨0, 0, 40, 0⟩
  else
    let r := runP s (pcs (formOf s)) st0
    if r.2 = false ∨ r.1.at_ < s.length then ⟨0, 0, 44, r.1.at_⟩ else momentOf r.1 (formOf s) nowY
end Go.Proofs.YtkenianfpfamcaaGreatDoor.Stm
namespace Go.Proofs.YtkenianfpfamcaaGreatDoor.Stm

def DigText : Nat → Bool → Int → List UInt8 → Int → Prop
  | 0, _, v, x, v' => x = [] ∧ v' = v
  | w + 1, b, v, x, v' => ∃ c y, x = c :: y ∧ ((b = true ∧ c = 32 ∧ DigText w false (10 * v) y v') ∨ (isDig c = true ∧ DigText w false (10 * v + ((c.toNat : Int) - 48)) y v'))
theorem digText_len : ∀ {w : Nat} {b : Bool} {v : Int} {x : List UInt8} {v' : Int}, DigText w b v x v' → x.length = w
  | 0, _, _, _, _, h => by rw [h.1]; rfl
  | w + 1, b, v, x, v', h => by
    obtain ⟨c, y, rfl, h⟩ := h
    rcases h with ⟨_, _, h⟩ | ⟨_, h⟩ <;> simp [digText_len h]
theorem isDig_ne (c : UInt8) (h : isDig c = true) : (c == 32) = false := by
  unfold isDig at h
  rw [decide_eq_true_eq] at h
  rw [beq_eq_false_iff_ne]
  intro e
  subst e
  exact absurd h.1 (by decide)
theorem digs_inv (s : List UInt8) : ∀ {w : Nat} {b : Bool} {v : Int} {a : Nat}, (digs s w b a v).2.2 = true → ∃ x, DigText w b v x (digs s w b a v).2.1 ∧ (digs s w b a v).1 = a + w ∧ s.drop a = x ++ s.drop (a + w)
  | 0, b, v, a, h => ⟨[], ⟨rfl, rfl⟩, rfl, rfl⟩
  | w + 1, b, v, a, h => by
    unfold digs at h ⊢
    cases hc : s[a]? with
    | none => rw [hc] at h; exact absurd h (by simp)
    | some c =>
      rw [hc] at h
      have hd : s.drop a = c :: s.drop (a + 1) := by
        obtain ⟨hlt, rfl⟩ := List.getElem?_eq_some_iff.1 hc
        exact List.drop_eq_getElem_cons hlt
      by_cases hb : (b && c == 32) = true
      · simp only [hb, if_true] at h ⊢
        obtain ⟨x, h1, h2, h3⟩ := digs_inv s h
        simp at hb
        exact ⟨c :: x, ⟨c, x, rfl, Or.inl ⟨hb.1, hb.2, h1⟩⟩, by rw [h2]; omega, by rw [hd, h3, show a + 1 + w = a + (w + 1) by omega]; rfl⟩
      · simp only [hb] at h ⊢
        by_cases hg : isDig c = true
        · simp only [hg] at h ⊢
          obtain ⟨x, h1, h2, h3⟩ := digs_inv s h
          exact ⟨c :: x, ⟨c, x, rfl, Or.inr ⟨hg, h1⟩⟩, by simp only [if_true, Bool.false_eq_true, if_false]; rw [h2]; omega, by rw [hd, h3, show a + 1 + w = a + (w + 1) by omega]; rfl⟩
        · simp [hg] at h

def PcText (p : Pc) (st st' : St) (x : List UInt8) : Prop :=
  match p with
  | .lit c => x = [c] ∧ st' = { st with at_ := st.at_ + 1 }
  | .name k => ∃ n w, (namesOf k)[n]? = some w ∧ x = w ∧ st' = setName k n { st with at_ := st.at_ + w.length }
  | .dig w b f => ∃ v, DigText w b 0 x v ∧ st' = setDig f v st.at_ { st with at_ := st.at_ + w }

theorem at_setName (k n : Nat) (st : St) : (setName k n st).at_ = st.at_ := by unfold setName; split <;> rfl
theorem at_setDig (f : Nat) (v : Int) (p : Nat) (st : St) : (setDig f v p st).at_ = st.at_ := by
  unfold setDig; split <;> (try rfl); split <;> (try rfl); split <;> (try rfl); split <;> rfl
theorem pcText_at {p : Pc} {st st' : St} {x : List UInt8} (h : PcText p st st' x) : st'.at_ = st.at_ + x.length := by
  cases p with
  | lit c => obtain ⟨rfl, rfl⟩ := h; rfl
  | name k => obtain ⟨n, w, _, rfl, rfl⟩ := h; rw [at_setName]
  | dig w b f => obtain ⟨v, h, rfl⟩ := h; rw [at_setDig, digText_len h]

theorem firstOf_some (t : List UInt8) : ∀ (l : List (List UInt8)) (n m : Nat) (w : List UInt8), firstOf t l n = some (m, w) → ∃ i, m = n + i ∧ l[i]? = some w ∧ w.isPrefixOf t = true
  | [], n, m, w, h => by simp [firstOf] at h
  | a :: l, n, m, w, h => by
    unfold firstOf at h
    by_cases hp : a.isPrefixOf t = true
    · rw [if_pos hp] at h
      simp at h
      obtain ⟨rfl, rfl⟩ := h
      exact ⟨0, rfl, rfl, hp⟩
    · rw [if_neg hp] at h
      obtain ⟨i, rfl, h1, h2⟩ := firstOf_some t l (n + 1) m w h
      exact ⟨i + 1, by omega, h1, h2⟩
theorem step_inv (s : List UInt8) {p : Pc} {st : St} (h : (stepP s p st).2 = true) : ∃ x, PcText p st (stepP s p st).1 x ∧ s.drop st.at_ = x ++ s.drop (stepP s p st).1.at_ := by
  cases p with
  | lit c =>
    unfold stepP at h ⊢
    by_cases hc : s[st.at_]? = some c
    · simp only [hc, if_true]
      refine ⟨[c], ⟨rfl, rfl⟩, ?_⟩
      obtain ⟨hlt, rfl⟩ := List.getElem?_eq_some_iff.1 hc
      exact List.drop_eq_getElem_cons hlt
    · simp [hc] at h
  | name k =>
    unfold stepP at h ⊢
    cases hf : firstOf (s.drop st.at_) (namesOf k) 0 with
    | none => simp [hf] at h
    | some r =>
      obtain ⟨n, w⟩ := r
      obtain ⟨i, hi, h1, h2⟩ := firstOf_some _ _ _ _ _ hf
      rw [Nat.zero_add] at hi
      subst hi
      simp only [hf] at h ⊢
      refine ⟨w, ⟨n, w, h1, rfl, rfl⟩, ?_⟩
      rw [at_setName]
      rw [List.isPrefixOf_iff_prefix] at h2
      obtain ⟨z, hz⟩ := h2
      show s.drop st.at_ = w ++ s.drop (st.at_ + w.length)
      rw [← List.drop_drop, ← hz]; simp
  | dig w b f =>
    unfold stepP at h ⊢
    by_cases hr : (digs s w b st.at_ 0).2.2 = true
    · obtain ⟨x, h1, h2, h3⟩ := digs_inv s hr
      simp only [hr, if_true]
      refine ⟨x, ⟨_, h1, by rw [h2]⟩, ?_⟩
      rw [at_setDig, h2]; exact h3
    · simp [hr] at h

def RunText : List Pc → St → St → List UInt8 → Prop
  | [], st, st', x => st' = st ∧ x = []
  | p :: ps, st, st', x => ∃ st1 x1 x2, PcText p st st1 x1 ∧ RunText ps st1 st' x2 ∧ x = x1 ++ x2
theorem run_inv (s : List UInt8) : ∀ {ps : List Pc} {st : St}, (runP s ps st).2 = true → ∃ x, RunText ps st (runP s ps st).1 x ∧ s.drop st.at_ = x ++ s.drop (runP s ps st).1.at_
  | [], st, h => ⟨[], ⟨rfl, rfl⟩, rfl⟩
  | p :: ps, st, h => by
    rw [runP_cons] at h ⊢
    by_cases hs : (stepP s p st).2 = true
    · rw [if_pos hs] at h ⊢
      obtain ⟨x1, a1, a2⟩ := step_inv s hs
      obtain ⟨x2, b1, b2⟩ := run_inv s h
      exact ⟨x1 ++ x2, ⟨_, x1, x2, a1, b1, rfl⟩, by rw [a2, b2, List.append_assoc]⟩
    · rw [if_neg hs] at h; exact absurd h hs
theorem text_of_run {s : List UInt8} {ps : List Pc} (h : (runP s ps st0).2 = true) (hl : s.length ≤ (runP s ps st0).1.at_) : RunText ps st0 (runP s ps st0).1 s := by
  obtain ⟨x, h1, h2⟩ := run_inv s h
  rw [List.drop_of_length_le hl, List.append_nil] at h2
  have : s = x := by simpa [st0] using h2
  rw [← this] at h1; exact h1

/-! digits of two and of four -/
def d2 (n : Int) : List UInt8 := [UInt8.ofNat (48 + (n / 10).toNat), UInt8.ofNat (48 + (n % 10).toNat)]
def d4 (n : Int) : List UInt8 := d2 (n / 100) ++ d2 (n % 100)
theorem isDig_ofNat (n : Nat) (h : n ≤ 9) : isDig (UInt8.ofNat (48 + n)) = true ∧ ((UInt8.ofNat (48 + n)).toNat : Int) - 48 = n := by
  have : n = 0 ∨ n = 1 ∨ n = 2 ∨ n = 3 ∨ n = 4 ∨ n = 5 ∨ n = 6 ∨ n = 7 ∨ n = 8 ∨ n = 9 := by omega
  rcases this with rfl | rfl | rfl | rfl | rfl | rfl | rfl | rfl | rfl | rfl <;> decide
theorem ofNat_isDig (c : UInt8) (h : isDig c = true) : ∃ n : Nat, n ≤ 9 ∧ c = UInt8.ofNat (48 + n) := by
  unfold isDig at h
  rw [decide_eq_true_eq] at h
  refine ⟨c.toNat - 48, by omega, ?_⟩
  rw [show 48 + (c.toNat - 48) = c.toNat by omega]
  simp
theorem digText1 {b : Bool} {v v' : Int} {x : List UInt8} (hb : b = false) : DigText 1 b v x v' ↔ ∃ n : Nat, n ≤ 9 ∧ x = [UInt8.ofNat (48 + n)] ∧ v' = 10 * v + n := by
  subst hb
  constructor
  · rintro ⟨c, y, rfl, ⟨h, _⟩ | ⟨h, rfl, rfl⟩⟩
    · exact absurd h (by simp)
    · obtain ⟨n, hn, rfl⟩ := ofNat_isDig c h
      exact ⟨n, hn, rfl, by rw [(isDig_ofNat n hn).2]⟩
  · rintro ⟨n, hn, rfl, rfl⟩
    exact ⟨_, _, rfl, Or.inr ⟨(isDig_ofNat n hn).1, rfl, by rw [(isDig_ofNat n hn).2]⟩⟩
theorem digText_succ {w : Nat} {v v' : Int} {x : List UInt8} : DigText (w + 1) false v x v' ↔ ∃ (n : Nat) (y : List UInt8), n ≤ 9 ∧ x = UInt8.ofNat (48 + n) :: y ∧ DigText w false (10 * v + n) y v' := by
  constructor
  · rintro ⟨c, y, rfl, ⟨h, _⟩ | ⟨h, h2⟩⟩
    · exact absurd h (by simp)
    · obtain ⟨n, hn, rfl⟩ := ofNat_isDig c h
      rw [(isDig_ofNat n hn).2] at h2
      exact ⟨n, y, hn, rfl, h2⟩
  · rintro ⟨n, y, hn, rfl, h⟩
    exact ⟨_, _, rfl, Or.inr ⟨(isDig_ofNat n hn).1, by rw [(isDig_ofNat n hn).2]; exact h⟩⟩
theorem digText2 {v : Int} {x : List UInt8} : DigText 2 false 0 x v ↔ 0 ≤ v ∧ v ≤ 99 ∧ x = d2 v := by
  rw [digText_succ]
  constructor
  · rintro ⟨n, y, hn, rfl, h⟩
    rw [digText1 rfl] at h
    obtain ⟨m, hm, rfl, rfl⟩ := h
    refine ⟨by omega, by omega, ?_⟩
    unfold d2
    rw [show ((10 * (10 * 0 + (n : Int)) + (m : Int)) / 10).toNat = n by omega, show ((10 * (10 * 0 + (n : Int)) + (m : Int)) % 10).toNat = m by omega]
  · rintro ⟨h0, h1, rfl⟩
    refine ⟨(v / 10).toNat, _, by omega, rfl, ?_⟩
    rw [digText1 rfl]
    exact ⟨(v % 10).toNat, by omega, rfl, by omega⟩
theorem digText2b {v : Int} {x : List UInt8} : DigText 2 true 0 x v ↔ 0 ≤ v ∧ v ≤ 99 ∧ (x = d2 v ∨ (v ≤ 9 ∧ x = [32, UInt8.ofNat (48 + v.toNat)])) := by
  constructor
  · rintro ⟨c, y, rfl, ⟨_, rfl, h⟩ | ⟨h, h2⟩⟩
    · rw [digText1 rfl] at h
      obtain ⟨m, hm, rfl, rfl⟩ := h
      exact ⟨by omega, by omega, Or.inr ⟨by omega, by rw [show (10 * (10 * 0) + (m : Int)).toNat = m by omega]⟩⟩
    · have : DigText 2 false 0 (c :: y) v := ⟨c, y, rfl, Or.inr ⟨h, h2⟩⟩
      obtain ⟨a, b, e⟩ := digText2.1 this
      exact ⟨a, b, Or.inl e⟩
  · rintro ⟨h0, h1, rfl | ⟨h2, rfl⟩⟩
    · obtain ⟨c, y, e, h⟩ := digText2.2 ⟨h0, h1, rfl⟩
      refine ⟨c, y, e, ?_⟩
      rcases h with ⟨h, _⟩ | h
      · exact absurd h (by simp)
      · exact Or.inr h
    · refine ⟨32, _, rfl, Or.inl ⟨rfl, rfl, ?_⟩⟩
      rw [digText1 rfl]
      exact ⟨v.toNat, by omega, rfl, by omega⟩
theorem digText4 {v : Int} {x : List UInt8} : DigText 4 false 0 x v ↔ 0 ≤ v ∧ v ≤ 9999 ∧ x = d4 v := by
  rw [digText_succ]
  constructor
  · rintro ⟨n, y, hn, rfl, h⟩
    rw [digText_succ] at h
    obtain ⟨m, y, hm, rfl, h⟩ := h
    rw [digText_succ] at h
    obtain ⟨p, y, hp, rfl, h⟩ := h
    rw [digText1 rfl] at h
    obtain ⟨q, hq, rfl, rfl⟩ := h
    refine ⟨by omega, by omega, ?_⟩
    unfold d4 d2
    obtain ⟨z, hz⟩ : ∃ z : Int, z = 10 * (10 * (10 * (10 * 0 + (n : Int)) + (m : Int)) + (p : Int)) + (q : Int) := ⟨_, rfl⟩
    rw [← hz, show (z / 100 / 10).toNat = n by omega, show (z / 100 % 10).toNat = m by omega, show (z % 100 / 10).toNat = p by omega, show (z % 100 % 10).toNat = q by omega]
    rfl
  · rintro ⟨h0, h1, rfl⟩
    refine ⟨(v / 100 / 10).toNat, _, by omega, rfl, ?_⟩
    rw [digText_succ]
    refine ⟨(v / 100 % 10).toNat, _, by omega, rfl, ?_⟩
    rw [digText_succ]
    refine ⟨(v % 100 / 10).toNat, _, by omega, rfl, ?_⟩
    rw [digText1 rfl]
    exact ⟨(v % 100 % 10).toNat, by omega, rfl, by omega⟩
end Go.Proofs.YtkenianfpfamcaaGreatDoor.Stm
namespace Go.Proofs.YtkenianfpfamcaaGreatDoor.Stm

/-- what a text says, without the places -/
structure Co where
  wd : Int
  mo : Int
  dy : Int
  yr : Int
  hh : Int
  mi : Int
  ss : Int
  deriving DecidableEq
def core (st : St) : Co := ⟨st.wd, st.mo, st.dy, st.yr, st.hh, st.mi, st.ss⟩
def setNameC (k n : Nat) (c : Co) : Co := if k = 2 then { c with mo := (n : Int) + 1 } else { c with wd := n }
def setDigC (f : Nat) (v : Int) (c : Co) : Co :=
  if f = 0 then { c with dy := v } else if f = 1 then { c with yr := v } else if f = 2 then { c with hh := v } else if f = 3 then { c with mi := v } else { c with ss := v }
theorem core_setName (k n : Nat) (st : St) (a : Nat) : core (setName k n { st with at_ := a }) = setNameC k n (core st) := by
  unfold setName setNameC; split <;> rfl
theorem core_setDig (f : Nat) (v : Int) (p : Nat) (st : St) (a : Nat) : core (setDig f v p { st with at_ := a }) = setDigC f v (core st) := by
  unfold setDig setDigC; split <;> (try rfl); split <;> (try rfl); split <;> (try rfl); split <;> rfl
def RunC : List Pc → Co → Co → List UInt8 → Prop
  | [], k, k', x => k' = k ∧ x = []
  | .lit c :: ps, k, k', x => ∃ y, x = c :: y ∧ RunC ps k k' y
  | .name j :: ps, k, k', x => ∃ n w y, (namesOf j)[n]? = some w ∧ x = w ++ y ∧ RunC ps (setNameC j n k) k' y
  | .dig w b f :: ps, k, k', x => ∃ v t y, DigText w b 0 t v ∧ x = t ++ y ∧ RunC ps (setDigC f v k) k' y
theorem runC_of : ∀ {ps : List Pc} {st st' : St} {x : List UInt8}, RunText ps st st' x → RunC ps (core st) (core st') x
  | [], st, st', x, h => by obtain ⟨rfl, rfl⟩ := h; exact ⟨rfl, rfl⟩
  | .lit c :: ps, st, st', x, h => by
    obtain ⟨_, _, y, ⟨rfl, rfl⟩, h, rfl⟩ := h
    exact ⟨y, rfl, runC_of (st := { st with at_ := st.at_ + 1 }) h⟩
  | .name j :: ps, st, st', x, h => by
    obtain ⟨_, _, y, ⟨n, w, hn, rfl, rfl⟩, h, rfl⟩ := h
    have := runC_of h
    rw [core_setName] at this
    exact ⟨n, _, y, hn, rfl, this⟩
  | .dig w b f :: ps, st, st', x, h => by
    obtain ⟨_, _, y, ⟨v, hv, rfl⟩, h, rfl⟩ := h
    have := runC_of h
    rw [core_setDig] at this
    exact ⟨v, _, y, hv, rfl, this⟩
theorem sn0 (n : Nat) (a b c d e f g : Int) : setNameC 0 n ⟨a, b, c, d, e, f, g⟩ = ⟨n, b, c, d, e, f, g⟩ := rfl
theorem sn1 (n : Nat) (a b c d e f g : Int) : setNameC 1 n ⟨a, b, c, d, e, f, g⟩ = ⟨n, b, c, d, e, f, g⟩ := rfl
theorem sn2 (n : Nat) (a b c d e f g : Int) : setNameC 2 n ⟨a, b, c, d, e, f, g⟩ = ⟨a, (n : Int) + 1, c, d, e, f, g⟩ := rfl
theorem sd0 (v a b c d e f g : Int) : setDigC 0 v ⟨a, b, c, d, e, f, g⟩ = ⟨a, b, v, d, e, f, g⟩ := rfl
theorem sd1 (v a b c d e f g : Int) : setDigC 1 v ⟨a, b, c, d, e, f, g⟩ = ⟨a, b, c, v, e, f, g⟩ := rfl
theorem sd2 (v a b c d e f g : Int) : setDigC 2 v ⟨a, b, c, d, e, f, g⟩ = ⟨a, b, c, d, v, f, g⟩ := rfl
theorem sd3 (v a b c d e f g : Int) : setDigC 3 v ⟨a, b, c, d, e, f, g⟩ = ⟨a, b, c, d, e, v, g⟩ := rfl
theorem sd4 (v a b c d e f g : Int) : setDigC 4 v ⟨a, b, c, d, e, f, g⟩ = ⟨a, b, c, d, e, f, v⟩ := rfl

/-- a day's text -/
def DtOk (form : Nat) (dy : Int) (dt : List UInt8) : Prop := dt = d2 dy ∨ (form = 2 ∧ dy ≤ 9 ∧ dt = [32, UInt8.ofNat (48 + dy.toNat)])
def clk (h mi s : Int) : List UInt8 := d2 h ++ 58 :: (d2 mi ++ 58 :: d2 s)
def txt (form wd mo : Nat) (dt : List UInt8) (y h mi s : Int) : List UInt8 :=
  if form = 0 then shortN.getD wd [] ++ 44 :: 32 :: (dt ++ 32 :: (monN.getD mo [] ++ 32 :: (d4 y ++ 32 :: (clk h mi s ++ [32, 71, 77, 84]))))
  else if form = 1 then longN.getD wd [] ++ 44 :: 32 :: (dt ++ 45 :: (monN.getD mo [] ++ 45 :: (d2 y ++ 32 :: (clk h mi s ++ [32, 71, 77, 84]))))
  else shortN.getD wd [] ++ 32 :: (monN.getD mo [] ++ 32 :: (dt ++ 32 :: (clk h mi s ++ 32 :: d4 y)))
def yTop (form : Nat) : Int := if form = 1 then 99 else 9999
structure Fit (form : Nat) (st : Co) (wd mo : Nat) : Prop where
  wdE : st.wd = (wd : Int)
  moE : st.mo = (mo : Int) + 1
  wd7 : wd < 7
  mo12 : mo < 12
  dy0 : 0 ≤ st.dy
  dy1 : st.dy ≤ 99
  yr0 : 0 ≤ st.yr
  yr1 : st.yr ≤ yTop form
  hh0 : 0 ≤ st.hh
  hh1 : st.hh ≤ 99
  mi0 : 0 ≤ st.mi
  mi1 : st.mi ≤ 99
  ss0 : 0 ≤ st.ss
  ss1 : st.ss ≤ 99

theorem getD_of {l : List (List UInt8)} {n : Nat} {w : List UInt8} (h : l[n]? = some w) : w = l.getD n [] ∧ n < l.length := by
  refine ⟨?_, (List.getElem?_eq_some_iff.1 h).1⟩
  rw [List.getD_eq_getElem?_getD, h]; rfl
def k0 : Co := ⟨0, 0, 0, 0, 0, 0, 0⟩

theorem txt_inv {form : Nat} {k : Co} {x : List UInt8} (hf : form < 3) (h : RunC (pcs form) k0 k x) : ∃ wd mo dt, Fit form k wd mo ∧ DtOk form k.dy dt ∧ x = txt form wd mo dt k.yr k.hh k.mi k.ss := by
  have : form = 0 ∨ form = 1 ∨ form = 2 := by omega
  rcases this with rfl | rfl | rfl
  · simp only [pcs, clockP, if_true, List.cons_append, List.nil_append, RunC, k0, sn0, sn2, sd0, sd1, sd2, sd3, sd4, digText2, digText4] at h
    obtain ⟨n, w, _, hn, rfl, _, rfl, _, rfl, dy, _, _, ⟨b1, b1', rfl⟩, rfl, _, rfl, m, u, _, hm, rfl, _, rfl, y, _, _, ⟨b2, b2', rfl⟩, rfl, _, rfl, hh, _, _, ⟨b3, b3', rfl⟩, rfl, _, rfl, mi, _, _, ⟨b4, b4', rfl⟩, rfl, _, rfl, ss, _, _, ⟨b5, b5', rfl⟩, rfl, _, rfl, _, rfl, _, rfl, _, rfl, rfl, rfl⟩ := h
    obtain ⟨rfl, l1⟩ := getD_of hn
    obtain ⟨rfl, l2⟩ := getD_of hm
    refine ⟨n, m, d2 dy, ⟨rfl, rfl, l1, l2, b1, b1', b2, b2', b3, b3', b4, b4', b5, b5'⟩, Or.inl rfl, ?_⟩
    simp only [txt, clk, if_true, List.append_assoc, List.cons_append]
    rfl
  · simp only [pcs, clockP, if_true, List.cons_append, List.nil_append, RunC, k0, sn1, sn2, sd0, sd1, sd2, sd3, sd4, digText2, if_neg (show ¬ (1 = 0) by decide)] at h
    obtain ⟨n, w, _, hn, rfl, _, rfl, _, rfl, dy, _, _, ⟨b1, b1', rfl⟩, rfl, _, rfl, m, u, _, hm, rfl, _, rfl, y, _, _, ⟨b2, b2', rfl⟩, rfl, _, rfl, hh, _, _, ⟨b3, b3', rfl⟩, rfl, _, rfl, mi, _, _, ⟨b4, b4', rfl⟩, rfl, _, rfl, ss, _, _, ⟨b5, b5', rfl⟩, rfl, _, rfl, _, rfl, _, rfl, _, rfl, rfl, rfl⟩ := h
    obtain ⟨rfl, l1⟩ := getD_of hn
    obtain ⟨rfl, l2⟩ := getD_of hm
    refine ⟨n, m, d2 dy, ⟨rfl, rfl, l1, l2, b1, b1', b2, b2', b3, b3', b4, b4', b5, b5'⟩, Or.inl rfl, ?_⟩
    simp only [txt, clk, if_true, List.append_assoc, List.cons_append, if_neg (show ¬ (1 = 0) by decide)]
    rfl
  · simp only [pcs, clockP, List.cons_append, List.nil_append, RunC, k0, sn0, sn2, sd0, sd1, sd2, sd3, sd4, digText2, digText2b, digText4, if_neg (show ¬ (2 = 0) by decide), if_neg (show ¬ (2 = 1) by decide)] at h
    obtain ⟨n, w, _, hn, rfl, _, rfl, m, u, _, hm, rfl, _, rfl, dy, dt, _, ⟨b1, b1', hdt⟩, rfl, _, rfl, hh, _, _, ⟨b3, b3', rfl⟩, rfl, _, rfl, mi, _, _, ⟨b4, b4', rfl⟩, rfl, _, rfl, ss, _, _, ⟨b5, b5', rfl⟩, rfl, _, rfl, y, _, _, ⟨b2, b2', rfl⟩, rfl, rfl, rfl⟩ := h
    obtain ⟨rfl, l1⟩ := getD_of hn
    obtain ⟨rfl, l2⟩ := getD_of hm
    refine ⟨n, m, dt, ⟨rfl, rfl, l1, l2, b1, b1', b2, b2', b3, b3', b4, b4', b5, b5'⟩, hdt.imp id (fun h => ⟨rfl, h⟩), ?_⟩
    simp only [txt, clk, List.append_assoc, List.cons_append, List.append_nil, if_neg (show ¬ (2 = 0) by decide), if_neg (show ¬ (2 = 1) by decide)]
    rfl

end Go.Proofs.YtkenianfpfamcaaGreatDoor.Stm
namespace Go.Proofs.YtkenianfpfamcaaGreatDoor.Stm

theorem formFrom_lt (t : List UInt8) : ∀ l : List (List UInt8), formFrom t l < 3
  | [] => by unfold formFrom; decide
  | w :: ws => by
    unfold formFrom
    split
    · decide
    · split
      · decide
      · exact formFrom_lt t ws
theorem formOf_lt (t : List UInt8) : formOf t < 3 := formFrom_lt t _

structure Range (form : Nat) (st : St) : Prop where
  wd0 : 0 ≤ st.wd
  wd1 : st.wd ≤ 6
  mo0 : 1 ≤ st.mo
  mo1 : st.mo ≤ 12
  dy0 : 0 ≤ st.dy
  dy1 : st.dy ≤ 99
  yr0 : 0 ≤ st.yr
  yr1 : st.yr ≤ 9999
  yrL : form = 1 → st.yr ≤ 99
  hh0 : 0 ≤ st.hh
  hh1 : st.hh ≤ 99
  mi0 : 0 ≤ st.mi
  mi1 : st.mi ≤ 99
  ss0 : 0 ≤ st.ss
  ss1 : st.ss ≤ 99
  miA : st.miAt = st.hhAt + 3
  ssA : st.ssAt = st.hhAt + 6
  hhA : st.hhAt ≤ st.at_

theorem runText_append : ∀ {a b : List Pc} {st st' : St} {x : List UInt8}, RunText (a ++ b) st st' x → ∃ st1 x1 x2, RunText a st st1 x1 ∧ RunText b st1 st' x2 ∧ x = x1 ++ x2
  | [], b, st, st', x, h => ⟨st, [], x, ⟨rfl, rfl⟩, h, rfl⟩
  | p :: a, b, st, st', x, h => by
    obtain ⟨st1, x1, x2, h1, h2, rfl⟩ := h
    obtain ⟨st2, y1, y2, g1, g2, rfl⟩ := runText_append h2
    exact ⟨st2, x1 ++ y1, y2, ⟨st1, x1, y1, h1, g1, rfl⟩, g2, by rw [List.append_assoc]⟩
theorem runText_at : ∀ {ps : List Pc} {st st' : St} {x : List UInt8}, RunText ps st st' x → st'.at_ = st.at_ + x.length
  | [], st, st', x, h => by obtain ⟨rfl, rfl⟩ := h; rfl
  | p :: ps, st, st', x, h => by
    obtain ⟨st1, x1, x2, h1, h2, rfl⟩ := h
    rw [runText_at h2, pcText_at h1, List.length_append, Nat.add_assoc]
def calm : Pc → Bool
  | .lit _ => true
  | .name _ => true
  | .dig _ _ f => decide (f < 2)
theorem calm_keep : ∀ {ps : List Pc} {st st' : St} {x : List UInt8}, ps.all calm = true → RunText ps st st' x → st'.hhAt = st.hhAt ∧ st'.miAt = st.miAt ∧ st'.ssAt = st.ssAt
  | [], st, st', x, hc, h => by obtain ⟨rfl, rfl⟩ := h; exact ⟨rfl, rfl, rfl⟩
  | p :: ps, st, st', x, hc, h => by
    obtain ⟨st1, x1, x2, h1, h2, rfl⟩ := h
    rw [List.all_cons, Bool.and_eq_true] at hc
    obtain ⟨a, b, c⟩ := calm_keep hc.2 h2
    have : st1.hhAt = st.hhAt ∧ st1.miAt = st.miAt ∧ st1.ssAt = st.ssAt := by
      cases p with
      | lit c => obtain ⟨_, rfl⟩ := h1; exact ⟨rfl, rfl, rfl⟩
      | name k => obtain ⟨n, w, _, _, rfl⟩ := h1; unfold setName; split <;> exact ⟨rfl, rfl, rfl⟩
      | dig w b f =>
        obtain ⟨v, _, rfl⟩ := h1
        have hf : f < 2 := of_decide_eq_true hc.1
        have : f = 0 ∨ f = 1 := by omega
        rcases this with rfl | rfl <;> exact ⟨rfl, rfl, rfl⟩
    rw [a, b, c]; exact this
theorem clock_at {st st' : St} {x : List UInt8} (h : RunText clockP st st' x) : st'.hhAt = st.at_ ∧ st'.miAt = st.at_ + 3 ∧ st'.ssAt = st.at_ + 6 := by
  obtain ⟨_, _, _, ⟨v1, d1, rfl⟩, ⟨_, _, _, ⟨_, rfl⟩, ⟨_, _, _, ⟨v2, d2, rfl⟩, ⟨_, _, _, ⟨_, rfl⟩, ⟨_, _, _, ⟨v3, d3, rfl⟩, ⟨rfl, _⟩, _⟩, _⟩, _⟩, _⟩, _⟩ := h
  exact ⟨rfl, rfl, rfl⟩
theorem place_of {form : Nat} (hf : form < 3) {st : St} {x : List UInt8} (h : RunText (pcs form) st0 st x) : st.miAt = st.hhAt + 3 ∧ st.ssAt = st.hhAt + 6 ∧ st.hhAt ≤ st.at_ := by
  have hsplit : ∃ a b, pcs form = a ++ (clockP ++ b) ∧ b.all calm = true := by
    have : form = 0 ∨ form = 1 ∨ form = 2 := by omega
    rcases this with rfl | rfl | rfl
    · exact ⟨[.name 0, .lit 44, .lit 32, .dig 2 false 0, .lit 32, .name 2, .lit 32, .dig 4 false 1, .lit 32], [.lit 32, .lit 71, .lit 77, .lit 84], rfl, rfl⟩
    · exact ⟨[.name 1, .lit 44, .lit 32, .dig 2 false 0, .lit 45, .name 2, .lit 45, .dig 2 false 1, .lit 32], [.lit 32, .lit 71, .lit 77, .lit 84], rfl, rfl⟩
    · exact ⟨[.name 0, .lit 32, .name 2, .lit 32, .dig 2 true 0, .lit 32], [.lit 32, .dig 4 false 1], rfl, rfl⟩
  obtain ⟨a, b, e, hb⟩ := hsplit
  rw [e] at h
  obtain ⟨st1, x1, x2, h1, h2, rfl⟩ := runText_append h
  obtain ⟨st2, y1, y2, g1, g2, rfl⟩ := runText_append h2
  obtain ⟨c1, c2, c3⟩ := clock_at g1
  obtain ⟨k1, k2, k3⟩ := calm_keep hb g2
  have t1 := runText_at g1
  have t2 := runText_at g2
  rw [k1, k2, k3, c1, c2, c3]
  exact ⟨rfl, rfl, by omega⟩
theorem range_of {s : List UInt8} {form : Nat} (hf : form < 3) (h : (runP s (pcs form) st0).2 = true) (hl : s.length ≤ (runP s (pcs form) st0).1.at_) : Range form (runP s (pcs form) st0).1 := by
  have ht := text_of_run h hl
  obtain ⟨p1, p2, p3⟩ := place_of hf ht
  have hc := runC_of ht
  obtain ⟨wd, mo, dt, F, _, _⟩ := txt_inv hf hc
  obtain ⟨h1, h2, h3, h4, h5, h6, h7, h8, h9, h10, h11, h12, h13, h14⟩ := F
  change (runP s (pcs form) st0).1.wd = _ at h1
  change (runP s (pcs form) st0).1.mo = _ at h2
  change 0 ≤ (runP s (pcs form) st0).1.dy at h5
  change (runP s (pcs form) st0).1.dy ≤ 99 at h6
  change 0 ≤ (runP s (pcs form) st0).1.yr at h7
  change (runP s (pcs form) st0).1.yr ≤ _ at h8
  change 0 ≤ (runP s (pcs form) st0).1.hh at h9
  change (runP s (pcs form) st0).1.hh ≤ 99 at h10
  change 0 ≤ (runP s (pcs form) st0).1.mi at h11
  change (runP s (pcs form) st0).1.mi ≤ 99 at h12
  change 0 ≤ (runP s (pcs form) st0).1.ss at h13
  change (runP s (pcs form) st0).1.ss ≤ 99 at h14
  have h8' : (runP s (pcs form) st0).1.yr ≤ 9999 := by unfold yTop at h8; split at h8 <;> omega
  exact ⟨by omega, by omega, by omega, by omega, h5, h6, h7, h8', fun e => by unfold yTop at h8; rw [if_pos e] at h8; exact h8, h9, h10, h11, h12, h13, h14, p1, p2, p3⟩
theorem nearY_bd (c lo : Int) : lo ≤ nearY c lo ∧ nearY c lo ≤ lo + 99 ∧ nearY c lo % 100 = c % 100 := by
  unfold nearY; omega
end Go.Proofs.YtkenianfpfamcaaGreatDoor.Stm
namespace Go.Proofs.YtkenianfpfamcaaGreatDoor.Stm
open Go.Proofs.YtkenianfpfamcaaGreatDoor

/-! 400 years -/
/-! the day behind a day -/
/-! the order of dates -/
/-! what is written is read -/
/-- a text that is read, wholly and without error -/
structure Good (form : Nat) (s : List UInt8) (nY m : Int) : Prop where
  ex : ∃ (st : St) (wd mo : Nat) (dt : List UInt8) (y : Int), Fit form (core st) wd mo ∧ DtOk form st.dy dt ∧ s = txt form wd mo dt st.yr st.hh st.mi st.ss ∧ y = (if form = 1 then nearY st.yr (nY - 49) else st.yr) ∧
    1 ≤ y ∧ y ≤ 9999 ∧ Cal.daysOk y st.mo st.dy = true ∧ st.hh ≤ 23 ∧ st.mi ≤ 59 ∧ st.ss ≤ 60 ∧ st.wd = (Cal.daysOf y st.mo st.dy + 3) % 7 ∧ m = Cal.daysOf y st.mo st.dy * 86400 + st.hh * 3600 + st.mi * 60 + st.ss
end Go.Proofs.YtkenianfpfamcaaGreatDoor.Stm
namespace Go.Proofs.YtkenianfpfamcaaGreatDoor.Stm
open Go.Proofs.YtkenianfpfamcaaGreatDoor

/-! has a text a second of 60? -/
/-! one text, one date -/
end Go.Proofs.YtkenianfpfamcaaGreatDoor.Stm
