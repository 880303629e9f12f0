/- Laws of the calendar and of dates as text, in plain Lean: 400 years, the day behind a day, the order of dates, what is written is read, unlike texts. No program in sight. -/
import Derived.Test.YtmfnofpphnlbnaaDoorStmD
namespace Go.Proofs.YtmfnofpphnlbnaaDoor.Stm
open Go.Proofs.YtmfnofpphnlbnaaDoor

/-! 400 years -/
theorem leap400 (y : Int) : Cal.leapB (y + 400) = Cal.leapB y := by
  rw [Cal.leapB_iff, Cal.leapB_iff, decide_eq_decide]; omega
theorem dby400 (y : Int) : Cal.dby (y + 400) = Cal.dby y + 146097 := by unfold Cal.dby; omega
theorem mdays400 (y m : Int) : Cal.mdays (y + 400) m = Cal.mdays y m := by unfold Cal.mdays; rw [leap400]
theorem cum400 (y m : Int) : Cal.cum (y + 400) m = Cal.cum y m := by unfold Cal.cum; rw [leap400]
theorem cycle_date {n : Int} (h0 : 0 ≤ n) (h1 : n + 146097 < 3652059) : Cal.yOf (n + 146097) = Cal.yOf n + 400 ∧ Cal.mOf (n + 146097) = Cal.mOf n ∧ Cal.dOf (n + 146097) = Cal.dOf n := by
  obtain ⟨a, b, c, d, e⟩ := Cal.isDate_of h0 (show n < 3652059 by omega)
  exact Cal.isDate_unique (Cal.isDate_of (show 0 ≤ n + 146097 by omega) h1) ⟨a, b, c, by rw [mdays400]; exact d, by rw [dby400, cum400]; omega⟩

/-! the day behind a day -/
def nextY (y m d : Int) : Int := if d < Cal.mdays y m then y else if m < 12 then y else y + 1
def nextM (y m d : Int) : Int := if d < Cal.mdays y m then m else if m < 12 then m + 1 else 1
def nextD (y m d : Int) : Int := if d < Cal.mdays y m then d + 1 else 1
theorem next_date {n y m d : Int} (h : Cal.IsDate n y m d) : Cal.IsDate (n + 1) (nextY y m d) (nextM y m d) (nextD y m d) := by
  obtain ⟨a, b, c, e, f⟩ := h
  unfold nextY nextM nextD
  by_cases h1 : d < Cal.mdays y m
  · rw [if_pos h1, if_pos h1, if_pos h1]; exact ⟨a, b, by omega, by omega, by omega⟩
  · rw [if_neg h1, if_neg h1, if_neg h1]
    by_cases h2 : m < 12
    · rw [if_pos h2, if_pos h2]
      have := Cal.mdays_pos y (m + 1) (by omega) (by omega)
      refine ⟨by omega, by omega, by omega, by omega, ?_⟩
      rw [Cal.cum_succ y m a b]; omega
    · rw [if_neg h2, if_neg h2]
      obtain rfl : m = 12 := by omega
      have h3 := Cal.mdays_pos (y + 1) 1 (by omega) (by omega)
      have h4 := Cal.cum_succ y 12 (by omega) (by omega)
      have h5 : Cal.cum y (12 + 1) = Cal.ydays y := Cal.cum_end y
      refine ⟨by omega, by omega, by omega, by omega, ?_⟩
      rw [Cal.cum_one, Cal.dby_succ]; omega

/-! the order of dates -/
def lexGt : List Int → List Int → Bool
  | a :: l, b :: r => if a = b then lexGt l r else decide (a > b)
  | _, _ => false
theorem date_lt {n n' y m d y' m' d' : Int} (h : Cal.IsDate n y m d) (h' : Cal.IsDate n' y' m' d') (hn : n < n') : y < y' ∨ (y = y' ∧ m < m') ∨ (y = y' ∧ m = m' ∧ d < d') := by
  have hy := Cal.isDate_year h
  have hy' := Cal.isDate_year h'
  obtain ⟨a, b, c, e, f⟩ := h
  obtain ⟨a', b', c', e', f'⟩ := h'
  rcases Int.lt_trichotomy y y' with h1 | h1 | h1
  · exact Or.inl h1
  · subst h1
    rcases Int.lt_trichotomy m m' with h2 | h2 | h2
    · exact Or.inr (Or.inl ⟨rfl, h2⟩)
    · subst h2; exact Or.inr (Or.inr ⟨rfl, rfl, by omega⟩)
    · have := Cal.cum_lt y m' m a' h2 b; omega
  · have := Cal.dby_mono (y' + 1) y (by omega); omega
theorem lex_gt {y m d h i s y' m' d' h' i' s' : Int} (l : y < y' ∨ (y = y' ∧ m < m') ∨ (y = y' ∧ m = m' ∧ d < d')) : lexGt [y, m, d, h, i, s] [y', m', d', h', i', s'] = false ∧ lexGt [y', m', d', h', i', s'] [y, m, d, h, i, s] = true := by
  unfold lexGt
  rcases l with l | ⟨rfl, l⟩ | ⟨rfl, rfl, l⟩
  · rw [if_neg (by omega), if_neg (by omega)]; simp; omega
  · simp only [if_true]; unfold lexGt; rw [if_neg (by omega), if_neg (by omega)]; simp; omega
  · simp only [if_true]; unfold lexGt; simp only [if_true]; unfold lexGt; rw [if_neg (by omega), if_neg (by omega)]; simp; omega
theorem order_date {n n' r r' y m d y' m' d' : Int} (h : Cal.IsDate n y m d) (h' : Cal.IsDate n' y' m' d') (r0 : 0 ≤ r) (r1 : r < 86400) (r0' : 0 ≤ r') (r1' : r' < 86400) :
    lexGt [y, m, d, r / 3600, r / 60 % 60, r % 60] [y', m', d', r' / 3600, r' / 60 % 60, r' % 60] = decide (n * 86400 + r > n' * 86400 + r') := by
  rcases Int.lt_trichotomy n n' with hn | hn | hn
  · rw [(lex_gt (date_lt h h' hn)).1]; symm; rw [decide_eq_false_iff_not]; omega
  · subst hn
    obtain ⟨rfl, rfl, rfl⟩ := Cal.isDate_unique h h'
    simp only [lexGt, if_true]
    by_cases c1 : r / 3600 = r' / 3600
    · rw [if_pos c1]
      by_cases c2 : r / 60 % 60 = r' / 60 % 60
      · rw [if_pos c2]
        by_cases c3 : r % 60 = r' % 60
        · rw [if_pos c3]; symm; rw [decide_eq_false_iff_not]; omega
        · rw [if_neg c3, decide_eq_decide]; omega
      · rw [if_neg c2, decide_eq_decide]; omega
    · rw [if_neg c1, decide_eq_decide]; omega
  · rw [(lex_gt (date_lt h' h hn)).2]; symm; rw [decide_eq_true_eq]; omega

/-! what is written is read -/
theorem formOf_txt (form wd mo : Nat) (dt : List UInt8) (y h mi s : Int) (hf : form < 3) (hw : wd < 7) : formOf (txt form wd mo dt y h mi s) = form := by
  have h1 : form = 0 ∨ form = 1 ∨ form = 2 := by omega
  have h2 : wd = 0 ∨ wd = 1 ∨ wd = 2 ∨ wd = 3 ∨ wd = 4 ∨ wd = 5 ∨ wd = 6 := by omega
  rcases h1 with rfl | rfl | rfl <;> rcases h2 with rfl | rfl | rfl | rfl | rfl | rfl | rfl <;> rfl
/-- what is read of a text that was written -/
theorem run_txt {form wd mo : Nat} {k : Co} {dt : List UInt8} (hf : form < 3) (h : Fit form k wd mo) (hd : DtOk form k.dy dt) :
    ∃ st, runP (txt form wd mo dt k.yr k.hh k.mi k.ss) (pcs form) st0 = (st, true) ∧ st.at_ = (txt form wd mo dt k.yr k.hh k.mi k.ss).length ∧ core st = k := by
  have h1 := txt_fwd hf h hd
  obtain ⟨st, h2, h3⟩ := of_runC (st := st0) h1
  obtain ⟨a, b⟩ := run_text h2
  exact ⟨st, a, b, h3⟩
theorem parse_txt {form wd mo : Nat} {k : Co} {dt : List UInt8} (nY : Int) (hf : form < 3) (h : Fit form k wd mo) (hd : DtOk form k.dy dt) :
    ∃ st, core st = k ∧ parseP (txt form wd mo dt k.yr k.hh k.mi k.ss) true nY = momentOf st form nY := by
  obtain ⟨st, a, b, c⟩ := run_txt hf h hd
  refine ⟨st, c, ?_⟩
  unfold parseP
  rw [formOf_txt form wd mo dt k.yr k.hh k.mi k.ss hf h.wd7]
  simp only [a]
  rw [if_neg (by decide), if_neg (by rw [b]; simp)]

/-- a text that is read, wholly and without error -/
structure Good (form : Nat) (s : List UInt8) (nY m : Int) : Prop where
  ex : ∃ (st : St) (wd mo : Nat) (dt : List UInt8) (y : Int), Fit form (core st) wd mo ∧ DtOk form st.dy dt ∧ s = txt form wd mo dt st.yr st.hh st.mi st.ss ∧ y = (if form = 1 then nearY st.yr (nY - 49) else st.yr) ∧
    1 ≤ y ∧ y ≤ 9999 ∧ Cal.daysOk y st.mo st.dy = true ∧ st.hh ≤ 23 ∧ st.mi ≤ 59 ∧ st.ss ≤ 60 ∧ st.wd = (Cal.daysOf y st.mo st.dy + 3) % 7 ∧ m = Cal.daysOf y st.mo st.dy * 86400 + st.hh * 3600 + st.mi * 60 + st.ss
theorem good_of {s : List UInt8} {ok : Bool} {nY : Int} {r : PR} (h : parseP s ok nY = r) (he : r.e = 0) : ok = true ∧ ∃ form : Nat, form < 3 ∧ r.form = form ∧ Good form s nY r.m := by
  subst h
  unfold parseP at he ⊢
  cases ok with
  | false => simp at he
  | true =>
    refine ⟨rfl, formOf s, formOf_lt s, ?_⟩
    rw [if_neg (by decide)] at he ⊢
    obtain ⟨r, hr⟩ : ∃ r, r = runP s (pcs (formOf s)) st0 := ⟨_, rfl⟩
    simp only [← hr] at he ⊢
    by_cases h1 : r.2 = false ∨ r.1.at_ < s.length
    · rw [if_pos h1] at he; simp at he
    · rw [if_neg h1] at he ⊢
      have h2 : (runP s (pcs (formOf s)) st0).2 = true := by rw [← hr]; cases hh : r.2 <;> simp_all
      have h3 : s.length ≤ (runP s (pcs (formOf s)) st0).1.at_ := by rw [← hr]; omega
      have ht := text_of_run h2 h3
      have hc := runC_of ht
      obtain ⟨wd, mo, dt, F, D, T⟩ := txt_inv (formOf_lt s) hc
      rw [← hr] at F D T
      unfold momentOf at he ⊢
      obtain ⟨y, hy⟩ : ∃ y, y = (if formOf s = 1 then nearY r.1.yr (nY - 49) else r.1.yr) := ⟨_, rfl⟩
      simp only [← hy] at he ⊢
      by_cases c1 : y < 1 ∨ 9999 < y
      · rw [if_pos c1] at he; simp at he
      rw [if_neg c1] at he ⊢
      by_cases c2 : Cal.daysOk y r.1.mo r.1.dy = false
      · rw [if_pos c2] at he; simp at he
      rw [if_neg c2] at he ⊢
      by_cases c3 : 23 < r.1.hh
      · rw [if_pos c3] at he; simp at he
      rw [if_neg c3] at he ⊢
      by_cases c4 : 59 < r.1.mi
      · rw [if_pos c4] at he; simp at he
      rw [if_neg c4] at he ⊢
      by_cases c5 : 60 < r.1.ss
      · rw [if_pos c5] at he; simp at he
      rw [if_neg c5] at he ⊢
      by_cases c6 : r.1.wd ≠ (Cal.daysOf y r.1.mo r.1.dy + 3) % 7
      · rw [if_pos c6] at he; simp at he
      rw [if_neg c6] at he ⊢
      by_cases c7 : 253402300799 < Cal.daysOf y r.1.mo r.1.dy * 86400 + r.1.hh * 3600 + r.1.mi * 60 + r.1.ss
      · rw [if_pos c7] at he; simp at he
      rw [if_neg c7]
      exact ⟨rfl, ⟨r.1, wd, mo, dt, y, F, D, T, hy, by omega, by omega, by simpa using c2, by omega, by omega, by omega, by simpa using c6, rfl⟩⟩
end Go.Proofs.YtmfnofpphnlbnaaDoor.Stm
