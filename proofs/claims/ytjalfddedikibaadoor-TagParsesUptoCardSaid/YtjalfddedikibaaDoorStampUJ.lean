/- Contract of the document's Parse: the moment that a text says. -/
import Derived.Test.YtjalfddedikibaaDoorStampTJ
namespace Go.Proofs.YtjalfddedikibaaDoor
open Go Go.RowKit
set_option maxHeartbeats 4000000

theorem results_tmp4 {fn : Func} {t u v x : Tmp} (h : fn.results = #[.tmp t, .tmp u, .tmp v, .tmp x]) (tmps : Array Value) (P : Program) (w : World) :
    (results fn tmps).run P w = .ok (.tuple #[tmps.getD t undef, tmps.getD u undef, tmps.getD v undef, tmps.getD x undef]) w := by simp [results, h]
def parseV (r : Stm.PR) : Value := .tuple #[.int .i64 r.m, .int .i64 r.form, .int .i64 r.e, .int .i64 r.at_]
def momY (st : Stm.St) (form : Nat) (y : Int) : Stm.PR :=
  if y < 1 ∨ 9999 < y then ⟨0, 0, 41, st.yrAt⟩
  else if Cal.daysOk y st.mo st.dy = false then ⟨0, 0, 41, st.dyAt⟩
  else if 23 < st.hh then ⟨0, 0, 42, st.hhAt⟩
  else if 59 < st.mi then ⟨0, 0, 42, st.miAt⟩
  else if 60 < st.ss then ⟨0, 0, 42, st.ssAt⟩
  else if st.wd ≠ (Cal.daysOf y st.mo st.dy + 3) % 7 then ⟨0, 0, 43, 0⟩
  else if 253402300799 < Cal.daysOf y st.mo st.dy * 86400 + st.hh * 3600 + st.mi * 60 + st.ss then ⟨0, 0, 40, 0⟩ else ⟨Cal.daysOf y st.mo st.dy * 86400 + st.hh * 3600 + st.mi * 60 + st.ss, form, 0, 0⟩
theorem momentOf_eq (st : Stm.St) (form : Nat) (n : Int) : Stm.momentOf st form n = momY st form (if form = 1 then Stm.nearY st.yr (n - 49) else st.yr) := rfl
theorem daysOf_bd {y mo d : Int} (h : Cal.daysOk y mo d = true) : -719162 ≤ Cal.daysOf y mo d ∧ Cal.daysOf y mo d ≤ 2932896 := by
  unfold Cal.daysOk at h
  rw [decide_eq_true_eq] at h
  obtain ⟨a, b, c, d⟩ := h
  obtain ⟨m1, m2⟩ := Cal.mdays_in y mo (by omega)
  have h1 := Cal.cum_le y mo m1 m2
  have h2 := Cal.cum_bd y mo
  have h3 := Cal.dby_succ y
  have h4 := Cal.dby_mono (y + 1) 10000 (by omega)
  have h5 : Cal.dby 10000 = 3652059 := by simp [Cal.dby]
  have h6 := Cal.dby_bd y a (by omega)
  unfold Cal.daysOf
  omega

theorem step_le (s : List UInt8) (p : Stm.Pc) (st : Stm.St) (h : st.at_ ≤ s.length) : (Stm.stepP s p st).1.at_ ≤ s.length := by
  cases p with
  | lit c =>
    rw [step_lit]
    by_cases hc : s[st.at_]? = some c
    · rw [if_pos (decide_eq_true hc)]; exact (List.getElem?_eq_some_iff.1 hc).1
    · rw [if_neg (by simp [hc])]; exact h
  | name k =>
    cases hr : Stm.firstOf (s.drop st.at_) (Stm.namesOf k) 0 with
    | none => rw [step_name_none hr]; exact h
    | some q =>
      obtain ⟨n, x⟩ := q
      rw [step_name_some hr]
      show (Stm.setName k n _).at_ ≤ _
      rw [Stm.at_setName]; exact first_le s st.at_ k n x hr h
  | dig w b f =>
    have := (digs_le s w b st.at_ 0 h (by omega)).1
    unfold Stm.stepP
    simp only []
    split
    · rw [Stm.at_setDig]; exact this
    · exact this
theorem run_le (s : List UInt8) : ∀ (ps : List Stm.Pc) (st : Stm.St), st.at_ ≤ s.length → (Stm.runP s ps st).1.at_ ≤ s.length
  | [], st, h => h
  | p :: ps, st, h => by
    rw [Stm.runP_cons]
    split
    · exact run_le s ps _ (step_le s p st h)
    · exact step_le s p st h

end Go.Proofs.YtjalfddedikibaaDoor
