/- What is decided, plain: the program's four steps and the document's one law say the same. -/
import Derived.Test.YtjalfddedikibaaDoorTagMJ
namespace Go.Proofs.YtjalfddedikibaaDoor
open Go Go.RowKit

abbrev nmIM : Tx := [73, 102, 45, 77, 97, 116, 99, 104]
abbrev nmIN : Tx := [73, 102, 45, 78, 111, 110, 101, 45, 77, 97, 116, 99, 104]
abbrev nmIU : Tx := [73, 102, 45, 85, 110, 109, 111, 100, 105, 102, 105, 101, 100, 45, 83, 105, 110, 99, 101]
abbrev nmID : Tx := [73, 102, 45, 77, 111, 100, 105, 102, 105, 101, 100, 45, 83, 105, 110, 99, 101]
abbrev nmIR : Tx := [73, 102, 45, 82, 97, 110, 103, 101]
/-- one step's answer, and what stands behind it -/
def stepD (x k : Int) : Int := if x = 1 then 304 else if x = 2 then 412 else k
def decideT (rd : Bool) (s : Sta) (now : Int) (l : List Fd) : Int :=
  stepD (matchT s (valuesF l nmIM)) (stepD (unmodT s (dateT now (valuesF l nmIU)) (valuesF l nmIM)) (stepD (noneT rd s (valuesF l nmIN)) (stepD (modT rd s (dateT now (valuesF l nmID)) (valuesF l nmIN)) 0)))
theorem listT_err (l : List UInt8) : (listT l).e = 0 ∨ ((listT l).ts = [] ∧ (listT l).star = false ∧ (listT l).e = 81) := by
  unfold listT
  split
  · exact Or.inl rfl
  · split
    · exact Or.inr ⟨rfl, rfl, rfl⟩
    · exact Or.inr ⟨rfl, rfl, rfl⟩
    · exact Or.inl rfl
theorem listT_star_ts (l : List UInt8) (h : (listT l).star = true) : (listT l).e = 0 := by
  rcases listT_err l with h1 | ⟨_, h1, _⟩
  · exact h1
  · rw [h1] at h; cases h
/-- does a condition of tags meet a resource, as the document says it -/
def metR (strong : Bool) (s : Sta) (r : LV) : Bool :=
  if r.star = true then s.there else r.ts.any fun t => s.there && (s.tagged && ((strong && strongT t s.tag) || (!strong && alikeT t s.tag)))
theorem any_and (l : List Tg) (a b : Bool) (V : Tg → Bool) : (l.any fun t => a && (b && V t)) = (a && (b && l.any V)) := by
  induction l with
  | nil => cases a <;> cases b <;> rfl
  | cons t l ih => rw [List.any_cons, List.any_cons, ih]; cases a <;> cases b <;> simp
theorem metR_strong (s : Sta) (vs : List Tx) : metR true s (listT (Lib.join vs [44, 32])) = metT strongT s vs := by
  unfold metR metT
  have h : ∀ t, ((true && strongT t s.tag) || (!true && alikeT t s.tag)) = strongT t s.tag := by intro t; simp
  simp only [h]
  rw [any_and]
  rcases listT_err (Lib.join vs [44, 32]) with h1 | ⟨h1, h2, h3⟩
  · rw [h1]; cases (listT (Lib.join vs [44, 32])).star <;> cases s.there <;> simp
  · rw [h1, h2, h3]; cases s.there <;> cases s.tagged <;> rfl
theorem metR_alike (s : Sta) (vs : List Tx) : metR false s (listT (Lib.join vs [44, 32])) = metT alikeT s vs := by
  unfold metR metT
  have h : ∀ t, ((false && strongT t s.tag) || (!false && alikeT t s.tag)) = alikeT t s.tag := by intro t; simp
  simp only [h]
  rw [any_and]
  rcases listT_err (Lib.join vs [44, 32]) with h1 | ⟨h1, h2, h3⟩
  · rw [h1]; cases (listT (Lib.join vs [44, 32])).star <;> cases s.there <;> simp
  · rw [h1, h2, h3]; cases s.there <;> cases s.tagged <;> rfl
/-- what the document decides behind the first two conditions -/
def laterR (rd : Bool) (s : Sta) (D : Int × Bool) (vn : List Tx) : Int :=
  if vn = [] then (if (rd && (D.2 && (s.there && (s.timed && decide (s.time ≤ D.1))))) = true then 304 else 0)
  else if metT alikeT s vn = true then (if rd = true then 304 else 412) else 0
def decideR (rd : Bool) (s : Sta) (now : Int) (l : List Fd) : Int :=
  if valuesF l nmIM = [] then (if ((dateT now (valuesF l nmIU)).2 && (s.there && (s.timed && decide ((dateT now (valuesF l nmIU)).1 < s.time)))) = true then 412 else laterR rd s (dateT now (valuesF l nmID)) (valuesF l nmIN))
  else if metT strongT s (valuesF l nmIM) = true then laterR rd s (dateT now (valuesF l nmID)) (valuesF l nmIN) else 412
theorem later_eq (rd : Bool) (s : Sta) (D : Int × Bool) (vn : List Tx) : stepD (noneT rd s vn) (stepD (modT rd s D vn) 0) = laterR rd s D vn := by
  unfold laterR noneT modT
  by_cases h : vn = []
  · simp only [if_pos h]
    split <;> rfl
  · simp only [if_neg h]
    split
    · split <;> rfl
    · rfl
theorem decide_eq (rd : Bool) (s : Sta) (now : Int) (l : List Fd) : decideT rd s now l = decideR rd s now l := by
  unfold decideT decideR
  rw [later_eq]
  unfold matchT unmodT
  by_cases h : valuesF l nmIM = []
  · simp only [if_pos h]
    split <;> rfl
  · simp only [if_neg h]
    split <;> rfl
/-- what is decided hangs on the values of four names alone -/
theorem decide_of {rd : Bool} {s : Sta} {now : Int} {l m : List Fd} (h1 : valuesF l nmIM = valuesF m nmIM) (h2 : valuesF l nmIN = valuesF m nmIN) (h3 : valuesF l nmIU = valuesF m nmIU) (h4 : valuesF l nmID = valuesF m nmID) : decideT rd s now l = decideT rd s now m := by
  unfold decideT; rw [h1, h2, h3, h4]
theorem decide_three (rd : Bool) (s : Sta) (now : Int) (l : List Fd) : decideT rd s now l = 0 ∨ decideT rd s now l = 304 ∨ decideT rd s now l = 412 := by
  rw [decide_eq]
  have hL : ∀ D vn, laterR rd s D vn = 0 ∨ laterR rd s D vn = 304 ∨ laterR rd s D vn = 412 := by
    intro D vn; unfold laterR
    repeat' split
    all_goals first | exact Or.inl rfl | exact Or.inr (Or.inl rfl) | exact Or.inr (Or.inr rfl)
  unfold decideR
  repeat' split
  all_goals first | exact hL _ _ | exact Or.inr (Or.inr rfl)
theorem decide_reads (s : Sta) (now : Int) (l : List Fd) : decideT false s now l ≠ 304 := by
  rw [decide_eq]
  have hL : ∀ D vn, laterR false s D vn ≠ 304 := by
    intro D vn; unfold laterR
    split
    · rw [Bool.false_and, if_neg (by decide)]; decide
    · split <;> decide
  unfold decideR
  repeat' split
  all_goals first | exact hL _ _ | decide
theorem decide_nil (rd : Bool) (s : Sta) (now : Int) (l : List Fd) (h1 : valuesF l nmIM = []) (h2 : valuesF l nmIN = []) (h3 : valuesF l nmIU = []) (h4 : valuesF l nmID = []) : decideT rd s now l = 0 := by
  unfold decideT; rw [h1, h2, h3, h4]
  unfold matchT unmodT noneT modT dateT
  cases rd <;> rfl
end Go.Proofs.YtjalfddedikibaaDoor
