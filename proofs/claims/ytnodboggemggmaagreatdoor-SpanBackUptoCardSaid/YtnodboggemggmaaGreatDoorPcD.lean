/- The document's order of questions: 'cut' is asked ahead of 'starts', in plain Lean. -/
import Derived.Test.YtnodboggemggmaaGreatDoorPcA
namespace Go.Proofs.YtnodboggemggmaaGreatDoor
open Go Go.RowKit

/-- a text that starts with a mark's line is no beginning of that line -/
theorem starts_not_cut {l t : List UInt8} (h : startsB l t = true) : cutB l t = false := by
  unfold cutB
  refine decide_eq_false (fun hh => ?_)
  have h1 := congrArg List.length (show l.take t.length = t from by unfold startsB at h; exact of_decide_eq_true h)
  rw [List.length_take] at h1
  omega
/-- nor is it a beginning of the last line -/
theorem starts_not_cut2 {l E : List UInt8} (h : startsB l (E ++ [13, 10]) = true) : cutB l (E ++ [45, 45] ++ [13, 10]) = false := by
  unfold cutB
  refine decide_eq_false (fun hh => ?_)
  have h0 : l.take (E ++ [13, 10]).length = E ++ [13, 10] := by unfold startsB at h; exact of_decide_eq_true h
  have e1 := congrArg (fun x => x[E.length]?) h0
  have hl := congrArg List.length h0
  rw [List.length_take, List.length_append] at hl
  simp only [List.length_cons, List.length_nil] at hl
  have e2 := congrArg (fun x => x[E.length]?) hh.2
  simp only [List.getElem?_take, List.length_append, List.length_cons, List.length_nil] at e1 e2
  rw [if_pos (by omega)] at e1
  rw [if_pos (by omega)] at e2
  rw [← e2] at e1
  rw [List.append_assoc, List.getElem?_append_right (Nat.le_refl _), List.getElem?_append_right (Nat.le_refl _), Nat.sub_self] at e1
  simp at e1
/-- the last line ends the text, where the text starts with it and no byte is behind it -/
theorem starts_whole {l t : List UInt8} (h : startsB l t = true) (hl : l.length ≤ t.length) : l = t := by
  have h0 : l.take t.length = t := by unfold startsB at h; exact of_decide_eq_true h
  rw [List.take_of_length_le hl] at h0
  exact h0
theorem whole_starts {l t : List UInt8} (h : l = t) : startsB l t = true := by
  subst h
  unfold startsB
  rw [List.take_length]
  exact decide_eq_true rfl
/-- one step, in the document's order of questions -/
theorem pcsM_doc (E : List UInt8) (N f at_ : Nat) (rest : List UInt8) (acc : List Pc) :
    pcsM E N (f + 1) at_ rest acc =
      if acc ≠ [] ∧ startsB rest (E ++ [45, 45] ++ [13, 10]) = true then
        (if E.length + 4 < rest.length then (([] : List Pc), ((at_ + (E.length + 4) : Nat) : Int), (92 : Int)) else (acc, 0, 0))
      else if cutB rest (E ++ [13, 10]) = true ∨ (acc ≠ [] ∧ cutB rest (E ++ [45, 45] ++ [13, 10]) = true) then ([], N, 94)
      else if startsB rest (E ++ [13, 10]) = false then ([], at_, 92)
      else match partM N (at_ + (E.length + 2)) (rest.drop (E.length + 2)) with
        | .stop a e => ([], a, e)
        | .go p u => pcsM E N f (at_ + (E.length + 2) + u) (rest.drop (E.length + 2 + u)) (acc ++ [p]) := by
  rw [pcsM]
  have hlen : (E ++ [45, 45] ++ [13, 10]).length = E.length + 4 := by simp
  by_cases h1 : acc ≠ [] ∧ startsB rest (E ++ [45, 45] ++ [13, 10]) = true
  · by_cases h2 : E.length + 4 < rest.length
    · rw [if_neg (fun h => by rw [h.2, hlen] at h2; omega), if_pos h1, if_pos h1, if_pos h2]
    · rw [if_pos ⟨h1.1, starts_whole h1.2 (by omega)⟩, if_pos h1, if_neg h2]
  · rw [if_neg h1, if_neg (fun h => h1 ⟨h.1, whole_starts h.2⟩), if_neg h1]
    cases h3 : startsB rest (E ++ [13, 10])
    · rw [if_neg (by decide)]
      by_cases h4 : cutB rest (E ++ [13, 10]) = true ∨ (acc ≠ [] ∧ cutB rest (E ++ [45, 45] ++ [13, 10]) = true)
      · rw [if_pos h4, if_pos h4]
      · rw [if_neg h4, if_neg h4, if_pos rfl]
    · have hno : ¬ (cutB rest (E ++ [13, 10]) = true ∨ (acc ≠ [] ∧ cutB rest (E ++ [45, 45] ++ [13, 10]) = true)) := by
        rintro (h | h)
        · rw [starts_not_cut h3] at h; exact absurd h (by decide)
        · rw [starts_not_cut2 h3] at h; exact absurd h.2 (by decide)
      rw [if_pos rfl, if_neg hno, if_neg (by decide)]
      cases partM N (at_ + (E.length + 2)) (rest.drop (E.length + 2)) <;> rfl
end Go.Proofs.YtnodboggemggmaaGreatDoor
