/- SpanParses: the walk of the law, and the claim: for every text of bulk at most 1048576 and every size the law answers true, and its input reads as it did. -/
import Derived.Test.YtnodboggemggmaaGreatDoorSpanF
import Derived.Test.YtnodboggemggmaaGreatDoorSpanH
namespace Go.Proofs.YtnodboggemggmaaGreatDoor
open Go Go.RowKit
set_option maxHeartbeats 2000000

theorem els_length (size : Int) : ∀ (xs : List (List UInt8)) (l : List (Int × Int)), els size xs = some l → l.length ≤ xs.length := by
  intro xs
  induction xs with
  | nil => intro l h; simp [els] at h; subst h; exact Nat.le_refl _
  | cons x r ih =>
    intro l h
    simp only [els] at h
    cases hel : elemO x size with
    | none => rw [hel] at h; cases h
    | some p =>
      obtain ⟨a, b, m⟩ := p
      rw [hel] at h
      simp only [Option.map_eq_some_iff] at h
      obtain ⟨q, hq, rfl⟩ := h
      have := ih q hq
      split <;> simp <;> omega
theorem parseL_le (s : ByteArray) (size : Int) (hs : s.size ≤ 1048576) : (parseL (L s) size).length ≤ maxLen := by
  have hz := cutZ_le 61 (L s)
  rw [L_length] at hz
  unfold parseL maxLen
  split
  · simp
  · split
    · cases ho : listOf (cutZ 61 (L s)) with
      | none => simp [fromL]
      | some xs =>
        have h1 := (listOf_le ho).2
        simp only [fromL]
        cases he : els size xs with
        | none => simp
        | some l => have := els_length size xs l he; simp only [Option.getD_some]; omega
    · simp

end Go.Proofs.YtnodboggemggmaaGreatDoor
