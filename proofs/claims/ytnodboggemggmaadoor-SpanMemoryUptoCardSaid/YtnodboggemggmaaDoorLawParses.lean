/- SpanParses: the walk of the law, and the claim: for every text of bulk at most 1048576 and every size the law answers true, and its input reads as it did. -/
import Derived.Test.YtnodboggemggmaaDoorSpanF
import Derived.Test.YtnodboggemggmaaDoorSpanH
namespace Go.Proofs.YtnodboggemggmaaDoor
open Go Go.RowKit
set_option maxHeartbeats 2000000

theorem els_length (size : Int) : ∀ (xs : List (List UInt8)) (l : List (Int × Int)), els size xs = some l → l.length ≤ xs.length := by
  intro xs
  induction xs with
  | nil => intro l h; simp [els] at h; subst h; exact Nat.le_refl _
  | cons x r ih =>
    intro l h
    simp only [els] at h
    cases hel : elemO x size with
    | none => rw [hel] at h; cases h
    | some p =>
      obtain ⟨a, b, m⟩ := p
      rw [hel] at h
      simp only [Option.map_eq_some_iff] at h
      obtain ⟨q, hq, rfl⟩ := h
      have := ih q hq
      split <;> simp <;> omega
theorem parseL_le (s : ByteArray) (size : Int) (hs : s.size ≤ 1048576) : (parseL (L s) size).length ≤ maxLen := by
  have hz := cutZ_le 61 (L s)
  rw [L_length] at hz
  unfold parseL maxLen
  split
  · simp
  · split
    · cases ho : listOf (cutZ 61 (L s)) with
      | none => simp [fromL]
      | some xs =>
        have h1 := (listOf_le ho).2
        simp only [fromL]
        cases he : els size xs with
        | none => simp
        | some l => have := els_length size xs l he; simp only [Option.getD_some]; omega
    · simp

set_option maxRecDepth 100000 in
theorem lawParses_any (s : ByteArray) (size : Int) (w : World) (hE : Env w) (hs : s.size ≤ 1048576) (z1 : size ≤ 9223372036854775807) :
    Calls Tryd.prog 3 #[.string s, .int .i64 size] w fun e w' => e = .returned (.bool true) ∧ Below w.heap.size w w' := by
  obtain ⟨E, hEE⟩ := name_it (parseE (L s) size)
  obtain ⟨R, hR⟩ := name_it (parseL (L s) size)
  have HE := Lib.hid hE
  go_enter Tryd.func3, Tryd.ntmps3
  go_wp2_with fail
  refine (parse_any s size _ HE.out (by omega) z1).mono ?_
  intro e w1 hres
  rw [hEE.out, hR.out] at hres
  obtain ⟨v, rfl, hrow, hb1⟩ := hres
  have hs1 := Lib.hid (spanSl_of_row hrow)
  clear hrow
  have HE1 := Lib.hid (HE.out.next hb1)
  go_wp2_with fail
  refine (rparse_any s size _ (by omega) z1).mono ?_
  intro e w2 hres
  rw [hEE.out, hR.out] at hres
  obtain ⟨u, rfl, hrow, hb2⟩ := hres
  have hs2 := Lib.hid (spanSl_of_row hrow)
  clear hrow
  have hs12 := Lib.hid (spanSl_keep hs1.out hb2)
  have HE2 := Lib.hid (HE1.out.next hb2)
  have hbb := hb1.trans (hb2.mono hb1.size)
  have hR1 : R.length ≤ maxLen := by rw [← hR.out]; exact parseL_le s size hs
  go_wp2_with fail
  refine (awake_any _ HE2.out).mono ?_
  rintro e w3 ⟨rfl, hb3⟩
  have hbc := hbb.trans (hb3.mono hbb.size)
  have t1 := Lib.hid (spanSl_keep hs12.out hb3)
  have t2 := Lib.hid (spanSl_keep hs2.out hb3)
  go_wp2_with fail
  refine (lsame_any _ _ _ _ _ t1.out t2.out hR1 hR1).mono ?_
  rintro e w4 ⟨rfl, hb4⟩
  have hbd := hbc.trans (hb4.mono hbc.size)
  have hrr : decide (R = R) = true := by simp
  rw [hrr]
  go_wp2_with fail
  all_goals (try (exfalso; omega))
  go_ret
  exact ⟨rfl, hbd⟩
end Go.Proofs.YtnodboggemggmaaDoor
