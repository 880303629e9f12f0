/- Contracts of the document: names and tokens. -/
import Derived.Test.YtfgaiopkclogmaaDoorLedgI
import Derived.Test.YtfgaiopkclogmaaDoorLedgA
namespace Go.Proofs.YtfgaiopkclogmaaDoor
open Go Go.RowKit
set_option maxHeartbeats 4000000

set_option maxRecDepth 100000 in
theorem risname_any (s : ByteArray) (w : World) (hs : s.size ≤ 1073741824) : Calls Tryd.prog 43 #[.string s] w fun e w' => e = .returned (.bool ((L s).all nameB && decide (1 ≤ (L s).length ∧ (L s).length ≤ 64))) ∧ w = w' := by
  rw [L_length]
  obtain ⟨A, hA⟩ := name_it ((L s).all nameB)
  rw [hA.out]
  go_enter Tryd.func43, Tryd.ntmps43
  go_wp2_with fail
  go_loop [3] (fun i => ∃ k : Nat, k ≤ s.size ∧ i = .int .i64 k ∧ Hid (((L s).drop k).all nameB = A)) (fun i => s.size - (intOf i).toNat)
  case atStart => exact ⟨0, Nat.zero_le _, rfl, hA⟩
  clear hA
  case round =>
    obtain ⟨k, hk, rfl, hr⟩ := hrel
    by_cases hlt : k < s.size
    · have hr2 := hr.out
      rw [L_drop hlt, List.all_cons] at hr2
      have HM := Lib.hid (rname_any s[k] w)
      cases hb : nameB s[k] with
      | true =>
        rw [hb] at hr2 HM
        have HR : Hid (((L s).drop (k + 1)).all nameB = A) := by unfold Hid; rw [← hr2]; rfl
        clear hr hr2 hb
        go_wp2_with fail
        refine HM.out.mono ?_; rintro e w' ⟨rfl, rfl⟩
        go_wp2_with fail
        go_round
        case rel => exact ⟨k + 1, by omega, by go_num, HR⟩
        case measure => simp [intOf]; omega
      | false =>
        rw [hb] at hr2 HM
        have hf : Hid (A = false) := by rw [← hr2]; rfl
        clear hr hr2 hb
        go_wp2_with fail
        refine HM.out.mono ?_; rintro e w' ⟨rfl, rfl⟩
        go_wp2_with fail
        go_ret
        exact ⟨ret_bool (by rw [hf.out, Bool.false_and]), rfl⟩
    · obtain rfl : k = s.size := by omega
      rw [L_drop_all] at hr
      have hf : Hid (A = true) := hr.out.symm
      clear hr
      by_cases h1 : 1 ≤ s.size
      · by_cases h2 : s.size ≤ 64
        · have hz : Hid ((A && decide (1 ≤ s.size ∧ s.size ≤ 64)) = true) := by unfold Hid; rw [hf.out, decide_eq_true ⟨h1, h2⟩]; rfl
          go_wp2_with fail
          all_goals (try (exfalso; omega))
          all_goals go_ret
          all_goals exact ⟨ret_bool (by first | rfl | (rw [hz.out]; exact decide_eq_true (by omega)) | (rw [hz.out]; exact decide_eq_false (by omega)) | (rw [hf.out]; exact decide_eq_true (by omega)) | exact decide_eq_false (by omega)), rfl⟩
        · have hz : Hid ((A && decide (1 ≤ s.size ∧ s.size ≤ 64)) = false) := by unfold Hid; rw [hf.out, decide_eq_false (fun h => h2 h.2)]; rfl
          go_wp2_with fail
          all_goals (try (exfalso; omega))
          all_goals go_ret
          all_goals exact ⟨ret_bool (by first | rfl | (rw [hz.out]; exact decide_eq_true (by omega)) | (rw [hz.out]; exact decide_eq_false (by omega)) | (rw [hf.out]; exact decide_eq_true (by omega)) | exact decide_eq_false (by omega)), rfl⟩
      · have hz : Hid ((A && decide (1 ≤ s.size ∧ s.size ≤ 64)) = false) := by unfold Hid; rw [hf.out, decide_eq_false (fun h => h1 h.1)]; rfl
        go_wp2_with fail
        all_goals (try (exfalso; omega))
        all_goals go_ret
        all_goals exact ⟨ret_bool (by first | rfl | (rw [hz.out]; exact decide_eq_true (by omega)) | (rw [hz.out]; exact decide_eq_false (by omega)) | (rw [hf.out]; exact decide_eq_true (by omega)) | exact decide_eq_false (by omega)), rfl⟩

set_option maxRecDepth 100000 in
theorem ristoken_any (s : ByteArray) (w : World) (hs : s.size ≤ 1073741824) : Calls Tryd.prog 44 #[.string s] w fun e w' => e = .returned (.bool ((L s).all signB && decide (L s ≠ []))) ∧ Below w.heap.size w w' := by
  obtain ⟨A, hA⟩ := name_it ((L s).all signB)
  rw [hA.out]
  go_enter Tryd.func44, Tryd.ntmps44
  go_wp2_with fail
  go_loopw [3] (fun i wr => ∃ k : Nat, k ≤ s.size ∧ i = .int .i64 k ∧ Hid (((L s).drop k).all signB = A) ∧ Hid (Below w.heap.size w wr)) (fun i _ => s.size - (intOf i).toNat)
  case atStart => exact ⟨0, Nat.zero_le _, rfl, hA, Below.refl _ _⟩
  clear hA
  case round =>
    obtain ⟨k, hk, rfl, hr, hbr⟩ := hrel
    obtain ⟨wq, hwq⟩ : ∃ wq, wq = wr := ⟨wr, rfl⟩
    subst hwq
    by_cases hlt : k < s.size
    · have hr2 := hr.out
      rw [L_drop hlt, List.all_cons] at hr2
      have HM := Lib.hid (rissign_any s[k] wq)
      cases hb : signB s[k] with
      | true =>
        rw [hb] at hr2 HM
        have HR : Hid (((L s).drop (k + 1)).all signB = A) := by unfold Hid; rw [← hr2]; rfl
        clear hr hr2 hb
        go_wp2_with fail
        refine HM.out.mono ?_; rintro e wv ⟨rfl, hbv⟩
        go_wp2_with fail
        go_roundw
        case rel => exact ⟨k + 1, by omega, by go_num, HR, hbr.out.trans (hbv.mono hbr.out.size)⟩
        case measure => simp [intOf]; omega
      | false =>
        rw [hb] at hr2 HM
        have hf : Hid (A = false) := by rw [← hr2]; rfl
        clear hr hr2 hb
        go_wp2_with fail
        refine HM.out.mono ?_; rintro e wv ⟨rfl, hbv⟩
        go_wp2_with fail
        go_ret
        exact ⟨ret_bool (by rw [hf.out, Bool.false_and]), hbr.out.trans (hbv.mono hbr.out.size)⟩
    · obtain rfl : k = s.size := by omega
      rw [L_drop_all] at hr
      have hf : Hid (A = true) := hr.out.symm
      clear hr
      go_wp2_with fail
      go_ret
      exact ⟨ret_bool (by rw [hf.out, Bool.true_and]; (try simp only []); simp; exact str_empty s), hbr.out⟩
end Go.Proofs.YtfgaiopkclogmaaDoor
