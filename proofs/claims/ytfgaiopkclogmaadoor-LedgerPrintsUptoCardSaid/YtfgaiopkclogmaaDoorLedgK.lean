/- Contracts of ledger: are all bytes of a text of a kind, and is it no longer than so many. -/
import Derived.Test.YtfgaiopkclogmaaDoorLedgF
namespace Go.Proofs.YtfgaiopkclogmaaDoor
open Go Go.RowKit
set_option maxHeartbeats 4000000

set_option maxRecDepth 100000 in
theorem allname_any (s : ByteArray) (w : World) (hs : s.size ≤ 1073741824) :
    Calls Tryd.prog 35 #[.string s, .int .i64 64, .func (.func 24) #[] #[]] w fun e w' => e = .returned (.bool ((L s).all nameB && decide (1 ≤ (L s).length ∧ (L s).length ≤ 64))) ∧ Below w.heap.size w w' := by
  rw [L_length]
  obtain ⟨A, hA⟩ := name_it ((L s).all nameB)
  rw [hA.out]
  go_enter Tryd.func35, Tryd.ntmps35
  go_wp2_with fail
  go_loopw [7, 10] (fun _ i wr => ∃ k : Nat, k ≤ s.size ∧ i = .int .i64 k ∧ Hid (((L s).drop k).all nameB = A) ∧ Hid (Below w.heap.size w wr)) (fun _ i _ => s.size - (intOf i).toNat)
  case atStart => exact ⟨0, Nat.zero_le _, rfl, hA, Below.refl _ _⟩
  clear hA
  case round =>
    obtain ⟨k, hk, rfl, hr, hbr⟩ := hrel
    obtain ⟨wq, hwq⟩ : ∃ wq, wq = wr := ⟨wr, rfl⟩
    subst hwq
    by_cases hlt : k < s.size
    · have hr2 := hr.out
      rw [L_drop hlt, List.all_cons] at hr2
      have HM := Lib.hid (fun wx (_ : True) => isname_any s[k] wx)
      cases hb : nameB s[k] with
      | true =>
        rw [hb] at hr2 HM
        have HR : Hid (((L s).drop (k + 1)).all nameB = A) := by unfold Hid; rw [← hr2]; rfl
        clear hr hr2 hb
        go_wp2_with fail
        refine (HM.out _ trivial).mono ?_; rintro e w' ⟨rfl, rfl⟩
        go_wp2_with fail
        go_roundw
        case rel => exact ⟨k + 1, by omega, by go_num, HR, hbr.out⟩
        case measure => simp [intOf]; omega
      | false =>
        rw [hb] at hr2 HM
        have hf : Hid (A = false) := by rw [← hr2]; rfl
        clear hr hr2 hb
        go_wp2_with fail
        refine (HM.out _ trivial).mono ?_; rintro e w' ⟨rfl, rfl⟩
        go_wp2_with fail
        go_ret
        exact ⟨ret_bool (by rw [hf.out, Bool.false_and]), hbr.out⟩
    · obtain rfl : k = s.size := by omega
      rw [L_drop_all] at hr
      have hf : Hid (A = true) := hr.out.symm
      clear hr
      by_cases h1 : 1 ≤ s.size
      · by_cases h2 : s.size ≤ 64
        · have hz : Hid ((A && decide (1 ≤ s.size ∧ s.size ≤ 64)) = true) := by unfold Hid; rw [hf.out, decide_eq_true ⟨h1, h2⟩]; rfl
          go_wp2_with fail
          all_goals (try (exfalso; omega))
          all_goals go_ret
          all_goals exact ⟨ret_bool (by first | rfl | (rw [hz.out]; first | rfl | (simp; omega))), hbr.out⟩
        · have hz : Hid ((A && decide (1 ≤ s.size ∧ s.size ≤ 64)) = false) := by unfold Hid; rw [hf.out, decide_eq_false (fun h => h2 h.2)]; rfl
          go_wp2_with fail
          all_goals (try (exfalso; omega))
          all_goals go_ret
          all_goals exact ⟨ret_bool (by first | rfl | (rw [hz.out]; first | rfl | (simp; omega))), hbr.out⟩
      · have hz : Hid ((A && decide (1 ≤ s.size ∧ s.size ≤ 64)) = false) := by unfold Hid; rw [hf.out, decide_eq_false (fun h => h1 h.1)]; rfl
        go_wp2_with fail
        all_goals (try (exfalso; omega))
        all_goals go_ret
        all_goals exact ⟨ret_bool (by first | rfl | (rw [hz.out]; first | rfl | (simp; omega))), hbr.out⟩

set_option maxRecDepth 100000 in
theorem allsign_any (s : ByteArray) (w : World) (hE : EnvT w) (hs : s.size ≤ 1073741824) :
    Calls Tryd.prog 35 #[.string s, .int .i64 24, .func (.func 27) #[] #[]] w fun e w' => e = .returned (.bool ((L s).all signB && decide (1 ≤ (L s).length ∧ (L s).length ≤ 24))) ∧ Below w.heap.size w w' := by
  have HE := Lib.hid hE; clear hE
  rw [L_length]
  obtain ⟨A, hA⟩ := name_it ((L s).all signB)
  rw [hA.out]
  go_enter Tryd.func35, Tryd.ntmps35
  go_wp2_with fail
  go_loopw [7, 10] (fun _ i wr => ∃ k : Nat, k ≤ s.size ∧ i = .int .i64 k ∧ Hid (((L s).drop k).all signB = A) ∧ Hid (Below w.heap.size w wr)) (fun _ i _ => s.size - (intOf i).toNat)
  case atStart => exact ⟨0, Nat.zero_le _, rfl, hA, Below.refl _ _⟩
  clear hA
  case round =>
    obtain ⟨k, hk, rfl, hr, hbr⟩ := hrel
    obtain ⟨wq, hwq⟩ : ∃ wq, wq = wr := ⟨wr, rfl⟩
    subst hwq
    by_cases hlt : k < s.size
    · have hr2 := hr.out
      rw [L_drop hlt, List.all_cons] at hr2
      have HM := Lib.hid (fun wx hx => issign_any s[k] wx hx)
      cases hb : signB s[k] with
      | true =>
        rw [hb] at hr2 HM
        have HR : Hid (((L s).drop (k + 1)).all signB = A) := by unfold Hid; rw [← hr2]; rfl
        clear hr hr2 hb
        go_wp2_with fail
        refine (HM.out _ (HE.out.next hbr.out)).mono ?_; rintro e wv ⟨rfl, hbv⟩
        go_wp2_with fail
        go_roundw
        case rel => exact ⟨k + 1, by omega, by go_num, HR, (hbr.out.trans (hbv.mono hbr.out.size))⟩
        case measure => simp [intOf]; omega
      | false =>
        rw [hb] at hr2 HM
        have hf : Hid (A = false) := by rw [← hr2]; rfl
        clear hr hr2 hb
        go_wp2_with fail
        refine (HM.out _ (HE.out.next hbr.out)).mono ?_; rintro e wv ⟨rfl, hbv⟩
        go_wp2_with fail
        go_ret
        exact ⟨ret_bool (by rw [hf.out, Bool.false_and]), (hbr.out.trans (hbv.mono hbr.out.size))⟩
    · obtain rfl : k = s.size := by omega
      rw [L_drop_all] at hr
      have hf : Hid (A = true) := hr.out.symm
      clear hr
      by_cases h1 : 1 ≤ s.size
      · by_cases h2 : s.size ≤ 24
        · have hz : Hid ((A && decide (1 ≤ s.size ∧ s.size ≤ 24)) = true) := by unfold Hid; rw [hf.out, decide_eq_true ⟨h1, h2⟩]; rfl
          go_wp2_with fail
          all_goals (try (exfalso; omega))
          all_goals go_ret
          all_goals exact ⟨ret_bool (by first | rfl | (rw [hz.out]; first | rfl | (simp; omega))), hbr.out⟩
        · have hz : Hid ((A && decide (1 ≤ s.size ∧ s.size ≤ 24)) = false) := by unfold Hid; rw [hf.out, decide_eq_false (fun h => h2 h.2)]; rfl
          go_wp2_with fail
          all_goals (try (exfalso; omega))
          all_goals go_ret
          all_goals exact ⟨ret_bool (by first | rfl | (rw [hz.out]; first | rfl | (simp; omega))), hbr.out⟩
      · have hz : Hid ((A && decide (1 ≤ s.size ∧ s.size ≤ 24)) = false) := by unfold Hid; rw [hf.out, decide_eq_false (fun h => h1 h.1)]; rfl
        go_wp2_with fail
        all_goals (try (exfalso; omega))
        all_goals go_ret
        all_goals exact ⟨ret_bool (by first | rfl | (rw [hz.out]; first | rfl | (simp; omega))), hbr.out⟩

set_option maxRecDepth 100000 in
theorem alltgt_any (s : ByteArray) (w : World) (hs : s.size ≤ 1073741824) :
    Calls Tryd.prog 35 #[.string s, .int .i64 65536, .func (.func 36) #[] #[]] w fun e w' => e = .returned (.bool ((L s).all tgtB && decide (1 ≤ (L s).length ∧ (L s).length ≤ 65536))) ∧ Below w.heap.size w w' := by
  rw [L_length]
  obtain ⟨A, hA⟩ := name_it ((L s).all tgtB)
  rw [hA.out]
  go_enter Tryd.func35, Tryd.ntmps35
  go_wp2_with fail
  go_loopw [7, 10] (fun _ i wr => ∃ k : Nat, k ≤ s.size ∧ i = .int .i64 k ∧ Hid (((L s).drop k).all tgtB = A) ∧ Hid (Below w.heap.size w wr)) (fun _ i _ => s.size - (intOf i).toNat)
  case atStart => exact ⟨0, Nat.zero_le _, rfl, hA, Below.refl _ _⟩
  clear hA
  case round =>
    obtain ⟨k, hk, rfl, hr, hbr⟩ := hrel
    obtain ⟨wq, hwq⟩ : ∃ wq, wq = wr := ⟨wr, rfl⟩
    subst hwq
    by_cases hlt : k < s.size
    · have hr2 := hr.out
      rw [L_drop hlt, List.all_cons] at hr2
      have HM := Lib.hid (fun wx (_ : True) => istarget_any s[k] wx)
      cases hb : tgtB s[k] with
      | true =>
        rw [hb] at hr2 HM
        have HR : Hid (((L s).drop (k + 1)).all tgtB = A) := by unfold Hid; rw [← hr2]; rfl
        clear hr hr2 hb
        go_wp2_with fail
        refine (HM.out _ trivial).mono ?_; rintro e w' ⟨rfl, rfl⟩
        go_wp2_with fail
        go_roundw
        case rel => exact ⟨k + 1, by omega, by go_num, HR, hbr.out⟩
        case measure => simp [intOf]; omega
      | false =>
        rw [hb] at hr2 HM
        have hf : Hid (A = false) := by rw [← hr2]; rfl
        clear hr hr2 hb
        go_wp2_with fail
        refine (HM.out _ trivial).mono ?_; rintro e w' ⟨rfl, rfl⟩
        go_wp2_with fail
        go_ret
        exact ⟨ret_bool (by rw [hf.out, Bool.false_and]), hbr.out⟩
    · obtain rfl : k = s.size := by omega
      rw [L_drop_all] at hr
      have hf : Hid (A = true) := hr.out.symm
      clear hr
      by_cases h1 : 1 ≤ s.size
      · by_cases h2 : s.size ≤ 65536
        · have hz : Hid ((A && decide (1 ≤ s.size ∧ s.size ≤ 65536)) = true) := by unfold Hid; rw [hf.out, decide_eq_true ⟨h1, h2⟩]; rfl
          go_wp2_with fail
          all_goals (try (exfalso; omega))
          all_goals go_ret
          all_goals exact ⟨ret_bool (by first | rfl | (rw [hz.out]; first | rfl | (simp; omega))), hbr.out⟩
        · have hz : Hid ((A && decide (1 ≤ s.size ∧ s.size ≤ 65536)) = false) := by unfold Hid; rw [hf.out, decide_eq_false (fun h => h2 h.2)]; rfl
          go_wp2_with fail
          all_goals (try (exfalso; omega))
          all_goals go_ret
          all_goals exact ⟨ret_bool (by first | rfl | (rw [hz.out]; first | rfl | (simp; omega))), hbr.out⟩
      · have hz : Hid ((A && decide (1 ≤ s.size ∧ s.size ≤ 65536)) = false) := by unfold Hid; rw [hf.out, decide_eq_false (fun h => h1 h.1)]; rfl
        go_wp2_with fail
        all_goals (try (exfalso; omega))
        all_goals go_ret
        all_goals exact ⟨ret_bool (by first | rfl | (rw [hz.out]; first | rfl | (simp; omega))), hbr.out⟩

end Go.Proofs.YtfgaiopkclogmaaDoor
