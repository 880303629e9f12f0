/- Contracts of the document: a sign of tokens. Contracts of the document: names and tokens. -/
import Derived.Test.YtfgaiopkclogmaaGreatDoorMb
import Derived.Test.YtfgaiopkclogmaaGreatDoorMc
namespace Go.Proofs.YtfgaiopkclogmaaGreatDoor
open Go Go.RowKit
set_option maxHeartbeats 4000000

set_option maxRecDepth 100000 in
theorem rissign_any (c : UInt8) (w : World) : Calls Tryz.prog 64 #[.int .u8 c.toNat] w fun e w' => e = .returned (.bool (signB c)) ∧ Below w.heap.size w w' := by
  have hR0 : signB c = ((isDig c || isLet c) || signL.any (· == c)) := rfl
  rw [hR0]
  have C1 := Lib.hid (isdigit_any c w)
  have C2 := Lib.hid (isletter_any c w)
  obtain ⟨dg, hdg⟩ := name_it (isDig c)
  obtain ⟨lt, hlt1⟩ := name_it (isLet c)
  rw [hdg.out] at C1 ⊢
  rw [hlt1.out] at C2 ⊢
  clear hR0 hdg hlt1
  obtain ⟨A, hA⟩ := name_it (signL.any (· == c))
  rw [hA.out]
  cases dg with
  | true =>
    go_enter Tryz.func64, Tryz.ntmps64
    go_wp2_with fail
    refine C1.out.mono ?_; rintro e w' ⟨rfl, rfl⟩
    go_wp2_with fail
    go_ret
    exact ⟨rfl, Below.refl _ _⟩
  | false =>
    cases lt with
    | true =>
      go_enter Tryz.func64, Tryz.ntmps64
      go_wp2_with fail
      refine C1.out.mono ?_; rintro e w' ⟨rfl, rfl⟩
      go_wp2_with fail
      refine C2.out.mono ?_; rintro e w' ⟨rfl, rfl⟩
      go_wp2_with fail
      go_ret
      exact ⟨rfl, Below.refl _ _⟩
    | false =>
      rw [show ((false || false) || A) = A from rfl]
      go_enter Tryz.func64, Tryz.ntmps64
      go_wp2_with fail
      refine C1.out.mono ?_; rintro e w' ⟨rfl, rfl⟩
      go_wp2_with fail
      refine C2.out.mono ?_; rintro e w' ⟨rfl, rfl⟩
      go_wp2_with fail
      go_loopw [4] (fun j wq => ∃ m : Nat, m ≤ 15 ∧ j = .int .i64 m ∧ Hid ((signL.take m).any (· == c) = false) ∧ Below w.heap.size w wq) (fun j _ => 15 - (intOf j).toNat)
      case atStart => exact ⟨0, by omega, rfl, rfl, Below.refl _ _⟩
      case round =>
        obtain ⟨m, hm, rfl, hno, hbq⟩ := hrel
        by_cases hm2 : m < 15
        · have hlm : m < signL.length := hm2
          have hst : (signL.take (m + 1)).any (· == c) = (signL[m] == c) := by
            rw [List.take_succ_eq_append_getElem hlm, List.any_append, hno.out]; simp
          have hsz : (⟨#[33, 35, 36, 37, 38, 39, 42, 43, 45, 46, 94, 95, 96, 124, 126]⟩ : ByteArray).size = 15 := rfl
          have hq : Hid (signL[m] = (⟨#[33, 35, 36, 37, 38, 39, 42, 43, 45, 46, 94, 95, 96, 124, 126]⟩ : ByteArray)[m]'(by rw [hsz]; exact hm2)) := rfl
          have d1 : (0 : Int) ≤ (m : Int) := by omega
          have d2 : (m : Int) < 15 := by omega
          by_cases he : signL[m] = c
          · have hf : Hid (A = true) := by
              rw [← hA.out]
              exact List.any_eq_true.2 ⟨signL[m], List.getElem_mem hlm, by rw [he]; exact beq_self_eq_true _⟩
            have he2 : (((⟨#[33, 35, 36, 37, 38, 39, 42, 43, 45, 46, 94, 95, 96, 124, 126]⟩ : ByteArray)[m]'(by rw [hsz]; exact hm2)).toNat : Int) = (c.toNat : Int) := by rw [← hq.out, he]
            clear he hst hA hq
            go_wp2_with fail
            all_goals (try (exfalso; omega))
            go_ret
            exact ⟨ret_bool hf.out.symm, hbq⟩
          · have hf : Hid ((signL.take (m + 1)).any (· == c) = false) := by unfold Hid; rw [hst]; exact beq_eq_false_iff_ne.2 he
            have he2 : ¬ (((⟨#[33, 35, 36, 37, 38, 39, 42, 43, 45, 46, 94, 95, 96, 124, 126]⟩ : ByteArray)[m]'(by rw [hsz]; exact hm2)).toNat : Int) = (c.toNat : Int) := by
              rw [← hq.out]; intro e; exact he (UInt8.toNat_inj.1 (by omega))
            clear he hst hA hq
            go_wp2_with fail
            all_goals (try (exfalso; omega))
            go_roundw
            case rel => exact ⟨m + 1, by omega, by go_num, hf, hbq⟩
            case measure => simp [intOf]; omega
        · obtain rfl : m = 15 := by omega
          have hf : Hid (A = false) := by rw [← hA.out]; exact hno.out
          clear hA hno
          go_wp2_with fail
          go_ret
          exact ⟨ret_bool hf.out.symm, hbq⟩
end Go.Proofs.YtfgaiopkclogmaaGreatDoor
namespace Go.Proofs.YtfgaiopkclogmaaGreatDoor
open Go Go.RowKit
set_option maxHeartbeats 4000000

set_option maxRecDepth 100000 in
theorem risname_any (s : ByteArray) (w : World) (hs : s.size ≤ 1073741824) : Calls Tryz.prog 60 #[.string s] w fun e w' => e = .returned (.bool ((L s).all nameB && decide (1 ≤ (L s).length ∧ (L s).length ≤ 64))) ∧ w = w' := by
  rw [L_length]
  obtain ⟨A, hA⟩ := name_it ((L s).all nameB)
  rw [hA.out]
  go_enter Tryz.func60, Tryz.ntmps60
  go_wp2_with fail
  go_loop [3] (fun i => ∃ k : Nat, k ≤ s.size ∧ i = .int .i64 k ∧ Hid (((L s).drop k).all nameB = A)) (fun i => s.size - (intOf i).toNat)
  case atStart => exact ⟨0, Nat.zero_le _, rfl, hA⟩
  clear hA
  case round =>
    obtain ⟨k, hk, rfl, hr⟩ := hrel
    by_cases hlt : k < s.size
    · have hr2 := hr.out
      rw [L_drop hlt, List.all_cons] at hr2
      have HM := Lib.hid (rname_any s[k] w)
      cases hb : nameB s[k] with
      | true =>
        rw [hb] at hr2 HM
        have HR : Hid (((L s).drop (k + 1)).all nameB = A) := by unfold Hid; rw [← hr2]; rfl
        clear hr hr2 hb
        go_wp2_with fail
        refine HM.out.mono ?_; rintro e w' ⟨rfl, rfl⟩
        go_wp2_with fail
        go_round
        case rel => exact ⟨k + 1, by omega, by go_num, HR⟩
        case measure => simp [intOf]; omega
      | false =>
        rw [hb] at hr2 HM
        have hf : Hid (A = false) := by rw [← hr2]; rfl
        clear hr hr2 hb
        go_wp2_with fail
        refine HM.out.mono ?_; rintro e w' ⟨rfl, rfl⟩
        go_wp2_with fail
        go_ret
        exact ⟨ret_bool (by rw [hf.out, Bool.false_and]), rfl⟩
    · obtain rfl : k = s.size := by omega
      rw [L_drop_all] at hr
      have hf : Hid (A = true) := hr.out.symm
      clear hr
      by_cases h1 : 1 ≤ s.size
      · by_cases h2 : s.size ≤ 64
        · have hz : Hid ((A && decide (1 ≤ s.size ∧ s.size ≤ 64)) = true) := by unfold Hid; rw [hf.out, decide_eq_true ⟨h1, h2⟩]; rfl
          go_wp2_with fail
          all_goals (try (exfalso; omega))
          all_goals go_ret
          all_goals exact ⟨ret_bool (by first | rfl | (rw [hz.out]; exact decide_eq_true (by omega)) | (rw [hz.out]; exact decide_eq_false (by omega)) | (rw [hf.out]; exact decide_eq_true (by omega)) | exact decide_eq_false (by omega)), rfl⟩
        · have hz : Hid ((A && decide (1 ≤ s.size ∧ s.size ≤ 64)) = false) := by unfold Hid; rw [hf.out, decide_eq_false (fun h => h2 h.2)]; rfl
          go_wp2_with fail
          all_goals (try (exfalso; omega))
          all_goals go_ret
          all_goals exact ⟨ret_bool (by first | rfl | (rw [hz.out]; exact decide_eq_true (by omega)) | (rw [hz.out]; exact decide_eq_false (by omega)) | (rw [hf.out]; exact decide_eq_true (by omega)) | exact decide_eq_false (by omega)), rfl⟩
      · have hz : Hid ((A && decide (1 ≤ s.size ∧ s.size ≤ 64)) = false) := by unfold Hid; rw [hf.out, decide_eq_false (fun h => h1 h.1)]; rfl
        go_wp2_with fail
        all_goals (try (exfalso; omega))
        all_goals go_ret
        all_goals exact ⟨ret_bool (by first | rfl | (rw [hz.out]; exact decide_eq_true (by omega)) | (rw [hz.out]; exact decide_eq_false (by omega)) | (rw [hf.out]; exact decide_eq_true (by omega)) | exact decide_eq_false (by omega)), rfl⟩

set_option maxRecDepth 100000 in
theorem ristoken_any (s : ByteArray) (w : World) (hs : s.size ≤ 1073741824) : Calls Tryz.prog 61 #[.string s] w fun e w' => e = .returned (.bool ((L s).all signB && decide (L s ≠ []))) ∧ Below w.heap.size w w' := by
  obtain ⟨A, hA⟩ := name_it ((L s).all signB)
  rw [hA.out]
  go_enter Tryz.func61, Tryz.ntmps61
  go_wp2_with fail
  go_loopw [3] (fun i wr => ∃ k : Nat, k ≤ s.size ∧ i = .int .i64 k ∧ Hid (((L s).drop k).all signB = A) ∧ Hid (Below w.heap.size w wr)) (fun i _ => s.size - (intOf i).toNat)
  case atStart => exact ⟨0, Nat.zero_le _, rfl, hA, Below.refl _ _⟩
  clear hA
  case round =>
    obtain ⟨k, hk, rfl, hr, hbr⟩ := hrel
    obtain ⟨wq, hwq⟩ : ∃ wq, wq = wr := ⟨wr, rfl⟩
    subst hwq
    by_cases hlt : k < s.size
    · have hr2 := hr.out
      rw [L_drop hlt, List.all_cons] at hr2
      have HM := Lib.hid (rissign_any s[k] wq)
      cases hb : signB s[k] with
      | true =>
        rw [hb] at hr2 HM
        have HR : Hid (((L s).drop (k + 1)).all signB = A) := by unfold Hid; rw [← hr2]; rfl
        clear hr hr2 hb
        go_wp2_with fail
        refine HM.out.mono ?_; rintro e wv ⟨rfl, hbv⟩
        go_wp2_with fail
        go_roundw
        case rel => exact ⟨k + 1, by omega, by go_num, HR, hbr.out.trans (hbv.mono hbr.out.size)⟩
        case measure => simp [intOf]; omega
      | false =>
        rw [hb] at hr2 HM
        have hf : Hid (A = false) := by rw [← hr2]; rfl
        clear hr hr2 hb
        go_wp2_with fail
        refine HM.out.mono ?_; rintro e wv ⟨rfl, hbv⟩
        go_wp2_with fail
        go_ret
        exact ⟨ret_bool (by rw [hf.out, Bool.false_and]), hbr.out.trans (hbv.mono hbr.out.size)⟩
    · obtain rfl : k = s.size := by omega
      rw [L_drop_all] at hr
      have hf : Hid (A = true) := hr.out.symm
      clear hr
      go_wp2_with fail
      go_ret
      exact ⟨ret_bool (by rw [hf.out, Bool.true_and]; (try simp only []); simp; exact str_empty s), hbr.out⟩
end Go.Proofs.YtfgaiopkclogmaaGreatDoor
