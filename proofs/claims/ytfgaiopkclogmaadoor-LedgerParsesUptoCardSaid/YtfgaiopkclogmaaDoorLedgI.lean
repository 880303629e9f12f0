/- Contracts of the document: a sign of tokens. -/
import Derived.Test.YtfgaiopkclogmaaDoorLedgR
namespace Go.Proofs.YtfgaiopkclogmaaDoor
open Go Go.RowKit
set_option maxHeartbeats 4000000

set_option maxRecDepth 100000 in
theorem rissign_any (c : UInt8) (w : World) : Calls Tryd.prog 52 #[.int .u8 c.toNat] w fun e w' => e = .returned (.bool (signB c)) ∧ Below w.heap.size w w' := by
  have hR0 : signB c = ((isDig c || isLet c) || signL.any (· == c)) := rfl
  rw [hR0]
  have C1 := Lib.hid (isdigit_any c w)
  have C2 := Lib.hid (isletter_any c w)
  obtain ⟨dg, hdg⟩ := name_it (isDig c)
  obtain ⟨lt, hlt1⟩ := name_it (isLet c)
  rw [hdg.out] at C1 ⊢
  rw [hlt1.out] at C2 ⊢
  clear hR0 hdg hlt1
  obtain ⟨A, hA⟩ := name_it (signL.any (· == c))
  rw [hA.out]
  cases dg with
  | true =>
    go_enter Tryd.func52, Tryd.ntmps52
    go_wp2_with fail
    refine C1.out.mono ?_; rintro e w' ⟨rfl, rfl⟩
    go_wp2_with fail
    go_ret
    exact ⟨rfl, Below.refl _ _⟩
  | false =>
    cases lt with
    | true =>
      go_enter Tryd.func52, Tryd.ntmps52
      go_wp2_with fail
      refine C1.out.mono ?_; rintro e w' ⟨rfl, rfl⟩
      go_wp2_with fail
      refine C2.out.mono ?_; rintro e w' ⟨rfl, rfl⟩
      go_wp2_with fail
      go_ret
      exact ⟨rfl, Below.refl _ _⟩
    | false =>
      rw [show ((false || false) || A) = A from rfl]
      go_enter Tryd.func52, Tryd.ntmps52
      go_wp2_with fail
      refine C1.out.mono ?_; rintro e w' ⟨rfl, rfl⟩
      go_wp2_with fail
      refine C2.out.mono ?_; rintro e w' ⟨rfl, rfl⟩
      go_wp2_with fail
      go_loopw [4] (fun j wq => ∃ m : Nat, m ≤ 15 ∧ j = .int .i64 m ∧ Hid ((signL.take m).any (· == c) = false) ∧ Below w.heap.size w wq) (fun j _ => 15 - (intOf j).toNat)
      case atStart => exact ⟨0, by omega, rfl, rfl, Below.refl _ _⟩
      case round =>
        obtain ⟨m, hm, rfl, hno, hbq⟩ := hrel
        by_cases hm2 : m < 15
        · have hlm : m < signL.length := hm2
          have hst : (signL.take (m + 1)).any (· == c) = (signL[m] == c) := by
            rw [List.take_succ_eq_append_getElem hlm, List.any_append, hno.out]; simp
          have hsz : (⟨#[33, 35, 36, 37, 38, 39, 42, 43, 45, 46, 94, 95, 96, 124, 126]⟩ : ByteArray).size = 15 := rfl
          have hq : Hid (signL[m] = (⟨#[33, 35, 36, 37, 38, 39, 42, 43, 45, 46, 94, 95, 96, 124, 126]⟩ : ByteArray)[m]'(by rw [hsz]; exact hm2)) := rfl
          have d1 : (0 : Int) ≤ (m : Int) := by omega
          have d2 : (m : Int) < 15 := by omega
          by_cases he : signL[m] = c
          · have hf : Hid (A = true) := by
              rw [← hA.out]
              exact List.any_eq_true.2 ⟨signL[m], List.getElem_mem hlm, by rw [he]; exact beq_self_eq_true _⟩
            have he2 : (((⟨#[33, 35, 36, 37, 38, 39, 42, 43, 45, 46, 94, 95, 96, 124, 126]⟩ : ByteArray)[m]'(by rw [hsz]; exact hm2)).toNat : Int) = (c.toNat : Int) := by rw [← hq.out, he]
            clear he hst hA hq
            go_wp2_with fail
            all_goals (try (exfalso; omega))
            go_ret
            exact ⟨ret_bool hf.out.symm, hbq⟩
          · have hf : Hid ((signL.take (m + 1)).any (· == c) = false) := by unfold Hid; rw [hst]; exact beq_eq_false_iff_ne.2 he
            have he2 : ¬ (((⟨#[33, 35, 36, 37, 38, 39, 42, 43, 45, 46, 94, 95, 96, 124, 126]⟩ : ByteArray)[m]'(by rw [hsz]; exact hm2)).toNat : Int) = (c.toNat : Int) := by
              rw [← hq.out]; intro e; exact he (UInt8.toNat_inj.1 (by omega))
            clear he hst hA hq
            go_wp2_with fail
            all_goals (try (exfalso; omega))
            go_roundw
            case rel => exact ⟨m + 1, by omega, by go_num, hf, hbq⟩
            case measure => simp [intOf]; omega
        · obtain rfl : m = 15 := by omega
          have hf : Hid (A = false) := by rw [← hA.out]; exact hno.out
          clear hA hno
          go_wp2_with fail
          go_ret
          exact ⟨ret_bool hf.out.symm, hbq⟩
end Go.Proofs.YtfgaiopkclogmaaDoor
