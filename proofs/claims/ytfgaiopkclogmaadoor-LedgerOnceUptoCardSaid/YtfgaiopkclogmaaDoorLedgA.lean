/- Contracts of ledger: classes of bytes; a fixed text that must stand at a place. -/
import Derived.Test.YtfgaiopkclogmaaDoorLedgR
namespace Go.Proofs.YtfgaiopkclogmaaDoor
open Go Go.RowKit
set_option maxHeartbeats 2000000

def nameN (n : Nat) : Bool := decide ((97 ≤ n ∧ n ≤ 122) ∨ (65 ≤ n ∧ n ≤ 90) ∨ (48 ≤ n ∧ n ≤ 57) ∨ n = 45 ∨ n = 95 ∨ n = 46)
theorem nameN_all : ∀ p : Fin 256, nameB (UInt8.ofNat p.val) = nameN (UInt8.ofNat p.val).toNat := by decide +kernel
theorem nameN_of (c : UInt8) : nameB c = nameN c.toNat := by
  have := nameN_all ⟨c.toNat, c.toNat_lt⟩
  rw [show UInt8.ofNat (Fin.val (⟨c.toNat, c.toNat_lt⟩ : Fin 256)) = c from UInt8.ofNat_toNat] at this
  exact this
theorem isname_any (c : UInt8) (w : World) : Calls Tryd.prog 24 #[.int .u8 c.toNat] w fun e w' => e = .returned (.bool (nameB c)) ∧ w = w' := by
  rw [nameN_of]
  obtain ⟨R, hR⟩ := name_it (nameN c.toNat)
  rw [hR.out]
  go_enter Tryd.func24, Tryd.ntmps24
  go_wp2
  all_goals go_ret
  all_goals exact ⟨ret_bool (by rw [← hR.out, Bool.eq_iff_iff]; (try simp only [] at *); simp [nameN]; omega), rfl⟩
theorem istarget_any (c : UInt8) (w : World) : Calls Tryd.prog 36 #[.int .u8 c.toNat] w fun e w' => e = .returned (.bool (tgtB c)) ∧ w = w' := by
  obtain ⟨R, hR⟩ := name_it (tgtB c)
  rw [hR.out]
  go_enter Tryd.func36, Tryd.ntmps36
  go_wp2
  all_goals go_ret
  all_goals exact ⟨ret_bool (by rw [← hR.out, Bool.eq_iff_iff]; (try simp only [] at *); simp [tgtB]; omega), rfl⟩
theorem rname_any (c : UInt8) (w : World) : Calls Tryd.prog 53 #[.int .u8 c.toNat] w fun e w' => e = .returned (.bool (nameB c)) ∧ w = w' := by
  rw [nameN_of]
  obtain ⟨R, hR⟩ := name_it (nameN c.toNat)
  rw [hR.out]
  cases h1 : isLet c
  · cases h2 : isDig c
    · have HL := Lib.hid (isletter_any c w)
      have HD := Lib.hid (isdigit_any c w)
      rw [h1] at HL
      rw [h2] at HD
      go_enter Tryd.func53, Tryd.ntmps53
      go_wp2_with fail
      refine HL.out.mono ?_; rintro e w' ⟨rfl, rfl⟩
      go_wp2_with fail
      refine HD.out.mono ?_; rintro e w' ⟨rfl, rfl⟩
      go_wp2_with fail
      all_goals go_ret
      all_goals exact ⟨ret_bool (by rw [← hR.out, Bool.eq_iff_iff]; unfold isLet at h1; unfold isDig at h2; simp at h1 h2; (try simp only [] at *); simp [nameN]; omega), rfl⟩
    · have HL := Lib.hid (isletter_any c w)
      have HD := Lib.hid (isdigit_any c w)
      rw [h1] at HL
      rw [h2] at HD
      go_enter Tryd.func53, Tryd.ntmps53
      go_wp2_with fail
      refine HL.out.mono ?_; rintro e w' ⟨rfl, rfl⟩
      go_wp2_with fail
      refine HD.out.mono ?_; rintro e w' ⟨rfl, rfl⟩
      go_wp2_with fail
      all_goals go_ret
      all_goals exact ⟨ret_bool (by rw [← hR.out, Bool.eq_iff_iff]; unfold isDig at h2; simp at h2; (try simp only [] at *); simp [nameN]; omega), rfl⟩
  · have HL := Lib.hid (isletter_any c w)
    rw [h1] at HL
    go_enter Tryd.func53, Tryd.ntmps53
    go_wp2_with fail
    refine HL.out.mono ?_; rintro e w' ⟨rfl, rfl⟩
    go_wp2_with fail
    all_goals go_ret
    all_goals exact ⟨ret_bool (by rw [← hR.out, Bool.eq_iff_iff]; unfold isLet at h1; simp at h1; (try simp only [] at *); simp [nameN]; omega), rfl⟩
end Go.Proofs.YtfgaiopkclogmaaDoor
