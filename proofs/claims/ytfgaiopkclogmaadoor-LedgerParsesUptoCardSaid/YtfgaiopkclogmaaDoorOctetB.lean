/- Contracts of octet: classes of bytes, fields, decimal numbers (program and reference). -/
import Derived.Test.YtfgaiopkclogmaaDoorOctetA
import Derived.Test.YtfgaiopkclogmaaDoorShelf
namespace Go.Proofs.YtfgaiopkclogmaaDoor
open Go Go.RowKit
set_option maxHeartbeats 1000000

def isDig (c : UInt8) : Bool := decide (48 ≤ c.toNat ∧ c.toNat ≤ 57)
theorem isdigit_any (c : UInt8) (w : World) : Calls Tryd.prog 34 #[.int .u8 c.toNat] w fun e w' => e = .returned (.bool (isDig c)) ∧ w = w' := by
  obtain ⟨R, hR⟩ := name_it (isDig c)
  rw [hR.out]
  go_enter Tryd.func34, Tryd.ntmps34
  go_wp2
  all_goals go_ret
  all_goals exact ⟨ret_bool (by rw [← hR.out, Bool.eq_iff_iff]; simp [isDig]; omega), rfl⟩

def isFld (c : UInt8) : Bool := decide (c.toNat = 9 ∨ (32 ≤ c.toNat ∧ c.toNat ≠ 127))
theorem isfldbyte_any (c : UInt8) (w : World) : Calls Tryd.prog 54 #[.int .u8 c.toNat] w fun e w' => e = .returned (.bool (isFld c)) ∧ w = w' := by
  obtain ⟨R, hR⟩ := name_it (isFld c)
  rw [hR.out]
  go_enter Tryd.func54, Tryd.ntmps54
  go_wp2
  all_goals go_ret
  all_goals exact ⟨ret_bool (by rw [← hR.out, Bool.eq_iff_iff]; (try simp only [] at *); simp [isFld]; omega), rfl⟩
theorem isbyte_any (c : UInt8) (w : World) : Calls Tryd.prog 58 #[.int .u8 c.toNat] w fun e w' => e = .returned (.bool (isFld c)) ∧ w = w' := by
  obtain ⟨R, hR⟩ := name_it (isFld c)
  rw [hR.out]
  go_enter Tryd.func58, Tryd.ntmps58
  go_wp2
  all_goals go_ret
  all_goals exact ⟨ret_bool (by rw [← hR.out, Bool.eq_iff_iff]; (try simp only [] at *); simp [isFld]; omega), rfl⟩

theorem risfield_any (s : ByteArray) (w : World) (hs : s.size ≤ maxLen) : Calls Tryd.prog 45 #[.string s] w fun e w' => e = .returned (.bool ((L s).all isFld)) ∧ w = w' := by
  unfold maxLen at hs
  obtain ⟨R, hR⟩ := name_it ((L s).all isFld)
  rw [hR.out]
  go_enter Tryd.func45, Tryd.ntmps45
  go_wp2_with fail
  go_loop [3] (fun i => ∃ k : Nat, k ≤ s.size ∧ i = .int .i64 k ∧ Hid (((L s).drop k).all isFld = R)) (fun i => s.size - (intOf i).toNat)
  case atStart => exact ⟨0, Nat.zero_le _, rfl, hR⟩
  case round =>
    obtain ⟨k, hk, rfl, hr⟩ := hrel
    by_cases hlt : k < s.size
    · cases hb : isFld s[k]
      all_goals
        have hr2 := hr.out
        rw [L_drop hlt, List.all_cons, hb] at hr2
        have HR := Lib.hid hr2; clear hr2 hr
        go_wp2_with (go_at_call 58; refine (isbyte_any _ _).mono ?_; rintro e w' ⟨rfl, rfl⟩)
      · go_ret
        exact ⟨ret_bool (by rw [← HR.out]; rfl), rfl⟩
      · go_round
        case rel => exact ⟨k + 1, by omega, by go_num, Lib.hid (by have h := HR.out; simpa using h)⟩
        case measure => simp [intOf]; omega
    · obtain rfl : k = s.size := by omega
      rw [L_drop_all] at hr
      go_wp2_with fail
      go_ret
      exact ⟨ret_bool (by rw [← hr.out]; rfl), rfl⟩

theorem isfield_any (s : ByteArray) (w : World) (hs : s.size ≤ maxLen) : Calls Tryd.prog 37 #[.string s] w fun e w' => e = .returned (.bool ((L s).all isFld)) ∧ w = w' := by
  have s1 : (0 : Int) ≤ 1 := by omega
  have s2 : (0 : Int) ≤ 2 := by omega
  have s3 : (0 : Int) ≤ 3 := by omega
  unfold maxLen at hs
  obtain ⟨R, hR⟩ := name_it ((L s).all isFld)
  rw [hR.out]
  go_enter Tryd.func37, Tryd.ntmps37
  go_wp2_with fail
  go_loop [3, 6] (fun _ i => ∃ k : Nat, k ≤ s.size ∧ i = .int .i64 k ∧ Hid (((L s).drop k).all isFld = R)) (fun _ i => s.size - (intOf i).toNat)
  case atStart => exact ⟨0, Nat.zero_le _, rfl, hR⟩
  case round =>
    obtain ⟨k, hk, rfl, hr⟩ := hrel
    by_cases hlt : k < s.size
    · cases hb : isFld s[k]
      all_goals
        have hr2 := hr.out
        rw [L_drop hlt, List.all_cons, hb] at hr2
        have HR := Lib.hid hr2; clear hr2 hr
        go_wp2_with (go_at_call 54; refine (isfldbyte_any _ _).mono ?_; rintro e w' ⟨rfl, rfl⟩)
      · go_ret
        exact ⟨ret_bool (by rw [← HR.out]; rfl), rfl⟩
      · go_round
        case rel => exact ⟨k + 1, by omega, by go_num, Lib.hid (by have h := HR.out; simpa using h)⟩
        case measure => simp [intOf]; omega
    · obtain rfl : k = s.size := by omega
      rw [L_drop_all] at hr
      go_wp2_with fail
      go_ret
      exact ⟨ret_bool (by rw [← hr.out]; rfl), rfl⟩

/-! Decimal numbers. -/
def dg (c : UInt8) : Int := (c.toNat : Int) - 48
def valOf (l : List UInt8) : Int := l.foldl (fun n c => 10 * n + dg c) 0
theorem valOf_nil : valOf [] = 0 := rfl
theorem valOf_snoc (l : List UInt8) (c : UInt8) : valOf (l ++ [c]) = 10 * valOf l + dg c := by simp [valOf]
theorem dg_bd {c : UInt8} (h : isDig c = true) : 0 ≤ dg c ∧ dg c ≤ 9 := by simp [isDig] at h; unfold dg; omega
theorem valOf_nonneg : ∀ (l : List UInt8), l.all isDig = true → 0 ≤ valOf l := by
  intro l
  refine snoc_ind (P := fun l => l.all isDig = true → 0 ≤ valOf l) ?_ ?_ l
  · intro _; simp [valOf]
  · intro l c ih h
    simp only [List.all_append, Bool.and_eq_true, List.all_cons, List.all_nil, Bool.and_true] at h
    rw [valOf_snoc]
    have := ih h.1
    have := dg_bd h.2
    omega
theorem valOf_take (l : List UInt8) (h : l.all isDig = true) : ∀ k, valOf (l.take k) ≤ valOf l := by
  revert h
  refine snoc_ind (P := fun l => l.all isDig = true → ∀ k, valOf (l.take k) ≤ valOf l) ?_ ?_ l
  · intro _ k; simp
  · intro l c ih h k
    simp only [List.all_append, Bool.and_eq_true, List.all_cons, List.all_nil, Bool.and_true] at h
    by_cases hk : k ≤ l.length
    · rw [List.take_append_of_le_length hk, valOf_snoc]
      have := ih h.1 k
      have := valOf_nonneg l h.1
      have := dg_bd h.2
      omega
    · rw [List.take_of_length_le (by simp; omega)]; exact Int.le_refl _
def decE (l : List UInt8) (most : Int) : Int := if l = [] ∨ l.all isDig = false then 11 else if valOf l ≤ most then 0 else 12
def decN (l : List UInt8) (most : Int) : Int := if decE l most = 0 then valOf l else 0

def hexDigits : ByteArray := ⟨#[48, 49, 50, 51, 52, 53, 54, 55, 56, 57, 97, 98, 99, 100, 101, 102]⟩
theorem one_size (x : UInt8) : 0 < (bs [x]).size := by rw [size_bs]; simp
theorem one_get (x : UInt8) (h : 0 < (bs [x]).size) : (bs [x])[0] = x := rfl
end Go.Proofs.YtfgaiopkclogmaaDoor
