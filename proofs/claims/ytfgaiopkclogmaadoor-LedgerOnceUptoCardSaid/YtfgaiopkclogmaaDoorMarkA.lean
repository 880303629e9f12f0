/- Contracts: is a text a boundary (program and document). -/
import Derived.Test.YtfgaiopkclogmaaDoorOctetB
import Derived.BigQuiet
namespace Go.Proofs.YtfgaiopkclogmaaDoor
open Go Go.RowKit
set_option maxHeartbeats 2000000

def isLet (c : UInt8) : Bool := decide ((65 ≤ c.toNat ∧ c.toNat ≤ 90) ∨ (97 ≤ c.toNat ∧ c.toNat ≤ 122))
theorem isletter_any (c : UInt8) (w : World) : Calls Tryd.prog 65 #[.int .u8 c.toNat] w fun e w' => e = .returned (.bool (isLet c)) ∧ w = w' := by
  obtain ⟨R, hR⟩ := name_it (isLet c)
  rw [hR.out]
  go_enter Tryd.func65, Tryd.ntmps65
  go_wp2
  all_goals go_ret
  all_goals exact ⟨ret_bool (by rw [← hR.out, Bool.eq_iff_iff]; simp [isLet]; omega), rfl⟩
def marksB : ByteArray := ⟨#[39, 40, 41, 43, 95, 44, 45, 46, 47, 58, 61, 63]⟩
def marksL : List UInt8 := [39, 40, 41, 43, 95, 44, 45, 46, 47, 58, 61, 63]
def specB (c : UInt8) : Bool := marksL.any (· == c)
def markB (c : UInt8) : Bool := (isLet c || isDig c) || specB c
def isMk (l : List UInt8) : Bool := l.all markB && decide (1 ≤ l.length ∧ l.length ≤ 70)
theorem letdig_cases (c : UInt8) : ((isLet c || isDig c) = true ∧ ((97 ≤ c.toNat ∧ c.toNat ≤ 122) ∨ (65 ≤ c.toNat ∧ c.toNat ≤ 90) ∨ (48 ≤ c.toNat ∧ c.toNat ≤ 57)))
    ∨ ((isLet c || isDig c) = false ∧ (c.toNat < 48 ∨ (57 < c.toNat ∧ c.toNat < 65) ∨ (90 < c.toNat ∧ c.toNat < 97) ∨ 122 < c.toNat)) := by
  cases h : (isLet c || isDig c)
  · refine Or.inr ⟨rfl, ?_⟩
    simp [isLet, isDig] at h
    omega
  · refine Or.inl ⟨rfl, ?_⟩
    simp [isLet, isDig] at h
    omega

end Go.Proofs.YtfgaiopkclogmaaDoor
