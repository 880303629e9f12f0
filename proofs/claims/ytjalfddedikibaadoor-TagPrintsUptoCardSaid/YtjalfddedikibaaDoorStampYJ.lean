/- Contracts of stamp's two and of the library's Itoa and Repeat as stamp uses them; what the package's tables hold. -/
import Derived.Test.YtjalfddedikibaaDoorShelf
import Derived.Test.YtjalfddedikibaaDoorMc
import Derived.Test.YtjalfddedikibaaDoorStampXbJ
import Derived.Lib.ItoaLen
namespace Go.Proofs.YtjalfddedikibaaDoor
open Go Go.RowKit
set_option maxHeartbeats 1000000


theorem dec1 (n : Nat) (h : n ≤ 9) : Lib.decDigits n = [UInt8.ofNat (48 + n)] := by
  rw [Lib.decDigits, dif_pos (show n < 10 by omega)]
theorem decS (n : Nat) (h : 10 ≤ n) : Lib.decDigits n = Lib.decDigits (n / 10) ++ [UInt8.ofNat (48 + n % 10)] := by
  rw [Lib.decDigits, dif_neg (show ¬ n < 10 by omega)]
theorem dec_two (n : Nat) (h : 10 ≤ n) (h1 : n ≤ 99) : Lib.decDigits n = Stm.d2 n := by
  rw [decS n h, dec1 _ (by omega)]
  unfold Stm.d2
  rw [show ((n : Int) / 10).toNat = n / 10 by omega, show ((n : Int) % 10).toNat = n % 10 by omega]
  rfl
/-- a number of two digits, of another sign in place of a 0 ahead -/
def twoL (c : UInt8) (n : Int) : List UInt8 := if n < 10 then c :: [UInt8.ofNat (48 + n.toNat)] else Stm.d2 n
theorem twoL_len (c : UInt8) (n : Int) : (twoL c n).length = 2 := by unfold twoL; split <;> rfl
theorem twoL_48 (n : Int) (h0 : 0 ≤ n) : twoL 48 n = Stm.d2 n := by
  unfold twoL
  split
  · unfold Stm.d2
    rw [show (n / 10).toNat = 0 by omega, show n % 10 = n by omega]; rfl
  · rfl
theorem grow_below (w : World) (k : Nat) (os : Array Obj) : Below w.heap.size w (Sort.grow (w.drewN k) os) :=
  ⟨rfl, rfl, rfl, by show w.heap.size ≤ (w.heap ++ os).size; rw [Array.size_append]; omega, fun j hj => by
    show (w.heap ++ os)[j]? = _
    rw [Array.getElem?_append_left hj]⟩
def itoaL (n : Int) : List UInt8 := Lib.itoa n
theorem itoa_four (n : Int) (h0 : 1 ≤ n) (h1 : n ≤ 9999) : (itoaL n).length ≤ 4 ∧ 1 ≤ (itoaL n).length ∧ List.replicate (4 - (itoaL n).length) 48 ++ itoaL n = Stm.d4 n := by
  obtain ⟨k, rfl⟩ := Int.eq_ofNat_of_zero_le (show 0 ≤ n by omega)
  have e : itoaL k = Lib.decDigits k := by unfold itoaL Lib.itoa; rw [if_neg (by omega)]; rfl
  rw [e]
  have hd : Stm.d4 k = [UInt8.ofNat (48 + k / 1000), UInt8.ofNat (48 + k / 100 % 10), UInt8.ofNat (48 + k / 10 % 10), UInt8.ofNat (48 + k % 10)] := by
    unfold Stm.d4 Stm.d2
    rw [show ((k : Int) / 100 / 10).toNat = k / 1000 by omega, show ((k : Int) / 100 % 10).toNat = k / 100 % 10 by omega, show ((k : Int) % 100 / 10).toNat = k / 10 % 10 by omega, show ((k : Int) % 100 % 10).toNat = k % 10 by omega]
    rfl
  rw [hd]
  by_cases a : k ≤ 9
  · rw [dec1 k a, show k / 1000 = 0 by omega, show k / 100 % 10 = 0 by omega, show k / 10 % 10 = 0 by omega, show k % 10 = k by omega]
    exact ⟨by simp, by simp, rfl⟩
  · by_cases b : k ≤ 99
    · rw [decS k (by omega), dec1 (k / 10) (by omega), show k / 1000 = 0 by omega, show k / 100 % 10 = 0 by omega, show k / 10 % 10 = k / 10 by omega]
      exact ⟨by simp, by simp, rfl⟩
    · by_cases c : k ≤ 999
      · rw [decS k (by omega), decS (k / 10) (by omega), dec1 (k / 10 / 10) (by omega), show k / 1000 = 0 by omega, show k / 100 % 10 = k / 10 / 10 by omega]
        exact ⟨by simp, by simp, rfl⟩
      · rw [decS k (by omega), decS (k / 10) (by omega), decS (k / 10 / 10) (by omega), dec1 (k / 10 / 10 / 10) (by omega), show k / 1000 = k / 10 / 10 / 10 by omega, show k / 100 % 10 = k / 10 / 10 % 10 by omega]
        exact ⟨by simp, by simp, rfl⟩
end Go.Proofs.YtjalfddedikibaaDoor
