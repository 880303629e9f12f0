/- Contract of the document's Digits: a number's decimal numeral. -/
import Derived.Test.YtnodboggemggmaaGreatDoorOwn
import Derived.Lib.ItoaLen
import Derived.Lib.ItoaMem
import Derived.BigQuiet
namespace Go.Proofs.YtnodboggemggmaaGreatDoor
open Go Go.RowKit
set_option maxHeartbeats 2000000

/-- the digits of a number's amount; none of 0 -/
def absD (n : Int) : List UInt8 := if n = 0 then [] else Lib.decDigits n.natAbs
def digC (n : Nat) : UInt8 := UInt8.ofNat (48 + n % 10)
theorem digC_toNat (n : Nat) : ((digC n).toNat : Int) = 48 + ((n % 10 : Nat) : Int) := by
  unfold digC
  rw [UInt8.toNat_ofNat']
  omega
theorem decDigits_step (u : Nat) : Lib.decDigits u = (if u / 10 = 0 then [] else Lib.decDigits (u / 10)) ++ [digC u] := by
  rw [Lib.decDigits]
  unfold digC
  by_cases h : u < 10
  · rw [dif_pos h, if_pos (by omega), Nat.mod_eq_of_lt h]; rfl
  · rw [dif_neg h, if_neg (by omega)]
theorem absD_step (n : Int) (h : n ≠ 0) : absD n = absD (n.tdiv 10) ++ [digC n.natAbs] := by
  have e : (n.tdiv 10).natAbs = n.natAbs / 10 := by rw [Int.natAbs_tdiv]; rfl
  unfold absD
  rw [if_neg h, decDigits_step, e]
  congr 1
  by_cases h0 : n.natAbs / 10 = 0
  · rw [if_pos h0, if_pos (by omega)]
  · rw [if_neg h0, if_neg (by omega)]
theorem itoa_abs (n : Int) (h : n ≠ 0) : Lib.itoa n = if n < 0 then 45 :: absD n else absD n := by
  unfold Lib.itoa absD
  by_cases h0 : n < 0
  · rw [if_pos h0, if_pos h0, if_neg h]
  · rw [if_neg h0, if_neg h0, if_neg h, show n.toNat = n.natAbs by omega]

end Go.Proofs.YtnodboggemggmaaGreatDoor
