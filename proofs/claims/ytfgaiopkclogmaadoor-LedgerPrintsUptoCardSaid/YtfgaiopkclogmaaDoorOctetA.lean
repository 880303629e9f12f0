/- Contracts of octet: small letters (program and reference), whether two texts are the same whatever their letters' case; classes of bytes. Every text. -/
import Derived.Test.YtfgaiopkclogmaaDoorBase
namespace Go.Proofs.YtfgaiopkclogmaaDoor
open Go Go.RowKit
set_option maxHeartbeats 1000000

def lowerB (c : UInt8) : UInt8 := if 65 ≤ c.toNat ∧ c.toNat ≤ 90 then c + 32 else c
def lower (l : List UInt8) : List UInt8 := l.map lowerB
theorem lower_length (l : List UInt8) : (lower l).length = l.length := by simp [lower]
/-- what has been made of a text behind k rounds -/
def lowT (l : List UInt8) (k : Nat) : List UInt8 := (l.take k).map lowerB ++ l.drop k
theorem lowT_length (l : List UInt8) (k : Nat) : (lowT l k).length = l.length := by simp [lowT]; omega
theorem lowT_zero (l : List UInt8) : lowT l 0 = l := by simp [lowT]
theorem lowT_all (l : List UInt8) (k : Nat) (h : l.length ≤ k) : lowT l k = lower l := by
  simp [lowT, lower, List.take_of_length_le h, List.drop_of_length_le h]
theorem lowT_succ (l : List UInt8) (k : Nat) (h : k < l.length) : lowT l (k + 1) = (lowT l k).set k (lowerB l[k]) := by
  unfold lowT
  rw [List.take_succ_eq_append_getElem h, List.drop_eq_getElem_cons h, List.map_append, List.set_append_right _ _ (by simp; omega), show k - (List.map lowerB (List.take k l)).length = 0 by simp; omega, List.set_cons_zero]
  simp
theorem lowT_get (l : List UInt8) (k : Nat) (h : k < l.length) : (lowT l k).getD k 0 = l[k] := by
  unfold lowT
  rw [List.getD, List.getElem?_append_right (by simp; omega)]
  simp [show k - min k l.length = 0 by omega, List.getElem?_eq_getElem h]
theorem lowT_same (l : List UInt8) (k : Nat) (h : k < l.length) (hs : lowerB l[k] = l[k]) : lowT l (k + 1) = lowT l k := by
  rw [lowT_succ l k h, hs]
  apply List.ext_getElem?
  intro i
  rw [List.getElem?_set]
  split
  · rename_i e; subst e
    have := lowT_get l k h
    rw [List.getD] at this
    cases hx : (lowT l k)[k]? with
    | none => rw [List.getElem?_eq_none_iff, lowT_length] at hx; omega
    | some x => rw [hx] at this; simp at this; subst this; simp [lowT_length, h]
  · rfl
theorem u8_up {x : UInt8} (h1 : 65 ≤ x.toNat) (h2 : x.toNat ≤ 90) : (x + 32).toNat = x.toNat + 32 := by
  rw [UInt8.toNat_add]; show (x.toNat + 32) % 256 = _; omega

end Go.Proofs.YtfgaiopkclogmaaDoor
