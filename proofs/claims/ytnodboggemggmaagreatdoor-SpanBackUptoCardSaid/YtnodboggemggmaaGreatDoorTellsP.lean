/- What a content range says that is told of a span, or of none: in plain Lean. -/
import Derived.Test.YtnodboggemggmaaGreatDoorToldD
import Derived.Test.YtnodboggemggmaaGreatDoorTell
namespace Go.Proofs.YtnodboggemggmaaGreatDoor
open Go Go.RowKit

theorem dec_ok (n : Int) (h0 : 0 ≤ n) (h1 : n ≤ 4611686018427387904) : strN (Lib.itoa n) = n ∧ strB (Lib.itoa n) = true := by
  obtain ⟨k, rfl⟩ := Int.eq_ofNat_of_zero_le h0
  rw [itoa_nat]
  obtain ⟨v1, v2, v3⟩ := val_dec k
  have he : decE (Lib.decDigits k) 4611686018427387904 = 0 := by
    unfold decE
    rw [if_neg (by rintro (h | h); exact v3 h; rw [v2] at h; exact absurd h (by decide)), v1, if_pos h1]
  have hn : strN (Lib.decDigits k) = k := by unfold strN decN; rw [if_pos he, v1]
  refine ⟨hn, ?_⟩
  unfold strB
  rw [hn, itoa_nat]
  exact decide_eq_true ⟨he, rfl⟩
theorem idx_digs {c : UInt8} : ∀ {l : List UInt8}, l.all isDig = true → isDig c = false → idx c l = none
  | [], _, _ => rfl
  | b :: l, h, hc => by
    rw [List.all_cons, Bool.and_eq_true] at h
    rw [idx_cons, if_neg, idx_digs h.2 hc]
    · rfl
    · intro e
      have := eq_of_beq e
      subst this
      rw [hc] at h; exact absurd h.1 (by decide)
theorem idx_itoa {c : UInt8} {n : Int} (h0 : 0 ≤ n) (hc : isDig c = false) : idx c (Lib.itoa n) = none := by
  obtain ⟨k, rfl⟩ := Int.eq_ofNat_of_zero_le h0
  rw [itoa_nat]
  exact idx_digs (val_dec k).2.1 hc
theorem idx_mid {c : UInt8} {b : List UInt8} : ∀ {a : List UInt8}, idx c a = none → idx c (a ++ [c] ++ b) = some a.length
  | [], _ => by
    show idx c (c :: b) = some 0
    rw [idx_cons, if_pos (by simp)]
  | x :: a, h => by
    show idx c (x :: (a ++ [c] ++ b)) = some (a.length + 1)
    rw [idx_cons] at h ⊢
    split at h
    · cases h
    · rename_i hn
      rw [if_neg hn, idx_mid (a := a) (by cases hq : idx c a <;> simp_all)]
      rfl
theorem cut_mid {c : UInt8} {a b : List UInt8} (h : idx c a = none) : cutA c (a ++ [c] ++ b) = a ∧ cutZ c (a ++ [c] ++ b) = b ∧ (idx c (a ++ [c] ++ b)).isSome = true := by
  unfold cutA cutZ
  rw [idx_mid h]
  refine ⟨?_, ?_, rfl⟩
  · show (a ++ [c] ++ b).take a.length = a
    simp
  · show (a ++ [c] ++ b).drop (a.length + 1) = b
    rw [show a.length + 1 = (a ++ [c]).length by simp, List.drop_left]
theorem idx_app {c : UInt8} {b : List UInt8} (hb : idx c b = none) : ∀ {a : List UInt8}, idx c a = none → idx c (a ++ b) = none
  | [], _ => hb
  | x :: a, h => by
    show idx c (x :: (a ++ b)) = none
    rw [idx_cons] at h ⊢
    split at h
    · cases h
    · rename_i hn
      rw [if_neg hn, idx_app hb (a := a) (by cases hq : idx c a <;> simp_all)]
      rfl

theorem told_none (size : Int) (h0 : 0 ≤ size) (h1 : size ≤ 4611686018427387904) : toldM (noneL size) = (0, 0, size, 0) := by
  obtain ⟨d1, d2⟩ := dec_ok size h0 h1
  have hr : restL (noneL size) = [42] ++ [47] ++ Lib.itoa size := by
    have hp : (noneL size).take 6 = byW := rfl
    unfold restL; rw [if_pos hp]; rfl
  obtain ⟨c1, c2, c3⟩ := cut_mid (c := 47) (a := [42]) (b := Lib.itoa size) rfl
  have hp : (noneL size).take 6 = byW := rfl
  unfold toldM
  rw [hr, c1, c2, c3, hp, if_neg (by simp), if_pos ⟨rfl, d2⟩, d1]
theorem told_tell (a b size : Int) (h : isO a b size = true) (h1 : size ≤ 4611686018427387904) : toldM (tellL a b size) = (a, b, size, 0) := by
  unfold isO at h
  have h := of_decide_eq_true h
  obtain ⟨d1, d2⟩ := dec_ok size (by omega) h1
  obtain ⟨a1, a2⟩ := dec_ok a (by omega) (by omega)
  obtain ⟨b1, b2⟩ := dec_ok (b - 1) (by omega) (by omega)
  have hr : restL (tellL a b size) = bytesL a b ++ [47] ++ Lib.itoa size := by
    have hp : (tellL a b size).take 6 = byW := rfl
    unfold restL; rw [if_pos hp]; rfl
  have hp : (tellL a b size).take 6 = byW := rfl
  have i1 : idx 45 (Lib.itoa a) = none := idx_itoa (by omega) rfl
  have i2 : idx 47 (bytesL a b) = none := by
    unfold bytesL
    exact idx_app (idx_itoa (by omega) rfl) (idx_app rfl (idx_itoa (by omega) rfl))
  obtain ⟨c1, c2, c3⟩ := cut_mid (c := 47) (a := bytesL a b) (b := Lib.itoa size) i2
  obtain ⟨e1, e2, e3⟩ := cut_mid (c := 45) (a := Lib.itoa a) (b := Lib.itoa (b - 1)) i1
  have es : bytesL a b = Lib.itoa a ++ [45] ++ Lib.itoa (b - 1) := rfl
  have hn : bytesL a b ≠ [42] := fun e => by
    rw [← es, e] at e3; exact absurd e3 (by decide)
  have ht : Lib.itoa size ≠ [42] := fun e => by rw [e, strB_star] at d2; exact absurd d2 (by decide)
  unfold toldM
  rw [hr, c1, c2, c3, hp, if_neg (by simp), if_neg (fun hh => hn hh.1), es, e1, e2, e3, a1, a2, b1, b2, d1, d2, if_neg, if_neg ht]
  · show (a, b - 1 + 1, size, (0 : Int)) = _
    rw [Int.sub_add_cancel]
  · rintro (q | q | q | q | ⟨_, q | q⟩)
    · exact absurd q (by decide)
    · exact absurd q (by decide)
    · exact absurd q (by decide)
    · omega
    · exact absurd q (by decide)
    · omega
end Go.Proofs.YtnodboggemggmaaGreatDoor
