/- Plain laws of numbers written in digits, and the first number whose mark a body has not. -/
import Derived.Test.YtfgaiopkclogmaaDoorOctetB
import Derived.Test.YtfgaiopkclogmaaDoorDigitsR
import Derived.Lib.IndexMore
namespace Go.Proofs.YtfgaiopkclogmaaDoor
open Go Go.RowKit

theorem digC_facts (u : Nat) : isDig (digC u) = true ∧ dg (digC u) = ((u % 10 : Nat) : Int) := by
  have h := digC_toNat u
  have h2 : u % 10 < 10 := Nat.mod_lt _ (by decide)
  unfold isDig dg
  exact ⟨decide_eq_true (by omega), by omega⟩
theorem val_dec (u : Nat) : valOf (Lib.decDigits u) = u ∧ (Lib.decDigits u).all isDig = true ∧ Lib.decDigits u ≠ [] := by
  induction u using Nat.strongRecOn with
  | _ u ih =>
    obtain ⟨k1, k2⟩ := digC_facts u
    rw [decDigits_step]
    by_cases h : u / 10 = 0
    · rw [if_pos h]
      refine ⟨?_, by simp [k1], by simp⟩
      rw [valOf_snoc, valOf_nil, k2]; omega
    · rw [if_neg h]
      obtain ⟨i1, i2, -⟩ := ih (u / 10) (by omega)
      refine ⟨?_, by rw [List.all_append, i2]; simp [k1], by simp⟩
      rw [valOf_snoc, i1, k2]; omega
theorem dec_len : ∀ (k u : Nat), 10 ^ k ≤ u → u < 10 ^ (k + 1) → (Lib.decDigits u).length = k + 1
  | 0, u, _, h => by
    rw [decDigits_step, if_pos (by omega)]; rfl
  | k + 1, u, h0, h1 => by
    have e0 : 10 ^ (k + 1) = 10 * 10 ^ k := by rw [Nat.pow_succ, Nat.mul_comm]
    have e1 : 10 ^ (k + 1 + 1) = 10 * 10 ^ (k + 1) := by rw [Nat.pow_succ, Nat.mul_comm]
    have hp : 0 < 10 ^ k := Nat.pos_of_ne_zero (by simp)
    rw [decDigits_step, if_neg (by omega), List.length_append, dec_len k (u / 10) (by omega) (by omega)]; rfl
theorem itoa_nat (n : Nat) : Lib.itoa n = Lib.decDigits n := by
  unfold Lib.itoa; rw [if_neg (by omega)]; rfl

theorem pig : ∀ (m : Nat) (f : Nat → Nat), (∀ i, i ≤ m → f i < m) → ∃ i j, i < j ∧ j ≤ m ∧ f i = f j
  | 0, f, h => absurd (h 0 (Nat.le_refl _)) (by omega)
  | m + 1, f, h => by
    by_cases hx : ∃ i, i ≤ m ∧ f i = f (m + 1)
    · obtain ⟨i, hi, he⟩ := hx
      exact ⟨i, m + 1, by omega, Nat.le_refl _, he⟩
    · have hn : ∀ i, i ≤ m → f i ≠ f (m + 1) := fun i hi he => hx ⟨i, hi, he⟩
      have hl := h (m + 1) (Nat.le_refl _)
      obtain ⟨i, j, hij, hj, he⟩ := pig m (fun i => if f i = m then f (m + 1) else f i) (fun i hi => by
        have h1 := h i (by omega)
        have h2 := hn i hi
        show (if f i = m then f (m + 1) else f i) < m
        split <;> omega)
      have n1 := hn i (by omega)
      have n2 := hn j hj
      refine ⟨i, j, hij, by omega, ?_⟩
      split at he <;> split at he <;> omega

def markL (n : Nat) : List UInt8 := [112, 97, 114, 116] ++ Lib.itoa n
def standL (n : Nat) : List UInt8 := [45, 45] ++ markL n
def hasN (l : List UInt8) (n : Nat) : Bool := Lib.contains l (standL n)
theorem pre_eq {a b l : List UInt8} (ha : a.isPrefixOf l = true) (hb : b.isPrefixOf l = true) (hl : a.length = b.length) : a = b := by
  rw [List.isPrefixOf_iff_prefix] at ha hb
  obtain ⟨x, hx⟩ := ha
  obtain ⟨y, hy⟩ := hb
  exact (List.append_inj (hx.trans hy.symm) hl).1
/-- 'hasN' of the numbers of seven digits alone -/
theorem seven_mark (l : List UInt8) (B C : Nat) (hB : 10 ^ 6 ≤ B) (hC : C < 10 ^ 7) (hl : l.length + 1 + B ≤ C) : ∃ N, N ≤ C ∧ hasN l N = false := by
  by_cases hc : ∃ N, N ≤ C ∧ hasN l N = false
  · exact hc
  · exfalso
    have hall : ∀ N, N ≤ C → ∃ i : Nat, i ≤ l.length ∧ Lib.occAt l (standL N) i = true := by
      intro N hN
      have ht : hasN l N = true := by
        cases hq : hasN l N
        · exact absurd ⟨N, hN, hq⟩ hc
        · rfl
      unfold hasN Lib.contains at ht
      rcases Lib.index_spec l (standL N) with ⟨h1, _⟩ | ⟨i, _, h2, h3, _⟩
      · rw [h1] at ht; simp at ht
      · exact ⟨i, h2, h3⟩
    obtain ⟨i, j, hij, hj, he⟩ := pig (l.length + 1) (fun k => if h : k + B ≤ C then Classical.choose (hall (k + B) h) else 0) (fun k hk => by
      show (if h : k + B ≤ C then Classical.choose (hall (k + B) h) else 0) < l.length + 1
      rw [dif_pos (by omega)]
      have := (Classical.choose_spec (hall (k + B) (by omega))).1
      omega)
    rw [dif_pos (by omega), dif_pos (by omega)] at he
    have p1 := (Classical.choose_spec (hall (i + B) (by omega))).2
    have p2 := (Classical.choose_spec (hall (j + B) (by omega))).2
    rw [he] at p1
    unfold Lib.occAt at p1 p2
    have d1 := dec_len 6 (i + B) (Nat.le_trans hB (by omega)) (Nat.lt_of_le_of_lt (by omega) hC)
    have d2 := dec_len 6 (j + B) (Nat.le_trans hB (by omega)) (Nat.lt_of_le_of_lt (by omega) hC)
    have e := pre_eq p1 p2 (by unfold standL markL; rw [itoa_nat, itoa_nat]; simp [d1, d2])
    unfold standL markL at e
    rw [itoa_nat, itoa_nat] at e
    have e2 := List.append_cancel_left (List.append_cancel_left e)
    have v1 := (val_dec (i + B)).1
    have v2 := (val_dec (j + B)).1
    rw [e2] at v1
    omega
theorem first_mark (l : List UInt8) (hl : l.length ≤ 1048576) : ∃ M : Nat, M ≤ 3000000 ∧ Hid (hasN l M = false) ∧ Hid (∀ j, j < M → hasN l j = true) := by
  have hex : ∃ N, N ≤ 3000000 ∧ hasN l N = false := by
    obtain ⟨N, hN, hf⟩ := seven_mark l 1000000 3000000 (by decide) (by decide) (by omega)
    exact ⟨N, hN, hf⟩
  obtain ⟨N, hN, hNf⟩ := hex
  have hmin : ∀ n : Nat, hasN l n = false → ∃ M, M ≤ n ∧ hasN l M = false ∧ ∀ j, j < M → hasN l j = true := by
    intro n
    induction n using Nat.strongRecOn with
    | _ n ih =>
      intro hn
      by_cases hc : ∃ j, j < n ∧ hasN l j = false
      · obtain ⟨j, hj, hjf⟩ := hc
        obtain ⟨M, h1, h2, h3⟩ := ih j hj hjf
        exact ⟨M, by omega, h2, h3⟩
      · refine ⟨n, Nat.le_refl _, hn, fun j hj => ?_⟩
        cases hq : hasN l j
        · exact absurd ⟨j, hj, hq⟩ hc
        · rfl
  obtain ⟨M, h1, h2, h3⟩ := hmin N hNf
  exact ⟨M, by omega, h2, h3⟩
end Go.Proofs.YtfgaiopkclogmaaDoor
