/- The lines of a ledger in plain Lean: the reader's steps, as functions on a place and on whether it went wrong. -/
import Derived.Test.YtfgaiopkclogmaaDoorOctetB
namespace Go.Proofs.YtfgaiopkclogmaaDoor
open Go Go.RowKit

/-- a place in a text, and whether reading went wrong there -/
abbrev St := Nat × Bool
def litS (S : List UInt8) : List UInt8 → St → St
  | [], st => st
  | c :: t, st => if st.2 = true then st else if S[st.1]? = some c then litS S t (st.1 + 1, false) else (st.1, true)
theorem litS_bad (S : List UInt8) (t : List UInt8) (n : Nat) : litS S t (n, true) = (n, true) := by
  cases t with
  | nil => rfl
  | cons c t => rw [litS, if_pos rfl]
theorem litS_le (S : List UInt8) : ∀ (t : List UInt8) (st : St), st.1 ≤ S.length → st.1 ≤ (litS S t st).1 ∧ (litS S t st).1 ≤ S.length
  | [], st, h => ⟨Nat.le_refl _, h⟩
  | c :: t, st, h => by
    rw [litS]
    split
    · exact ⟨Nat.le_refl _, h⟩
    · split
      · rename_i hc
        have hlt : st.1 < S.length := (List.getElem?_eq_some_iff.1 hc).1
        have := litS_le S t (st.1 + 1, false) (by show st.1 + 1 ≤ _; omega)
        exact ⟨by have := this.1; simp only at this; omega, this.2⟩
      · exact ⟨Nat.le_refl _, h⟩
/-- how many bytes of a kind stand at the front, at most so many -/
def runK (may : UInt8 → Bool) : Nat → List UInt8 → Nat
  | 0, _ => 0
  | _ + 1, [] => 0
  | m + 1, c :: r => if may c = true then runK may m r + 1 else 0
theorem runK_le (may : UInt8 → Bool) : ∀ (m : Nat) (l : List UInt8), runK may m l ≤ m ∧ runK may m l ≤ l.length
  | 0, _ => ⟨Nat.le_refl _, Nat.zero_le _⟩
  | _ + 1, [] => ⟨Nat.zero_le _, Nat.le_refl _⟩
  | m + 1, c :: r => by
    rw [runK]
    have := runK_le may m r
    split
    · rw [List.length_cons]; omega
    · omega
def runS (S : List UInt8) (may : UInt8 → Bool) (m : Nat) (st : St) : St :=
  if st.2 = true then st else (st.1 + runK may m (S.drop st.1), decide (runK may m (S.drop st.1) = 0))
def mostI : Int := 9223372036854775807
/-- the digits at the front: what they say, how many were read, whether it went wrong -/
def numK : List UInt8 → Int → Nat → Int × Nat × Bool
  | [], v, k => (v, k, decide (k = 0))
  | c :: r, v, k =>
    if isDig c = true then
      if (0 < k ∧ v = 0) ∨ (mostI - dg c) / 10 < v then (0, k, true) else numK r (10 * v + dg c) (k + 1)
    else (v, k, decide (k = 0))
def numS (S : List UInt8) (st : St) : Int × St :=
  if st.2 = true then (0, st) else ((numK (S.drop st.1) 0 0).1, (st.1 + (numK (S.drop st.1) 0 0).2.1, (numK (S.drop st.1) 0 0).2.2))
def tgtB (c : UInt8) : Bool := decide (33 ≤ c.toNat ∧ c.toNat ≤ 126)
/-- the bytes of a quoted target: what they say, how many were read, whether it went wrong -/
def tgtK : List UInt8 → List UInt8 → Nat → List UInt8 × Nat × Bool
  | [], out, k => (out, k, false)
  | c :: r, out, k =>
    if c = 34 then (out, k, false)
    else if tgtB c = false ∨ out.length = 65536 then (out, k, true)
    else if c = 92 then
      match r with
      | [] => (out, k + 1, true)
      | d :: r' => if d ≠ 34 ∧ d ≠ 92 then (out, k + 1, true) else tgtK r' (out ++ [d]) (k + 2)
    else tgtK r (out ++ [c]) (k + 1)
def tgtS (S : List UInt8) (st : St) : List UInt8 × St :=
  let a := litS S [34] st
  if a.2 = true then ([], a)
  else
    let q := tgtK (S.drop a.1) [] 0
    (q.1, litS S [34] (a.1 + q.2.1, q.2.2 || decide (q.1 = [])))
/-- three digits, the first from 1 to 5 -/
def stK : Nat → List UInt8 → Int → Nat → Int × Nat × Bool
  | 0, _, v, k => (v, k, false)
  | _ + 1, [], _, k => (0, k, true)
  | m + 1, c :: r, v, k => if isDig c = false ∨ (k = 0 ∧ ¬ (49 ≤ c.toNat ∧ c.toNat ≤ 53)) then (0, k, true) else stK m r (10 * v + dg c) (k + 1)
def stS (S : List UInt8) (st : St) : Int × St :=
  if st.2 = true then (0, st) else ((stK 3 (S.drop st.1) 0 0).1, (st.1 + (stK 3 (S.drop st.1) 0 0).2.1, (stK 3 (S.drop st.1) 0 0).2.2))
theorem numK_le : ∀ (r : List UInt8) (v : Int) (k : Nat), k ≤ (numK r v k).2.1 ∧ (numK r v k).2.1 ≤ k + r.length
  | [], v, k => ⟨Nat.le_refl _, Nat.le_refl _⟩
  | c :: r, v, k => by
    rw [numK]
    have ih := numK_le r (10 * v + dg c) (k + 1)
    rw [List.length_cons]
    split
    · split
      · exact ⟨Nat.le_refl _, Nat.le_add_right _ _⟩
      · omega
    · exact ⟨Nat.le_refl _, Nat.le_add_right _ _⟩
theorem numK_ok : ∀ (r : List UInt8) (v : Int) (k : Nat) (x : Int) (m : Nat), numK r v k = (x, m, false) → 0 ≤ v → v ≤ mostI →
    ∃ d, r = d ++ r.drop d.length ∧ d.all isDig = true ∧ m = k + d.length ∧ x = d.foldl (fun n c => 10 * n + dg c) v ∧ 0 ≤ x ∧ x ≤ mostI ∧ 0 < m ∧ (0 < k → v = 0 → d = []) ∧ (k = 0 → v = 0 → d.length ≤ 1 ∨ d.head? ≠ some 48)
  | [], v, k, x, m, h, h0, h1 => by
    rw [numK] at h
    injection h with hx h
    injection h with hm hb
    have hk := of_decide_eq_false hb
    exact ⟨[], rfl, rfl, hm.symm, hx.symm, by omega, by omega, by omega, fun _ _ => rfl, fun _ _ => Or.inl (Nat.zero_le _)⟩
  | c :: r, v, k, x, m, h, h0, h1 => by
    rw [numK] at h
    split at h
    · rename_i hd
      have hb := dg_bd hd
      split at h
      · injection h with _ h; injection h with _ h; cases h
      · rename_i hno
        have hle : ¬ (mostI - dg c) / 10 < v := fun h => hno (Or.inr h)
        have hz : ¬ (0 < k ∧ v = 0) := fun h => hno (Or.inl h)
        obtain ⟨d, e1, e2, e3, e4, e5, e6, e7, e8, e9⟩ := numK_ok r (10 * v + dg c) (k + 1) x m h (by omega) (by unfold mostI at hle ⊢; omega)
        refine ⟨c :: d, ?_, ?_, ?_, ?_, e5, e6, e7, ?_, ?_⟩
        · rw [List.length_cons, List.drop_succ_cons, List.cons_append, ← e1]
        · rw [List.all_cons, hd, e2]; rfl
        · rw [List.length_cons]; omega
        · rw [List.foldl_cons]; exact e4
        · intro hk hv; exact absurd ⟨hk, hv⟩ hz
        · intro hk hv
          by_cases hc : dg c = 0
          · left
            rw [e8 (by omega) (by omega)]
            exact Nat.le_refl _
          · right
            rw [List.head?_cons]
            intro e
            injection e with e
            subst e
            exact hc rfl
    · injection h with hx h
      injection h with hm hb
      have hk := of_decide_eq_false hb
      exact ⟨[], rfl, rfl, hm.symm, hx.symm, by omega, by omega, by omega, fun _ _ => rfl, fun _ _ => Or.inl (Nat.zero_le _)⟩
end Go.Proofs.YtfgaiopkclogmaaDoor
