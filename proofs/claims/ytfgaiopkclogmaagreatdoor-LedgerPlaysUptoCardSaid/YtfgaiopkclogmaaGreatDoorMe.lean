/- The lines of a ledger in plain Lean: where reading went wrong once it stays; the document's numbers. The lines of a ledger in plain Lean: a quoted target, step by step. -/
import Derived.Test.YtfgaiopkclogmaaGreatDoorLedgHJ
namespace Go.Proofs.YtfgaiopkclogmaaGreatDoor
open Go Go.RowKit

theorem runS_stay {S : List UInt8} {may : UInt8 → Bool} {m : Nat} {st : St} (h : st.2 = true) : runS S may m st = st := if_pos h
theorem litS_stay {S t : List UInt8} {st : St} (h : st.2 = true) : litS S t st = st := by
  rw [show st = (st.1, true) from Prod.ext rfl h, litS_bad]
theorem numS_stay {S : List UInt8} {st : St} (h : st.2 = true) : (numS S st).2 = st := by
  unfold numS; rw [if_pos h]
theorem stS_stay {S : List UInt8} {st : St} (h : st.2 = true) : (stS S st).2 = st := by
  unfold stS; rw [if_pos h]
theorem tgtS_stay {S : List UInt8} {st : St} (h : st.2 = true) : (tgtS S st).2 = st := by
  unfold tgtS
  rw [litS_stay h, if_pos h]
theorem end_N {S : List UInt8} (h : (pN S).2 = true) : parseEnd S = pN S := numS_stay h
theorem end_M {S : List UInt8} (h : (pM S).2.2 = true) : parseEnd S = (pM S).2 := by
  have e : pN S = (pM S).2 := litS_stay h
  rw [end_N (by rw [e]; exact h), e]
theorem end_L {S : List UInt8} (h : (pL S).2 = true) : parseEnd S = pL S := by
  have e : (pM S).2 = pL S := stS_stay h
  rw [end_M (by rw [e]; exact h), e]
theorem end_K {S : List UInt8} (h : (pK S).2.2 = true) : parseEnd S = (pK S).2 := by
  have e : pL S = (pK S).2 := litS_stay h
  rw [end_L (by rw [e]; exact h), e]
theorem end_J {S : List UInt8} (h : (pJ S).2 = true) : parseEnd S = pJ S := by
  have e : (pK S).2 = pJ S := tgtS_stay h
  rw [end_K (by rw [e]; exact h), e]
theorem end_I {S : List UInt8} (h : (pI S).2 = true) : parseEnd S = pI S := by
  have e : pJ S = pI S := litS_stay h
  rw [end_J (by rw [e]; exact h), e]
theorem end_H {S : List UInt8} (h : (pH S).2 = true) : parseEnd S = pH S := by
  have e : pI S = pH S := runS_stay h
  rw [end_I (by rw [e]; exact h), e]
theorem end_G {S : List UInt8} (h : (pG S).2.2 = true) : parseEnd S = (pG S).2 := by
  have e : pH S = (pG S).2 := litS_stay h
  rw [end_H (by rw [e]; exact h), e]
theorem end_F {S : List UInt8} (h : (pF S).2 = true) : parseEnd S = pF S := by
  have e : (pG S).2 = pF S := numS_stay h
  rw [end_G (by rw [e]; exact h), e]
theorem end_E {S : List UInt8} (h : (pE S).2.2 = true) : parseEnd S = (pE S).2 := by
  have e : pF S = (pE S).2 := litS_stay h
  rw [end_F (by rw [e]; exact h), e]
theorem end_D {S : List UInt8} (h : (pD S).2 = true) : parseEnd S = pD S := by
  have e : (pE S).2 = pD S := numS_stay h
  rw [end_E (by rw [e]; exact h), e]
theorem end_C {S : List UInt8} (h : (pC S).2.2 = true) : parseEnd S = (pC S).2 := by
  have e : pD S = (pC S).2 := litS_stay h
  rw [end_D (by rw [e]; exact h), e]
theorem end_B {S : List UInt8} (h : (pB S).2 = true) : parseEnd S = pB S := by
  have e : (pC S).2 = pB S := numS_stay h
  rw [end_C (by rw [e]; exact h), e]
theorem end_A {S : List UInt8} (h : (pA S).2 = true) : parseEnd S = pA S := by
  have e : pB S = pA S := litS_stay h
  rw [end_B (by rw [e]; exact h), e]

theorem runS_le {S : List UInt8} {may : UInt8 → Bool} {m : Nat} {st : St} (h : st.1 ≤ S.length) : st.1 ≤ (runS S may m st).1 ∧ (runS S may m st).1 ≤ S.length := by
  unfold runS
  split
  · exact ⟨Nat.le_refl _, h⟩
  · have := (runK_le may m (S.drop st.1)).2
    rw [List.length_drop] at this
    show st.1 ≤ st.1 + _ ∧ st.1 + _ ≤ _
    omega
theorem numS_le {S : List UInt8} {st : St} (h : st.1 ≤ S.length) : st.1 ≤ (numS S st).2.1 ∧ (numS S st).2.1 ≤ S.length := by
  unfold numS
  split
  · exact ⟨Nat.le_refl _, h⟩
  · have := (numK_le (S.drop st.1) 0 0)
    rw [List.length_drop] at this
    show st.1 ≤ st.1 + _ ∧ st.1 + _ ≤ _
    omega
theorem stK_le : ∀ (m : Nat) (r : List UInt8) (v : Int) (k : Nat), k ≤ (stK m r v k).2.1 ∧ (stK m r v k).2.1 ≤ k + r.length
  | 0, r, v, k => ⟨Nat.le_refl _, Nat.le_add_right _ _⟩
  | m + 1, [], v, k => ⟨Nat.le_refl _, Nat.le_refl _⟩
  | m + 1, c :: r, v, k => by
    rw [stK]
    have ih := stK_le m r (10 * v + dg c) (k + 1)
    rw [List.length_cons]
    split
    · exact ⟨Nat.le_refl _, Nat.le_add_right _ _⟩
    · omega
theorem stS_le {S : List UInt8} {st : St} (h : st.1 ≤ S.length) : st.1 ≤ (stS S st).2.1 ∧ (stS S st).2.1 ≤ S.length := by
  unfold stS
  split
  · exact ⟨Nat.le_refl _, h⟩
  · have := (stK_le 3 (S.drop st.1) 0 0)
    rw [List.length_drop] at this
    show st.1 ≤ st.1 + _ ∧ st.1 + _ ≤ _
    omega
theorem tgtK_le : ∀ (f : Nat) (r out : List UInt8) (k : Nat), r.length ≤ f → k ≤ (tgtK r out k).2.1 ∧ (tgtK r out k).2.1 ≤ k + r.length
  | _, [], out, k, _ => by rw [tgtK]; exact ⟨Nat.le_refl _, Nat.le_refl _⟩
  | 0, c :: r, out, k, hf => by simp at hf
  | f + 1, c :: r, out, k, hf => by
    rw [List.length_cons] at hf
    unfold tgtK
    rw [List.length_cons]
    split
    · exact ⟨Nat.le_refl _, Nat.le_add_right _ _⟩
    · split
      · exact ⟨Nat.le_refl _, Nat.le_add_right _ _⟩
      · split
        · cases r with
          | nil => exact ⟨Nat.le_succ _, Nat.le_refl _⟩
          | cons d r' =>
            simp only []
            rw [List.length_cons] at hf ⊢
            split
            · exact ⟨Nat.le_succ _, by show k + 1 ≤ _; omega⟩
            · have := tgtK_le f r' (out ++ [d]) (k + 2) (by omega)
              omega
        · have := tgtK_le f r (out ++ [c]) (k + 1) (by omega)
          omega
theorem tgtS_le {S : List UInt8} {st : St} (h : st.1 ≤ S.length) : st.1 ≤ (tgtS S st).2.1 ∧ (tgtS S st).2.1 ≤ S.length := by
  unfold tgtS
  have h1 := litS_le S [34] st h
  simp only []
  split
  · exact h1
  · have h2 := tgtK_le _ (S.drop (litS S [34] st).1) [] 0 (Nat.le_refl _)
    rw [List.length_drop] at h2
    have h3 := litS_le S [34] ((litS S [34] st).1 + (tgtK (S.drop (litS S [34] st).1) [] 0).2.1, (tgtK (S.drop (litS S [34] st).1) [] 0).2.2 || decide ((tgtK (S.drop (litS S [34] st).1) [] 0).1 = [])) (by show _ + _ ≤ _; omega)
    simp only [] at h3 ⊢
    omega
theorem le_A (S : List UInt8) : (pA S).1 ≤ S.length := (runS_le (Nat.zero_le _)).2
theorem le_B (S : List UInt8) : (pB S).1 ≤ S.length := (litS_le S _ _ (le_A S)).2
theorem le_C (S : List UInt8) : (pC S).2.1 ≤ S.length := (numS_le (le_B S)).2
theorem le_D (S : List UInt8) : (pD S).1 ≤ S.length := (litS_le S _ _ (le_C S)).2
theorem le_E (S : List UInt8) : (pE S).2.1 ≤ S.length := (numS_le (le_D S)).2
theorem le_F (S : List UInt8) : (pF S).1 ≤ S.length := (litS_le S _ _ (le_E S)).2
theorem le_G (S : List UInt8) : (pG S).2.1 ≤ S.length := (numS_le (le_F S)).2
theorem le_H (S : List UInt8) : (pH S).1 ≤ S.length := (litS_le S _ _ (le_G S)).2
theorem le_I (S : List UInt8) : (pI S).1 ≤ S.length := (runS_le (le_H S)).2
theorem le_J (S : List UInt8) : (pJ S).1 ≤ S.length := (litS_le S _ _ (le_I S)).2
theorem le_K (S : List UInt8) : (pK S).2.1 ≤ S.length := (tgtS_le (le_J S)).2
theorem le_L (S : List UInt8) : (pL S).1 ≤ S.length := (litS_le S _ _ (le_K S)).2
theorem le_M (S : List UInt8) : (pM S).2.1 ≤ S.length := (stS_le (le_L S)).2
theorem le_N (S : List UInt8) : (pN S).1 ≤ S.length := (litS_le S _ _ (le_M S)).2
theorem le_O (S : List UInt8) : (parseEnd S).1 ≤ S.length := (numS_le (le_N S)).2

/-- the document's number at a place: what it says, the place behind it -/
def numP (S : List UInt8) (n : Nat) : Int × Nat := ((numD (S.drop n) 0 0).1, n + (numD (S.drop n) 0 0).2)
/-- what the document's number tells: nothing stands there, and the program goes wrong there; or the program reads the same; or the program goes wrong at a digit -/
theorem numP_spec (S : List UInt8) (n : Nat) (_hn : n ≤ S.length) :
    ((numP S n).2 = n ∧ (numS S (n, false)).2 = (n, true)) ∨
    (n < (numP S n).2 ∧ (numS S (n, false)) = ((numP S n).1, ((numP S n).2, false))) ∨
    (n < (numP S n).2 ∧ (numS S (n, false)).2 = ((numP S n).2, true) ∧ ∃ c, S[(numP S n).2]? = some c ∧ isDig c = true) := by
  obtain ⟨h1, h2, h3⟩ := numD_spec (S.drop n) 0 0 (Int.le_refl 0) (fun _ => Nat.zero_le _)
  have e : numS S (n, false) = ((numK (S.drop n) 0 0).1, (n + (numK (S.drop n) 0 0).2.1, (numK (S.drop n) 0 0).2.2)) := by unfold numS; rw [if_neg nf]
  unfold numP
  rw [e]
  obtain ⟨q1, hq1⟩ : ∃ q, numD (S.drop n) 0 0 = q := ⟨_, rfl⟩
  obtain ⟨q2, hq2⟩ : ∃ q, numK (S.drop n) 0 0 = q := ⟨_, rfl⟩
  rw [hq1, hq2] at h1 h2 h3
  rw [hq1, hq2]
  obtain ⟨a, b⟩ := q1
  obtain ⟨x, y, z⟩ := q2
  simp only [] at h1 h2 h3 ⊢
  subst h1
  cases z with
  | false =>
    obtain ⟨h4, h5⟩ := h2 rfl
    subst h4
    exact Or.inr (Or.inl ⟨by omega, rfl⟩)
  | true =>
    rcases h3 rfl with h4 | ⟨c, r', h4, h5⟩
    · subst h4
      exact Or.inl ⟨rfl, rfl⟩
    · by_cases hb : b = 0
      · subst hb
        exact Or.inl ⟨rfl, rfl⟩
      · refine Or.inr (Or.inr ⟨by omega, rfl, c, ?_, h5⟩)
        rw [Nat.sub_zero, List.drop_drop] at h4
        have h6 := List.head?_drop (l := S) (i := n + b)
        rw [h4] at h6
        exact h6.symm
theorem numP_le (S : List UInt8) (n : Nat) (hn : n ≤ S.length) : n ≤ (numP S n).2 ∧ (numP S n).2 ≤ S.length := by
  have hl := numS_le (st := (n, false)) hn
  rcases numP_spec S n hn with ⟨h1, h2⟩ | ⟨h1, h2⟩ | ⟨h1, h2, _⟩
  · rw [h1]; exact ⟨Nat.le_refl _, hn⟩
  · rw [h2] at hl; exact hl
  · rw [h2] at hl; exact hl
/-- a text that begins with a blank does not stand at a digit -/
theorem lit_at_digit {S t : List UInt8} {n : Nat} {c : UInt8} (h : S[n]? = some c) (hd : isDig c = true) : litS S (32 :: t) (n, false) = (n, true) := by
  rw [litS, if_neg nf, h, if_neg]
  intro e
  injection e with e
  subst e
  exact absurd hd (by decide)
end Go.Proofs.YtfgaiopkclogmaaGreatDoor
namespace Go.Proofs.YtfgaiopkclogmaaGreatDoor
open Go Go.RowKit

theorem tgtK_nil (out : List UInt8) (k : Nat) : tgtK [] out k = (out, k, false) := by rw [tgtK]
theorem tgtK_quote {c : UInt8} (r out : List UInt8) (k : Nat) (h : c = 34) : tgtK (c :: r) out k = (out, k, false) := by
  unfold tgtK; rw [if_pos h]
theorem tgtK_bad {c : UInt8} (r out : List UInt8) (k : Nat) (h : c ≠ 34) (hb : tgtB c = false ∨ out.length = 65536) : tgtK (c :: r) out k = (out, k, true) := by
  unfold tgtK; rw [if_neg h, if_pos hb]
theorem tgtK_no {c : UInt8} {out : List UInt8} (h1 : tgtB c = true) (h2 : out.length < 65536) : ¬ (tgtB c = false ∨ out.length = 65536) := by
  rintro (h | h)
  · rw [h1] at h; cases h
  · omega
theorem tgtK_back0 {c : UInt8} (out : List UInt8) (k : Nat) (h1 : tgtB c = true) (h2 : out.length < 65536) (h : c = 92) : tgtK [c] out k = (out, k + 1, true) := by
  unfold tgtK; rw [if_neg (by rw [h]; decide), if_neg (tgtK_no h1 h2), if_pos h]
theorem tgtK_back1 {c d : UInt8} (r out : List UInt8) (k : Nat) (h1 : tgtB c = true) (h2 : out.length < 65536) (h : c = 92) (hd : d ≠ 34 ∧ d ≠ 92) : tgtK (c :: d :: r) out k = (out, k + 1, true) := by
  unfold tgtK; rw [if_neg (by rw [h]; decide), if_neg (tgtK_no h1 h2), if_pos h]
  simp only []
  rw [if_pos hd]
theorem tgtK_back2 {c d : UInt8} (r out : List UInt8) (k : Nat) (h1 : tgtB c = true) (h2 : out.length < 65536) (h : c = 92) (hd : d = 34 ∨ d = 92) : tgtK (c :: d :: r) out k = tgtK r (out ++ [d]) (k + 2) := by
  conv => lhs; unfold tgtK
  rw [if_neg (by rw [h]; decide), if_neg (tgtK_no h1 h2), if_pos h]
  simp only []
  rw [if_neg (fun e => by rcases hd with x | x; exact e.1 x; exact e.2 x)]
theorem tgtK_else {c : UInt8} (r out : List UInt8) (k : Nat) (h : c ≠ 34) (h1 : tgtB c = true) (h2 : out.length < 65536) (h3 : c ≠ 92) : tgtK (c :: r) out k = tgtK r (out ++ [c]) (k + 1) := by
  conv => lhs; unfold tgtK
  rw [if_neg h, if_neg (tgtK_no h1 h2), if_neg h3]
theorem lit_quote {S : List UInt8} {n : Nat} (h : S[n]? = some 34) : litS S [34] (n, false) = (n + 1, false) := by
  rw [litS, if_neg nf, if_pos h]; rfl
theorem lit_noquote {S : List UInt8} {n : Nat} (h : S[n]? ≠ some 34) : litS S [34] (n, false) = (n, true) := by
  rw [litS, if_neg nf, if_neg h]
theorem tgt_noquote {S : List UInt8} {n : Nat} (h : S[n]? ≠ some 34) : tgtS S (n, false) = ([], (n, true)) := by
  unfold tgtS; rw [lit_noquote h]; rfl
theorem tgt_at {S o : List UInt8} {n k : Nat} {b : Bool} (h : S[n]? = some 34) (hq : tgtK (S.drop (n + 1)) [] 0 = (o, k, b)) :
    tgtS S (n, false) = (o, litS S [34] (n + 1 + k, b || decide (o = []))) := by
  unfold tgtS; rw [lit_quote h]
  simp only []
  rw [if_neg nf, hq]
theorem tgt_bad {S o : List UInt8} {n k : Nat} (h : S[n]? = some 34) (hq : tgtK (S.drop (n + 1)) [] 0 = (o, k, true)) : tgtS S (n, false) = (o, (n + 1 + k, true)) := by
  rw [tgt_at h hq, Bool.true_or, litS_bad]
theorem tgt_empty {S : List UInt8} {n k : Nat} (h : S[n]? = some 34) (hq : tgtK (S.drop (n + 1)) [] 0 = ([], k, false)) : tgtS S (n, false) = ([], (n + 1 + k, true)) := by
  rw [tgt_at h hq, decide_eq_true rfl, Bool.or_true, litS_bad]
theorem tgt_end {S o : List UInt8} {n k : Nat} (h : S[n]? = some 34) (hq : tgtK (S.drop (n + 1)) [] 0 = (o, k, false)) (he : S[n + 1 + k]? ≠ some 34) : tgtS S (n, false) = (o, (n + 1 + k, true)) := by
  rw [tgt_at h hq, Bool.false_or]
  by_cases ho : o = []
  · rw [decide_eq_true ho, litS_bad]
  · rw [decide_eq_false ho, lit_noquote he]
theorem tgt_done {S o : List UInt8} {n k : Nat} (h : S[n]? = some 34) (hq : tgtK (S.drop (n + 1)) [] 0 = (o, k, false)) (ho : o ≠ []) (he : S[n + 1 + k]? = some 34) : tgtS S (n, false) = (o, (n + 1 + k + 1, false)) := by
  rw [tgt_at h hq, Bool.false_or, decide_eq_false ho, lit_quote he]
end Go.Proofs.YtfgaiopkclogmaaGreatDoor
