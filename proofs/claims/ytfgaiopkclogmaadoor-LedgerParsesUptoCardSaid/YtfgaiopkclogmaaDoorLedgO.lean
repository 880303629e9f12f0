/- The lines of a ledger in plain Lean: a quoted target, step by step. -/
import Derived.Test.YtfgaiopkclogmaaDoorLedgN
namespace Go.Proofs.YtfgaiopkclogmaaDoor
open Go Go.RowKit

theorem tgtK_nil (out : List UInt8) (k : Nat) : tgtK [] out k = (out, k, false) := by rw [tgtK]
theorem tgtK_quote {c : UInt8} (r out : List UInt8) (k : Nat) (h : c = 34) : tgtK (c :: r) out k = (out, k, false) := by
  unfold tgtK; rw [if_pos h]
theorem tgtK_bad {c : UInt8} (r out : List UInt8) (k : Nat) (h : c ≠ 34) (hb : tgtB c = false ∨ out.length = 65536) : tgtK (c :: r) out k = (out, k, true) := by
  unfold tgtK; rw [if_neg h, if_pos hb]
theorem tgtK_no {c : UInt8} {out : List UInt8} (h1 : tgtB c = true) (h2 : out.length < 65536) : ¬ (tgtB c = false ∨ out.length = 65536) := by
  rintro (h | h)
  · rw [h1] at h; cases h
  · omega
theorem tgtK_back0 {c : UInt8} (out : List UInt8) (k : Nat) (h1 : tgtB c = true) (h2 : out.length < 65536) (h : c = 92) : tgtK [c] out k = (out, k + 1, true) := by
  unfold tgtK; rw [if_neg (by rw [h]; decide), if_neg (tgtK_no h1 h2), if_pos h]
theorem tgtK_back1 {c d : UInt8} (r out : List UInt8) (k : Nat) (h1 : tgtB c = true) (h2 : out.length < 65536) (h : c = 92) (hd : d ≠ 34 ∧ d ≠ 92) : tgtK (c :: d :: r) out k = (out, k + 1, true) := by
  unfold tgtK; rw [if_neg (by rw [h]; decide), if_neg (tgtK_no h1 h2), if_pos h]
  simp only []
  rw [if_pos hd]
theorem tgtK_back2 {c d : UInt8} (r out : List UInt8) (k : Nat) (h1 : tgtB c = true) (h2 : out.length < 65536) (h : c = 92) (hd : d = 34 ∨ d = 92) : tgtK (c :: d :: r) out k = tgtK r (out ++ [d]) (k + 2) := by
  conv => lhs; unfold tgtK
  rw [if_neg (by rw [h]; decide), if_neg (tgtK_no h1 h2), if_pos h]
  simp only []
  rw [if_neg (fun e => by rcases hd with x | x; exact e.1 x; exact e.2 x)]
theorem tgtK_else {c : UInt8} (r out : List UInt8) (k : Nat) (h : c ≠ 34) (h1 : tgtB c = true) (h2 : out.length < 65536) (h3 : c ≠ 92) : tgtK (c :: r) out k = tgtK r (out ++ [c]) (k + 1) := by
  conv => lhs; unfold tgtK
  rw [if_neg h, if_neg (tgtK_no h1 h2), if_neg h3]
theorem lit_quote {S : List UInt8} {n : Nat} (h : S[n]? = some 34) : litS S [34] (n, false) = (n + 1, false) := by
  rw [litS, if_neg nf, if_pos h]; rfl
theorem lit_noquote {S : List UInt8} {n : Nat} (h : S[n]? ≠ some 34) : litS S [34] (n, false) = (n, true) := by
  rw [litS, if_neg nf, if_neg h]
theorem tgt_noquote {S : List UInt8} {n : Nat} (h : S[n]? ≠ some 34) : tgtS S (n, false) = ([], (n, true)) := by
  unfold tgtS; rw [lit_noquote h]; rfl
theorem tgt_at {S o : List UInt8} {n k : Nat} {b : Bool} (h : S[n]? = some 34) (hq : tgtK (S.drop (n + 1)) [] 0 = (o, k, b)) :
    tgtS S (n, false) = (o, litS S [34] (n + 1 + k, b || decide (o = []))) := by
  unfold tgtS; rw [lit_quote h]
  simp only []
  rw [if_neg nf, hq]
theorem tgt_bad {S o : List UInt8} {n k : Nat} (h : S[n]? = some 34) (hq : tgtK (S.drop (n + 1)) [] 0 = (o, k, true)) : tgtS S (n, false) = (o, (n + 1 + k, true)) := by
  rw [tgt_at h hq, Bool.true_or, litS_bad]
theorem tgt_empty {S : List UInt8} {n k : Nat} (h : S[n]? = some 34) (hq : tgtK (S.drop (n + 1)) [] 0 = ([], k, false)) : tgtS S (n, false) = ([], (n + 1 + k, true)) := by
  rw [tgt_at h hq, decide_eq_true rfl, Bool.or_true, litS_bad]
theorem tgt_end {S o : List UInt8} {n k : Nat} (h : S[n]? = some 34) (hq : tgtK (S.drop (n + 1)) [] 0 = (o, k, false)) (he : S[n + 1 + k]? ≠ some 34) : tgtS S (n, false) = (o, (n + 1 + k, true)) := by
  rw [tgt_at h hq, Bool.false_or]
  by_cases ho : o = []
  · rw [decide_eq_true ho, litS_bad]
  · rw [decide_eq_false ho, lit_noquote he]
theorem tgt_done {S o : List UInt8} {n k : Nat} (h : S[n]? = some 34) (hq : tgtK (S.drop (n + 1)) [] 0 = (o, k, false)) (ho : o ≠ []) (he : S[n + 1 + k]? = some 34) : tgtS S (n, false) = (o, (n + 1 + k + 1, false)) := by
  rw [tgt_at h hq, Bool.false_or, decide_eq_false ho, lit_quote he]
end Go.Proofs.YtfgaiopkclogmaaDoor
