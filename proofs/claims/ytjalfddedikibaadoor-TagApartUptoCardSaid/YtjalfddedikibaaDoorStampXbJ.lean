/- Contract of the document's Write: the walk. -/
import Derived.Test.YtjalfddedikibaaDoorStampXJ
namespace Go.Proofs.YtjalfddedikibaaDoor
open Go Go.RowKit
set_option maxHeartbeats 2000000

theorem take_flat (f : UInt8 → List UInt8) (p : ByteArray) (k : Nat) (h : k < p.size) : ((L p).take (k + 1)).flatMap f = ((L p).take k).flatMap f ++ f p[k] := by
  rw [L_take h]; simp
theorem flat_len (f : UInt8 → List UInt8) (hf : ∀ c, (f c).length ≤ 9) (l : List UInt8) : (l.flatMap f).length ≤ 9 * l.length := by
  induction l with
  | nil => simp
  | cons c l ih => rw [List.flatMap_cons, List.length_append, List.length_cons]; have := hf c; omega

theorem pick_cases (c : UInt8) : c = 119 ∨ c = 108 ∨ c = 109 ∨ c = 100 ∨ c = 101 ∨ c = 121 ∨ c = 99 ∨ c = 104 ∨ c = 105 ∨ c = 115 ∨ (c ≠ 119 ∧ c ≠ 108 ∧ c ≠ 109 ∧ c ≠ 100 ∧ c ≠ 101 ∧ c ≠ 121 ∧ c ≠ 99 ∧ c ≠ 104 ∧ c ≠ 105 ∧ c ≠ 115) := by
  exact if h0 : c = 119 then Or.inl h0 else Or.inr (if h1 : c = 108 then Or.inl h1 else Or.inr (if h2 : c = 109 then Or.inl h2 else Or.inr (if h3 : c = 100 then Or.inl h3 else Or.inr (if h4 : c = 101 then Or.inl h4 else Or.inr (if h5 : c = 121 then Or.inl h5 else Or.inr (if h6 : c = 99 then Or.inl h6 else Or.inr (if h7 : c = 104 then Or.inl h7 else Or.inr (if h8 : c = 105 then Or.inl h8 else Or.inr (if h9 : c = 115 then Or.inl h9 else Or.inr (⟨h0, h1, h2, h3, h4, h5, h6, h7, h8, h9⟩))))))))))
theorem byte_ne {c : UInt8} {n : Nat} {hn : n < 256} (h : c ≠ UInt8.ofNatLT n hn) : ((c.toNat : Int) == (n : Int)) = false := by
  rw [beq_eq_false_iff_ne]
  intro e
  apply h
  apply UInt8.toNat_inj.1
  have : c.toNat = n := by exact_mod_cast e
  rw [this]; rfl

end Go.Proofs.YtjalfddedikibaaDoor
