/- Contracts of the document's name and number. Contract of the document's read: what a text says in a form. Contract of the document's near: the year around now's. -/
import Derived.Test.YtkenianfpfamcaaGreatDoorMe
import Derived.Test.YtkenianfpfamcaaGreatDoorMc
namespace Go.Proofs.YtkenianfpfamcaaGreatDoor
open Go Go.RowKit
set_option maxHeartbeats 2000000

theorem first_step (t : List UInt8) (l : List (List UInt8)) (i : Nat) (h : i < l.length) : Stm.firstOf t (l.drop i) i = if (l.getD i []).isPrefixOf t then some (i, l.getD i []) else Stm.firstOf t (l.drop (i + 1)) (i + 1) := by
  rw [List.drop_eq_getElem_cons h]
  have : l.getD i [] = l[i] := by rw [List.getD_eq_getElem?_getD, List.getElem?_eq_getElem h]; rfl
  rw [this]
  rfl

theorem digs_some {s : List UInt8} {w : Nat} {b : Bool} {a : Nat} {v : Int} {c : UInt8} (h : s[a]? = some c) : Stm.digs s (w + 1) b a v = if b && c == 32 then Stm.digs s w false (a + 1) (10 * v) else if Stm.isDig c then Stm.digs s w false (a + 1) (10 * v + ((c.toNat : Int) - 48)) else (a, v, false) := by
  rw [Stm.digs, h]
theorem digs_none {s : List UInt8} {w : Nat} {b : Bool} {a : Nat} {v : Int} (h : s[a]? = none) : Stm.digs s (w + 1) b a v = (a, v, false) := by
  rw [Stm.digs, h]
theorem L_get? {s : ByteArray} {a : Nat} (h : a < s.size) : (L s)[a]? = some s[a] := by
  rw [List.getElem?_eq_getElem (by rw [L_length]; exact h)]; rfl
theorem L_get?_none {s : ByteArray} {a : Nat} (h : s.size ≤ a) : (L s)[a]? = none := List.getElem?_eq_none (by rw [L_length]; exact h)
end Go.Proofs.YtkenianfpfamcaaGreatDoor
namespace Go.Proofs.YtkenianfpfamcaaGreatDoor
open Go Go.RowKit
set_option maxHeartbeats 4000000

theorem digs_le (s : List UInt8) : ∀ (w : Nat) (b : Bool) (a : Nat) (v : Int), a ≤ s.length → 0 ≤ v → (Stm.digs s w b a v).1 ≤ s.length ∧ 0 ≤ (Stm.digs s w b a v).2.1
  | 0, b, a, v, h, hv => ⟨h, hv⟩
  | w + 1, b, a, v, h, hv => by
    cases hc : s[a]? with
    | none => rw [digs_none hc]; exact ⟨h, hv⟩
    | some c =>
      have hlt := (List.getElem?_eq_some_iff.1 hc).1
      rw [digs_some hc]
      split
      · exact digs_le s w false (a + 1) _ hlt (by omega)
      · split
        · rename_i hd
          have : 48 ≤ c.toNat := by unfold Stm.isDig at hd; exact (of_decide_eq_true hd).1
          exact digs_le s w false (a + 1) _ hlt (by omega)
        · exact ⟨h, hv⟩
theorem first_le (s : List UInt8) (a k n : Nat) (x : List UInt8) (h : Stm.firstOf (s.drop a) (Stm.namesOf k) 0 = some (n, x)) (ha : a ≤ s.length) : a + x.length ≤ s.length := by
  obtain ⟨i, _, _, hp⟩ := Stm.firstOf_some _ _ _ _ _ h
  rw [List.isPrefixOf_iff_prefix] at hp
  have := hp.length_le
  rw [List.length_drop] at this
  omega
theorem step_lit {s : List UInt8} {c : UInt8} {st : Stm.St} : Stm.stepP s (.lit c) st = if decide (s[st.at_]? = some c) then ({ st with at_ := st.at_ + 1 }, true) else (st, false) := by
  by_cases h : s[st.at_]? = some c <;> simp [Stm.stepP, h]
theorem step_name_none {s : List UInt8} {k : Nat} {st : Stm.St} (h : Stm.firstOf (s.drop st.at_) (Stm.namesOf k) 0 = none) : Stm.stepP s (.name k) st = (st, false) := by
  simp only [Stm.stepP, h]
theorem step_name_some {s : List UInt8} {k : Nat} {st : Stm.St} {n : Nat} {w : List UInt8} (h : Stm.firstOf (s.drop st.at_) (Stm.namesOf k) 0 = some (n, w)) :
    Stm.stepP s (.name k) st = (Stm.setName k n { st with at_ := st.at_ + w.length }, true) := by
  simp only [Stm.stepP, h]
theorem step_dig {s : List UInt8} {w : Nat} {b : Bool} {f : Nat} {st : Stm.St} {r : Nat × Int × Bool} (h : Stm.digs s w b st.at_ 0 = r) :
    Stm.stepP s (.dig w b f) st = if r.2.2 then (Stm.setDig f r.2.1 st.at_ { st with at_ := r.1 }, true) else ({ st with at_ := r.1 }, false) := by
  subst h; rfl
end Go.Proofs.YtkenianfpfamcaaGreatDoor
namespace Go.Proofs.YtkenianfpfamcaaGreatDoor
open Go Go.RowKit
set_option maxHeartbeats 2000000

theorem t100 (n : Int) : (n.tmod 100 + 100) % 100 = n % 100 ∧ -100 < n.tmod 100 ∧ n.tmod 100 < 100 := by
  have h := Int.tmod_def n 100
  have k : n.tdiv 100 = if 0 ≤ n then n / 100 else -((-n) / 100) := by
    split
    · exact Int.tdiv_eq_ediv_of_nonneg (by omega)
    · have := Int.neg_tdiv (a := -n) (b := 100)
      rw [Int.neg_neg] at this
      rw [this, Int.tdiv_eq_ediv_of_nonneg (by omega)]
  split at k <;> omega
def nowY (now : Int) : Int := Cal.yOf (splitN now)

end Go.Proofs.YtkenianfpfamcaaGreatDoor
