/- Contracts of the document's name and number. -/
import Derived.Test.YtjalfddedikibaaDoorStampPJ
namespace Go.Proofs.YtjalfddedikibaaDoor
open Go Go.RowKit
set_option maxHeartbeats 2000000

def kindB (k : Nat) : Int := if k = 0 then 119 else if k = 1 then 108 else 109
def cntN (k : Nat) : Nat := if k = 2 then 12 else 7
def nameV (r : Option (Nat × List UInt8)) (a : Nat) : Value :=
  match r with
  | none => .tuple #[.int .i64 (-1), .int .i64 a]
  | some (i, w) => .tuple #[.int .i64 i, .int .i64 ((a : Int) + w.length)]
theorem names_len (k : Nat) (hk : k < 3) : (Stm.namesOf k).length = cntN k := by
  have : k = 0 ∨ k = 1 ∨ k = 2 := by omega
  rcases this with rfl | rfl | rfl <;> rfl
theorem names_len9 (k : Nat) (hk : k < 3) (n : Nat) : ((Stm.namesOf k).getD n []).length ≤ 9 := by
  have : k = 0 ∨ k = 1 ∨ k = 2 := by omega
  rcases this with rfl | rfl | rfl
  · exact short_len n
  · exact long_len n
  · exact mon_len n
theorem first_step (t : List UInt8) (l : List (List UInt8)) (i : Nat) (h : i < l.length) : Stm.firstOf t (l.drop i) i = if (l.getD i []).isPrefixOf t then some (i, l.getD i []) else Stm.firstOf t (l.drop (i + 1)) (i + 1) := by
  rw [List.drop_eq_getElem_cons h]
  have : l.getD i [] = l[i] := by rw [List.getD_eq_getElem?_getD, List.getElem?_eq_getElem h]; rfl
  rw [this]
  rfl

/-- the number that digits say, the place behind them; -1 and the place at which there is none -/
def numV (r : Nat × Int × Bool) : Value := if r.2.2 then .tuple #[.int .i64 r.2.1, .int .i64 r.1] else .tuple #[.int .i64 (-1), .int .i64 r.1]
theorem digs_some {s : List UInt8} {w : Nat} {b : Bool} {a : Nat} {v : Int} {c : UInt8} (h : s[a]? = some c) : Stm.digs s (w + 1) b a v = if b && c == 32 then Stm.digs s w false (a + 1) (10 * v) else if Stm.isDig c then Stm.digs s w false (a + 1) (10 * v + ((c.toNat : Int) - 48)) else (a, v, false) := by
  rw [Stm.digs, h]
theorem digs_none {s : List UInt8} {w : Nat} {b : Bool} {a : Nat} {v : Int} (h : s[a]? = none) : Stm.digs s (w + 1) b a v = (a, v, false) := by
  rw [Stm.digs, h]
theorem L_get? {s : ByteArray} {a : Nat} (h : a < s.size) : (L s)[a]? = some s[a] := by
  rw [List.getElem?_eq_getElem (by rw [L_length]; exact h)]; rfl
theorem L_get?_none {s : ByteArray} {a : Nat} (h : s.size ≤ a) : (L s)[a]? = none := List.getElem?_eq_none (by rw [L_length]; exact h)
end Go.Proofs.YtjalfddedikibaaDoor
