/- Contract of the document's read: what a text says in a form. -/
import Derived.Test.YtjalfddedikibaaDoorStampQJ
namespace Go.Proofs.YtjalfddedikibaaDoor
open Go Go.RowKit
set_option maxHeartbeats 4000000

def toPc (c : UInt8) : Stm.Pc :=
  if c = 119 then .name 0 else if c = 108 then .name 1 else if c = 109 then .name 2 else if c = 100 then .dig 2 false 0 else if c = 101 then .dig 2 true 0
  else if c = 121 then .dig 4 false 1 else if c = 99 then .dig 2 false 1 else if c = 104 then .dig 2 false 2 else if c = 105 then .dig 2 false 3 else if c = 115 then .dig 2 false 4 else .lit c
theorem pat_pcs (form : Nat) (h : form < 3) : (patL form).map toPc = Stm.pcs form := by
  have : form = 0 ∨ form = 1 ∨ form = 2 := by omega
  rcases this with rfl | rfl | rfl <;> decide
def foundCells (st : Stm.St) : List Value :=
  [.int .i64 st.wd, .int .i64 st.mo, .int .i64 st.dy, .int .i64 st.yr, .int .i64 st.hh, .int .i64 st.mi, .int .i64 st.ss, .int .i64 st.dyAt, .int .i64 st.yrAt, .int .i64 st.hhAt, .int .i64 st.miAt, .int .i64 st.ssAt]
def readV (r : Stm.St × Bool) (len : Nat) : Value :=
  if r.2 then .tuple #[.agg (foundCells r.1).toArray, .bool (((r.1.at_ : Int)) == (len : Int)), .int .i64 r.1.at_] else .tuple #[.agg (foundCells Stm.st0).toArray, .bool false, .int .i64 r.1.at_]

theorem digs_le (s : List UInt8) : ∀ (w : Nat) (b : Bool) (a : Nat) (v : Int), a ≤ s.length → 0 ≤ v → (Stm.digs s w b a v).1 ≤ s.length ∧ 0 ≤ (Stm.digs s w b a v).2.1
  | 0, b, a, v, h, hv => ⟨h, hv⟩
  | w + 1, b, a, v, h, hv => by
    cases hc : s[a]? with
    | none => rw [digs_none hc]; exact ⟨h, hv⟩
    | some c =>
      have hlt := (List.getElem?_eq_some_iff.1 hc).1
      rw [digs_some hc]
      split
      · exact digs_le s w false (a + 1) _ hlt (by omega)
      · split
        · rename_i hd
          have : 48 ≤ c.toNat := by unfold Stm.isDig at hd; exact (of_decide_eq_true hd).1
          exact digs_le s w false (a + 1) _ hlt (by omega)
        · exact ⟨h, hv⟩
theorem first_le (s : List UInt8) (a k n : Nat) (x : List UInt8) (h : Stm.firstOf (s.drop a) (Stm.namesOf k) 0 = some (n, x)) (ha : a ≤ s.length) : a + x.length ≤ s.length := by
  obtain ⟨i, _, _, hp⟩ := Stm.firstOf_some _ _ _ _ _ h
  rw [List.isPrefixOf_iff_prefix] at hp
  have := hp.length_le
  rw [List.length_drop] at this
  omega
theorem lit_pref (s : List UInt8) (a : Nat) (c : UInt8) : [c].isPrefixOf (s.drop a) = decide (s[a]? = some c) := by
  rw [Bool.eq_iff_iff, decide_eq_true_eq, List.isPrefixOf_iff_prefix]
  constructor
  · rintro ⟨t, ht⟩
    have := congrArg (fun l : List UInt8 => l[0]?) ht
    simpa using this.symm
  · intro h
    obtain ⟨hlt, rfl⟩ := List.getElem?_eq_some_iff.1 h
    exact ⟨s.drop (a + 1), by rw [List.drop_eq_getElem_cons hlt]; rfl⟩
theorem step_lit {s : List UInt8} {c : UInt8} {st : Stm.St} : Stm.stepP s (.lit c) st = if decide (s[st.at_]? = some c) then ({ st with at_ := st.at_ + 1 }, true) else (st, false) := by
  by_cases h : s[st.at_]? = some c <;> simp [Stm.stepP, h]
theorem step_name_none {s : List UInt8} {k : Nat} {st : Stm.St} (h : Stm.firstOf (s.drop st.at_) (Stm.namesOf k) 0 = none) : Stm.stepP s (.name k) st = (st, false) := by
  simp only [Stm.stepP, h]
theorem step_name_some {s : List UInt8} {k : Nat} {st : Stm.St} {n : Nat} {w : List UInt8} (h : Stm.firstOf (s.drop st.at_) (Stm.namesOf k) 0 = some (n, w)) :
    Stm.stepP s (.name k) st = (Stm.setName k n { st with at_ := st.at_ + w.length }, true) := by
  simp only [Stm.stepP, h]
theorem first_lt (s : List UInt8) (a k n : Nat) (x : List UInt8) (hk : k < 3) (h : Stm.firstOf (s.drop a) (Stm.namesOf k) 0 = some (n, x)) : n < 12 := by
  obtain ⟨i, hi, hx, _⟩ := Stm.firstOf_some _ _ _ _ _ h
  have := (List.getElem?_eq_some_iff.1 hx).1
  rw [names_len k hk] at this
  unfold cntN at this
  split at this <;> omega
theorem step_dig {s : List UInt8} {w : Nat} {b : Bool} {f : Nat} {st : Stm.St} {r : Nat × Int × Bool} (h : Stm.digs s w b st.at_ 0 = r) :
    Stm.stepP s (.dig w b f) st = if r.2.2 then (Stm.setDig f r.2.1 st.at_ { st with at_ := r.1 }, true) else ({ st with at_ := r.1 }, false) := by
  subst h; rfl
theorem run_drop {s : List UInt8} {p : ByteArray} {k : Nat} (h : k < p.size) (st : Stm.St) : Stm.runP s (((L p).drop k).map toPc) st = if (Stm.stepP s (toPc p[k]) st).2 then Stm.runP s (((L p).drop (k + 1)).map toPc) (Stm.stepP s (toPc p[k]) st).1 else Stm.stepP s (toPc p[k]) st := by
  rw [L_drop h, List.map_cons, Stm.runP_cons]
theorem run_drop_of {s : List UInt8} {p : ByteArray} {k : Nat} (h : k < p.size) {st st' : Stm.St} {q : Stm.Pc} {ok : Bool} (hq : toPc p[k] = q) (hs : Stm.stepP s q st = (st', ok)) {R : Stm.St × Bool} (hR : Stm.runP s (((L p).drop k).map toPc) st = R) : (if ok then Stm.runP s (((L p).drop (k + 1)).map toPc) st' else (st', false)) = R := by
  rw [← hR, run_drop h, hq, hs]
  cases ok <;> rfl

theorem zero12 : foundCells Stm.st0 = [.int .i64 0, .int .i64 0, .int .i64 0, .int .i64 0, .int .i64 0, .int .i64 0, .int .i64 0, .int .i64 0, .int .i64 0, .int .i64 0, .int .i64 0, .int .i64 0] := rfl

end Go.Proofs.YtjalfddedikibaaDoor
