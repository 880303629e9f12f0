/- Rows of spans; the spans of a range header in plain words. -/
import Derived.Test.YtnodboggemggmaaGreatDoorSpanB
namespace Go.Proofs.YtnodboggemggmaaGreatDoor
open Go Go.RowKit

/-- 'append(v, x)', x a struct of two cells, v of the call's own. -/
theorem append2 {P : Program} {w : World} {ops : Array Oper} {rest : List Oper} {o : Oper} {a : Act} {Q : Exit → Act → World → Prop} (hgd : o.guard = none) (s x : Operand) (t : TypeId)
    (ho : o.op = .call { callee := .builtin .append, args := #[s, x], argTypes := #[t, t] })
    (base : Nat) (e : TypeId) (i : TypeInfo) (z : Value) (bytes : Nat) (ht : P.underlying t = some (.slice e)) (hi : P.info? e = some i) (hz : i.zero = some z)
    (hsize : i.size = 2) (hby : i.bytes = bytes) (hzs : z.cells.size = 2)
    {v : Value} {n : Nat} {xs : List Value} (hown : w.ownsRow base e 2 v n xs) (hs : a.eval s = v)
    (u1 u2 : Value) (hu1 : u1.oneCell' = true) (hu2 : u2.oneCell' = true) {nb : Nat} (hx : a.eval x = .slice (some ⟨nb, 0, none⟩) 1 1) (hnb : nb = w.heap.size)
    (hn : n + 1 ≤ maxLen) (hbytes : (n + 1) * bytes ≤ 140737488355328) (hbase : base ≤ w.heap.size)
    (h : ∀ g cap w', base ≤ g → w'.ownsRow base e 2 (.slice (some ⟨g, 0, none⟩) (n + 1) cap) (n + 1) (xs ++ [u1, u2]) → Below base w w' → wpList P ops Q rest (a.put o.dst (.slice (some ⟨g, 0, none⟩) (n + 1) cap)) w') :
    wpList P ops Q (o :: rest) a (w.alloc (.cells #[u1, u2] e)) := by
  subst hnb
  have hw : base ≤ (w.alloc (.cells #[u1, u2] e)).heap.size := by
    show base ≤ (w.heap.push _).size
    rw [Array.size_push]; omega
  refine wpList_append_own (w.alloc (.cells #[u1, u2] e)) hgd s x t ho base e i z 2 bytes ht hi hz hsize hby hzs (by decide) v n xs hs (hown.alloc _) ⟨w.heap.size, 0, none⟩ 1 1 [u1, u2] hx rfl ?_ ?_ hn hbytes hw ?_
  · intro j y hj
    match j, hj with
    | 0, hj =>
      simp at hj; subst hj
      rw [Addr.add_lit]
      exact World.cell?_alloc_mark w #[u1, u2] e (0, 0) 0
    | 1, hj =>
      simp at hj; subst hj
      rw [Addr.add_lit]
      exact World.cell?_alloc_mark w #[u1, u2] e (0, 0) 1
  · intro y hy
    rcases List.mem_cons.1 hy with rfl | hy
    · exact hu1
    · rw [List.mem_singleton] at hy; subst hy; exact hu2
  · intro v' w' hown' hgrow _
    rcases hown'.2 with ⟨_, h0⟩ | ⟨g, cap, cur, rfl, hg, _⟩
    · omega
    · exact h g cap w' hg hown' (((Below.refl _ _).alloc hbase _).trans (own_below (hown.alloc _) hgrow hw))

def encS (p : Int × Int) : List Value := [.int .i64 p.1, .int .i64 p.2]
def cellsS (l : List (Int × Int)) : List Value := l.flatMap encS
theorem cellsS_snoc (l : List (Int × Int)) (a b : Int) : cellsS l ++ [.int .i64 a, .int .i64 b] = cellsS (l ++ [(a, b)]) := by simp [cellsS, encS]
theorem cellsS_get : ∀ (l : List (Int × Int)) (k : Nat) (p : Int × Int), l[k]? = some p → (cellsS l)[2 * k]? = some (.int .i64 p.1) ∧ (cellsS l)[2 * k + 1]? = some (.int .i64 p.2) := by
  intro l
  induction l with
  | nil => intro k p h; simp at h
  | cons x l ih =>
    intro k p h
    cases k with
    | zero => simp at h; subst h; exact ⟨rfl, rfl⟩
    | succ k =>
      have := ih k p (by simpa using h)
      have e : cellsS (x :: l) = .int .i64 x.1 :: .int .i64 x.2 :: cellsS l := rfl
      rw [e, show 2 * (k + 1) = 2 * k + 1 + 1 by omega]
      exact this
/-- a slice of spans (of type e) of the call's own -/
def SpanRow (w : World) (base e : Nat) (v : Value) (l : List (Int × Int)) : Prop := w.ownsRow base e 2 v l.length (cellsS l)
theorem spanRow_snoc {w : World} {base e : Nat} {v : Value} {l : List (Int × Int)} {a b : Int} (h : w.ownsRow base e 2 v (l.length + 1) (cellsS l ++ [.int .i64 a, .int .i64 b])) : SpanRow w base e v (l ++ [(a, b)]) := by
  unfold SpanRow; rw [List.length_append, ← cellsS_snoc]; exact h
theorem spanRow_slice {w : World} {b e : Nat} {v : Value} {l : List (Int × Int)} (h : SpanRow w b e v l) : ∃ a cap, v = .slice a l.length cap := by
  rcases h.2 with ⟨rfl, h0⟩ | ⟨g, cap, cur, rfl, hg, r⟩
  · exact ⟨none, 0, by rw [h0]⟩
  · exact ⟨_, cap, rfl⟩
theorem spanRow_nil (w : World) (base e : Nat) : SpanRow w base e (.slice none 0 0) [] := World.ownsRow_nil _ _ _ _

theorem splitQ_le : ∀ (f : Nat) (l cur : List UInt8) (ps : List (List UInt8)), splitQ f l cur = some ps → (∀ p ∈ ps, p.length ≤ cur.length + l.length) ∧ ps.length ≤ l.length + 1 := by
  intro f
  induction f with
  | zero => intro l cur ps h; cases h
  | succ f ih =>
    intro l cur ps h
    rcases l with _ | ⟨c, r⟩
    · rw [splitQ_nil] at h; cases h; simp
    · by_cases hq : (c.toNat : Int) = 34
      · rw [splitQ_q hq] at h
        cases hu : unq (c :: r) with
        | none => rw [hu] at h; cases h
        | some p =>
          rw [hu] at h
          have hb := unq_bd (a := p.1) (n := p.2) hu
          have := ih _ _ _ h
          simp only [List.length_append, List.length_drop, List.length_take, List.length_cons] at this hb ⊢
          refine ⟨fun x hx => ?_, by omega⟩
          have := this.1 x hx
          omega
      · by_cases hc : (c.toNat : Int) = 44
        · rw [splitQ_comma hc] at h
          obtain ⟨qs, h1, rfl⟩ := Option.map_eq_some_iff.1 h
          have := ih _ _ _ h1
          simp only [List.length_cons, List.length_nil] at this ⊢
          refine ⟨fun x hx => ?_, by omega⟩
          rcases List.mem_cons.1 hx with rfl | hx
          · omega
          · have := this.1 x hx; omega
        · rw [splitQ_else hq hc] at h
          have := ih _ _ _ h
          simp only [List.length_append, List.length_cons, List.length_nil] at this ⊢
          refine ⟨fun x hx => ?_, by omega⟩
          have := this.1 x hx
          omega
theorem listOf_le {l : List UInt8} {xs : List (List UInt8)} (h : listOf l = some xs) : (∀ p ∈ xs, p.length ≤ l.length) ∧ xs.length ≤ l.length + 1 := by
  obtain ⟨ps, h1, rfl⟩ := Option.map_eq_some_iff.1 h
  have := splitQ_le _ _ _ _ h1
  refine ⟨fun p hp => ?_, Nat.le_trans (keep_le ps) this.2⟩
  unfold keep at hp
  obtain ⟨q, hq, rfl⟩ := List.mem_map.1 (List.mem_filter.1 hp).1
  have h2 := this.1 q hq
  have h3 := trim_le q
  simp at h2; omega

def els (size : Int) : List (List UInt8) → Option (List (Int × Int))
  | [] => some []
  | x :: r => match elemO x size with
    | none => none
    | some (a, b, m) => (els size r).map fun l => if m = true then (a, b) :: l else l
def bytesW : List UInt8 := [98, 121, 116, 101, 115]
def elsE : Option (List (Int × Int)) → Int
  | none => 90
  | some [] => 91
  | some (_ :: _) => 0
def fromE (size : Int) : Option (List (List UInt8)) → Int
  | none => 90
  | some [] => 90
  | some (x :: r) => elsE (els size (x :: r))
def fromL (size : Int) : Option (List (List UInt8)) → List (Int × Int)
  | none => []
  | some xs => (els size xs).getD []
/-- what a range header says: the error's number, the spans -/
def parseE (l : List UInt8) (size : Int) : Int :=
  if size < 0 then 1 else if (idx 61 l).isSome = true ∧ decide (lower (cutA 61 l) = bytesW) = true then fromE size (listOf (cutZ 61 l)) else 90
def parseL (l : List UInt8) (size : Int) : List (Int × Int) :=
  if size < 0 then [] else if (idx 61 l).isSome = true ∧ decide (lower (cutA 61 l) = bytesW) = true then fromL size (listOf (cutZ 61 l)) else []
theorem infoSpan : (Tryz.prog.info? 38).map (fun i => (i.zero, i.size, i.bytes)) = some (some (.agg #[.int .i64 0, .int .i64 0]), 2, 16) := by kernel_rfl
theorem infoSpanR : (Tryz.prog.info? 52).map (fun i => (i.zero, i.size, i.bytes)) = some (some (.agg #[.int .i64 0, .int .i64 0]), 2, 16) := by kernel_rfl
end Go.Proofs.YtnodboggemggmaaGreatDoor
