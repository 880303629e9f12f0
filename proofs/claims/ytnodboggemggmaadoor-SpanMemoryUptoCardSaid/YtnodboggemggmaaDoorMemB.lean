/- Rows of spans in a row: made, written over, grown. -/
import Derived.Test.YtnodboggemggmaaDoorMemA
namespace Go.Proofs.YtnodboggemggmaaDoor
open Go Go.RowKit

theorem own_lower {w : World} {b b' : Nat} {e : TypeId} {size n : Nat} {v : Value} {xs : List Value} (h : w.ownsRow b e size v n xs) (hb : b' ≤ b) : w.ownsRow b' e size v n xs := by
  refine ⟨h.1, ?_⟩
  rcases h.2 with h | ⟨g, cap, cur, h1, h2, r⟩
  · exact Or.inl h
  · exact Or.inr ⟨g, cap, cur, h1, Nat.le_trans hb h2, r⟩
theorem own_off {w : World} {b : Nat} {e : TypeId} {size n : Nat} {v : Value} {xs : List Value} (h : w.ownsRow b e size v n xs) {p : Addr} (hp : ∀ k, v.ownBlock = some k → k ≠ p.block) (u : Value) : (w.setCell p u).ownsRow b e size v n xs := by
  refine ⟨h.1, ?_⟩
  rcases h.2 with h | ⟨g, cap, cur, h1, h2, h3, r⟩
  · exact Or.inl h
  · refine Or.inr ⟨g, cap, cur, h1, h2, ?_, r⟩
    rw [Below.heap_setCell w p u g (hp g (by rw [h1]; rfl))]
    exact h3

/-- a row of rows of spans of the call's own, each row in a block of its own -/
structure Six (w : World) (B : Nat) (V : Value) (vs : List Value) (C : Nat → List Sp) : Prop where
  own : w.ownsRow B 22 1 V vs.length vs
  row : ∀ (r : Nat) (v : Value), vs[r]? = some v → SpanRow w B 33 v (C r)
  far : ∀ (r : Nat) (v : Value) (k : Nat), vs[r]? = some v → v.ownBlock = some k → V.ownBlock ≠ some k
  apart : ∀ (r r' : Nat) (v v' : Value) (k : Nat), r ≠ r' → vs[r]? = some v → vs[r']? = some v' → v.ownBlock = some k → v'.ownBlock ≠ some k
theorem Six.next {w w' : World} {B : Nat} {V : Value} {vs : List Value} {C : Nat → List Sp} (h : Six w B V vs C) (hb : Below w.heap.size w w') : Six w' B V vs C :=
  ⟨own_keep h.own hb (Nat.le_refl _), fun r v hv => own_keep (h.row r v hv) hb (Nat.le_refl _), h.far, h.apart⟩
theorem Six.slice {w : World} {B : Nat} {V : Value} {vs : List Value} {C : Nat → List Sp} (h : Six w B V vs C) : ∃ a cap, V = .slice a vs.length cap := by
  rcases h.own.2 with ⟨hv, h0⟩ | ⟨g, cap, cur, hv, _⟩
  · exact ⟨none, 0, by rw [hv, h0]⟩
  · exact ⟨_, cap, hv⟩
theorem get_two {α : Type} {l : List α} {x y v : α} {r : Nat} (h : (l ++ [x, y])[r]? = some v) : (r < l.length ∧ l[r]? = some v) ∨ (r = l.length ∧ v = x) ∨ (r = l.length + 1 ∧ v = y) := by
  rcases Nat.lt_or_ge r l.length with hr | hr
  · rw [List.getElem?_append_left hr] at h; exact Or.inl ⟨hr, h⟩
  · rw [List.getElem?_append_right hr] at h
    have hlt := (List.getElem?_eq_some_iff.1 h).1
    simp only [List.length_cons, List.length_nil] at hlt
    obtain ⟨d, hd⟩ : ∃ d, r - l.length = d := ⟨_, rfl⟩
    rw [hd] at h hlt
    match d, hd, h with
    | 0, hd, h => exact Or.inr (Or.inl ⟨by omega, by simpa using h.symm⟩)
    | 1, hd, h => exact Or.inr (Or.inr ⟨by omega, by simpa using h.symm⟩)
theorem Six.add {w0 w4 w5 : World} {B : Nat} {V x y : Value} {vs : List Value} {C : Nat → List Sp} {g cap : Nat} (h : Six w0 B V vs C) (hb : Below w0.heap.size w0 w4) (hB : B ≤ w0.heap.size)
    (hx : SpanRow w4 w0.heap.size 33 x (C vs.length)) (hy : SpanRow w4 w0.heap.size 33 y (C (vs.length + 1))) (hxy : ∀ k, x.ownBlock = some k → y.ownBlock ≠ some k)
    (ho : w5.ownsRow B 22 1 (.slice (some ⟨g, 0, none⟩) (vs.length + 2) cap) (vs.length + 2) (vs ++ [x, y])) (hg : w4.grownBy w5 V.ownBlock) (hat : V.ownBlock = some g ∨ g = w4.heap.size) :
    Six w5 B (.slice (some ⟨g, 0, none⟩) (vs.length + 2) cap) (vs ++ [x, y]) C := by
  have h4 := h.next hb
  have hV : ∀ k, V.ownBlock = some k → k < w0.heap.size := fun k hk => (World.ownsRow.lt h.own k hk).2
  have hold : ∀ (r : Nat) (v : Value) (k : Nat), vs[r]? = some v → v.ownBlock = some k → k < w0.heap.size := fun r v k hv hk => (World.ownsRow.lt (h.row r v hv) k hk).2
  have hxl := World.ownsRow.lt hx
  have hyl := World.ownsRow.lt hy
  have hsz := hb.size
  have keep : ∀ {v : Value} {l : List Sp} {b : Nat}, SpanRow w4 b 33 v l → (∀ k, v.ownBlock = some k → V.ownBlock ≠ some k) → SpanRow w5 b 33 v l := by
    intro v l b hr hne
    refine World.ownsRow.kept hr hg ?_
    cases hv : v.ownBlock with
    | none => exact Or.inl rfl
    | some k => exact Or.inr (fun e => hne k hv e.symm)
  have hxV : ∀ k, x.ownBlock = some k → V.ownBlock ≠ some k := fun k hk e => by have := hV k e; have := (hxl k hk).1; omega
  have hyV : ∀ k, y.ownBlock = some k → V.ownBlock ≠ some k := fun k hk e => by have := hV k e; have := (hyl k hk).1; omega
  have hgk : ∀ k, k < w4.heap.size → V.ownBlock ≠ some k → (some g : Option Nat) ≠ some k := by
    intro k hk hne e
    injection e with e
    rcases hat with hat | hat
    · exact hne (by rw [hat, e])
    · omega
  refine ⟨by rw [show (vs ++ [x, y]).length = vs.length + 2 by simp]; exact ho, ?_, ?_, ?_⟩
  · intro r v hv
    rcases get_two hv with ⟨_, hv⟩ | ⟨rfl, rfl⟩ | ⟨rfl, rfl⟩
    · exact keep (h4.row r v hv) (h.far r v · hv)
    · exact own_lower (keep hx hxV) hB
    · exact own_lower (keep hy hyV) hB
  · intro r v k hv hk
    rcases get_two hv with ⟨_, hv⟩ | ⟨rfl, rfl⟩ | ⟨rfl, rfl⟩
    · exact hgk k (Nat.lt_of_lt_of_le (hold r v k hv hk) hsz) (h.far r v k hv hk)
    · exact hgk k (hxl k hk).2 (hxV k hk)
    · exact hgk k (hyl k hk).2 (hyV k hk)
  · intro r r' v v' k hne hv hv' hk e
    have a1 := get_two hv
    have a2 := get_two hv'
    clear hv hv'
    rcases a1 with ⟨_, hv⟩ | ⟨rfl, rfl⟩ | ⟨rfl, rfl⟩ <;> rcases a2 with ⟨_, hv'⟩ | ⟨rfl, rfl⟩ | ⟨rfl, rfl⟩
    · exact h.apart r r' v v' k hne hv hv' hk e
    · have := hold r v k hv hk; have := (hxl k e).1; omega
    · have := hold r v k hv hk; have := (hyl k e).1; omega
    · have := hold r' v' k hv' e; have := (hxl k hk).1; omega
    · exact hne rfl
    · exact hxy k hk e
    · have := hold r' v' k hv' e; have := (hyl k hk).1; omega
    · exact hxy k e hk
    · exact hne rfl
theorem cellsS_set : ∀ (l : List Sp) (j : Nat) (a b : Int), j < l.length → ((cellsS l).set (j * 2) (.int .i64 a)).set (j * 2 + 1) (.int .i64 b) = cellsS (l.set j (a, b))
  | x :: l, 0, a, b, _ => by simp [cellsS, encS]
  | x :: l, j + 1, a, b, h => by
    have ih := cellsS_set l j a b (by simpa using h)
    have e : cellsS (x :: l) = .int .i64 x.1 :: .int .i64 x.2 :: cellsS l := rfl
    rw [e, show (j + 1) * 2 = j * 2 + 1 + 1 by omega, List.set_cons_succ, List.set_cons_succ, List.set_cons_succ, List.set_cons_succ, ih]
    rfl
theorem spanRow_put {w : World} {b e g cap : Nat} {l : List Sp} (h : SpanRow w b e (.slice (some ⟨g, 0, none⟩) l.length cap) l) {j : Nat} (hj : j < l.length) (x y : Int) :
    SpanRow ((w.setCell ⟨g, j * 2, none⟩ (.int .i64 x)).setCell ⟨g, j * 2 + 1, none⟩ (.int .i64 y)) b e (.slice (some ⟨g, 0, none⟩) l.length cap) (l.set j (x, y)) := by
  have h1 := (World.ownsRow.stored h (j * 2) (.int .i64 x)).1
  have h2 := (World.ownsRow.stored h1 (j * 2 + 1) (.int .i64 y)).1
  rw [cellsS_set l j x y hj] at h2
  unfold SpanRow
  rw [List.length_set]
  exact h2
theorem Six.put {w : World} {B : Nat} {V : Value} {vs : List Value} {C : Nat → List Sp} (h : Six w B V vs C) {i j k cap : Nat} (hv : vs[i]? = some (.slice (some ⟨k, 0, none⟩) (C i).length cap)) (hj : j < (C i).length) (x y : Int) :
    Six ((w.setCell ⟨k, j * 2, none⟩ (.int .i64 x)).setCell ⟨k, j * 2 + 1, none⟩ (.int .i64 y)) B V vs (fun r => if r = i then (C i).set j (x, y) else C r) := by
  refine ⟨?_, ?_, h.far, h.apart⟩
  · have hp : ∀ q, V.ownBlock = some q → q ≠ k := fun q hq e => h.far i _ k hv rfl (by rw [hq, e])
    exact own_off (own_off h.own (p := ⟨k, j * 2, none⟩) hp _) (p := ⟨k, j * 2 + 1, none⟩) hp _
  · intro r v hr
    by_cases hri : r = i
    · subst hri
      rw [if_pos rfl]
      obtain rfl : v = _ := Option.some.inj (hr.symm.trans hv)
      exact spanRow_put (h.row r _ hr) hj x y
    · rw [if_neg hri]
      have hp : ∀ q, v.ownBlock = some q → q ≠ k := fun q hq e => h.apart i r _ v k (fun e => hri e.symm) hv hr rfl (by rw [hq, e])
      exact own_off (own_off (h.row r v hr) (p := ⟨k, j * 2, none⟩) hp _) (p := ⟨k, j * 2 + 1, none⟩) hp _

/-- marked up to a place -/
def MarkedT (C : Nat → List Sp) (i j : Nat) : Prop := ∀ r q, (r < i ∨ (r = i ∧ q < j)) → q < (C r).length → (C r)[q]? = some (-7 - (r : Int), -1000 - (q : Int))
theorem MarkedT.put {C : Nat → List Sp} {i j : Nat} (h : MarkedT C i j) (hj : j < (C i).length) : MarkedT (fun r => if r = i then (C i).set j (-7 - (i : Int), -1000 - (j : Int)) else C r) i (j + 1) := by
  intro r q hrq hq
  simp only [] at hq ⊢
  by_cases hri : r = i
  · subst hri
    rw [if_pos rfl] at hq ⊢
    rw [List.length_set] at hq
    by_cases hqj : q = j
    · subst hqj
      rw [List.getElem?_set_self hj]
    · rw [List.getElem?_set_ne (fun e => hqj e.symm)]
      exact h r q (Or.inr ⟨rfl, by omega⟩) hq
  · rw [if_neg hri] at hq ⊢
    exact h r q (by omega) hq
theorem MarkedT.next {C : Nat → List Sp} {i j : Nat} (h : MarkedT C i j) (hj : (C i).length ≤ j) : MarkedT C (i + 1) 0 := by
  intro r q hrq hq
  by_cases hri : r = i
  · subst hri; exact h r q (Or.inr ⟨rfl, by omega⟩) hq
  · exact h r q (Or.inl (by omega)) hq
theorem Six.at_ {w : World} {B : Nat} {vs : List Value} {C : Nat → List Sp} {g cap : Nat} (h : Six w B (.slice (some ⟨g, 0, none⟩) vs.length cap) vs C) {k : Nat} (hk : k < vs.length) :
    ∃ a c, w.cell? ⟨g, k, none⟩ = some (.slice a (C k).length c) ∧ vs[k]? = some (.slice a (C k).length c) ∧ SpanRow w B 33 (.slice a (C k).length c) (C k) := by
  have e := World.ownsRow.cellAt h.own k (by omega)
  have hg : vs[k]? = some vs[k] := List.getElem?_eq_getElem hk
  have hr := h.row k vs[k] hg
  obtain ⟨a, c, hs⟩ := spanRow_slice hr
  rw [hs] at hg hr
  exact ⟨a, c, by rw [e]; exact hg, hg, hr⟩
theorem spanRow_at {w : World} {b e : Nat} {a : Option Addr} {c : Nat} {l : List Sp} (h : SpanRow w b e (.slice a l.length c) l) {q : Nat} (hq : q < l.length) :
    ∃ g, a = some ⟨g, 0, none⟩ ∧ (∃ u, w.cell? ⟨g, q * 2, none⟩ = some u) ∧ (∃ u, w.cell? ⟨g, q * 2 + 1, none⟩ = some u) ∧ w.frozen? ⟨g, q * 2, none⟩ = false ∧ w.frozen? ⟨g, q * 2 + 1, none⟩ = false := by
  rcases h.2 with ⟨_, h0⟩ | ⟨g, cap, cur, hv, hg, _⟩
  · omega
  · injection hv with h1 h2 h3
    subst h1 h3
    have hg := cellsS_get l q l[q] (List.getElem?_eq_getElem hq)
    refine ⟨g, rfl, ⟨.int .i64 l[q].1, ?_⟩, ⟨.int .i64 l[q].2, ?_⟩, World.ownsRow.frozenAt h _, World.ownsRow.frozenAt h _⟩
    · rw [World.ownsRow.cellAt h (q * 2) (by omega), show q * 2 = 2 * q by omega]; exact hg.1
    · rw [World.ownsRow.cellAt h (q * 2 + 1) (by omega), show q * 2 + 1 = 2 * q + 1 by omega]; exact hg.2
theorem Six.addr {w : World} {B : Nat} {a : Option Addr} {cap : Nat} {vs : List Value} {C : Nat → List Sp} (h : Six w B (.slice a vs.length cap) vs C) (hn : 0 < vs.length) : ∃ g, a = some ⟨g, 0, none⟩ := by
  rcases h.own.2 with ⟨_, h0⟩ | ⟨g, c, cur, hv, _⟩
  · omega
  · injection hv with h1 h2 h3
    exact ⟨g, h1⟩

/-- a slice that reads as spans, at the beginning of its block -/
def ReadS (w : World) (v : Value) (l : List Sp) : Prop :=
  (l = [] ∧ v = .slice none 0 0) ∨ ∃ k cap, v = .slice (some ⟨k, 0, none⟩) l.length cap ∧ k < w.heap.size ∧ ∀ j u, (cellsS l)[j]? = some u → w.cell? ⟨k, j, none⟩ = some u
theorem readS_of_row {w : World} {b e : Nat} {v : Value} {l : List Sp} (h : SpanRow w b e v l) : ReadS w v l := by
  rcases h.2 with ⟨rfl, h0⟩ | ⟨g, cap, cur, rfl, hg, r⟩
  · exact Or.inl ⟨List.eq_nil_of_length_eq_zero h0, rfl⟩
  · refine Or.inr ⟨g, cap, rfl, (World.ownsRow.lt h g rfl).2, fun j u hu => ?_⟩
    have := World.ownsRow.cells h (g := g) rfl j u hu
    rw [addr_add] at this
    exact this
theorem ReadS.at_ {w : World} {v : Value} {l : List Sp} (h : ReadS w v l) {j : Nat} (hj : j < l.length) : ∃ k cap, v = .slice (some ⟨k, 0, none⟩) l.length cap ∧ k < w.heap.size ∧ w.cell? ⟨k, j * 2, none⟩ = some (.int .i64 l[j].1) ∧ w.cell? ⟨k, j * 2 + 1, none⟩ = some (.int .i64 l[j].2) := by
  rcases h with ⟨rfl, _⟩ | ⟨k, cap, hv, hk, hc⟩
  · simp at hj
  · have hg := cellsS_get l j l[j] (List.getElem?_eq_getElem hj)
    refine ⟨k, cap, hv, hk, hc _ _ ?_, hc _ _ ?_⟩
    · rw [show j * 2 = 2 * j by omega]; exact hg.1
    · rw [show j * 2 + 1 = 2 * j + 1 by omega]; exact hg.2
theorem ReadS.slice {w : World} {v : Value} {l : List Sp} (h : ReadS w v l) : ∃ a cap, v = .slice a l.length cap := by
  rcases h with ⟨rfl, rfl⟩ | ⟨k, cap, rfl, _⟩
  · exact ⟨none, 0, rfl⟩
  · exact ⟨_, cap, rfl⟩
theorem ReadS.next {w w' : World} {v : Value} {l : List Sp} (h : ReadS w v l) (hb : Below w.heap.size w w') : ReadS w' v l := by
  rcases h with h | ⟨k, cap, hv, hk, hc⟩
  · exact Or.inl h
  · exact Or.inr ⟨k, cap, hv, Nat.lt_of_lt_of_le hk hb.size, fun j u hu => by rw [hb.cell (p := ⟨k, j, none⟩) hk]; exact hc j u hu⟩
theorem ReadS.alloc {w : World} {v : Value} {l : List Sp} (h : ReadS w v l) (o : Obj) : ReadS (w.alloc o) v l := h.next ((Below.refl _ _).alloc (Nat.le_refl _) o)

/-- the rows while one of them is grown -/
structure Grow (w : World) (B : Nat) (V : Value) (vs : List Value) (C : Nat → List Sp) (i : Nat) (g : Value) (G : List Sp) : Prop where
  own : w.ownsRow B 22 1 V vs.length vs
  read : ∀ (r : Nat) (v : Value), vs[r]? = some v → ReadS w v (C r)
  row : ∀ (r : Nat) (v : Value), i < r → vs[r]? = some v → SpanRow w B 33 v (C r)
  grown : SpanRow w B 33 g G
  pre : ∃ t, G = C i ++ t
  gfar : ∀ k, g.ownBlock = some k → V.ownBlock ≠ some k
  gapart : ∀ (r : Nat) (v : Value) (k : Nat), r ≠ i → vs[r]? = some v → g.ownBlock = some k → v.ownBlock ≠ some k
theorem cellsS_append (a b : List Sp) : cellsS (a ++ b) = cellsS a ++ cellsS b := by simp [cellsS]
theorem Grow.next {w w1 w' : World} {B : Nat} {V g : Value} {vs : List Value} {C : Nat → List Sp} {i : Nat} {G : List Sp} {x y : Int} {g' cap : Nat} (h : Grow w B V vs C i g G) (hb : Below w.heap.size w w1)
    (ho : w'.ownsRow B 33 2 (.slice (some ⟨g', 0, none⟩) (G.length + 1) cap) (G.length + 1) (cellsS G ++ [.int .i64 x, .int .i64 y])) (hg : w1.grownBy w' g.ownBlock) (hat : g.ownBlock = some g' ∨ g' = w1.heap.size)
    (hk : ∀ k j u, g.ownBlock = some k → (cellsS G)[j]? = some u → w'.cell? ⟨k, j, none⟩ = some u) : Grow w' B V vs C i (.slice (some ⟨g', 0, none⟩) (G.length + 1) cap) (G ++ [(x, y)]) := by
  have hsz := hb.size
  have hgs := hg.size
  have g'k : ∀ k, k < w1.heap.size → g.ownBlock ≠ some k → (some g' : Option Nat) ≠ some k := by
    intro k hk hne e
    injection e with e
    rcases hat with hat | hat
    · exact hne (by rw [hat, e])
    · omega
  have hVl : ∀ k, V.ownBlock = some k → k < w1.heap.size := fun k hk => Nat.lt_of_lt_of_le (World.ownsRow.lt h.own k hk).2 hsz
  refine ⟨?_, ?_, ?_, spanRow_snoc ho, ?_, ?_, ?_⟩
  · refine World.ownsRow.kept (own_keep h.own hb (Nat.le_refl _)) hg ?_
    cases hv : V.ownBlock with
    | none => exact Or.inl rfl
    | some k => exact Or.inr (fun e => h.gfar k e.symm hv)
  · intro r v hr
    rcases (h.read r v hr).next hb with h0 | ⟨k, c, hv, hkl, hc⟩
    · exact Or.inl h0
    · refine Or.inr ⟨k, c, hv, Nat.lt_of_lt_of_le hkl hgs, fun j u hu => ?_⟩
      by_cases hgk : g.ownBlock = some k
      · by_cases hri : r = i
        · subst hri
          obtain ⟨t, ht⟩ := h.pre
          refine hk k j u hgk ?_
          rw [ht, cellsS_append, List.getElem?_append_left (List.getElem?_eq_some_iff.1 hu).1]
          exact hu
        · exact absurd (by rw [hv]; rfl) (h.gapart r v k hri hr hgk)
      · exact (World.cell?_of_block (hg.block k hkl (fun e => hgk e.symm))).trans (hc j u hu)
  · intro r v hir hr
    refine World.ownsRow.kept (own_keep (h.row r v hir hr) hb (Nat.le_refl _)) hg ?_
    cases hv : v.ownBlock with
    | none => exact Or.inl rfl
    | some k => exact Or.inr (fun e => h.gapart r v k (by omega) hr e.symm hv)
  · obtain ⟨t, ht⟩ := h.pre
    exact ⟨t ++ [(x, y)], by rw [ht, List.append_assoc]⟩
  · intro k hk e
    exact g'k k (hVl k e) (fun e2 => h.gfar k e2 e) hk
  · intro r v k hri hr hk e
    have hlt : k < w1.heap.size := by
      rcases h.read r v hr with ⟨_, rfl⟩ | ⟨k2, c, rfl, hkl, _⟩
      · cases e
      · obtain rfl : k2 = k := Option.some.inj e
        exact Nat.lt_of_lt_of_le hkl hsz
    exact g'k k hlt (fun e2 => h.gapart r v k hri hr e2 e) hk
/-- the rows when the first k of them were grown -/
structure Half (w : World) (B : Nat) (V : Value) (vs : List Value) (C : Nat → List Sp) (k : Nat) : Prop where
  own : w.ownsRow B 22 1 V vs.length vs
  read : ∀ (r : Nat) (v : Value), vs[r]? = some v → ReadS w v (C r)
  row : ∀ (r : Nat) (v : Value), k ≤ r → vs[r]? = some v → SpanRow w B 33 v (C r)
theorem Six.half {w : World} {B : Nat} {V : Value} {vs : List Value} {C : Nat → List Sp} (h : Six w B V vs C) : Half w B V vs C 0 :=
  ⟨h.own, fun r v hv => readS_of_row (h.row r v hv), fun r v _ hv => h.row r v hv⟩
theorem Half.begin {w : World} {B : Nat} {V v : Value} {vs : List Value} {C : Nat → List Sp} {k : Nat} (h : Half w B V vs C k) (hv : vs[k]? = some v)
    (far : ∀ (r : Nat) (v : Value) (k : Nat), vs[r]? = some v → v.ownBlock = some k → V.ownBlock ≠ some k)
    (apart : ∀ (r r' : Nat) (v v' : Value) (k : Nat), r ≠ r' → vs[r]? = some v → vs[r']? = some v' → v.ownBlock = some k → v'.ownBlock ≠ some k) : Grow w B V vs C k v (C k) :=
  ⟨h.own, h.read, fun r v hr hv => h.row r v (Nat.le_of_lt hr) hv, h.row k v (Nat.le_refl _) hv, ⟨[], by simp⟩, fun q hq => far k v q hv hq, fun r v' q hr hv' hq => apart k r v v' q (Ne.symm hr) hv hv' hq⟩
theorem Grow.done {w : World} {B : Nat} {V g : Value} {vs : List Value} {C : Nat → List Sp} {k : Nat} {G : List Sp} (h : Grow w B V vs C k g G) : Half w B V vs C (k + 1) :=
  ⟨h.own, h.read, fun r v hr hv => h.row r v (by omega) hv⟩
theorem Half.at_ {w : World} {B : Nat} {vs : List Value} {C : Nat → List Sp} {g cap n : Nat} (h : Half w B (.slice (some ⟨g, 0, none⟩) vs.length cap) vs C n) {k : Nat} (hk : k < vs.length) :
    ∃ a c, w.cell? ⟨g, k, none⟩ = some (.slice a (C k).length c) ∧ vs[k]? = some (.slice a (C k).length c) ∧ ReadS w (.slice a (C k).length c) (C k) := by
  have e := World.ownsRow.cellAt h.own k (by omega)
  have hg : vs[k]? = some vs[k] := List.getElem?_eq_getElem hk
  have hr := h.read k vs[k] hg
  obtain ⟨a, c, hs⟩ := hr.slice
  rw [hs] at hg hr
  exact ⟨a, c, by rw [e]; exact hg, hg, hr⟩
theorem Half.next {w w' : World} {B : Nat} {V : Value} {vs : List Value} {C : Nat → List Sp} {k : Nat} (h : Half w B V vs C k) (hb : Below w.heap.size w w') : Half w' B V vs C k :=
  ⟨own_keep h.own hb (Nat.le_refl _), fun r v hv => (h.read r v hv).next hb, fun r v hr hv => own_keep (h.row r v hr hv) hb (Nat.le_refl _)⟩
end Go.Proofs.YtnodboggemggmaaDoor
