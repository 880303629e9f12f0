/- Spans put together, in plain Lean: lists that rise and don't touch; two such lists with the same bytes are one. No program in sight. -/
import Derived.Test.YtnodboggemggmaaGreatDoorBase
namespace Go.Proofs.YtnodboggemggmaaGreatDoor
open Go

abbrev Sp := Int × Int
def cov (l : List Sp) (p : Int) : Prop := ∃ x, x ∈ l ∧ x.1 ≤ p ∧ p < x.2
theorem cov_nil (p : Int) : ¬ cov [] p := by rintro ⟨x, h, _⟩; cases h
theorem cov_cons (x : Sp) (l : List Sp) (p : Int) : cov (x :: l) p ↔ (x.1 ≤ p ∧ p < x.2) ∨ cov l p := by
  constructor
  · rintro ⟨y, h, h1⟩
    rcases List.mem_cons.1 h with rfl | h
    · exact Or.inl h1
    · exact Or.inr ⟨y, h, h1⟩
  · rintro (h | ⟨y, h, h1⟩)
    · exact ⟨x, List.mem_cons_self .., h⟩
    · exact ⟨y, List.mem_cons_of_mem _ h, h1⟩
theorem cov_append (a b : List Sp) (p : Int) : cov (a ++ b) p ↔ cov a p ∨ cov b p := by
  induction a with
  | nil => exact ⟨Or.inr, fun h => h.resolve_left (cov_nil p)⟩
  | cons x a ih => rw [List.cons_append, cov_cons, cov_cons, ih]; exact or_assoc.symm
/-- the spans of a list have a byte, rise, and don't touch -/
def Norm : List Sp → Prop
  | [] => True
  | x :: r => x.1 < x.2 ∧ (∀ y, y ∈ r → x.2 < y.1) ∧ Norm r
theorem norm_mem : ∀ {l : List Sp}, Norm l → ∀ y, y ∈ l → y.1 < y.2
  | [], _, y, h => by cases h
  | x :: r, hn, y, h => by
    rcases List.mem_cons.1 h with rfl | h
    · exact hn.1
    · exact norm_mem hn.2.2 y h
theorem norm_unique : ∀ {a b : List Sp}, Norm a → Norm b → (∀ p, cov a p ↔ cov b p) → a = b
  | [], [], _, _, _ => rfl
  | [], y :: s, _, hb, h => absurd ((h y.1).2 ⟨y, List.mem_cons_self .., Int.le_refl _, hb.1⟩) (cov_nil _)
  | x :: r, [], ha, _, h => absurd ((h x.1).1 ⟨x, List.mem_cons_self .., Int.le_refl _, ha.1⟩) (cov_nil _)
  | x :: r, y :: s, ha, hb, h => by
    have key : ∀ {x y : Sp} {r s : List Sp}, Norm (x :: r) → Norm (y :: s) → (∀ p, cov (x :: r) p → cov (y :: s) p) → y.1 ≤ x.1 := by
      intro x y r s ha hb h
      obtain ⟨z, hz, h1, _⟩ := h x.1 ⟨x, List.mem_cons_self .., Int.le_refl _, ha.1⟩
      rcases List.mem_cons.1 hz with rfl | hz
      · exact h1
      · have := hb.2.1 z hz; have := hb.1; omega
    have e1 : x.1 = y.1 := by
      have := key ha hb (fun p => (h p).1)
      have := key hb ha (fun p => (h p).2)
      omega
    have key2 : ∀ {x y : Sp} {r s : List Sp}, Norm (x :: r) → Norm (y :: s) → x.1 = y.1 → (∀ p, cov (y :: s) p → cov (x :: r) p) → y.2 ≤ x.2 := by
      intro x y r s ha hb e h
      by_cases hlt : x.2 < y.2
      · exfalso
        have := ha.1
        obtain ⟨z, hz, h1, h2⟩ := h x.2 ⟨y, List.mem_cons_self .., by omega, hlt⟩
        rcases List.mem_cons.1 hz with rfl | hz
        · omega
        · have := ha.2.1 z hz; omega
      · omega
    have e2 : x.2 = y.2 := by
      have := key2 ha hb e1 (fun p => (h p).2)
      have := key2 hb ha e1.symm (fun p => (h p).1)
      omega
    obtain rfl : x = y := Prod.ext e1 e2
    have tail : ∀ {r s : List Sp}, Norm (x :: r) → Norm (x :: s) → (∀ p, cov (x :: r) p → cov (x :: s) p) → ∀ p, cov r p → cov s p := by
      intro r s ha hb h p hp
      obtain ⟨z, hz, h1, h2⟩ := hp
      have := ha.2.1 z hz
      rcases (cov_cons x s p).1 (h p ((cov_cons x r p).2 (Or.inr ⟨z, hz, h1, h2⟩))) with q | q
      · omega
      · exact q
    rw [norm_unique ha.2.2 hb.2.2 (fun p => ⟨tail ha hb (fun p => (h p).1) p, tail hb ha (fun p => (h p).2) p⟩)]
theorem norm_snoc {l : List Sp} {y : Sp} : Norm (l ++ [y]) ↔ Norm l ∧ (∀ z, z ∈ l → z.2 < y.1) ∧ y.1 < y.2 := by
  induction l with
  | nil => simp [Norm]
  | cons x l ih =>
    rw [List.cons_append]
    constructor
    · rintro ⟨h1, h2, h3⟩
      obtain ⟨i1, i2, i3⟩ := ih.1 h3
      refine ⟨⟨h1, fun z hz => h2 z (List.mem_append.2 (Or.inl hz)), i1⟩, fun z hz => ?_, i3⟩
      rcases List.mem_cons.1 hz with rfl | hz
      · exact h2 y (List.mem_append.2 (Or.inr (List.mem_cons_self ..)))
      · exact i2 z hz
    · rintro ⟨⟨h1, h2, h3⟩, h4, h5⟩
      refine ⟨h1, fun z hz => ?_, ih.2 ⟨h3, fun z hz => h4 z (List.mem_cons_of_mem _ hz), h5⟩⟩
      rcases List.mem_append.1 hz with hz | hz
      · exact h2 z hz
      · rcases List.mem_cons.1 hz with rfl | hz
        · exact h4 x (List.mem_cons_self ..)
        · cases hz

/-- one span more behind spans that rise: what the program does with it -/
def mstep (out : List Sp) (x : Sp) : List Sp :=
  if x.2 ≤ x.1 then out
  else match out.getLast? with
    | none => [x]
    | some y => if x = y then out else if x.1 ≤ y.2 then out.dropLast ++ [(y.1, if y.2 < x.2 then x.2 else y.2)] else out ++ [x]
def mergeS (l : List Sp) : List Sp := l.foldl mstep []
theorem mstep_empty {out : List Sp} {x : Sp} (h : x.2 ≤ x.1) : mstep out x = out := by unfold mstep; rw [if_pos h]
theorem mstep_nil {x : Sp} (h : x.1 < x.2) : mstep [] x = [x] := by unfold mstep; rw [if_neg (by omega)]; rfl
theorem mstep_snoc {o : List Sp} {x y : Sp} (h : x.1 < x.2) : mstep (o ++ [y]) x = if x = y then o ++ [y] else if x.1 ≤ y.2 then o ++ [(y.1, if y.2 < x.2 then x.2 else y.2)] else o ++ [y] ++ [x] := by
  unfold mstep
  rw [if_neg (by omega), List.getLast?_append]
  simp
theorem mstep_norm {out : List Sp} {x : Sp} (hn : Norm out) (hx : ∀ y, y ∈ out → y.1 ≤ x.1) : Norm (mstep out x) ∧ (∀ p, cov (mstep out x) p ↔ cov out p ∨ (x.1 ≤ p ∧ p < x.2)) ∧ (∀ y, y ∈ mstep out x → y.1 ≤ x.1) ∧ (mstep out x).length ≤ out.length + 1 := by
  by_cases he : x.2 ≤ x.1
  · rw [mstep_empty he]
    exact ⟨hn, fun p => ⟨Or.inl, fun h => h.resolve_right (by omega)⟩, hx, by omega⟩
  · rcases List.eq_nil_or_concat out with rfl | ⟨o, y, rfl⟩
    · rw [mstep_nil (by omega)]
      refine ⟨⟨by omega, (fun y hy => by cases hy), trivial⟩, fun p => ?_, fun y hy => ?_, by simp⟩
      · rw [cov_cons]; exact Or.comm
      · rcases List.mem_cons.1 hy with rfl | hy
        · exact Int.le_refl _
        · cases hy
    · rw [List.concat_eq_append] at hn hx ⊢
      obtain ⟨n1, n2, n3⟩ := norm_snoc.1 hn
      have hyx := hx y (by simp)
      rw [mstep_snoc (by omega)]
      by_cases hq : x = y
      · rw [if_pos hq]
        refine ⟨hn, fun p => ⟨Or.inl, fun h => h.elim id fun h => ?_⟩, hx, by omega⟩
        exact (cov_append o [y] p).2 (Or.inr ((cov_cons y [] p).2 (Or.inl (hq ▸ h))))
      · rw [if_neg hq]
        by_cases hc : x.1 ≤ y.2
        · rw [if_pos hc]
          obtain ⟨m, hm, hm1, hm2⟩ : ∃ m : Int, (if y.2 < x.2 then x.2 else y.2) = m ∧ y.2 ≤ m ∧ x.2 ≤ m ∧ (m = y.2 ∨ m = x.2) := by
            by_cases h : y.2 < x.2
            · exact ⟨x.2, if_pos h, by omega, by omega, Or.inr rfl⟩
            · exact ⟨y.2, if_neg h, by omega, by omega, Or.inl rfl⟩
          rw [hm]
          refine ⟨norm_snoc.2 ⟨n1, n2, by show y.1 < m; omega⟩, fun p => ?_, fun z hz => ?_, by simp⟩
          · rw [cov_append, cov_append, cov_cons, cov_cons]
            have hnil := cov_nil p
            constructor
            · rintro (h | h | h)
              · exact Or.inl (Or.inl h)
              · by_cases hp : p < y.2
                · exact Or.inl (Or.inr (Or.inl ⟨h.1, hp⟩))
                · have h2 : p < m := h.2
                  exact Or.inr ⟨by omega, by omega⟩
              · exact absurd h hnil
            · rintro ((h | h | h) | h)
              · exact Or.inl h
              · exact Or.inr (Or.inl ⟨h.1, by show p < m; omega⟩)
              · exact absurd h hnil
              · exact Or.inr (Or.inl ⟨by show y.1 ≤ p; omega, by show p < m; omega⟩)
          · rcases List.mem_append.1 hz with hz | hz
            · exact hx z (List.mem_append.2 (Or.inl hz))
            · rcases List.mem_cons.1 hz with rfl | hz
              · exact hyx
              · cases hz
        · rw [if_neg hc]
          refine ⟨norm_snoc.2 ⟨hn, fun z hz => ?_, by omega⟩, fun p => ?_, fun z hz => ?_, by simp⟩
          · rcases List.mem_append.1 hz with hz | hz
            · have := n2 z hz; omega
            · rcases List.mem_cons.1 hz with rfl | hz
              · omega
              · cases hz
          · rw [cov_append, cov_cons]
            exact ⟨fun h => h.imp id (fun h => h.resolve_right (cov_nil p)), fun h => h.imp id Or.inl⟩
          · rcases List.mem_append.1 hz with hz | hz
            · exact hx z hz
            · rcases List.mem_cons.1 hz with rfl | hz
              · exact Int.le_refl _
              · cases hz
theorem mfold_norm : ∀ (l out : List Sp), Norm out → (∀ x, x ∈ l → ∀ y, y ∈ out → y.1 ≤ x.1) → l.Pairwise (fun a b => a.1 ≤ b.1) →
    Norm (l.foldl mstep out) ∧ (∀ p, cov (l.foldl mstep out) p ↔ cov out p ∨ cov l p) ∧ (l.foldl mstep out).length ≤ out.length + l.length
  | [], out, hn, _, _ => ⟨hn, fun p => ⟨Or.inl, fun h => h.resolve_right (cov_nil p)⟩, by simp⟩
  | x :: l, out, hn, hx, hp => by
    obtain ⟨p1, p2⟩ := List.pairwise_cons.1 hp
    obtain ⟨m1, m2, m3, m4⟩ := mstep_norm hn (hx x (List.mem_cons_self ..))
    obtain ⟨f1, f2, f3⟩ := mfold_norm l (mstep out x) m1 (fun z hz y hy => Int.le_trans (m3 y hy) (p1 z hz)) p2
    refine ⟨f1, fun p => ?_, by rw [List.foldl_cons, List.length_cons]; omega⟩
    rw [List.foldl_cons, f2 p, m2 p, cov_cons]; exact or_assoc
theorem mergeS_norm {l : List Sp} (hp : l.Pairwise (fun a b => a.1 ≤ b.1)) : Norm (mergeS l) ∧ (∀ p, cov (mergeS l) p ↔ cov l p) ∧ (mergeS l).length ≤ l.length := by
  obtain ⟨h1, h2, h3⟩ := mfold_norm l [] trivial (fun _ _ _ h => by cases h) hp
  exact ⟨h1, fun p => (h2 p).trans ⟨fun h => h.resolve_left (cov_nil p), Or.inr⟩, Nat.le_trans h3 (by simp)⟩

/-- the document's: a span takes in what touches it -/
def absorb : Sp → List Sp → Sp × List Sp
  | x, [] => (x, [])
  | x, y :: r => if y.2 < x.1 ∨ x.2 < y.1 then ((absorb x r).1, y :: (absorb x r).2) else absorb (if y.1 < x.1 then y.1 else x.1, if x.2 < y.2 then y.2 else x.2) r
def insS : Sp → List Sp → List Sp
  | x, [] => [x]
  | x, y :: r => if x.1 < y.1 then x :: y :: r else y :: insS x r
def rstep (out : List Sp) (x : Sp) : List Sp := if x.2 ≤ x.1 then out else insS (absorb x out).1 (absorb x out).2
def rmergeS (l : List Sp) : List Sp := l.foldl rstep []
theorem absorb_far {x : Sp} : ∀ {r : List Sp}, (∀ z, z ∈ r → x.2 < z.1) → absorb x r = (x, r)
  | [], _ => rfl
  | y :: r, h => by
    show (if y.2 < x.1 ∨ x.2 < y.1 then _ else _) = _
    rw [if_pos (Or.inr (h y (List.mem_cons_self ..))), absorb_far (fun z hz => h z (List.mem_cons_of_mem _ hz))]
theorem absorb_spec : ∀ (r : List Sp) (x : Sp), Norm r → x.1 < x.2 → Norm (absorb x r).2 ∧ (absorb x r).1.1 < (absorb x r).1.2 ∧ (∀ z, z ∈ (absorb x r).2 → z ∈ r)
    ∧ (∀ z, z ∈ (absorb x r).2 → z.2 < (absorb x r).1.1 ∨ (absorb x r).1.2 < z.1) ∧ ((absorb x r).1.1 = x.1 ∨ ∃ z, z ∈ r ∧ (absorb x r).1.1 = z.1)
    ∧ (∀ p, (((absorb x r).1.1 ≤ p ∧ p < (absorb x r).1.2) ∨ cov (absorb x r).2 p) ↔ ((x.1 ≤ p ∧ p < x.2) ∨ cov r p)) ∧ (absorb x r).2.length ≤ r.length
  | [], x, _, hx => ⟨trivial, hx, (fun z hz => hz), (fun z hz => by cases hz), Or.inl rfl, fun p => Iff.rfl, Nat.le_refl _⟩
  | y :: r, x, hn, hx => by
    obtain ⟨n1, n2, n3⟩ := hn
    have hdef : absorb x (y :: r) = if y.2 < x.1 ∨ x.2 < y.1 then ((absorb x r).1, y :: (absorb x r).2) else absorb (if y.1 < x.1 then y.1 else x.1, if x.2 < y.2 then y.2 else x.2) r := rfl
    rw [hdef]
    by_cases hc : y.2 < x.1 ∨ x.2 < y.1
    · rw [if_pos hc]
      obtain ⟨a1, a2, a3, a4, a5, a6, a7⟩ := absorb_spec r x n3 hx
      refine ⟨⟨n1, fun z hz => n2 z (a3 z hz), a1⟩, a2, fun z hz => ?_, fun z hz => ?_, ?_, fun p => ?_, by simp; omega⟩
      · rcases List.mem_cons.1 hz with rfl | hz
        · exact List.mem_cons_self ..
        · exact List.mem_cons_of_mem _ (a3 z hz)
      · rcases List.mem_cons.1 hz with rfl | hz
        · rcases hc with h | h
          · left
            rcases a5 with e | ⟨w, hw, e⟩
            · show z.2 < (absorb x r).1.1; rw [e]; exact h
            · show z.2 < (absorb x r).1.1; rw [e]; exact n2 w hw
          · right
            have := absorb_far (x := x) (r := r) (fun w hw => by have := n2 w hw; omega)
            show (absorb x r).1.2 < z.1
            rw [this]; exact h
        · exact a4 z hz
      · rcases a5 with e | ⟨w, hw, e⟩
        · exact Or.inl e
        · exact Or.inr ⟨w, List.mem_cons_of_mem _ hw, e⟩
      · rw [cov_cons, cov_cons]
        have := a6 p
        constructor
        · rintro (h | h | h)
          · exact (this.1 (Or.inl h)).imp id Or.inr
          · exact Or.inr (Or.inl h)
          · exact (this.1 (Or.inr h)).imp id Or.inr
        · rintro (h | h | h)
          · exact (this.2 (Or.inl h)).imp id Or.inr
          · exact Or.inr (Or.inl h)
          · exact (this.2 (Or.inr h)).imp id Or.inr
    · rw [if_neg hc]
      obtain ⟨m, hm, m1, m2, m3⟩ : ∃ m : Int, (if y.1 < x.1 then y.1 else x.1) = m ∧ m ≤ y.1 ∧ m ≤ x.1 ∧ (m = y.1 ∨ m = x.1) := by
        by_cases h : y.1 < x.1
        · exact ⟨y.1, if_pos h, by omega, by omega, Or.inl rfl⟩
        · exact ⟨x.1, if_neg h, by omega, by omega, Or.inr rfl⟩
      obtain ⟨k, hk, k1, k2, k3⟩ : ∃ k : Int, (if x.2 < y.2 then y.2 else x.2) = k ∧ y.2 ≤ k ∧ x.2 ≤ k ∧ (k = y.2 ∨ k = x.2) := by
        by_cases h : x.2 < y.2
        · exact ⟨y.2, if_pos h, by omega, by omega, Or.inl rfl⟩
        · exact ⟨x.2, if_neg h, by omega, by omega, Or.inr rfl⟩
      rw [hm, hk]
      obtain ⟨a1, a2, a3, a4, a5, a6, a7⟩ := absorb_spec r (m, k) n3 (by show m < k; omega)
      refine ⟨a1, a2, fun z hz => List.mem_cons_of_mem _ (a3 z hz), a4, ?_, fun p => ?_, by simp; omega⟩
      · rcases a5 with e | ⟨w, hw, e⟩
        · rw [e]
          rcases m3 with h | h
          · exact Or.inr ⟨y, List.mem_cons_self .., h⟩
          · exact Or.inl h
        · exact Or.inr ⟨w, List.mem_cons_of_mem _ hw, e⟩
      · rw [a6 p, cov_cons]
        show (m ≤ p ∧ p < k) ∨ _ ↔ _
        constructor
        · rintro (h | h)
          · obtain ⟨g1, g2⟩ := h
            by_cases hp : x.1 ≤ p ∧ p < x.2
            · exact Or.inl hp
            · refine Or.inr (Or.inl ⟨?_, ?_⟩)
              · rcases m3 with e | e <;> rcases k3 with e' | e' <;> omega
              · rcases m3 with e | e <;> rcases k3 with e' | e' <;> omega
          · exact Or.inr (Or.inr h)
        · rintro (h | h | h)
          · exact Or.inl (by omega)
          · exact Or.inl (by omega)
          · exact Or.inr h
theorem ins_spec : ∀ (k : List Sp) (x : Sp), Norm k → x.1 < x.2 → (∀ z, z ∈ k → z.2 < x.1 ∨ x.2 < z.1) → Norm (insS x k) ∧ (∀ z, z ∈ insS x k → z = x ∨ z ∈ k) ∧ (∀ p, cov (insS x k) p ↔ (x.1 ≤ p ∧ p < x.2) ∨ cov k p) ∧ (insS x k).length = k.length + 1
  | [], x, _, hx, _ => by
    refine ⟨⟨hx, (fun z hz => by cases hz), trivial⟩, fun z hz => ?_, fun p => cov_cons x [] p, rfl⟩
    rcases List.mem_cons.1 hz with rfl | hz
    · exact Or.inl rfl
    · cases hz
  | y :: k, x, hn, hx, hs => by
    obtain ⟨n1, n2, n3⟩ := hn
    have hdef : insS x (y :: k) = if x.1 < y.1 then x :: y :: k else y :: insS x k := rfl
    rw [hdef]
    have hy := hs y (List.mem_cons_self ..)
    by_cases hc : x.1 < y.1
    · rw [if_pos hc]
      have hxy : x.2 < y.1 := by omega
      refine ⟨⟨hx, fun z hz => ?_, n1, n2, n3⟩, fun z hz => (List.mem_cons.1 hz).imp id id, fun p => cov_cons x _ p, rfl⟩
      rcases List.mem_cons.1 hz with rfl | hz
      · exact hxy
      · have := n2 z hz; omega
    · rw [if_neg hc]
      obtain ⟨i1, i2, i3, i4⟩ := ins_spec k x n3 hx (fun z hz => hs z (List.mem_cons_of_mem _ hz))
      refine ⟨⟨n1, fun z hz => ?_, i1⟩, fun z hz => ?_, fun p => ?_, by simp [i4]⟩
      · rcases i2 z hz with rfl | h
        · omega
        · exact n2 z h
      · rcases List.mem_cons.1 hz with rfl | hz
        · exact Or.inr (List.mem_cons_self ..)
        · exact (i2 z hz).imp id (List.mem_cons_of_mem _)
      · rw [cov_cons, cov_cons, i3 p]
        constructor
        · rintro (h | h | h)
          · exact Or.inr (Or.inl h)
          · exact Or.inl h
          · exact Or.inr (Or.inr h)
        · rintro (h | h | h)
          · exact Or.inr (Or.inl h)
          · exact Or.inl h
          · exact Or.inr (Or.inr h)
theorem rstep_norm {out : List Sp} {x : Sp} (hn : Norm out) : Norm (rstep out x) ∧ (∀ p, cov (rstep out x) p ↔ cov out p ∨ (x.1 ≤ p ∧ p < x.2)) ∧ (rstep out x).length ≤ out.length + 1 := by
  unfold rstep
  by_cases he : x.2 ≤ x.1
  · rw [if_pos he]
    exact ⟨hn, fun p => ⟨Or.inl, fun h => h.resolve_right (by omega)⟩, by omega⟩
  · rw [if_neg he]
    obtain ⟨a1, a2, a3, a4, a5, a6, a7⟩ := absorb_spec out x hn (by omega)
    obtain ⟨i1, i2, i3, i4⟩ := ins_spec _ _ a1 a2 a4
    exact ⟨i1, fun p => (i3 p).trans ((a6 p).trans Or.comm), by omega⟩
theorem rfold_norm : ∀ (l out : List Sp), Norm out → Norm (l.foldl rstep out) ∧ (∀ p, cov (l.foldl rstep out) p ↔ cov out p ∨ cov l p) ∧ (l.foldl rstep out).length ≤ out.length + l.length
  | [], out, hn => ⟨hn, fun p => ⟨Or.inl, fun h => h.resolve_right (cov_nil p)⟩, by simp⟩
  | x :: l, out, hn => by
    obtain ⟨m1, m2, m3⟩ := rstep_norm (x := x) hn
    obtain ⟨f1, f2, f3⟩ := rfold_norm l (rstep out x) m1
    refine ⟨f1, fun p => ?_, by rw [List.foldl_cons, List.length_cons]; omega⟩
    rw [List.foldl_cons, f2 p, m2 p, cov_cons]; exact or_assoc
theorem rmergeS_norm (l : List Sp) : Norm (rmergeS l) ∧ (∀ p, cov (rmergeS l) p ↔ cov l p) ∧ (rmergeS l).length ≤ l.length := by
  obtain ⟨h1, h2, h3⟩ := rfold_norm l [] trivial
  exact ⟨h1, fun p => (h2 p).trans ⟨fun h => h.resolve_left (cov_nil p), Or.inr⟩, Nat.le_trans h3 (by simp)⟩
/-- both are one -/
theorem merge_same {l s : List Sp} (hp : s.Pairwise (fun a b => a.1 ≤ b.1)) (hs : s.Perm l) : mergeS s = rmergeS l := by
  refine norm_unique (mergeS_norm hp).1 (rmergeS_norm l).1 (fun p => ?_)
  rw [(mergeS_norm hp).2.1, (rmergeS_norm l).2.1]
  constructor
  · rintro ⟨x, hx, h⟩; exact ⟨x, hs.mem_iff.1 hx, h⟩
  · rintro ⟨x, hx, h⟩; exact ⟨x, hs.mem_iff.2 hx, h⟩
/-- bytes in a row lie in one of them -/
theorem norm_whole : ∀ {m : List Sp}, Norm m → ∀ {a b : Int}, a < b → (∀ p, a ≤ p → p < b → cov m p) → ∃ x, x ∈ m ∧ x.1 ≤ a ∧ b ≤ x.2
  | [], _, a, b, hab, h => absurd (h a (Int.le_refl _) hab) (cov_nil _)
  | x :: r, hn, a, b, hab, h => by
    by_cases hx : x.1 ≤ a ∧ a < x.2
    · by_cases hb : b ≤ x.2
      · exact ⟨x, List.mem_cons_self .., hx.1, hb⟩
      · exfalso
        rcases (cov_cons x r x.2).1 (h x.2 (by omega) (by omega)) with q | ⟨z, hz, q, _⟩
        · omega
        · have := hn.2.1 z hz; omega
    · obtain ⟨y, hy, h1, h2⟩ := norm_whole (a := a) (b := b) hn.2.2 hab (fun p p1 p2 => by
        rcases (cov_cons x r p).1 (h p p1 p2) with q | q
        · exfalso
          rcases (cov_cons x r a).1 (h a (Int.le_refl _) hab) with q2 | ⟨z, hz, q2, q3⟩
          · exact hx q2
          · have := hn.2.1 z hz; omega
        · exact q)
      exact ⟨y, List.mem_cons_of_mem _ hy, h1, h2⟩
end Go.Proofs.YtnodboggemggmaaGreatDoor
