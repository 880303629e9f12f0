/- LedgerMemory: two rows of rows, their shapes; one book and the document's list. -/
import Derived.Test.YtfgaiopkclogmaaGreatDoorLedgMaJ
import Derived.Test.YtfgaiopkclogmaaGreatDoorLedgRaJ
import Derived.Test.YtfgaiopkclogmaaGreatDoorLedgRbJ
import Derived.Test.YtfgaiopkclogmaaGreatDoorLedgMdJ
namespace Go.Proofs.YtfgaiopkclogmaaGreatDoor
open Go Go.RowKit Go.MuLone
set_option maxHeartbeats 1000000

abbrev Ix := Bool × Nat
def eS (b : Bool) : TypeId := if b then 53 else 43
def eR (b : Bool) : TypeId := if b then tTl else 9
def sR (b : Bool) : Nat := if b then 2 else 1
/-- two rows of rows: K: how many a row of rows holds, D: how many rows there are, N: their length, C: what they hold -/
structure Shp (K D N : Bool → Nat) (C : Bool → Nat → List Value) (it : Ix → Item) : Prop where
  spine : ∀ b, (it (b, 0)).e = eS b ∧ (it (b, 0)).sz = 1 ∧ (it (b, 0)).n = K b ∧ (it (b, 0)).xs = (List.range (K b)).map fun r => (it (b, r + 1)).v
  row : ∀ b r, r < D b → (it (b, r + 1)).e = eR b ∧ (it (b, r + 1)).sz = sR b ∧ (it (b, r + 1)).n = N b ∧ (it (b, r + 1)).xs = C b r
def domI (D : Bool → Nat) : Ix → Prop := fun p => p.2 ≤ D p.1
def updB (K : Bool → Nat) (b : Bool) (n : Nat) : Bool → Nat := fun c => if c = b then n else K c
theorem updB_same (K : Bool → Nat) (b : Bool) (n : Nat) : updB K b n b = n := by unfold updB; rw [if_pos rfl]
theorem updB_ne (K : Bool → Nat) {b c : Bool} (n : Nat) (h : c ≠ b) : updB K b n c = K c := by unfold updB; rw [if_neg h]
theorem updB_both (k m : Nat) : updB (updB (fun _ => k) false m) true m = fun _ => m := by
  funext c; unfold updB; cases c <;> rfl
theorem Shp.push {K D N : Bool → Nat} {C : Bool → Nat → List Value} {it : Ix → Item} (h : Shp K D N C it) (b : Bool) (hK : K b ≤ D b) {o : Item} (he : o.e = eR b) (hs : o.sz = sR b) (hn : o.n = N b) (hx : o.xs = C b (D b)) :
    Shp K (updB D b (D b + 1)) N C (updI it (b, D b + 1) o) := by
  refine ⟨fun c => ?_, fun c r hr => ?_⟩
  · have h0 : ((c, 0) : Ix) ≠ (b, D b + 1) := by intro e; injection e with _ e; omega
    rw [updI_ne _ _ h0]
    obtain ⟨a1, a2, a3, a4⟩ := h.spine c
    refine ⟨a1, a2, a3, a4.trans (List.map_congr_left fun r hr => ?_)⟩
    rw [List.mem_range] at hr
    have h1 : ((c, r + 1) : Ix) ≠ (b, D b + 1) := by intro e; injection e with e1 e2; subst e1; omega
    rw [updI_ne _ _ h1]
  · by_cases hc : c = b
    · subst hc
      rw [updB_same] at hr
      by_cases hrd : r = D c
      · subst hrd; rw [updI_same]; exact ⟨he, hs, hn, hx⟩
      · have h1 : ((c, r + 1) : Ix) ≠ (c, D c + 1) := by intro e; injection e with _ e; omega
        rw [updI_ne _ _ h1]; exact h.row c r (by omega)
    · rw [updB_ne _ _ hc] at hr
      have h1 : ((c, r + 1) : Ix) ≠ (b, D b + 1) := by intro e; injection e with e _; exact hc e
      rw [updI_ne _ _ h1]; exact h.row c r hr
theorem Shp.more {K D N : Bool → Nat} {C : Bool → Nat → List Value} {it : Ix → Item} (h : Shp K D N C it) (b : Bool) (V : Value) :
    Shp (updB K b (K b + 1)) D N C (updI it (b, 0) ⟨V, (it (b, 0)).e, (it (b, 0)).sz, K b + 1, (it (b, 0)).xs ++ [(it (b, K b + 1)).v]⟩) := by
  have hne : ∀ c r, ((c, r + 1) : Ix) ≠ (b, 0) := fun c r e => by injection e with _ e; omega
  refine ⟨fun c => ?_, fun c r hr => ?_⟩
  · have hm : ∀ n, ((List.range n).map fun r => (updI it (b, 0) ⟨V, (it (b, 0)).e, (it (b, 0)).sz, K b + 1, (it (b, 0)).xs ++ [(it (b, K b + 1)).v]⟩ (c, r + 1)).v) = (List.range n).map fun r => (it (c, r + 1)).v := fun n => List.map_congr_left fun r _ => by rw [updI_ne _ _ (hne c r)]
    rw [hm]
    obtain ⟨a1, a2, a3, a4⟩ := h.spine c
    by_cases hc : c = b
    · subst hc
      rw [updI_same, updB_same]
      refine ⟨a1, a2, rfl, ?_⟩
      show (it (c, 0)).xs ++ [(it (c, K c + 1)).v] = _
      rw [a4, List.range_succ, List.map_append, List.map_singleton]
    · have h1 : ((c, 0) : Ix) ≠ (b, 0) := by intro e; injection e with e _; exact hc e
      rw [updI_ne _ _ h1, updB_ne _ _ hc]
      exact ⟨a1, a2, a3, a4⟩
  · rw [updI_ne _ _ (hne c r)]; exact h.row c r hr
def updC (C : Bool → Nat → List Value) (b : Bool) (r : Nat) (xs : List Value) : Bool → Nat → List Value := fun c q => if c = b ∧ q = r then xs else C c q
theorem updC_same (C : Bool → Nat → List Value) (b : Bool) (r : Nat) (xs : List Value) : updC C b r xs b r = xs := by unfold updC; rw [if_pos ⟨rfl, rfl⟩]
theorem updC_ne (C : Bool → Nat → List Value) {b c : Bool} {r q : Nat} (xs : List Value) (h : ¬ (c = b ∧ q = r)) : updC C b r xs c q = C c q := by unfold updC; rw [if_neg h]
theorem Shp.put {K D N : Bool → Nat} {C : Bool → Nat → List Value} {it : Ix → Item} (h : Shp K D N C it) (b : Bool) (r : Nat) (xs : List Value) :
    Shp K D N (updC C b r xs) (updI it (b, r + 1) ⟨(it (b, r + 1)).v, (it (b, r + 1)).e, (it (b, r + 1)).sz, (it (b, r + 1)).n, xs⟩) := by
  refine ⟨fun c => ?_, fun c q hq => ?_⟩
  · have h0 : ((c, 0) : Ix) ≠ (b, r + 1) := by intro e; injection e with _ e; omega
    rw [updI_ne _ _ h0]
    obtain ⟨a1, a2, a3, a4⟩ := h.spine c
    refine ⟨a1, a2, a3, a4.trans (List.map_congr_left fun q _ => ?_)⟩
    by_cases he : ((c, q + 1) : Ix) = (b, r + 1)
    · rw [he, updI_same]
    · rw [updI_ne _ _ he]
  · by_cases he : ((c, q + 1) : Ix) = (b, r + 1)
    · have e1 : c = b := by injection he
      have e2 : q = r := by injection he with _ e; omega
      subst e1 e2
      rw [updI_same, updC_same]
      obtain ⟨a1, a2, a3, _⟩ := h.row c q hq
      exact ⟨a1, a2, a3, rfl⟩
    · rw [updI_ne _ _ he]
      have : ¬ (c = b ∧ q = r) := by rintro ⟨rfl, rfl⟩; exact he rfl
      rw [updC_ne _ _ this]
      exact h.row c q hq
/-- where the law stands while the rows are made and marked -/
structure MSt (w : World) (B : Nat) (K D N : Bool → Nat) (C : Bool → Nat → List Value) (it : Ix → Item) : Prop where
  fam : Fam w B (domI D) it
  shp : Shp K D N C it
theorem MSt.next {w w' : World} {B : Nat} {K D N : Bool → Nat} {C : Bool → Nat → List Value} {it : Ix → Item} (h : MSt w B K D N C it) (hb : Below w.heap.size w w') : MSt w' B K D N C it := ⟨h.fam.next hb, h.shp⟩
theorem MSt.push {w w1 : World} {B : Nat} {K D N : Bool → Nat} {C : Bool → Nat → List Value} {it : Ix → Item} (h : MSt w B K D N C it) (hb : Below w.heap.size w w1) (hB : B ≤ w.heap.size) (b : Bool) (hK : K b ≤ D b) {v : Value} {n : Nat} {xs : List Value}
    (ho : w1.ownsRow w.heap.size (eR b) (sR b) v n xs) (hn : n = N b) (hx : xs = C b (D b)) : MSt w1 B K (updB D b (D b + 1)) N C (updI it (b, D b + 1) ⟨v, eR b, sR b, n, xs⟩) := by
  refine ⟨h.fam.push hb hB ho ?_, h.shp.push b hK rfl rfl hn hx⟩
  rintro ⟨c, r⟩ hr hne
  unfold domI at hr ⊢
  simp only at hr ⊢
  by_cases hc : c = b
  · subst hc
    rw [updB_same] at hr
    have : r ≠ D c + 1 := fun e => hne (by rw [e])
    omega
  · rw [updB_ne _ _ hc] at hr; exact hr
theorem MSt.more {w w1 w' : World} {B : Nat} {K D N : Bool → Nat} {C : Bool → Nat → List Value} {it : Ix → Item} (h : MSt w B K D N C it) (hb : Below w.heap.size w w1) (b : Bool) {g cap : Nat}
    (ho : w'.ownsRow B (eS b) 1 (.slice (some ⟨g, 0, none⟩) (K b + 1) cap) (K b + 1) ((it (b, 0)).xs ++ [(it (b, K b + 1)).v])) (hg : w1.grownBy w' (it (b, 0)).v.ownBlock) (hat : (it (b, 0)).v.ownBlock = some g ∨ g = w1.heap.size)
    (hk : ∀ k j u, (it (b, 0)).v.ownBlock = some k → (it (b, 0)).xs[j]? = some u → w'.cell? ⟨k, j, none⟩ = some u) :
    MSt w' B (updB K b (K b + 1)) D N C (updI it (b, 0) ⟨.slice (some ⟨g, 0, none⟩) (K b + 1) cap, (it (b, 0)).e, (it (b, 0)).sz, K b + 1, (it (b, 0)).xs ++ [(it (b, K b + 1)).v]⟩) := by
  obtain ⟨a1, a2, _, _⟩ := h.shp.spine b
  refine ⟨((Gam.start h.fam).grow hb (Nat.zero_le _) ?_ hg hat hk).fam, h.shp.more b _⟩
  rw [a1, a2]; exact ho
theorem MSt.spine {w : World} {B : Nat} {K D N : Bool → Nat} {C : Bool → Nat → List Value} {it : Ix → Item} (h : MSt w B K D N C it) (b : Bool) : w.ownsRow B (eS b) 1 (it (b, 0)).v (K b) (it (b, 0)).xs := by
  have h1 := h.fam.row (b, 0) (Nat.zero_le _)
  obtain ⟨a1, a2, a3, _⟩ := h.shp.spine b
  unfold Item.ok at h1
  rw [a1, a2, a3] at h1
  exact h1
theorem MSt.rowAt {w : World} {B : Nat} {K D N : Bool → Nat} {C : Bool → Nat → List Value} {it : Ix → Item} (h : MSt w B K D N C it) (b : Bool) {r : Nat} (hr : r < D b) : w.ownsRow B (eR b) (sR b) (it (b, r + 1)).v (N b) (C b r) := by
  have h1 := h.fam.row (b, r + 1) hr
  obtain ⟨a1, a2, a3, a4⟩ := h.shp.row b r hr
  unfold Item.ok at h1
  rw [a1, a2, a3, a4] at h1
  exact h1
/-- the cell of a row of rows -/
theorem MSt.at_ {w : World} {B : Nat} {K D N : Bool → Nat} {C : Bool → Nat → List Value} {it : Ix → Item} (h : MSt w B K D N C it) (b : Bool) {r g n cap : Nat} (hr : r < K b) (hrD : r < D b) (hv : (it (b, 0)).v = .slice (some ⟨g, 0, none⟩) n cap) :
    ∃ a c, w.cell? ⟨g, r, none⟩ = some (.slice a (N b) c) ∧ (it (b, r + 1)).v = .slice a (N b) c := by
  have h1 := h.spine b
  obtain ⟨a, c, hs⟩ := row_slice (h.rowAt b hrD)
  refine ⟨a, c, ?_, hs⟩
  have h2 := World.ownsRow.cells h1 (g := g) (by rw [hv]; rfl) r (it (b, r + 1)).v (by
    rw [(h.shp.spine b).2.2.2, List.getElem?_map, List.getElem?_range hr]; rfl)
  rw [addr_add0, hs] at h2
  exact h2
theorem MSt.put {w : World} {B : Nat} {K D N : Bool → Nat} {C : Bool → Nat → List Value} {it : Ix → Item} (h : MSt w B K D N C it) (b : Bool) {r g n cap : Nat} (hr : r < D b) (hv : (it (b, r + 1)).v = .slice (some ⟨g, 0, none⟩) n cap) (j : Nat) (u : Value) :
    MSt (w.setCell ⟨g, j, none⟩ u) B K D N (updC C b r ((C b r).set j u)) (updI it (b, r + 1) ⟨(it (b, r + 1)).v, (it (b, r + 1)).e, (it (b, r + 1)).sz, (it (b, r + 1)).n, (C b r).set j u⟩) := by
  refine ⟨?_, h.shp.put b r _⟩
  have := h.fam.put (r := (b, r + 1)) hr hv j u
  rw [(h.shp.row b r hr).2.2.2] at this
  exact this
theorem updI_v (it : Ix → Item) (p : Ix) (o : Item) (ho : o.v = (it p).v) (q : Ix) : (updI it p o q).v = (it q).v := by
  by_cases h : q = p
  · subst h; rw [updI_same, ho]
  · rw [updI_ne _ _ h]
theorem updC_twice (C : Bool → Nat → List Value) (b : Bool) (r : Nat) (x y : List Value) : updC (updC C b r x) b r y = updC C b r y := by
  funext c q
  by_cases h : c = b ∧ q = r
  · obtain ⟨rfl, rfl⟩ := h; rw [updC_same, updC_same]
  · rw [updC_ne _ _ h, updC_ne _ _ h, updC_ne _ _ h]
theorem MSt.put1 {w : World} {B : Nat} {K D N : Bool → Nat} {C : Bool → Nat → List Value} {it : Ix → Item} (h : MSt w B K D N C it) (b : Bool) {r g n cap : Nat} (hr : r < D b) (hv : (it (b, r + 1)).v = .slice (some ⟨g, 0, none⟩) n cap) (j : Nat) (u : Value) :
    ∃ it', MSt (w.setCell ⟨g, j, none⟩ u) B K D N (updC C b r ((C b r).set j u)) it' ∧ ∀ q, (it' q).v = (it q).v := ⟨_, h.put b hr hv j u, fun q => updI_v it (b, r + 1) ⟨(it (b, r + 1)).v, (it (b, r + 1)).e, (it (b, r + 1)).sz, (it (b, r + 1)).n, (C b r).set j u⟩ rfl q⟩
theorem MSt.put2 {w : World} {B : Nat} {K D N : Bool → Nat} {C : Bool → Nat → List Value} {it : Ix → Item} (h : MSt w B K D N C it) (b : Bool) {r g n cap : Nat} (hr : r < D b) (hv : (it (b, r + 1)).v = .slice (some ⟨g, 0, none⟩) n cap) (j : Nat) (u : Value) (j' : Nat) (u' : Value) :
    ∃ it', MSt ((w.setCell ⟨g, j, none⟩ u).setCell ⟨g, j', none⟩ u') B K D N (updC C b r (((C b r).set j u).set j' u')) it' ∧ ∀ q, (it' q).v = (it q).v := by
  obtain ⟨it1, h1, e1⟩ := h.put1 b hr hv j u
  obtain ⟨it2, h2, e2⟩ := h1.put1 b hr ((e1 _).trans hv) j' u'
  rw [updC_same, updC_twice] at h2
  exact ⟨it2, h2, fun q => (e2 q).trans (e1 q)⟩
/-- where the law stands while rows are grown: rd, as they were; it, those that are grown -/
structure MGt (w : World) (B : Nat) (N : Bool → Nat) (C : Bool → Nat → List Value) (it rd : Ix → Item) (k : Nat) : Prop where
  gam : Gam w B (domI fun _ => 3) it rd
  shp : Shp (fun _ => 3) (fun _ => 3) N C rd
  rest : ∀ b r, k ≤ r → it (b, r + 1) = rd (b, r + 1)
theorem MSt.grow {w : World} {B : Nat} {N : Bool → Nat} {C : Bool → Nat → List Value} {it : Ix → Item} (h : MSt w B (fun _ => 3) (fun _ => 3) N C it) : MGt w B N C it it 0 := ⟨Gam.start h.fam, h.shp, fun _ _ _ => rfl⟩
theorem MGt.next {w w' : World} {B : Nat} {N : Bool → Nat} {C : Bool → Nat → List Value} {it rd : Ix → Item} {k : Nat} (h : MGt w B N C it rd k) (hb : Below w.heap.size w w') : MGt w' B N C it rd k := ⟨h.gam.next hb, h.shp, h.rest⟩
/-- the cell of a row of rows, and the row that it tells -/
theorem MGt.at_ {w : World} {B : Nat} {N : Bool → Nat} {C : Bool → Nat → List Value} {it rd : Ix → Item} {k : Nat} (h : MGt w B N C it rd k) (b : Bool) {r g n cap : Nat} (hr : r < 3) (hv : (rd (b, 0)).v = .slice (some ⟨g, 0, none⟩) n cap) :
    ∃ a c, w.cell? ⟨g, r, none⟩ = some (.slice a (N b) c) ∧ (rd (b, r + 1)).v = .slice a (N b) c ∧ (∀ j u, (C b r)[j]? = some u → ∃ q, a = some ⟨q, 0, none⟩ ∧ w.cell? ⟨q, j, none⟩ = some u) := by
  obtain ⟨_, a2, a3, a4⟩ := h.shp.row b r hr
  have h1 := h.gam.read (b, r + 1) (show r + 1 ≤ 3 by omega)
  obtain ⟨a, c, hs⟩ := h1.1
  rw [a3] at hs
  refine ⟨a, c, ?_, hs, fun j u hu => ?_⟩
  · have h0 := h.gam.read (b, 0) (Nat.zero_le _)
    obtain ⟨k', c', hv', hc'⟩ := h0.at_ (j := r) (u := (rd (b, r + 1)).v) (by
      rw [(h.shp.spine b).2.2.2, List.getElem?_map, List.getElem?_range hr]; rfl)
    rw [hv] at hv'
    injection hv' with e1 _ _
    injection e1 with e1
    injection e1 with e1
    rw [e1, hc', hs]
  · obtain ⟨q, c', hv', hc'⟩ := h1.at_ (j := j) (u := u) (by rw [a4]; exact hu)
    rw [hs] at hv'
    injection hv' with e1 _ _
    exact ⟨q, e1, hc'⟩
/-- the rows of one round, grown by so many -/
structure MGr (w : World) (B : Nat) (N : Bool → Nat) (C : Bool → Nat → List Value) (it rd : Ix → Item) (k : Nat) (Q : Bool → Nat) (G : Bool → Value) : Prop where
  gt : MGt w B N C it rd (k + 1)
  row : ∀ b, (it (b, k + 1)).v = G b ∧ (it (b, k + 1)).e = eR b ∧ (it (b, k + 1)).sz = sR b ∧ (it (b, k + 1)).n = N b + Q b
theorem MGt.begin {w : World} {B : Nat} {N : Bool → Nat} {C : Bool → Nat → List Value} {it rd : Ix → Item} {k : Nat} (h : MGt w B N C it rd k) (hk : k < 3) : MGr w B N C it rd k (fun _ => 0) (fun b => (rd (b, k + 1)).v) := by
  refine ⟨⟨h.gam, h.shp, fun b r hr => h.rest b r (by omega)⟩, fun b => ?_⟩
  obtain ⟨a1, a2, a3, _⟩ := h.shp.row b k hk
  rw [h.rest b k (Nat.le_refl _)]
  exact ⟨rfl, a1, a2, a3⟩
theorem MGr.next {w w' : World} {B : Nat} {N : Bool → Nat} {C : Bool → Nat → List Value} {it rd : Ix → Item} {k : Nat} {Q : Bool → Nat} {G : Bool → Value} (h : MGr w B N C it rd k Q G) (hb : Below w.heap.size w w') : MGr w' B N C it rd k Q G := ⟨h.gt.next hb, h.row⟩
theorem MGr.own {w : World} {B : Nat} {N : Bool → Nat} {C : Bool → Nat → List Value} {it rd : Ix → Item} {k : Nat} {Q : Bool → Nat} {G : Bool → Value} (h : MGr w B N C it rd k Q G) (b : Bool) (hk : k < 3) : w.ownsRow B (eR b) (sR b) (G b) (N b + Q b) (it (b, k + 1)).xs := by
  have h1 := h.gt.gam.fam.row (b, k + 1) (show k + 1 ≤ 3 by omega)
  obtain ⟨a1, a2, a3, a4⟩ := h.row b
  unfold Item.ok at h1
  rw [a1, a2, a3, a4] at h1
  exact h1
theorem MGr.grow {w w1 w' : World} {B : Nat} {N : Bool → Nat} {C : Bool → Nat → List Value} {it rd : Ix → Item} {k : Nat} {Q : Bool → Nat} {G : Bool → Value} (h : MGr w B N C it rd k Q G) (hb : Below w.heap.size w w1) (b : Bool) (hk : k < 3) {g cap : Nat} {us : List Value}
    (ho : w'.ownsRow B (eR b) (sR b) (.slice (some ⟨g, 0, none⟩) (N b + Q b + 1) cap) (N b + Q b + 1) ((it (b, k + 1)).xs ++ us)) (hg : w1.grownBy w' (G b).ownBlock) (hat : (G b).ownBlock = some g ∨ g = w1.heap.size)
    (hkp : ∀ q j u, (G b).ownBlock = some q → (it (b, k + 1)).xs[j]? = some u → w'.cell? ⟨q, j, none⟩ = some u) :
    ∃ it', MGr w' B N C it' rd k (updB Q b (Q b + 1)) (fun c => if c = b then .slice (some ⟨g, 0, none⟩) (N b + Q b + 1) cap else G c) := by
  obtain ⟨a1, a2, a3, a4⟩ := h.row b
  have h1 := h.gt.gam.grow (r := (b, k + 1)) (g := g) (n := N b + Q b + 1) (cap := cap) (us := us) hb (show k + 1 ≤ 3 by omega) (by rw [a2, a3]; exact ho) (by rw [a1]; exact hg) (by rw [a1]; exact hat) (by rw [a1]; exact hkp)
  refine ⟨_, ⟨h1, h.gt.shp, fun c r hr => ?_⟩, fun c => ?_⟩
  · have hne : ((c, r + 1) : Ix) ≠ (b, k + 1) := by intro e; injection e with _ e; omega
    rw [updI_ne _ _ hne]; exact h.gt.rest c r hr
  · by_cases hc : c = b
    · subst hc
      rw [updI_same, updB_same, if_pos rfl]
      exact ⟨rfl, a2, a3, by show N c + Q c + 1 = N c + (Q c + 1); omega⟩
    · have hne : ((c, k + 1) : Ix) ≠ (b, k + 1) := by intro e; injection e with e _; exact hc e
      rw [updI_ne _ _ hne, updB_ne _ _ hc, if_neg hc]
      exact h.row c
theorem MGr.done {w : World} {B : Nat} {N : Bool → Nat} {C : Bool → Nat → List Value} {it rd : Ix → Item} {k : Nat} {Q : Bool → Nat} {G : Bool → Value} (h : MGr w B N C it rd k Q G) : MGt w B N C it rd (k + 1) := h.gt
/-- what a row holds when it is marked so far -/
def mkT (k : Nat) : Value := .string (bs [UInt8.ofNat (48 + k)])
def MkF (r : Nat) (l : List Value) (j : Nat) : Prop := ∀ q, q < j → l[q]? = some (mkT r)
def MkY (r : Nat) (l : List Value) (j : Nat) : Prop := ∀ q, q < j → l[q * 2]? = some (.string ⟨#[]⟩) ∧ l[q * 2 + 1]? = some (.int .i64 (-1 - (r : Int)))
structure MkP (N : Bool → Nat) (C : Bool → Nat → List Value) (k jf jt : Nat) : Prop where
  oldF : ∀ r, r < k → MkF r (C false r) (N false)
  oldY : ∀ r, r < k → MkY r (C true r) (N true)
  f : MkF k (C false k) jf
  t : MkY k (C true k) jt
theorem MkP.first {N : Bool → Nat} {C : Bool → Nat → List Value} : MkP N C 0 0 0 := ⟨fun _ h => by omega, fun _ h => by omega, fun _ h => by omega, fun _ h => by omega⟩
theorem MkP.putF {N : Bool → Nat} {C : Bool → Nat → List Value} {k jf jt : Nat} (h : MkP N C k jf jt) (hl : jf < (C false k).length) : MkP N (updC C false k ((C false k).set jf (mkT k))) k (jf + 1) jt := by
  refine ⟨fun r hr => ?_, fun r hr => ?_, fun q hq => ?_, ?_⟩
  · rw [updC_ne _ _ (by rintro ⟨_, rfl⟩; omega)]; exact h.oldF r hr
  · rw [updC_ne _ _ (by rintro ⟨h, _⟩; cases h)]; exact h.oldY r hr
  · rw [updC_same]
    by_cases hqj : q = jf
    · subst hqj; rw [List.getElem?_set_self hl]
    · rw [List.getElem?_set_ne (fun e => hqj e.symm)]
      exact h.f q (by omega)
  · rw [updC_ne _ _ (by rintro ⟨h, _⟩; cases h)]; exact h.t
theorem MkP.putT {N : Bool → Nat} {C : Bool → Nat → List Value} {k jf jt : Nat} (h : MkP N C k jf jt) (hl : jt * 2 + 1 < (C true k).length) : MkP N (updC C true k (((C true k).set (jt * 2) (.string ⟨#[]⟩)).set (jt * 2 + 1) (.int .i64 (-1 - (k : Int))))) k jf (jt + 1) := by
  refine ⟨fun r hr => ?_, fun r hr => ?_, ?_, fun q hq => ?_⟩
  · rw [updC_ne _ _ (by rintro ⟨h, _⟩; cases h)]; exact h.oldF r hr
  · rw [updC_ne _ _ (by rintro ⟨_, rfl⟩; omega)]; exact h.oldY r hr
  · rw [updC_ne _ _ (by rintro ⟨h, _⟩; cases h)]; exact h.f
  · rw [updC_same]
    by_cases hqj : q = jt
    · subst hqj
      refine ⟨?_, ?_⟩
      · rw [List.getElem?_set_ne (by omega), List.getElem?_set_self (by omega)]
      · rw [List.getElem?_set_self (by rw [List.length_set]; exact hl)]
    · have := h.t q (by omega)
      refine ⟨?_, ?_⟩
      · rw [List.getElem?_set_ne (by omega), List.getElem?_set_ne (by omega)]; exact this.1
      · rw [List.getElem?_set_ne (by omega), List.getElem?_set_ne (by omega)]; exact this.2
theorem MkP.next {N : Bool → Nat} {C : Bool → Nat → List Value} {k : Nat} (h : MkP N C k (N false) (N true)) : MkP N C (k + 1) 0 0 := by
  refine ⟨fun r hr => ?_, fun r hr => ?_, fun _ h => by omega, fun _ h => by omega⟩
  · by_cases hrk : r = k
    · subst hrk; exact h.f
    · exact h.oldF r (by omega)
  · by_cases hrk : r = k
    · subst hrk; exact h.t
    · exact h.oldY r (by omega)
theorem MSt.first (w : World) (N : Bool → Nat) (C : Bool → Nat → List Value) : ∃ it, MSt ((w.alloc (.cells #[] 43)).alloc (.cells #[] 53)) w.heap.size (fun _ => 0) (fun _ => 0) N C it ∧ (it (false, 0)).v = .slice (some ⟨w.heap.size, 0, none⟩) 0 0 ∧ (it (true, 0)).v = .slice (some ⟨w.heap.size + 1, 0, none⟩) 0 0 := by
  have z1 : (w.alloc (.cells #[] 43)).heap.size = w.heap.size + 1 := Array.size_push ..
  refine ⟨fun p => ⟨if p.1 then .slice (some ⟨w.heap.size + 1, 0, none⟩) 0 0 else .slice (some ⟨w.heap.size, 0, none⟩) 0 0, eS p.1, 1, 0, []⟩, ⟨⟨?_, ?_⟩, ⟨fun b => ⟨rfl, rfl, rfl, rfl⟩, fun b r hr => by omega⟩⟩, rfl, rfl⟩
  · rintro ⟨b, r⟩ hr
    unfold Item.ok
    cases b
    · exact (World.ownsRow_lit w (base := w.heap.size) (e := 43) (size := 1) #[] 0 (Nat.le_refl _) (by decide) rfl).alloc _
    · have r2 := World.ownsRow_lit (w.alloc (.cells #[] 43)) (base := w.heap.size) (e := 53) (size := 1) #[] 0 (by rw [z1]; omega) (by decide) rfl
      rw [z1] at r2
      exact r2
  · rintro ⟨b, r⟩ ⟨b', r'⟩ k hr hr' hne hk he
    unfold domI at hr hr'
    simp only at hr hr'
    obtain rfl : r = 0 := by omega
    obtain rfl : r' = 0 := by omega
    cases b <;> cases b'
    · exact hne rfl
    · injection hk with hk; injection he with he; dsimp only at hk he; omega
    · injection hk with hk; injection he with he; dsimp only at hk he; omega
    · exact hne rfl
theorem MSt.two {w w1 w2 : World} {B k : Nat} {N : Bool → Nat} {C : Bool → Nat → List Value} {it : Ix → Item} {x y : Value} (h : MSt w B (fun _ => k) (fun _ => k) N C it) (hB : B ≤ w.heap.size) (b1 : Below w.heap.size w w1) (b2 : Below w1.heap.size w1 w2)
    (hx : w1.ownsRow w.heap.size 9 1 x (N false) (C false k)) (hy : w2.ownsRow w1.heap.size tTl 2 y (N true) (C true k)) :
    ∃ it', MSt w2 B (fun _ => k) (fun _ => k + 1) N C it' ∧ (it' (false, 0)).v = (it (false, 0)).v ∧ (it' (true, 0)).v = (it (true, 0)).v ∧ (it' (false, k + 1)).v = x ∧ (it' (true, k + 1)).v = y := by
  have p1 := h.push b1 hB false (Nat.le_refl _) (v := x) (n := N false) (xs := C false k) hx rfl rfl
  have p2 := p1.push b2 (Nat.le_trans hB b1.size) true (Nat.le_refl _) (v := y) (n := N true) (xs := C true k) hy rfl rfl
  have e : updB (updB (fun _ => k) false (k + 1)) true (updB (fun _ => k) false (k + 1) true + 1) = fun _ => k + 1 := updB_both k (k + 1)
  rw [e] at p2
  refine ⟨_, p2, ?_, ?_, ?_, ?_⟩
  · rw [updI_ne _ _ (by intro e; injection e with _ e; cases e), updI_ne _ _ (by intro e; injection e with _ e; cases e)]
  · rw [updI_ne _ _ (by intro e; injection e with _ e; cases e), updI_ne _ _ (by intro e; injection e with _ e; cases e)]
  · rw [updI_ne _ _ (by intro e; injection e with e _; cases e)]
    rw [show ((false, k + 1) : Ix) = (false, (fun _ : Bool => k) false + 1) from rfl, updI_same]
  · rw [show ((true, k + 1) : Ix) = (true, updB (fun _ => k) false ((fun _ : Bool => k) false + 1) true + 1) from rfl, updI_same]
theorem MSt.moreF {w w1 w' : World} {B k : Nat} {N : Bool → Nat} {C : Bool → Nat → List Value} {it : Ix → Item} (h : MSt w B (fun _ => k) (fun _ => k + 1) N C it) (hb : Below w.heap.size w w1) {g cap : Nat} {V x : Value} (hV : (it (false, 0)).v = V) (hx : (it (false, k + 1)).v = x)
    (ho : w'.ownsRow B 43 1 (.slice (some ⟨g, 0, none⟩) (k + 1) cap) (k + 1) ((it (false, 0)).xs ++ [x])) (hg : w1.grownBy w' V.ownBlock) (hat : V.ownBlock = some g ∨ g = w1.heap.size)
    (hk : ∀ q j u, V.ownBlock = some q → (it (false, 0)).xs[j]? = some u → w'.cell? ⟨q, j, none⟩ = some u) :
    ∃ it', MSt w' B (updB (fun _ => k) false (k + 1)) (fun _ => k + 1) N C it' ∧ (it' (false, 0)).v = .slice (some ⟨g, 0, none⟩) (k + 1) cap ∧ (it' (true, 0)).v = (it (true, 0)).v ∧ (it' (true, k + 1)).v = (it (true, k + 1)).v := by
  subst hV hx
  refine ⟨_, h.more hb false ho hg hat hk, ?_, ?_, ?_⟩
  · rw [updI_same]
  · rw [updI_ne _ _ (by intro e; injection e with e _; cases e)]
  · rw [updI_ne _ _ (by intro e; injection e with e _; cases e)]
theorem MSt.moreT {w w1 w' : World} {B k : Nat} {N : Bool → Nat} {C : Bool → Nat → List Value} {it : Ix → Item} (h : MSt w B (updB (fun _ => k) false (k + 1)) (fun _ => k + 1) N C it) (hb : Below w.heap.size w w1) {g cap : Nat} {V x : Value} (hV : (it (true, 0)).v = V) (hx : (it (true, k + 1)).v = x)
    (ho : w'.ownsRow B 53 1 (.slice (some ⟨g, 0, none⟩) (k + 1) cap) (k + 1) ((it (true, 0)).xs ++ [x])) (hg : w1.grownBy w' V.ownBlock) (hat : V.ownBlock = some g ∨ g = w1.heap.size)
    (hk : ∀ q j u, V.ownBlock = some q → (it (true, 0)).xs[j]? = some u → w'.cell? ⟨q, j, none⟩ = some u) :
    ∃ it', MSt w' B (fun _ => k + 1) (fun _ => k + 1) N C it' ∧ (it' (true, 0)).v = .slice (some ⟨g, 0, none⟩) (k + 1) cap ∧ (it' (false, 0)).v = (it (false, 0)).v := by
  subst hV hx
  have p := h.more hb true ho hg hat hk
  have e : updB (updB (fun _ => k) false (k + 1)) true (updB (fun _ => k) false (k + 1) true + 1) = fun _ => k + 1 := updB_both k (k + 1)
  rw [e] at p
  refine ⟨_, p, ?_, ?_⟩
  · rw [updI_same]; rfl
  · rw [updI_ne _ _ (by intro e; injection e with e _; cases e)]
theorem infoRowS : (Tryz.prog.info? 43).map (fun i => (i.zero, i.size, i.bytes)) = some (some (.slice none 0 0), 1, 24) := by kernel_rfl
theorem infoRowY : (Tryz.prog.info? 53).map (fun i => (i.zero, i.size, i.bytes)) = some (some (.slice none 0 0), 1, 24) := by kernel_rfl
end Go.Proofs.YtfgaiopkclogmaaGreatDoor
