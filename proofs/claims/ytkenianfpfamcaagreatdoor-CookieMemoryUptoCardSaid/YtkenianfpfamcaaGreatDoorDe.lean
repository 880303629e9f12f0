/- Two rows of the caller's own, marked and grown: what stays beside them. Parts of a function's code, taken out of it by the number of the region at which they begin. The law's sameSets on two lists of the same. The law's begun: a jar, and the document's. -/
import Derived.Test.YtkenianfpfamcaaGreatDoorDc
import Derived.Test.YtkenianfpfamcaaGreatDoorMn
import Derived.Test.YtkenianfpfamcaaGreatDoorDd
import Derived.Test.YtkenianfpfamcaaGreatDoorProg
import Derived.BigRegion
namespace Go.Proofs.YtkenianfpfamcaaGreatDoor
open Go Go.RowKit

/-- two rows of the call's own, made between s0 and s1, between s2 and s3, written over or grown since w4 -/
structure Mk (w4 : World) (s0 s1 s2 s3 : Nat) (va : Value) (na : Nat) (vc : Value) (nc : Nat) (wr : World) : Prop where
  a : ∃ xs, wr.ownsRow s0 tCk 2 va na xs
  c : ∃ xs, wr.ownsRow s2 tS 11 vc nc xs
  ga : ∀ g, va.ownBlock = some g → g < s1 ∨ w4.heap.size ≤ g
  gc : ∀ g, vc.ownBlock = some g → g < s3 ∨ w4.heap.size ≤ g
  ne : ∀ g, va.ownBlock = some g → vc.ownBlock ≠ some g
  k : Keeps (fun i => (s0 ≤ i ∧ i < s1) ∨ (s2 ≤ i ∧ i < s3)) w4 wr
  le : s0 ≤ s1 ∧ s1 ≤ s2 ∧ s2 ≤ s3 ∧ s3 ≤ w4.heap.size
theorem Mk.first {w1 w3 w4 : World} {s0 s2 : Nat} {va vc : Value} {na nc : Nat} {xs ys : List Value} (ha1 : w1.ownsRow s0 tCk 2 va na xs) (ha : w4.ownsRow s0 tCk 2 va na xs) (hc3 : w3.ownsRow s2 tS 11 vc nc ys) (hc : w4.ownsRow s2 tS 11 vc nc ys)
    (h0 : s0 ≤ w1.heap.size) (h1 : w1.heap.size ≤ s2) (h2 : s2 ≤ w3.heap.size) (h3 : w3.heap.size ≤ w4.heap.size) : Mk w4 s0 w1.heap.size s2 w3.heap.size va na vc nc w4 where
  a := ⟨xs, ha⟩
  c := ⟨ys, hc⟩
  ga g hg := Or.inl (World.ownsRow.lt ha1 g hg).2
  gc g hg := Or.inl (World.ownsRow.lt hc3 g hg).2
  ne g hg he := by
    have e1 := (World.ownsRow.lt ha1 g hg).2
    have e2 := (World.ownsRow.lt hc3 g he).1
    omega
  k := Keeps.refl _ _
  le := ⟨h0, h1, h2, h3⟩
theorem Mk.next {w4 wr wx : World} {s0 s1 s2 s3 : Nat} {va vc : Value} {na nc : Nat} (h : Mk w4 s0 s1 s2 s3 va na vc nc wr) (hb : Below wr.heap.size wr wx) : Mk w4 s0 s1 s2 s3 va na vc nc wx where
  a := by obtain ⟨xs, hx⟩ := h.a; exact ⟨xs, row_kept hx (fun g hg => hb.block g (World.ownsRow.lt hx g hg).2)⟩
  c := by obtain ⟨xs, hx⟩ := h.c; exact ⟨xs, row_kept hx (fun g hg => hb.block g (World.ownsRow.lt hx g hg).2)⟩
  ga := h.ga
  gc := h.gc
  ne := h.ne
  k := h.k.trans (Keeps.of hb (Nat.le_refl _))
  le := h.le
theorem Mk.inA {w4 wr : World} {s0 s1 s2 s3 : Nat} {va vc : Value} {na nc : Nat} (h : Mk w4 s0 s1 s2 s3 va na vc nc wr) (g : Nat) (hg : va.ownBlock = some g) (hl : g < w4.heap.size) : s0 ≤ g ∧ g < s1 := by
  obtain ⟨xs, hx⟩ := h.a
  have e1 := (World.ownsRow.lt hx g hg).1
  rcases h.ga g hg with e | e
  · exact ⟨e1, e⟩
  · omega
theorem Mk.inC {w4 wr : World} {s0 s1 s2 s3 : Nat} {va vc : Value} {na nc : Nat} (h : Mk w4 s0 s1 s2 s3 va na vc nc wr) (g : Nat) (hg : vc.ownBlock = some g) (hl : g < w4.heap.size) : s2 ≤ g ∧ g < s3 := by
  obtain ⟨xs, hx⟩ := h.c
  have e1 := (World.ownsRow.lt hx g hg).1
  rcases h.gc g hg with e | e
  · exact ⟨e1, e⟩
  · omega
theorem Mk.putA {w4 wr : World} {s0 s1 s2 s3 : Nat} {g na cap : Nat} {vc : Value} {nc : Nat} (h : Mk w4 s0 s1 s2 s3 (.slice (some ⟨g, 0, none⟩) na cap) na vc nc wr) (us : List Value) (j : Nat) : Mk w4 s0 s1 s2 s3 (.slice (some ⟨g, 0, none⟩) na cap) na vc nc (putAll wr g j us) where
  a := by
    obtain ⟨xs, hx⟩ := h.a
    exact ⟨_, stored_all us j xs wr hx⟩
  c := by
    obtain ⟨xs, hx⟩ := h.c
    refine ⟨xs, row_kept hx (fun g' hg' => ?_)⟩
    refine (Keeps.put (S := fun i => i = g) (b := g) rfl us j wr).block g' (World.ownsRow.lt hx g' hg').2 (fun e => h.ne g rfl (e ▸ hg'))
  ga := h.ga
  gc := h.gc
  ne := h.ne
  k := h.k.then (Keeps.put (S := fun i => i = g) (b := g) rfl us j wr) (fun i hi e => Or.inl (h.inA i (by rw [e]; rfl) hi))
  le := h.le
theorem Mk.putC {w4 wr : World} {s0 s1 s2 s3 : Nat} {g nc cap : Nat} {va : Value} {na : Nat} (h : Mk w4 s0 s1 s2 s3 va na (.slice (some ⟨g, 0, none⟩) nc cap) nc wr) (us : List Value) (j : Nat) : Mk w4 s0 s1 s2 s3 va na (.slice (some ⟨g, 0, none⟩) nc cap) nc (putAll wr g j us) where
  a := by
    obtain ⟨xs, hx⟩ := h.a
    refine ⟨xs, row_kept hx (fun g' hg' => ?_)⟩
    refine (Keeps.put (S := fun i => i = g) (b := g) rfl us j wr).block g' (World.ownsRow.lt hx g' hg').2 (fun e => h.ne g' hg' (by rw [e]; rfl))
  c := by
    obtain ⟨xs, hx⟩ := h.c
    exact ⟨_, stored_all us j xs wr hx⟩
  ga := h.ga
  gc := h.gc
  ne := h.ne
  k := h.k.then (Keeps.put (S := fun i => i = g) (b := g) rfl us j wr) (fun i hi e => Or.inr (h.inC i (by rw [e]; rfl) hi))
  le := h.le
theorem Mk.growA {w4 wr w' : World} {s0 s1 s2 s3 : Nat} {va vc : Value} {na nc g m cap : Nat} {xs : List Value} (h : Mk w4 s0 s1 s2 s3 va na vc nc wr) (ho : w'.ownsRow s0 tCk 2 (.slice (some ⟨g, 0, none⟩) m cap) m xs)
    (hat : va.ownBlock = some g ∨ wr.heap.size ≤ g) (hk : Keeps (fun j => va.ownBlock = some j) wr w') : Mk w4 s0 s1 s2 s3 (.slice (some ⟨g, 0, none⟩) m cap) m vc nc w' where
  a := ⟨xs, ho⟩
  c := by
    obtain ⟨ys, hy⟩ := h.c
    exact ⟨ys, row_kept hy (fun g' hg' => hk.block g' (World.ownsRow.lt hy g' hg').2 (fun e => h.ne g' e hg'))⟩
  ga := fun g' hg' => by
    have hg' : some g = some g' := hg'
    injection hg' with hg'
    subst hg'
    rcases hat with e | e
    · exact h.ga _ e
    · exact Or.inr (Nat.le_trans h.k.size e)
  gc := h.gc
  ne := fun g' hg' he => by
    have hg' : some g = some g' := hg'
    injection hg' with hg'
    subst hg'
    obtain ⟨ys, hy⟩ := h.c
    rcases hat with e | e
    · exact h.ne _ e he
    · have := (World.ownsRow.lt hy g he).2; omega
  k := h.k.then hk (fun i hi e => Or.inl (h.inA i e hi))
  le := h.le
theorem Mk.growC {w4 wr w' : World} {s0 s1 s2 s3 : Nat} {va vc : Value} {na nc g m cap : Nat} {xs : List Value} (h : Mk w4 s0 s1 s2 s3 va na vc nc wr) (ho : w'.ownsRow s2 tS 11 (.slice (some ⟨g, 0, none⟩) m cap) m xs)
    (hat : vc.ownBlock = some g ∨ wr.heap.size ≤ g) (hk : Keeps (fun j => vc.ownBlock = some j) wr w') : Mk w4 s0 s1 s2 s3 va na (.slice (some ⟨g, 0, none⟩) m cap) m w' where
  a := by
    obtain ⟨ys, hy⟩ := h.a
    exact ⟨ys, row_kept hy (fun g' hg' => hk.block g' (World.ownsRow.lt hy g' hg').2 (fun e => h.ne g' hg' e))⟩
  c := ⟨xs, ho⟩
  ga := h.ga
  gc := fun g' hg' => by
    have hg' : some g = some g' := hg'
    injection hg' with hg'
    subst hg'
    rcases hat with e | e
    · exact h.gc _ e
    · exact Or.inr (Nat.le_trans h.k.size e)
  ne := fun g' hg' he => by
    have he : some g = some g' := he
    injection he with he
    subst he
    obtain ⟨ys, hy⟩ := h.a
    rcases hat with e | e
    · exact h.ne _ hg' e
    · have := (World.ownsRow.lt hy g hg').2; omega
  k := h.k.then hk (fun i hi e => Or.inr (h.inC i e hi))
  le := h.le
/-- what lay ahead of the rows stays -/
theorem Mk.low {w4 wr : World} {s0 s1 s2 s3 : Nat} {va vc : Value} {na nc : Nat} (h : Mk w4 s0 s1 s2 s3 va na vc nc wr) : Below s0 w4 wr :=
  h.k.below (fun i hi e => by have := h.le; omega) (by have := h.le; omega)
/-- a row between them, or behind them, stays -/
theorem Mk.keep {w4 wr : World} {s0 s1 s2 s3 : Nat} {va vc : Value} {na nc : Nat} (h : Mk w4 s0 s1 s2 s3 va na vc nc wr) {base size n : Nat} {T : TypeId} {v : Value} {xs : List Value} (hr : w4.ownsRow base T size v n xs) (hx : ∀ g, v.ownBlock = some g → (s1 ≤ g ∧ g < s2) ∨ s3 ≤ g) : wr.ownsRow base T size v n xs :=
  row_kept hr (fun g hg => h.k.block g (World.ownsRow.lt hr g hg).2 (fun e => by have := hx g hg; have := h.le; omega))
end Go.Proofs.YtkenianfpfamcaaGreatDoor
namespace Go.Proofs.YtkenianfpfamcaaGreatDoor
open Go

/-- the region at which a code begins -/
def headReg : Code → Option Nat
  | .region n _ _ => some n
  | .seq a _ => headReg a
  | _ => none
/-- the code that begins at region n and goes on to the end of its block -/
def fromReg (n : Nat) : Code → Option Code
  | .seq a b => match headReg a == some n with
    | true => some (.seq a b)
    | false => match fromReg n a with
      | some c => some c
      | none => fromReg n b
  | .block _ c => fromReg n c
  | .loop c => fromReg n c
  | .scope c => fromReg n c
  | .cond _ a b => match fromReg n a with
    | some c => some c
    | none => fromReg n b
  | _ => none
/-- a sequence's head, and what follows it -/
def seqHd : Code → Code
  | .seq a _ => a
  | c => c
def seqTl : Code → Code
  | .seq _ b => b
  | c => c
end Go.Proofs.YtkenianfpfamcaaGreatDoor
namespace Go.Proofs.YtkenianfpfamcaaGreatDoor
open Go Go.RowKit
set_option maxHeartbeats 16000000

set_option maxRecDepth 100000 in
theorem sameSets_self (w : World) (p q : Option Addr) (cap dap : Nat) (l : List SetC) (hC : ScL w p l) (hD : ScL w q l) (hl : l.length ≤ 1048576) :
    Calls Tryz.prog 30 #[.slice p l.length cap, .slice q l.length dap] w fun e w' => e = .returned (.bool true) ∧ Below w.heap.size w w' := by
  have HC := Lib.hid hC
  have HD := Lib.hid hD
  clear hC hD
  go_enter Tryz.func30, Tryz.ntmps30
  go_wp2_with fail
  all_goals (try (exfalso; omega))
  go_loopw [5, 13] (fun _ i wr => ∃ k : Nat, k ≤ l.length ∧ i = .int .i64 k ∧ Hid (Below w.heap.size w wr)) (fun _ i _ => l.length - (intOf i).toNat)
  case atStart => exact ⟨0, Nat.zero_le _, rfl, Below.refl _ _⟩
  case round =>
    obtain ⟨k, hk, rfl, hB⟩ := hrel
    obtain ⟨wq, hwq⟩ : ∃ wq, wq = wr := ⟨wr, rfl⟩
    subst hwq
    by_cases hlt : k < l.length
    · obtain ⟨g1, o1, rfl, hg1, hc1⟩ := (HC.out.next hB.out).get k hlt
      obtain ⟨g2, o2, rfl, hg2, hc2⟩ := (HD.out.next hB.out).get k hlt
      obtain ⟨c, hc⟩ := name_it l[k]
      rw [hc.out] at hc1 hc2
      have HS := Lib.hid (fun wx => set_law c wx)
      clear hc
      obtain ⟨nm, v, pp, d, ma, hm, ex, he, sc, ht, sm⟩ := c
      unfold cellsS at HS
      simp only at HS
      have y0 : wq.cell? ⟨g1, o1 + k * 11, none⟩ = some (.string (bs nm)) := hc1 0 _ (by decide) rfl
      have y1 : wq.cell? ⟨g1, o1 + k * 11 + 1, none⟩ = some (.string (bs v)) := hc1 1 _ (by decide) rfl
      have y2 : wq.cell? ⟨g1, o1 + k * 11 + 2, none⟩ = some (.string (bs pp)) := hc1 2 _ (by decide) rfl
      have y3 : wq.cell? ⟨g1, o1 + k * 11 + 3, none⟩ = some (.string (bs d)) := hc1 3 _ (by decide) rfl
      have y4 : wq.cell? ⟨g1, o1 + k * 11 + 4, none⟩ = some (.int .i64 ma) := hc1 4 _ (by decide) rfl
      have y5 : wq.cell? ⟨g1, o1 + k * 11 + 5, none⟩ = some (.bool hm) := hc1 5 _ (by decide) rfl
      have y6 : wq.cell? ⟨g1, o1 + k * 11 + 6, none⟩ = some (.int .i64 ex) := hc1 6 _ (by decide) rfl
      have y7 : wq.cell? ⟨g1, o1 + k * 11 + 7, none⟩ = some (.bool he) := hc1 7 _ (by decide) rfl
      have y8 : wq.cell? ⟨g1, o1 + k * 11 + 8, none⟩ = some (.bool sc) := hc1 8 _ (by decide) rfl
      have y9 : wq.cell? ⟨g1, o1 + k * 11 + 9, none⟩ = some (.bool ht) := hc1 9 _ (by decide) rfl
      have y10 : wq.cell? ⟨g1, o1 + k * 11 + 10, none⟩ = some (.int .i64 sm) := hc1 10 _ (by decide) rfl
      have z0 : wq.cell? ⟨g2, o2 + k * 11, none⟩ = some (.string (bs nm)) := hc2 0 _ (by decide) rfl
      have z1 : wq.cell? ⟨g2, o2 + k * 11 + 1, none⟩ = some (.string (bs v)) := hc2 1 _ (by decide) rfl
      have z2 : wq.cell? ⟨g2, o2 + k * 11 + 2, none⟩ = some (.string (bs pp)) := hc2 2 _ (by decide) rfl
      have z3 : wq.cell? ⟨g2, o2 + k * 11 + 3, none⟩ = some (.string (bs d)) := hc2 3 _ (by decide) rfl
      have z4 : wq.cell? ⟨g2, o2 + k * 11 + 4, none⟩ = some (.int .i64 ma) := hc2 4 _ (by decide) rfl
      have z5 : wq.cell? ⟨g2, o2 + k * 11 + 5, none⟩ = some (.bool hm) := hc2 5 _ (by decide) rfl
      have z6 : wq.cell? ⟨g2, o2 + k * 11 + 6, none⟩ = some (.int .i64 ex) := hc2 6 _ (by decide) rfl
      have z7 : wq.cell? ⟨g2, o2 + k * 11 + 7, none⟩ = some (.bool he) := hc2 7 _ (by decide) rfl
      have z8 : wq.cell? ⟨g2, o2 + k * 11 + 8, none⟩ = some (.bool sc) := hc2 8 _ (by decide) rfl
      have z9 : wq.cell? ⟨g2, o2 + k * 11 + 9, none⟩ = some (.bool ht) := hc2 9 _ (by decide) rfl
      have z10 : wq.cell? ⟨g2, o2 + k * 11 + 10, none⟩ = some (.int .i64 sm) := hc2 10 _ (by decide) rfl
      have SK : Hid (∀ W : World, Below wq.heap.size wq W → W.cell? ⟨g1, o1 + k * 11, none⟩ = some (.string (bs nm)) ∧ W.cell? ⟨g1, o1 + k * 11 + 1, none⟩ = some (.string (bs v)) ∧ W.cell? ⟨g1, o1 + k * 11 + 2, none⟩ = some (.string (bs pp)) ∧ W.cell? ⟨g1, o1 + k * 11 + 3, none⟩ = some (.string (bs d)) ∧ W.cell? ⟨g1, o1 + k * 11 + 4, none⟩ = some (.int .i64 ma) ∧ W.cell? ⟨g1, o1 + k * 11 + 5, none⟩ = some (.bool hm) ∧ W.cell? ⟨g1, o1 + k * 11 + 6, none⟩ = some (.int .i64 ex) ∧ W.cell? ⟨g1, o1 + k * 11 + 7, none⟩ = some (.bool he) ∧ W.cell? ⟨g1, o1 + k * 11 + 8, none⟩ = some (.bool sc) ∧ W.cell? ⟨g1, o1 + k * 11 + 9, none⟩ = some (.bool ht) ∧ W.cell? ⟨g1, o1 + k * 11 + 10, none⟩ = some (.int .i64 sm) ∧ W.cell? ⟨g2, o2 + k * 11, none⟩ = some (.string (bs nm)) ∧ W.cell? ⟨g2, o2 + k * 11 + 1, none⟩ = some (.string (bs v)) ∧ W.cell? ⟨g2, o2 + k * 11 + 2, none⟩ = some (.string (bs pp)) ∧ W.cell? ⟨g2, o2 + k * 11 + 3, none⟩ = some (.string (bs d)) ∧ W.cell? ⟨g2, o2 + k * 11 + 4, none⟩ = some (.int .i64 ma) ∧ W.cell? ⟨g2, o2 + k * 11 + 5, none⟩ = some (.bool hm) ∧ W.cell? ⟨g2, o2 + k * 11 + 6, none⟩ = some (.int .i64 ex) ∧ W.cell? ⟨g2, o2 + k * 11 + 7, none⟩ = some (.bool he) ∧ W.cell? ⟨g2, o2 + k * 11 + 8, none⟩ = some (.bool sc) ∧ W.cell? ⟨g2, o2 + k * 11 + 9, none⟩ = some (.bool ht) ∧ W.cell? ⟨g2, o2 + k * 11 + 10, none⟩ = some (.int .i64 sm)) := fun W hW => ⟨(hW.cell (p := ⟨g1, o1 + k * 11, none⟩) hg1).trans y0, (hW.cell (p := ⟨g1, o1 + k * 11 + 1, none⟩) hg1).trans y1, (hW.cell (p := ⟨g1, o1 + k * 11 + 2, none⟩) hg1).trans y2, (hW.cell (p := ⟨g1, o1 + k * 11 + 3, none⟩) hg1).trans y3, (hW.cell (p := ⟨g1, o1 + k * 11 + 4, none⟩) hg1).trans y4, (hW.cell (p := ⟨g1, o1 + k * 11 + 5, none⟩) hg1).trans y5, (hW.cell (p := ⟨g1, o1 + k * 11 + 6, none⟩) hg1).trans y6, (hW.cell (p := ⟨g1, o1 + k * 11 + 7, none⟩) hg1).trans y7, (hW.cell (p := ⟨g1, o1 + k * 11 + 8, none⟩) hg1).trans y8, (hW.cell (p := ⟨g1, o1 + k * 11 + 9, none⟩) hg1).trans y9, (hW.cell (p := ⟨g1, o1 + k * 11 + 10, none⟩) hg1).trans y10, (hW.cell (p := ⟨g2, o2 + k * 11, none⟩) hg2).trans z0, (hW.cell (p := ⟨g2, o2 + k * 11 + 1, none⟩) hg2).trans z1, (hW.cell (p := ⟨g2, o2 + k * 11 + 2, none⟩) hg2).trans z2, (hW.cell (p := ⟨g2, o2 + k * 11 + 3, none⟩) hg2).trans z3, (hW.cell (p := ⟨g2, o2 + k * 11 + 4, none⟩) hg2).trans z4, (hW.cell (p := ⟨g2, o2 + k * 11 + 5, none⟩) hg2).trans z5, (hW.cell (p := ⟨g2, o2 + k * 11 + 6, none⟩) hg2).trans z6, (hW.cell (p := ⟨g2, o2 + k * 11 + 7, none⟩) hg2).trans z7, (hW.cell (p := ⟨g2, o2 + k * 11 + 8, none⟩) hg2).trans z8, (hW.cell (p := ⟨g2, o2 + k * 11 + 9, none⟩) hg2).trans z9, (hW.cell (p := ⟨g2, o2 + k * 11 + 10, none⟩) hg2).trans z10⟩
      clear hc1 hc2
      go_upto_region 6 with fail
      all_goals (try (exfalso; omega))
      have bd := Lib.hid ((Below.refl wq.heap.size wq).drew)
      have EQ : ∀ wx : World, (binOp BinOp.neq tRS (.agg #[.string (bs nm), .string (bs v), .string (bs pp), .string (bs d), .int .i64 ma, .bool hm, .int .i64 ex, .bool he, .bool sc, .bool ht, .int .i64 sm]) (.agg #[.string (bs nm), .string (bs v), .string (bs pp), .string (bs d), .int .i64 ma, .bool hm, .int .i64 ex, .bool he, .bool sc, .bool ht, .int .i64 sm])).run Tryz.prog wx = .ok (.bool false) wx := by
        intro wx
        simp [go_sem]
      go_region_held3 (fun W => W.cell? ⟨g1, o1 + k * 11, none⟩ = some (.string (bs nm)) ∧ W.cell? ⟨g1, o1 + k * 11 + 1, none⟩ = some (.string (bs v)) ∧ W.cell? ⟨g1, o1 + k * 11 + 2, none⟩ = some (.string (bs pp)) ∧ W.cell? ⟨g1, o1 + k * 11 + 3, none⟩ = some (.string (bs d)) ∧ W.cell? ⟨g1, o1 + k * 11 + 4, none⟩ = some (.int .i64 ma) ∧ W.cell? ⟨g1, o1 + k * 11 + 5, none⟩ = some (.bool hm) ∧ W.cell? ⟨g1, o1 + k * 11 + 6, none⟩ = some (.int .i64 ex) ∧ W.cell? ⟨g1, o1 + k * 11 + 7, none⟩ = some (.bool he) ∧ W.cell? ⟨g1, o1 + k * 11 + 8, none⟩ = some (.bool sc) ∧ W.cell? ⟨g1, o1 + k * 11 + 9, none⟩ = some (.bool ht) ∧ W.cell? ⟨g1, o1 + k * 11 + 10, none⟩ = some (.int .i64 sm) ∧ W.cell? ⟨g2, o2 + k * 11, none⟩ = some (.string (bs nm)) ∧ W.cell? ⟨g2, o2 + k * 11 + 1, none⟩ = some (.string (bs v)) ∧ W.cell? ⟨g2, o2 + k * 11 + 2, none⟩ = some (.string (bs pp)) ∧ W.cell? ⟨g2, o2 + k * 11 + 3, none⟩ = some (.string (bs d)) ∧ W.cell? ⟨g2, o2 + k * 11 + 4, none⟩ = some (.int .i64 ma) ∧ W.cell? ⟨g2, o2 + k * 11 + 5, none⟩ = some (.bool hm) ∧ W.cell? ⟨g2, o2 + k * 11 + 6, none⟩ = some (.int .i64 ex) ∧ W.cell? ⟨g2, o2 + k * 11 + 7, none⟩ = some (.bool he) ∧ W.cell? ⟨g2, o2 + k * 11 + 8, none⟩ = some (.bool sc) ∧ W.cell? ⟨g2, o2 + k * 11 + 9, none⟩ = some (.bool ht) ∧ W.cell? ⟨g2, o2 + k * 11 + 10, none⟩ = some (.int .i64 sm))
        (first | assumption | exact SK.out _ bd.out | exact SK.out _ (bd.out.trans hb))
        ((go_at_call 19; refine (HS.out _).mono ?_; rintro e w' ⟨rfl, hb⟩))
      have B7 := Lib.hid (hB.out.trans ((bd.out.trans hb).mono hB.out.size))
      clear EQ SK bd hb y0 z0 y1 z1 y2 z2 y3 z3 y4 z4 y5 z5 y6 z6 y7 z7 y8 z8 y9 z9 y10 z10
      go_wp2_with fail
      go_roundw
      case rel => exact ⟨k + 1, by omega, by go_num, B7⟩
      case measure => simp [intOf]; omega
    · obtain rfl : k = l.length := by omega
      go_wp2_with fail
      all_goals (try (exfalso; omega))
      go_ret
      exact ⟨rfl, hB.out⟩
end Go.Proofs.YtkenianfpfamcaaGreatDoor
namespace Go.Proofs.YtkenianfpfamcaaGreatDoor
open Go Go.RowKit
set_option maxHeartbeats 16000000

set_option maxRecDepth 100000 in
theorem begun_any (w : World) : Calls Tryz.prog 24 #[.int .i64 9] w fun e w' => (∃ jb mb, e = .returned (.tuple #[.pointer (some ⟨jb, 0, none⟩), .agg #[.int .i64 9, .slice none 0 0], .bool true]) ∧ JarAt w' jb mb 9 0 [] ∧ w.heap.size ≤ jb ∧ w.heap.size ≤ mb) ∧ Below w.heap.size w w' := by
  have K1 := Lib.hid (CellsAt.first w [.int .i64 0, .slice none 0 0] tRJ)
  have B1 := Lib.hid (below_put2 (w := w) (cs := #[.int .i64 0, .slice none 0 0]) (T := tRJ))
  have RN := Lib.hid (fun wx => rnew_any wx)
  go_enter Tryz.func24, Tryz.ntmps24
  go_upto_region 1 with fail
  obtain ⟨b, hb⟩ := name_it w.heap.size
  have HB : Hid (w.heap.size = b) := hb.out
  rw [hb.out] at K1 ⊢
  clear hb
  generalize w.alloc _ = w1 at K1 B1 ⊢
  have HL1 : Hid (b < w1.heap.size) := K1.out.lt
  go_wp2_with fail
  refine (new_any 9 w1 (by decide) (by decide)).mono ?_; rintro e w2 ⟨rfl, hJ, hb2⟩
  obtain ⟨mb, hmb⟩ := name_it w1.heap.size
  obtain ⟨jb, hjb⟩ : ∃ jb, jb = w1.heap.size + 1 := ⟨_, rfl⟩
  have GJ : Hid (b < jb ∧ b < mb ∧ w.heap.size ≤ jb ∧ w.heap.size ≤ mb) := by
    have h1 := HL1.out
    have h2 := B1.out.size
    have h3 := hmb.out
    exact ⟨by omega, by omega, by omega, by omega⟩
  have J2 : Hid (JarAt w2 jb mb 9 0 []) := by
    unfold Hid
    rw [hjb, ← hmb.out]
    exact hJ
  rw [← hjb]
  have K2 := Lib.hid (K1.out.next hb2)
  have B2 := Lib.hid (B1.out.trans (hb2.mono B1.out.size))
  clear hJ hb2 hmb hjb K1 B1 HL1
  go_wp2_with fail
  refine (RN.out _).mono ?_; rintro e w3 ⟨rfl, hb3⟩
  have K3 := Lib.hid (K2.out.next hb3)
  have J3 := Lib.hid (J2.out.next_ hb3)
  have B3 := Lib.hid (B2.out.trans (hb3.mono B2.out.size))
  clear K2 J2 B2 hb3 RN
  have b4 := below_put2 (w := w3) (cs := #[.int .i64 9, .slice none 0 0]) (T := tRJ)
  have K4 := Lib.hid (K3.out.next b4)
  have J4 := Lib.hid (J3.out.next_ b4)
  have B4 := Lib.hid (B3.out.trans (b4.mono B3.out.size))
  have C4 := Lib.hid (CellsAt.first w3 [.int .i64 9, .slice none 0 0] tRJ)
  clear K3 J3 B3 b4
  go_upto_region 3 with fail
  obtain ⟨m, hm⟩ := name_it w3.heap.size
  rw [hm.out] at C4 ⊢
  clear hm
  generalize w3.alloc _ = w4 at K4 J4 B4 C4 ⊢
  have c0 := C4.out.at 0 _ rfl
  have c1 := C4.out.at 1 _ rfl
  have z0 := K4.out.at 0 _ rfl
  have z1 := K4.out.at 1 _ rfl
  have y0 := K4.out.free 0
  have y1 := K4.out.free 1
  have KE := K4.out.put [.int .i64 9, .slice none 0 0] rfl
  have DE := putAll_below [.int .i64 9, .slice none 0 0] 0 _ _ B4.out (show w.heap.size ≤ b by rw [HB.out]; exact Nat.le_refl _)
  have JE := J4.out.keeps (Keeps.put (S := fun i => i = b) (b := b) rfl [.int .i64 9, .slice none 0 0] 0 w4) (fun e => by have := GJ.out; omega) (fun e => by have := GJ.out; omega) (fun x hx => by cases hx)
  have bd := (Below.refl (putAll w4 b 0 [.int .i64 9, .slice none 0 0]).heap.size (putAll w4 b 0 [.int .i64 9, .slice none 0 0])).drew
  have KE := Lib.hid (KE.next bd)
  have DE := Lib.hid (DE.trans (bd.mono DE.size))
  have JE := Lib.hid (JE.next_ bd)
  unfold putAll putAll putAll at KE DE JE
  have f0 := KE.out.at 0 _ rfl
  have f1 := KE.out.at 1 _ rfl
  simp only [Nat.zero_add] at DE f0 f1 JE
  clear K4 J4 B4 KE bd
  go_region
  go_wp2_with fail
  refine bodyPost_ret (v := .tuple #[.pointer (some ⟨jb, 0, none⟩), .agg #[.int .i64 9, .slice none 0 0], .bool true]) (by simp [results, Tryz.results24, go_sem, f0, f1]) rfl ?_
  exact ⟨⟨jb, mb, rfl, JE.out, GJ.out.2.2.1, GJ.out.2.2.2⟩, DE.out⟩
end Go.Proofs.YtkenianfpfamcaaGreatDoor
