/- Two rows of the caller's own, marked and grown: what stays beside them. Parts of a function's code, taken out of it by the number of the region at which they begin. The law's sameSets on two lists of the same. The law's begun: a jar, and the document's. -/
import Derived.Test.YtkenianfpfamcaaGreatDoorDc
import Derived.Test.YtkenianfpfamcaaGreatDoorMn
import Derived.Test.YtkenianfpfamcaaGreatDoorDd
import Derived.Test.YtkenianfpfamcaaGreatDoorProg
import Derived.BigRegion
namespace Go.Proofs.YtkenianfpfamcaaGreatDoor
open Go Go.RowKit

/-- two rows of the call's own, made between s0 and s1, between s2 and s3, written over or grown since w4 -/
structure Mk (w4 : World) (s0 s1 s2 s3 : Nat) (va : Value) (na : Nat) (vc : Value) (nc : Nat) (wr : World) : Prop where
  a : ∃ xs, wr.ownsRow s0 tCk 2 va na xs
  c : ∃ xs, wr.ownsRow s2 tS 11 vc nc xs
  ga : ∀ g, va.ownBlock = some g → g < s1 ∨ w4.heap.size ≤ g
  gc : ∀ g, vc.ownBlock = some g → g < s3 ∨ w4.heap.size ≤ g
  ne : ∀ g, va.ownBlock = some g → vc.ownBlock ≠ some g
  k : Keeps (fun i => (s0 ≤ i ∧ i < s1) ∨ (s2 ≤ i ∧ i < s3)) w4 wr
  le : s0 ≤ s1 ∧ s1 ≤ s2 ∧ s2 ≤ s3 ∧ s3 ≤ w4.heap.size
theorem Mk.first {w1 w3 w4 : World} {s0 s2 : Nat} {va vc : Value} {na nc : Nat} {xs ys : List Value} (ha1 : w1.ownsRow s0 tCk 2 va na xs) (ha : w4.ownsRow s0 tCk 2 va na xs) (hc3 : w3.ownsRow s2 tS 11 vc nc ys) (hc : w4.ownsRow s2 tS 11 vc nc ys)
    (h0 : s0 ≤ w1.heap.size) (h1 : w1.heap.size ≤ s2) (h2 : s2 ≤ w3.heap.size) (h3 : w3.heap.size ≤ w4.heap.size) : Mk w4 s0 w1.heap.size s2 w3.heap.size va na vc nc w4 where
  a := ⟨xs, ha⟩
  c := ⟨ys, hc⟩
  ga g hg := Or.inl (World.ownsRow.lt ha1 g hg).2
  gc g hg := Or.inl (World.ownsRow.lt hc3 g hg).2
  ne g hg he := by
    have e1 := (World.ownsRow.lt ha1 g hg).2
    have e2 := (World.ownsRow.lt hc3 g he).1
    omega
  k := Keeps.refl _ _
  le := ⟨h0, h1, h2, h3⟩
theorem Mk.next {w4 wr wx : World} {s0 s1 s2 s3 : Nat} {va vc : Value} {na nc : Nat} (h : Mk w4 s0 s1 s2 s3 va na vc nc wr) (hb : Below wr.heap.size wr wx) : Mk w4 s0 s1 s2 s3 va na vc nc wx where
  a := by obtain ⟨xs, hx⟩ := h.a; exact ⟨xs, row_kept hx (fun g hg => hb.block g (World.ownsRow.lt hx g hg).2)⟩
  c := by obtain ⟨xs, hx⟩ := h.c; exact ⟨xs, row_kept hx (fun g hg => hb.block g (World.ownsRow.lt hx g hg).2)⟩
  ga := h.ga
  gc := h.gc
  ne := h.ne
  k := h.k.trans (Keeps.of hb (Nat.le_refl _))
  le := h.le
theorem Mk.inC {w4 wr : World} {s0 s1 s2 s3 : Nat} {va vc : Value} {na nc : Nat} (h : Mk w4 s0 s1 s2 s3 va na vc nc wr) (g : Nat) (hg : vc.ownBlock = some g) (hl : g < w4.heap.size) : s2 ≤ g ∧ g < s3 := by
  obtain ⟨xs, hx⟩ := h.c
  have e1 := (World.ownsRow.lt hx g hg).1
  rcases h.gc g hg with e | e
  · exact ⟨e1, e⟩
  · omega
theorem Mk.putC {w4 wr : World} {s0 s1 s2 s3 : Nat} {g nc cap : Nat} {va : Value} {na : Nat} (h : Mk w4 s0 s1 s2 s3 va na (.slice (some ⟨g, 0, none⟩) nc cap) nc wr) (us : List Value) (j : Nat) : Mk w4 s0 s1 s2 s3 va na (.slice (some ⟨g, 0, none⟩) nc cap) nc (putAll wr g j us) where
  a := by
    obtain ⟨xs, hx⟩ := h.a
    refine ⟨xs, row_kept hx (fun g' hg' => ?_)⟩
    refine (Keeps.put (S := fun i => i = g) (b := g) rfl us j wr).block g' (World.ownsRow.lt hx g' hg').2 (fun e => h.ne g' hg' (by rw [e]; rfl))
  c := by
    obtain ⟨xs, hx⟩ := h.c
    exact ⟨_, stored_all us j xs wr hx⟩
  ga := h.ga
  gc := h.gc
  ne := h.ne
  k := h.k.then (Keeps.put (S := fun i => i = g) (b := g) rfl us j wr) (fun i hi e => Or.inr (h.inC i (by rw [e]; rfl) hi))
  le := h.le
/-- what lay ahead of the rows stays -/
theorem Mk.low {w4 wr : World} {s0 s1 s2 s3 : Nat} {va vc : Value} {na nc : Nat} (h : Mk w4 s0 s1 s2 s3 va na vc nc wr) : Below s0 w4 wr :=
  h.k.below (fun i hi e => by have := h.le; omega) (by have := h.le; omega)
end Go.Proofs.YtkenianfpfamcaaGreatDoor
namespace Go.Proofs.YtkenianfpfamcaaGreatDoor
open Go

/-- the region at which a code begins -/
def headReg : Code → Option Nat
  | .region n _ _ => some n
  | .seq a _ => headReg a
  | _ => none
/-- the code that begins at region n and goes on to the end of its block -/
def fromReg (n : Nat) : Code → Option Code
  | .seq a b => match headReg a == some n with
    | true => some (.seq a b)
    | false => match fromReg n a with
      | some c => some c
      | none => fromReg n b
  | .block _ c => fromReg n c
  | .loop c => fromReg n c
  | .scope c => fromReg n c
  | .cond _ a b => match fromReg n a with
    | some c => some c
    | none => fromReg n b
  | _ => none
/-- a sequence's head, and what follows it -/
def seqHd : Code → Code
  | .seq a _ => a
  | c => c
def seqTl : Code → Code
  | .seq _ b => b
  | c => c
end Go.Proofs.YtkenianfpfamcaaGreatDoor
namespace Go.Proofs.YtkenianfpfamcaaGreatDoor
open Go Go.RowKit
set_option maxHeartbeats 16000000

set_option maxRecDepth 100000 in
theorem sameSets_self (w : World) (p q : Option Addr) (cap dap : Nat) (l : List SetC) (hC : ScL w p l) (hD : ScL w q l) (hl : l.length ≤ 1048576) :
    Calls Tryz.prog 30 #[.slice p l.length cap, .slice q l.length dap] w fun e w' => e = .returned (.bool true) ∧ Below w.heap.size w w' := by
  have HC := Lib.hid hC
  have HD := Lib.hid hD
  clear hC hD
  go_enter Tryz.func30, Tryz.ntmps30
  go_wp2_with fail
  all_goals (try (exfalso; omega))
  go_loopw [5, 13] (fun _ i wr => ∃ k : Nat, k ≤ l.length ∧ i = .int .i64 k ∧ Hid (Below w.heap.size w wr)) (fun _ i _ => l.length - (intOf i).toNat)
  case atStart => exact ⟨0, Nat.zero_le _, rfl, Below.refl _ _⟩
  case round =>
    obtain ⟨k, hk, rfl, hB⟩ := hrel
    obtain ⟨wq, hwq⟩ : ∃ wq, wq = wr := ⟨wr, rfl⟩
    subst hwq
    by_cases hlt : k < l.length
    · obtain ⟨g1, o1, rfl, hg1, hc1⟩ := (HC.out.next hB.out).get k hlt
      obtain ⟨g2, o2, rfl, hg2, hc2⟩ := (HD.out.next hB.out).get k hlt
      obtain ⟨c, hc⟩ := name_it l[k]
      rw [hc.out] at hc1 hc2
      have HS := Lib.hid (fun wx => set_law c wx)
      clear hc
      obtain ⟨nm, v, pp, d, ma, hm, ex, he, sc, ht, sm⟩ := c
      unfold cellsS at HS
      simp only at HS
      have y0 : wq.cell? ⟨g1, o1 + k * 11, none⟩ = some (.string (bs nm)) := hc1 0 _ (by decide) rfl
      have y1 : wq.cell? ⟨g1, o1 + k * 11 + 1, none⟩ = some (.string (bs v)) := hc1 1 _ (by decide) rfl
      have y2 : wq.cell? ⟨g1, o1 + k * 11 + 2, none⟩ = some (.string (bs pp)) := hc1 2 _ (by decide) rfl
      have y3 : wq.cell? ⟨g1, o1 + k * 11 + 3, none⟩ = some (.string (bs d)) := hc1 3 _ (by decide) rfl
      have y4 : wq.cell? ⟨g1, o1 + k * 11 + 4, none⟩ = some (.int .i64 ma) := hc1 4 _ (by decide) rfl
      have y5 : wq.cell? ⟨g1, o1 + k * 11 + 5, none⟩ = some (.bool hm) := hc1 5 _ (by decide) rfl
      have y6 : wq.cell? ⟨g1, o1 + k * 11 + 6, none⟩ = some (.int .i64 ex) := hc1 6 _ (by decide) rfl
      have y7 : wq.cell? ⟨g1, o1 + k * 11 + 7, none⟩ = some (.bool he) := hc1 7 _ (by decide) rfl
      have y8 : wq.cell? ⟨g1, o1 + k * 11 + 8, none⟩ = some (.bool sc) := hc1 8 _ (by decide) rfl
      have y9 : wq.cell? ⟨g1, o1 + k * 11 + 9, none⟩ = some (.bool ht) := hc1 9 _ (by decide) rfl
      have y10 : wq.cell? ⟨g1, o1 + k * 11 + 10, none⟩ = some (.int .i64 sm) := hc1 10 _ (by decide) rfl
      have z0 : wq.cell? ⟨g2, o2 + k * 11, none⟩ = some (.string (bs nm)) := hc2 0 _ (by decide) rfl
      have z1 : wq.cell? ⟨g2, o2 + k * 11 + 1, none⟩ = some (.string (bs v)) := hc2 1 _ (by decide) rfl
      have z2 : wq.cell? ⟨g2, o2 + k * 11 + 2, none⟩ = some (.string (bs pp)) := hc2 2 _ (by decide) rfl
      have z3 : wq.cell? ⟨g2, o2 + k * 11 + 3, none⟩ = some (.string (bs d)) := hc2 3 _ (by decide) rfl
      have z4 : wq.cell? ⟨g2, o2 + k * 11 + 4, none⟩ = some (.int .i64 ma) := hc2 4 _ (by decide) rfl
      have z5 : wq.cell? ⟨g2, o2 + k * 11 + 5, none⟩ = some (.bool hm) := hc2 5 _ (by decide) rfl
      have z6 : wq.cell? ⟨g2, o2 + k * 11 + 6, none⟩ = some (.int .i64 ex) := hc2 6 _ (by decide) rfl
      have z7 : wq.cell? ⟨g2, o2 + k * 11 + 7, none⟩ = some (.bool he) := hc2 7 _ (by decide) rfl
      have z8 : wq.cell? ⟨g2, o2 + k * 11 + 8, none⟩ = some (.bool sc) := hc2 8 _ (by decide) rfl
      have z9 : wq.cell? ⟨g2, o2 + k * 11 + 9, none⟩ = some (.bool ht) := hc2 9 _ (by decide) rfl
      have z10 : wq.cell? ⟨g2, o2 + k * 11 + 10, none⟩ = some (.int .i64 sm) := hc2 10 _ (by decide) rfl
      have SK : Hid (∀ W : World, Below wq.heap.size wq W → W.cell? ⟨g1, o1 + k * 11, none⟩ = some (.string (bs nm)) ∧ W.cell? ⟨g1, o1 + k * 11 + 1, none⟩ = some (.string (bs v)) ∧ W.cell? ⟨g1, o1 + k * 11 + 2, none⟩ = some (.string (bs pp)) ∧ W.cell? ⟨g1, o1 + k * 11 + 3, none⟩ = some (.string (bs d)) ∧ W.cell? ⟨g1, o1 + k * 11 + 4, none⟩ = some (.int .i64 ma) ∧ W.cell? ⟨g1, o1 + k * 11 + 5, none⟩ = some (.bool hm) ∧ W.cell? ⟨g1, o1 + k * 11 + 6, none⟩ = some (.int .i64 ex) ∧ W.cell? ⟨g1, o1 + k * 11 + 7, none⟩ = some (.bool he) ∧ W.cell? ⟨g1, o1 + k * 11 + 8, none⟩ = some (.bool sc) ∧ W.cell? ⟨g1, o1 + k * 11 + 9, none⟩ = some (.bool ht) ∧ W.cell? ⟨g1, o1 + k * 11 + 10, none⟩ = some (.int .i64 sm) ∧ W.cell? ⟨g2, o2 + k * 11, none⟩ = some (.string (bs nm)) ∧ W.cell? ⟨g2, o2 + k * 11 + 1, none⟩ = some (.string (bs v)) ∧ W.cell? ⟨g2, o2 + k * 11 + 2, none⟩ = some (.string (bs pp)) ∧ W.cell? ⟨g2, o2 + k * 11 + 3, none⟩ = some (.string (bs d)) ∧ W.cell? ⟨g2, o2 + k * 11 + 4, none⟩ = some (.int .i64 ma) ∧ W.cell? ⟨g2, o2 + k * 11 + 5, none⟩ = some (.bool hm) ∧ W.cell? ⟨g2, o2 + k * 11 + 6, none⟩ = some (.int .i64 ex) ∧ W.cell? ⟨g2, o2 + k * 11 + 7, none⟩ = some (.bool he) ∧ W.cell? ⟨g2, o2 + k * 11 + 8, none⟩ = some (.bool sc) ∧ W.cell? ⟨g2, o2 + k * 11 + 9, none⟩ = some (.bool ht) ∧ W.cell? ⟨g2, o2 + k * 11 + 10, none⟩ = some (.int .i64 sm)) := fun W hW => ⟨(hW.cell (p := ⟨g1, o1 + k * 11, none⟩) hg1).trans y0, (hW.cell (p := ⟨g1, o1 + k * 11 + 1, none⟩) hg1).trans y1, (hW.cell (p := ⟨g1, o1 + k * 11 + 2, none⟩) hg1).trans y2, (hW.cell (p := ⟨g1, o1 + k * 11 + 3, none⟩) hg1).trans y3, (hW.cell (p := ⟨g1, o1 + k * 11 + 4, none⟩) hg1).trans y4, (hW.cell (p := ⟨g1, o1 + k * 11 + 5, none⟩) hg1).trans y5, (hW.cell (p := ⟨g1, o1 + k * 11 + 6, none⟩) hg1).trans y6, (hW.cell (p := ⟨g1, o1 + k * 11 + 7, none⟩) hg1).trans y7, (hW.cell (p := ⟨g1, o1 + k * 11 + 8, none⟩) hg1).trans y8, (hW.cell (p := ⟨g1, o1 + k * 11 + 9, none⟩) hg1).trans y9, (hW.cell (p := ⟨g1, o1 + k * 11 + 10, none⟩) hg1).trans y10, (hW.cell (p := ⟨g2, o2 + k * 11, none⟩) hg2).trans z0, (hW.cell (p := ⟨g2, o2 + k * 11 + 1, none⟩) hg2).trans z1, (hW.cell (p := ⟨g2, o2 + k * 11 + 2, none⟩) hg2).trans z2, (hW.cell (p := ⟨g2, o2 + k * 11 + 3, none⟩) hg2).trans z3, (hW.cell (p := ⟨g2, o2 + k * 11 + 4, none⟩) hg2).trans z4, (hW.cell (p := ⟨g2, o2 + k * 11 + 5, none⟩) hg2).trans z5, (hW.cell (p := ⟨g2, o2 + k * 11 + 6, none⟩) hg2).trans z6, (hW.cell (p := ⟨g2, o2 + k * 11 + 7, none⟩) hg2).trans z7, (hW.cell (p := ⟨g2, o2 + k * 11 + 8, none⟩) hg2).trans z8, (hW.cell (p := ⟨g2, o2 + k * 11 + 9, none⟩) hg2).trans z9, (hW.cell (p := ⟨g2, o2 + k * 11 + 10, none⟩) hg2).trans z10⟩
      clear hc1 hc2
      go_upto_region 6 with fail
      all_goals (try (exfalso; omega))
      have bd := Lib.hid ((Below.refl wq.heap.size wq).drew)
      have EQ : ∀ wx : World, (binOp BinOp.neq tRS (.agg #[.string (bs nm), .string (bs v), .string (bs pp), .string (bs d), .int .i64 ma, .bool hm, .int .i64 ex, .bool he, .bool sc, .bool ht, .int .i64 sm]) (.agg #[.string (bs nm), .string (bs v), .string (bs pp), .string (bs d), .int .i64 ma, .bool hm, .int .i64 ex, .bool he, .bool sc, .bool ht, .int .i64 sm])).run Tryz.prog wx = .ok (.bool false) wx := by
        intro wx
        simp [go_sem]
      go_region_held3 (fun W => W.cell? ⟨g1, o1 + k * 11, none⟩ = some (.string (bs nm)) ∧ W.cell? ⟨g1, o1 + k * 11 + 1, none⟩ = some (.string (bs v)) ∧ W.cell? ⟨g1, o1 + k * 11 + 2, none⟩ = some (.string (bs pp)) ∧ W.cell? ⟨g1, o1 + k * 11 + 3, none⟩ = some (.string (bs d)) ∧ W.cell? ⟨g1, o1 + k * 11 + 4, none⟩ = some (.int .i64 ma) ∧ W.cell? ⟨g1, o1 + k * 11 + 5, none⟩ = some (.bool hm) ∧ W.cell? ⟨g1, o1 + k * 11 + 6, none⟩ = some (.int .i64 ex) ∧ W.cell? ⟨g1, o1 + k * 11 + 7, none⟩ = some (.bool he) ∧ W.cell? ⟨g1, o1 + k * 11 + 8, none⟩ = some (.bool sc) ∧ W.cell? ⟨g1, o1 + k * 11 + 9, none⟩ = some (.bool ht) ∧ W.cell? ⟨g1, o1 + k * 11 + 10, none⟩ = some (.int .i64 sm) ∧ W.cell? ⟨g2, o2 + k * 11, none⟩ = some (.string (bs nm)) ∧ W.cell? ⟨g2, o2 + k * 11 + 1, none⟩ = some (.string (bs v)) ∧ W.cell? ⟨g2, o2 + k * 11 + 2, none⟩ = some (.string (bs pp)) ∧ W.cell? ⟨g2, o2 + k * 11 + 3, none⟩ = some (.string (bs d)) ∧ W.cell? ⟨g2, o2 + k * 11 + 4, none⟩ = some (.int .i64 ma) ∧ W.cell? ⟨g2, o2 + k * 11 + 5, none⟩ = some (.bool hm) ∧ W.cell? ⟨g2, o2 + k * 11 + 6, none⟩ = some (.int .i64 ex) ∧ W.cell? ⟨g2, o2 + k * 11 + 7, none⟩ = some (.bool he) ∧ W.cell? ⟨g2, o2 + k * 11 + 8, none⟩ = some (.bool sc) ∧ W.cell? ⟨g2, o2 + k * 11 + 9, none⟩ = some (.bool ht) ∧ W.cell? ⟨g2, o2 + k * 11 + 10, none⟩ = some (.int .i64 sm))
        (first | assumption | exact SK.out _ bd.out | exact SK.out _ (bd.out.trans hb))
        ((go_at_call 19; refine (HS.out _).mono ?_; rintro e w' ⟨rfl, hb⟩))
      have B7 := Lib.hid (hB.out.trans ((bd.out.trans hb).mono hB.out.size))
      clear EQ SK bd hb y0 z0 y1 z1 y2 z2 y3 z3 y4 z4 y5 z5 y6 z6 y7 z7 y8 z8 y9 z9 y10 z10
      go_wp2_with fail
      go_roundw
      case rel => exact ⟨k + 1, by omega, by go_num, B7⟩
      case measure => simp [intOf]; omega
    · obtain rfl : k = l.length := by omega
      go_wp2_with fail
      all_goals (try (exfalso; omega))
      go_ret
      exact ⟨rfl, hB.out⟩
end Go.Proofs.YtkenianfpfamcaaGreatDoor
namespace Go.Proofs.YtkenianfpfamcaaGreatDoor
open Go Go.RowKit
set_option maxHeartbeats 16000000

end Go.Proofs.YtkenianfpfamcaaGreatDoor
