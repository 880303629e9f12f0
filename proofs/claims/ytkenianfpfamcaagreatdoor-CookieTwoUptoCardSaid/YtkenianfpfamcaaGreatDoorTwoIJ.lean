/- Two jars of the program's, and two of the document's, beside each other. -/
import Derived.Test.YtkenianfpfamcaaGreatDoorTb
namespace Go.Proofs.YtkenianfpfamcaaGreatDoor
open Go Go.RowKit

theorem map_none {w : World} {k : TypeId} {R : Value → Option (DataW Unit × List MemPlace)} {b n : Nat} {D : DataW Unit} (h : w.ownsMap Tryz.prog k R b n D) (j : Nat) : w.cell? ⟨b, j, none⟩ = none := by
  obtain ⟨es, clock, h1, _⟩ := h
  unfold World.cell?
  simp only [h1]
/-- a cookie's block is no block of another jar's own -/
theorem item_ne {w : World} {j1 m1 M1 n1 j2 m2 M2 n2 : Nat} {l1 l2 : List It} (h1 : JarAt w j1 m1 M1 n1 l1) (h2 : JarAt w j2 m2 M2 n2 l2) : ∀ x ∈ l2, x.blk ≠ j1 ∧ x.blk ≠ m1 := by
  intro x hx
  have hc := (h2.its x hx).at 0 (.string (bs x.k.c.name)) rfl
  constructor
  · intro e
    have h := h1.jar.at 0 _ rfl
    rw [e, h] at hc
    injection hc with hc
    cases hc
  · intro e
    obtain ⟨D, h, _⟩ := h1.map
    rw [e, map_none h] at hc
    cases hc
/-- a jar beside a box that is written -/
theorem jv_box {w w' : World} {jv : Value} {jb mb most n b : Nat} {l : List It} {m : Int} {qv : Value} (h : Jv w jv jb mb most n l) (hb : CellsAt w b [.int .i64 m, qv]) (hk : Keeps (fun i => i = b) w w') (hn : most ≠ 0 → b ≠ jb ∧ b ≠ mb) : Jv w' jv jb mb most n l := by
  rcases h with h | ⟨h1, h2, h3, h4⟩
  · exact Or.inl h
  · have := hn (by omega)
    exact Or.inr ⟨h1, h2, h3.keeps hk (fun e => by omega) (fun e => by omega) (fun x hx e => box_ne hb h3 x hx e), h4⟩
/-- a jar beside a call on another one -/
theorem jv_other {w w' : World} {jv jv' : Value} {jb mb most n jb' mb' most' n' : Nat} {l l' : List It} (h : Jv w jv jb mb most n l) (h' : Jv w jv' jb' mb' most' n' l') (hk : Keeps (fun i => most' ≠ 0 ∧ (i = jb' ∨ i = mb')) w w') (hn : most' ≠ 0 → most ≠ 0 → jb' ≠ jb ∧ jb' ≠ mb ∧ mb' ≠ jb ∧ mb' ≠ mb) : Jv w' jv jb mb most n l := by
  rcases h with h | ⟨h1, h2, h3, h4⟩
  · exact Or.inl h
  · refine Or.inr ⟨h1, h2, h3.keeps hk (fun e => ?_) (fun e => ?_) (fun x hx e => ?_), h4⟩
    · have := hn e.1 (by omega); omega
    · have := hn e.1 (by omega); omega
    · rcases h' with h' | ⟨_, _, g3, _⟩
      · exact e.1 h'.1
      · have := item_ne g3 h3 x hx
        rcases e.2 with e | e
        · exact this.1 e
        · exact this.2 e
/-- a jar's half: the document's box and jar, the program's; beside the other's -/
structure Hf (w : World) (b : Nat) (jv : Value) (jb mb most n : Nat) (q : Option Addr) (c : Nat) (l : List It) (b' jb' mb' most' : Nat) (wx : World) : Prop where
  x : CellsAt wx b [.int .i64 most, .slice q (l.map It.k).length c]
  j : Jv wx jv jb mb most n l
  d : KpL wx q (l.map It.k)
  cp : (l.map It.k).length ≤ c
  lb : w.heap.size ≤ b
  lj : most ≠ 0 → w.heap.size ≤ jb ∧ w.heap.size ≤ mb
  ne : b ≠ b'
  nj : most ≠ 0 → b ≠ jb ∧ b ≠ mb ∧ b' ≠ jb ∧ b' ≠ mb
  qo : l.map It.k ≠ [] → ∀ g off, q = some ⟨g, off, none⟩ → g ≠ b ∧ g ≠ b' ∧ (most ≠ 0 → g ≠ jb ∧ g ≠ mb) ∧ (most' ≠ 0 → g ≠ jb' ∧ g ≠ mb')
theorem Hf.next {w : World} {b : Nat} {jv : Value} {jb mb most n : Nat} {q : Option Addr} {c : Nat} {l : List It} {b' jb' mb' most' : Nat} {wx wy : World} (h : Hf w b jv jb mb most n q c l b' jb' mb' most' wx) (hb : Below wx.heap.size wx wy) : Hf w b jv jb mb most n q c l b' jb' mb' most' wy :=
  ⟨h.x.next hb, h.j.next hb, h.d.next hb, h.cp, h.lb, h.lj, h.ne, h.nj, h.qo⟩
structure T2 (w : World) (b1 : Nat) (v1 : Value) (j1 m1 M1 n1 : Nat) (q1 : Option Addr) (c1 : Nat) (l1 : List It) (b2 : Nat) (v2 : Value) (j2 m2 M2 n2 : Nat) (q2 : Option Addr) (c2 : Nat) (l2 : List It) (wx : World) : Prop where
  a : Hf w b1 v1 j1 m1 M1 n1 q1 c1 l1 b2 j2 m2 M2 wx
  b : Hf w b2 v2 j2 m2 M2 n2 q2 c2 l2 b1 j1 m1 M1 wx
  ap : M1 ≠ 0 → M2 ≠ 0 → j1 ≠ j2 ∧ j1 ≠ m2 ∧ m1 ≠ j2 ∧ m1 ≠ m2
  bl : Below w.heap.size w wx
theorem T2.next {w : World} {b1 : Nat} {v1 : Value} {j1 m1 M1 n1 : Nat} {q1 : Option Addr} {c1 : Nat} {l1 : List It} {b2 : Nat} {v2 : Value} {j2 m2 M2 n2 : Nat} {q2 : Option Addr} {c2 : Nat} {l2 : List It} {wx wy : World} (h : T2 w b1 v1 j1 m1 M1 n1 q1 c1 l1 b2 v2 j2 m2 M2 n2 q2 c2 l2 wx) (hb : Below wx.heap.size wx wy) : T2 w b1 v1 j1 m1 M1 n1 q1 c1 l1 b2 v2 j2 m2 M2 n2 q2 c2 l2 wy :=
  ⟨h.a.next hb, h.b.next hb, h.ap, h.bl.trans (hb.mono h.bl.size)⟩
theorem T2.swap {w : World} {b1 : Nat} {v1 : Value} {j1 m1 M1 n1 : Nat} {q1 : Option Addr} {c1 : Nat} {l1 : List It} {b2 : Nat} {v2 : Value} {j2 m2 M2 n2 : Nat} {q2 : Option Addr} {c2 : Nat} {l2 : List It} {wx : World} (h : T2 w b1 v1 j1 m1 M1 n1 q1 c1 l1 b2 v2 j2 m2 M2 n2 q2 c2 l2 wx) : T2 w b2 v2 j2 m2 M2 n2 q2 c2 l2 b1 v1 j1 m1 M1 n1 q1 c1 l1 wx :=
  ⟨h.b, h.a, fun x y => have z := h.ap y x; ⟨z.1.symm, z.2.2.1.symm, z.2.1.symm, z.2.2.2.symm⟩, h.bl⟩
/-- a call on the first jar, its answer put into the box -/
theorem T2.step {w : World} {b1 : Nat} {v1 : Value} {j1 m1 M1 n1 : Nat} {q1 : Option Addr} {c1 : Nat} {l1 : List It} {b2 : Nat} {v2 : Value} {j2 m2 M2 n2 : Nat} {q2 : Option Addr} {c2 : Nat} {l2 : List It} {wx wy : World} {q' : Option Addr} {c' : Nat} {l' : List It} {n' : Nat} (h : T2 w b1 v1 j1 m1 M1 n1 q1 c1 l1 b2 v2 j2 m2 M2 n2 q2 c2 l2 wx) (hs : StepOut wx v1 j1 m1 M1 n1 (l1.map It.k) q1 q' c' l' n' wy) :
    T2 w b1 v1 j1 m1 M1 n' q' c' l' b2 v2 j2 m2 M2 n2 q2 c2 l2 (putAll wy b1 0 [.int .i64 M1, .slice q' (l'.map It.k).length c']) ∧ n' ≤ n1 + 1 ∧ CellsAt wy b1 [.int .i64 M1, .slice q1 (l1.map It.k).length c1] := by
  obtain ⟨hj, hd, hc, hq, hn, hk⟩ := hs
  have x1 := h.a.x.keeps hk (fun e => by have := h.a.nj e.1; omega)
  have x2 := h.b.x.keeps hk (fun e => by have := h.a.nj e.1; omega)
  have J2 := jv_other h.b.j h.a.j hk h.ap
  have d2 := h.b.d.keepsN hk (fun hx g off e he => by have := (h.b.qo hx g off e).2.2.2 he.1; omega)
  have hp := Keeps.put (S := fun i => i = b1) (b := b1) rfl [.int .i64 M1, .slice q' (l'.map It.k).length c'] 0 wy
  have g1 := h.a.x.lt
  have g2 := h.b.x.lt
  have gj1 : M1 ≠ 0 → j1 < wx.heap.size ∧ m1 < wx.heap.size := fun h0 => by
    rcases h.a.j with hj | ⟨_, _, h3, _⟩
    · exact absurd hj.1 h0
    · exact ⟨h3.jar.lt, by obtain ⟨D, h, _⟩ := h3.map; exact h.lt⟩
  have gj2 : M2 ≠ 0 → j2 < wx.heap.size ∧ m2 < wx.heap.size := fun h0 => by
    rcases h.b.j with hj | ⟨_, _, h3, _⟩
    · exact absurd hj.1 h0
    · exact ⟨h3.jar.lt, by obtain ⟨D, h, _⟩ := h3.map; exact h.lt⟩
  have qo : l'.map It.k ≠ [] → ∀ g off, q' = some ⟨g, off, none⟩ → g ≠ b1 ∧ g ≠ b2 ∧ (M1 ≠ 0 → g ≠ j1 ∧ g ≠ m1) ∧ (M2 ≠ 0 → g ≠ j2 ∧ g ≠ m2) := by
    intro hx g off e
    rcases hq with ⟨hq, hl⟩ | hq
    · rw [hl] at hx
      rw [hq] at e
      exact h.a.qo hx g off e
    · have := hq g off e
      exact ⟨by omega, by omega, fun h0 => by have := gj1 h0; omega, fun h0 => by have := gj2 h0; omega⟩
  have hbl : Below w.heap.size wx wy := hk.below (fun i hi e => by have := h.a.lj e.1; omega) h.bl.size
  refine ⟨⟨⟨x1.put _ rfl, jv_box hj x1 hp (fun h0 => by have := h.a.nj h0; omega), hd.keepsN hp (fun hx g off e he => (qo hx g off e).1 he), hc, h.a.lb, h.a.lj, h.a.ne, h.a.nj, qo⟩,
    ⟨x2.keeps hp (fun e => h.b.ne e), jv_box J2 x1 hp (fun h0 => by have := h.b.nj h0; omega), d2.keepsN hp (fun hx g off e he => (h.b.qo hx g off e).2.1 he), h.b.cp, h.b.lb, h.b.lj, h.b.ne, h.b.nj, h.b.qo⟩, h.ap, putAll_below _ 0 _ _ (h.bl.trans hbl) h.a.lb⟩, hn, x1⟩
end Go.Proofs.YtkenianfpfamcaaGreatDoor
