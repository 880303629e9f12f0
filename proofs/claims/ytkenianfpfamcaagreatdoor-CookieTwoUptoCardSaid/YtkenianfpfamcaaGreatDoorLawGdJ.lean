/- CookieMemory: a cookie is set in a round, in the document's jar and in the program's. -/
import Derived.Test.YtkenianfpfamcaaGreatDoorLg
import Derived.Test.YtkenianfpfamcaaGreatDoorDocPJ
namespace Go.Proofs.YtkenianfpfamcaaGreatDoor
open Go Go.RowKit
set_option maxHeartbeats 16000000

theorem Lies.keeps {α : Type} {f : α → List Value} {n : Nat} {S : Nat → Prop} {w w' : World} {p : Option Addr} {l : List α} (h : Lies f n w p l) (K : Keeps S w w') (hq : ∀ g off, p = some ⟨g, off, none⟩ → ¬ S g) : Lies f n w' p l := by
  constructor
  rcases h.mem with h | ⟨g, off, h1, h2, h3⟩
  · exact Or.inl h
  · exact Or.inr ⟨g, off, h1, Nat.lt_of_lt_of_le h2 K.size, fun i hi j hj => by rw [cell_of_block (K.block g h2 (hq g off h1))]; exact h3 i hi j hj⟩
theorem setJ_len {most : Nat} {l : List Kp} (h : l.length ≤ most) (c : SetC) (host path : List UInt8) (sec : Bool) (now : Int) : (setJ most l c host path sec now).length ≤ most := by
  unfold setJ
  split
  · exact trim_length most now _
  · exact h
/-- a cookie's block is not the document's box -/
theorem box_ne {wx : World} {b jb mb most n : Nat} {q : Value} {l : List It} {m : Int} (hb : CellsAt wx b [.int .i64 m, q]) (hj : JarAt wx jb mb most n l) : ∀ x ∈ l, x.blk ≠ b := by
  intro x hx e
  have h1 := hb.at 0 _ rfl
  have h2 := (hj.its x hx).at 0 (.string (bs x.k.c.name)) rfl
  rw [e, h1] at h2
  injection h2 with h2
  cases h2
/-- the document's jar behind a setting, in its box; the program's as it was -/
structure Half (w : World) (b jb mb most n : Nat) (q : Option Addr) (cap : Nat) (l : List It) (kl : List Kp) (wx : World) : Prop where
  box : CellsAt wx b [.int .i64 most, .slice q kl.length cap]
  j : JarAt wx jb mb most n l
  d : KpL wx q kl
  cap : kl.length ≤ cap
  bl : Below w.heap.size w wx
  low : w.heap.size ≤ b ∧ w.heap.size ≤ jb ∧ w.heap.size ≤ mb ∧ b ≠ jb ∧ b ≠ mb
  qj : ∀ g off, q = some ⟨g, off, none⟩ → g ≠ jb ∧ g ≠ mb ∧ g ≠ b
/-- into the box -/
theorem Mm.half {w : World} {b jb mb most n : Nat} {q : Option Addr} {cap : Nat} {l : List It} {wx w3 : World} {q3 : Option Addr} {c3 : Nat} {kl : List Kp} (h : Mm w b jb mb most n q cap l wx) (hb : Below wx.heap.size wx w3) (hl : KpL w3 q3 kl) (hc : kl.length ≤ c3) (hq : q3 = q ∨ ∀ g off, q3 = some ⟨g, off, none⟩ → wx.heap.size ≤ g) :
    Half w b jb mb most n q3 c3 l kl ((w3.setCell ⟨b, 0, none⟩ (.int .i64 most)).setCell ⟨b, 1, none⟩ (.slice q3 kl.length c3)) := by
  have h3 := h.next hb
  have hjl := h.j.jar.lt
  have hbl := h.box.lt
  have hml : mb < wx.heap.size := by obtain ⟨D, hh, _⟩ := h.j.map; exact hh.lt
  have hqj : ∀ g off, q3 = some ⟨g, off, none⟩ → g ≠ jb ∧ g ≠ mb ∧ g ≠ b := by
    intro g off e
    rcases hq with hq | hq
    · rw [hq] at e; exact h.qj g off e
    · have := hq g off e; exact ⟨by omega, by omega, by omega⟩
  have hp := h3.box.put [.int .i64 most, .slice q3 kl.length c3] rfl
  have hpk := (Keeps.put (S := fun i => i = b) (b := b) rfl [.int .i64 most, .slice q3 kl.length c3] 0 w3)
  exact {
    box := hp
    j := h3.j.keeps hpk (fun e => h.low.2.2.2.1 e.symm) (fun e => h.low.2.2.2.2 e.symm) (fun x hx e => box_ne h3.box h3.j x hx e)
    d := hl.keeps hpk (fun g off e hgb => (hqj g off e).2.2 hgb)
    cap := hc
    bl := putAll_below [.int .i64 most, .slice q3 kl.length c3] 0 _ _ h3.bl h.low.1
    low := h.low
    qj := hqj }
/-- and the program's -/
theorem Half.set {w : World} {b jb mb most n : Nat} {q : Option Addr} {cap : Nat} {l : List It} {kl : List Kp} {wx wy : World} {V : Int} {e : Ending} (h : Half w b jb mb most n q cap l kl wx) (hs : SetPost wx jb mb most n V kl e wy) (hlen : kl.length ≤ most) :
    ∃ l' n', n' ≤ n + 1 ∧ Mm w b jb mb most n' q cap l' wy ∧ l'.map It.k = kl := by
  obtain ⟨_, hk, l', n', hj, hl, _, hn⟩ := hs
  refine ⟨l', n', hn, ?_, hl⟩
  subst hl
  exact {
    box := h.box.keeps hk (fun e => by rcases e with e | e; exact h.low.2.2.2.1 e; exact h.low.2.2.2.2 e)
    j := hj
    d := h.d.keeps hk (fun g off e hg => by have := h.qj g off e; rcases hg with hg | hg; exact this.1 hg; exact this.2.1 hg)
    cap := h.cap
    len := by rw [List.length_map] at hlen; exact hlen
    bl := h.bl.trans (hk.below (fun i hi e => by have := h.low; omega) h.bl.size)
    low := h.low
    qj := h.qj }
end Go.Proofs.YtkenianfpfamcaaGreatDoor
