/- CookieMemory: a jar and the document's in memory; what is asked at the end of a round. CookieMemory: what came out is written over and grown. CookieMemory: what comes out of the jar in a round. -/
import Derived.Test.YtkenianfpfamcaaGreatDoorDe
import Derived.Test.YtkenianfpfamcaaGreatDoorDocQJ
import Derived.Test.YtkenianfpfamcaaGreatDoorDa
import Derived.Test.YtkenianfpfamcaaGreatDoorWrapFJ
import Derived.Deep.RegionHeld3
namespace Go.Proofs.YtkenianfpfamcaaGreatDoor
open Go Go.RowKit
set_option maxHeartbeats 16000000

/-- a jar and the document's, in memory: the document's in a box of the call's own -/
structure Mm (w : World) (b jb mb most n : Nat) (q : Option Addr) (cap : Nat) (l : List It) (wx : World) : Prop where
  box : CellsAt wx b [.int .i64 most, .slice q (l.map It.k).length cap]
  j : JarAt wx jb mb most n l
  d : KpL wx q (l.map It.k)
  cap : (l.map It.k).length ≤ cap
  len : l.length ≤ most
  bl : Below w.heap.size w wx
  low : w.heap.size ≤ b ∧ w.heap.size ≤ jb ∧ w.heap.size ≤ mb ∧ b ≠ jb ∧ b ≠ mb
  qj : ∀ g off, q = some ⟨g, off, none⟩ → g ≠ jb ∧ g ≠ mb ∧ g ≠ b
theorem Mm.next {w : World} {b jb mb most n : Nat} {q : Option Addr} {cap : Nat} {l : List It} {wx wy : World} (h : Mm w b jb mb most n q cap l wx) (hb : Below wx.heap.size wx wy) : Mm w b jb mb most n q cap l wy :=
  ⟨h.box.next hb, h.j.next_ hb, h.d.next hb, h.cap, h.len, h.bl.trans (hb.mono h.bl.size), h.low, h.qj⟩
theorem kp_fit {w : World} {jb mb most n : Nat} {l : List It} (h : JarAt w jb mb most n l) : ∀ k ∈ l.map It.k, k.dom.length ≤ 1073741824 ∧ k.path.length ≤ 1073741824 := by
  intro k hk
  obtain ⟨x, hx, rfl⟩ := List.mem_map.1 hk
  have := (h.fit x hx).2.1
  exact ⟨this.b, this.c⟩
theorem row_lieS {w : World} {base : Nat} {p : Option Addr} {cap : Nat} {l : List SetC} (h : w.ownsRow base tS 11 (.slice p l.length cap) l.length (rowS l)) : ScL w p l := row_lies cellsS_len h
theorem getJ_len (l : List Kp) (host path : List UInt8) (sec : Bool) (now : Int) : (getJ l host path sec now).length ≤ l.length := by
  unfold getJ
  rw [List.length_map, (insAll_perm _ _).length_eq]
  exact List.length_filter_le _ _
end Go.Proofs.YtkenianfpfamcaaGreatDoor
namespace Go.Proofs.YtkenianfpfamcaaGreatDoor
open Go Go.RowKit
set_option maxHeartbeats 16000000

end Go.Proofs.YtkenianfpfamcaaGreatDoor
namespace Go.Proofs.YtkenianfpfamcaaGreatDoor
open Go Go.RowKit
set_option maxHeartbeats 16000000

end Go.Proofs.YtkenianfpfamcaaGreatDoor
