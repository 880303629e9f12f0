/- LedgerParses: the walk of the law: for every text of at most 1048576 bytes the law answers true. -/
import Derived.Test.YtfgaiopkclogmaaGreatDoorMf
import Derived.Test.YtfgaiopkclogmaaGreatDoorLedgXJ
import Derived.Test.YtfgaiopkclogmaaGreatDoorLedgPbJ
namespace Go.Proofs.YtfgaiopkclogmaaGreatDoor
open Go Go.RowKit
set_option maxHeartbeats 4000000

set_option maxRecDepth 100000 in
theorem given_any (e : En) (w : World) : Calls Tryz.prog 13 #[encE e] w fun x w' => x = .returned (encE e) ∧ Below w.heap.size w w' := by
  obtain ⟨nm, hnm⟩ := name_it (bs e.name)
  obtain ⟨mt, hmt⟩ := name_it (bs e.meth)
  obtain ⟨tg, htg⟩ := name_it (bs e.tgt)
  obtain ⟨x1, hx1⟩ := name_it e.conn
  obtain ⟨x2, hx2⟩ := name_it e.numb
  obtain ⟨x3, hx3⟩ := name_it e.tick
  obtain ⟨x4, hx4⟩ := name_it e.stat
  obtain ⟨x5, hx5⟩ := name_it e.byts
  unfold encE
  rw [hnm.out, hmt.out, htg.out, hx1.out, hx2.out, hx3.out, hx4.out, hx5.out]
  go_enter Tryz.func13, Tryz.ntmps13
  go_wp2_with fail
  refine bodyPost_ret (v := .agg #[.string nm, .int .i64 x1, .int .i64 x2, .string mt, .string tg, .int .i64 x4, .int .i64 x5, .int .i64 x3]) (by simp [results, Tryz.results13, go_sem]) rfl ⟨rfl, ?_⟩
  have z1 : ∀ (W : World) (o : Obj), (W.alloc o).heap.size = W.heap.size + 1 := fun W o => Array.size_push ..
  exact (((Below.refl w.heap.size w).alloc (Nat.le_refl _) _).alloc (by rw [z1]; omega) _).alloc (by rw [z1, z1]; omega) _
theorem parV_form (S : List UInt8) : ∃ (p : En) (a c : Int), parV S = .tuple #[encE p, .int .i64 a, .int .i64 c] := by
  unfold parV
  split
  · exact ⟨_, _, _, rfl⟩
  · exact ⟨noE, _, _, rfl⟩
/-- the law's own two entries -/
structure LP (w W : World) (e : En) (m1 m2 : Nat) : Prop where
  a : Blk W m1 tE (cellsE e)
  b : Blk W m2 tR (cellsE e)
  env : EnvL W
  below : Below w.heap.size w W
theorem LP.next {w W W' : World} {e : En} {m1 m2 : Nat} (h : LP w W e m1 m2) (hb : Below W.heap.size W W') : LP w W' e m1 m2 :=
  ⟨h.a.below hb h.a.lt, h.b.below hb h.b.lt, h.env.next hb, h.below.trans (hb.mono h.below.size)⟩

end Go.Proofs.YtfgaiopkclogmaaGreatDoor
