/- Books of ledger: a book that is nil. -/
import Derived.Test.YtfgaiopkclogmaaGreatDoorLedgCaJ
import Derived.Test.YtfgaiopkclogmaaGreatDoorLedgBbJ
namespace Go.Proofs.YtfgaiopkclogmaaGreatDoor
open Go Go.RowKit Go.MuLone
set_option maxHeartbeats 4000000

theorem len_nil (w : World) : Calls Tryz.prog 25 #[.pointer none] w fun e w' => e = .returned (.int .i64 0) ∧ w = w' := by
  go_enter Tryz.func25, Tryz.ntmps25
  go_wp2_with fail
  go_ret
  exact ⟨rfl, rfl⟩
set_option maxRecDepth 100000 in
theorem add_nil (e : En) (w : World) :
    Calls Tryz.prog 11 #[.pointer none, .string (bs e.name), visE e] w fun x w' => x = .returned (.int .i64 280) ∧ Below w.heap.size w w' := by
  have b0 := Lib.hid (((Below.refl w.heap.size w).alloc (Nat.le_refl _) (.cells (cellsV e) tV)).alloc (by show _ ≤ (w.heap.push _).size; rw [Array.size_push]; omega) (.cells (cellsE e) tE))
  unfold visE
  unfold cellsV cellsE at b0
  go_enter_defers Tryz.func11, Tryz.ntmps11
  go_wp2_with fail
  exact ⟨_, results_tmp rfl _ _ _, rfl, b0.out⟩
end Go.Proofs.YtfgaiopkclogmaaGreatDoor
