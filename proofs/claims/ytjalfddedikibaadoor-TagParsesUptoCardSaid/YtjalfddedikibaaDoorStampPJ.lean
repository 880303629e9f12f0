/- Contracts of the document's begins, FormOf, name and number. -/
import Derived.Test.YtjalfddedikibaaDoorStampZJ
namespace Go.Proofs.YtjalfddedikibaaDoor
open Go Go.RowKit
set_option maxHeartbeats 2000000

theorem formFrom_step (t : List UInt8) (k : Nat) (h : k < 7) : Stm.formFrom t (Stm.longN.drop k) = if (Stm.shortN.getD k [] ++ [44]).isPrefixOf t then 0 else if (Stm.longN.getD k [] ++ [44]).isPrefixOf t then 1 else Stm.formFrom t (Stm.longN.drop (k + 1)) := by
  have : k = 0 ∨ k = 1 ∨ k = 2 ∨ k = 3 ∨ k = 4 ∨ k = 5 ∨ k = 6 := by omega
  rcases this with rfl | rfl | rfl | rfl | rfl | rfl | rfl <;> rfl
end Go.Proofs.YtjalfddedikibaaDoor
