/- What the claims of the greater seat need besides: the variables as the library's search reads them; lists of entries that came in. -/
import Derived.Test.YtfgaiopkclogmaaGreatDoorMj
import Derived.Test.YtfgaiopkclogmaaGreatDoorLedgDeJ
namespace Go.Proofs.YtfgaiopkclogmaaGreatDoor
open Go Go.ChangeShapes Go.WideShapes Go.ChangeAt Go.RowKit

theorem envZ_of {W : World} (h : laidMetH Tryz.prog laidG W) (hsh : W.ShapedOpen Tryz.prog) : EnvZ W where
  l := envL_of h hsh
  max := Go.Proofs.cell_of_shapedOpen_int (zero := #[.int .i64 0]) (t := 3) hsh (of_decide_eq_true (by kernel_rfl)) (by kernel_rfl) rfl (by kernel_rfl) (by kernel_rfl) Tryz.underlying3
theorem inE_of {l : List En} {B : Nat} (h : ∀ e, e ∈ l → wfE e ∧ e.name.length + e.meth.length + e.tgt.length ≤ B) (hB : B ≤ 1048576) : ∀ e ∈ l, inE e := fun e he => by
  have h1 := h e he
  exact ⟨h1.1.ints, by omega, by omega, by omega⟩
end Go.Proofs.YtfgaiopkclogmaaGreatDoor
