/- Contract of the document's near: the year around now's. -/
import Derived.Test.YtjalfddedikibaaDoorStampRJ
import Derived.Test.YtjalfddedikibaaDoorMb
namespace Go.Proofs.YtjalfddedikibaaDoor
open Go Go.RowKit
set_option maxHeartbeats 2000000

theorem t100 (n : Int) : (n.tmod 100 + 100) % 100 = n % 100 ∧ -100 < n.tmod 100 ∧ n.tmod 100 < 100 := by
  have h := Int.tmod_def n 100
  have k : n.tdiv 100 = if 0 ≤ n then n / 100 else -((-n) / 100) := by
    split
    · exact Int.tdiv_eq_ediv_of_nonneg (by omega)
    · have := Int.neg_tdiv (a := -n) (b := 100)
      rw [Int.neg_neg] at this
      rw [this, Int.tdiv_eq_ediv_of_nonneg (by omega)]
  split at k <;> omega
def nowY (now : Int) : Int := Cal.yOf (splitN now)

end Go.Proofs.YtjalfddedikibaaDoor
