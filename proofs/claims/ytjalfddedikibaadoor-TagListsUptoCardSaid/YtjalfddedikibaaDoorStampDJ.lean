/- Contract of the document's Split: the date of a moment. -/
import Derived.Test.YtjalfddedikibaaDoorStampCJ
import Derived.Test.YtjalfddedikibaaDoorCellsAtJ
namespace Go.Proofs.YtjalfddedikibaaDoor
open Go Go.RowKit
set_option maxHeartbeats 2000000

end Go.Proofs.YtjalfddedikibaaDoor
