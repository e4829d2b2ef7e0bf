/- What the row of opUnlike asks of the program's text. -/
import Derived.Test.YtfojjklohbiffaaDoorRows
import Derived.ProofKit
import Derived.Carry
namespace Go.Proofs.YtfojjklohbiffaaDoor.opUnlike
open Go.ChangeShapes Go.WideShapes Go.ChangeAt Go.RowKit
theorem closed : joinedFacts Tryd.prog 6 Tryd.f6 Rows.opUnlikeSpec Rows.opUnlikeRow = true := of_decide_eq_true (by kernel_rfl)
end Go.Proofs.YtfojjklohbiffaaDoor.opUnlike
