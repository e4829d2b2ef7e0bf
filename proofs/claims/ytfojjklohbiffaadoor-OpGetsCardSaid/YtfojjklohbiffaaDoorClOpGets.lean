/- What the row of opGets asks of the program's text. -/
import Derived.Test.YtfojjklohbiffaaDoorRows
import Derived.ProofKit
import Derived.Carry
namespace Go.Proofs.YtfojjklohbiffaaDoor.opGets
open Go.ChangeShapes Go.WideShapes Go.ChangeAt Go.RowKit
theorem closed : joinedFacts Tryd.prog 5 Tryd.f5 Rows.opGetsSpec Rows.opGetsRow = true := of_decide_eq_true (by kernel_rfl)
end Go.Proofs.YtfojjklohbiffaaDoor.opGets
