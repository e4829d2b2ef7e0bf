/- What the row of opChecks asks of the program's text. -/
import Derived.Test.YtfojjklohbiffaaDoorRows
import Derived.ProofKit
import Derived.Carry
namespace Go.Proofs.YtfojjklohbiffaaDoor.opChecks
open Go.ChangeShapes Go.WideShapes Go.ChangeAt Go.RowKit
theorem closed : joinedFacts Tryd.prog 3 Tryd.f3 Rows.opChecksSpec Rows.opChecksRow = true := of_decide_eq_true (by kernel_rfl)
end Go.Proofs.YtfojjklohbiffaaDoor.opChecks
