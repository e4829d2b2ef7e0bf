/- What the row of opPuts asks of the program's text. -/
import Derived.Test.YtfojjklohbiffaaDoorRows
import Derived.ProofKit
import Derived.Carry
namespace Go.Proofs.YtfojjklohbiffaaDoor.opPuts
open Go.ChangeShapes Go.WideShapes Go.ChangeAt Go.RowKit
theorem closed : joinedFacts Tryd.prog 4 Tryd.f4 Rows.opPutsSpec Rows.opPutsRow = true := of_decide_eq_true (by kernel_rfl)
end Go.Proofs.YtfojjklohbiffaaDoor.opPuts
