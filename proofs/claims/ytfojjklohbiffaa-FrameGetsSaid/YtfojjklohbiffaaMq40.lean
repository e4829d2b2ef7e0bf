/- What the row of frameGets asks of the program's text. -/
import Derived.Test.YtfojjklohbiffaaRows
import Derived.ProofKit
import Derived.Carry
import Derived.Test.YtfojjklohbiffaaProg
namespace Go.Proofs.Ytfojjklohbiffaa.frameGets
open Go.ChangeShapes Go.WideShapes Go.ChangeAt Go.RowKit
theorem closed : joinedFacts Try.prog 21 Try.f21 Rows.frameGetsSpec Rows.frameGetsRow = true := of_decide_eq_true (by kernel_rfl)
end Go.Proofs.Ytfojjklohbiffaa.frameGets
