/- What the row of framePuts asks of the program's text. -/
import Derived.Test.YtfojjklohbiffaaRows
import Derived.ProofKit
import Derived.Carry
import Derived.Test.YtfojjklohbiffaaProg
namespace Go.Proofs.Ytfojjklohbiffaa.framePuts
open Go.ChangeShapes Go.WideShapes Go.ChangeAt Go.RowKit
theorem closed : joinedFacts Try.prog 8 Try.f8 Rows.framePutsSpec Rows.framePutsRow = true := of_decide_eq_true (by kernel_rfl)
end Go.Proofs.Ytfojjklohbiffaa.framePuts
