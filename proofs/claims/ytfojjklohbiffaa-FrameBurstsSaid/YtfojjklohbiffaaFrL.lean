/- What the row of frameBursts asks of the program's text. -/
import Derived.Test.YtfojjklohbiffaaRows
import Derived.ProofKit
import Derived.Carry
import Derived.Test.YtfojjklohbiffaaProg
namespace Go.Proofs.Ytfojjklohbiffaa.frameBursts
open Go.ChangeShapes Go.WideShapes Go.ChangeAt Go.RowKit
theorem closed : joinedFacts Try.prog 10 Try.f10 Rows.frameBurstsSpec Rows.frameBurstsRow = true := of_decide_eq_true (by kernel_rfl)
end Go.Proofs.Ytfojjklohbiffaa.frameBursts
