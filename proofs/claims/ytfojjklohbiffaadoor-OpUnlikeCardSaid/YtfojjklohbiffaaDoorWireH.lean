/- Known answers of layer 2 (law02.none, head). -/
import Derived.Test.YtfojjklohbiffaaDoorWireE
namespace Go.Proofs.YtfojjklohbiffaaDoor
open Go.RowKit Tran Tran.Wire
set_option linter.unusedVariables false
theorem Rdd.toBelow {w w' : World} {g : Nat} {st : Option (List UInt8)} {B : Nat} (h : Rdd w w' (some ⟨g, 0, none⟩) st) (hg : B ≤ g) (hB : B ≤ w.heap.size) : Below B w w' :=
  h.ch.toBelow hB (fun k _ hk => by injection hk with hk; injection hk with hk; omega)
end Go.Proofs.YtfojjklohbiffaaDoor
