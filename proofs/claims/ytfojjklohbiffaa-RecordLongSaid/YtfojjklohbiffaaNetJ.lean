/- Nets: a copy of a net apart from it; texts the same as themselves. -/
import Derived.Test.YtfojjklohbiffaaNetI
namespace Go.Proofs.Ytfojjklohbiffaa
open Go.RowKit Tran
set_option linter.unusedVariables false
theorem NetAt.belowAt {w w' : World} {g B D : Nat} {v : Value} {l : List (List UInt8)} (h : NetAt w g B v l) (hb : Below D w w') (hg : g < D) (hv : ∀ k, blkOf v = some k → k < D) : NetAt w' g B v l :=
  ⟨h.blk.below hb hg, h.ge, h.own.sameBlock fun k hk => hb.block k (hv k hk)⟩
theorem same_self {w : World} {va vb : Value} {a : List (List UInt8)} (ha : Txt w va a) (hb : Txt w vb a) (hl : a.length ≤ 100000) :
    Calls Try.prog 53 #[va, vb] w fun e w' => e = .returned (.bool true) ∧ Below w.heap.size w w' := by
  have := same_any ha hb hl
  rwa [beq_self_eq_true] at this
end Go.Proofs.Ytfojjklohbiffaa
