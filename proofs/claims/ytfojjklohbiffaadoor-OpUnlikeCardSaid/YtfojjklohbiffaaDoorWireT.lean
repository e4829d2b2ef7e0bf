/- Readers: Text, Dot, Vector. -/
import Derived.Test.YtfojjklohbiffaaDoorWireN
namespace Go.Proofs.YtfojjklohbiffaaDoor
open Go.RowKit Tran Tran.Wire
set_option linter.unusedVariables false
theorem RdP.left_le {w : World} {p : Option Addr} {st : Option (List UInt8)} (h : RdP w p st) : leftN st ≤ 140737488355328 := by
  rcases h with ⟨_, rfl⟩ | ⟨g, _, s, pos, ok, hb, hp, hs, rfl⟩
  · simp [leftN]
  · cases ok
    · simp [leftN]
    · simp [leftN]; omega
theorem rnumS_none (m : Nat) : rnumS none m = (0, none) := by simp [rnumS, numS]
def rtextS (st : Option (List UInt8)) (most : Int) : List UInt8 × Option (List UInt8) := takeS (rnumS st most.toNat).2 (rnumS st most.toNat).1
theorem rnumS_zero {st : Option (List UInt8)} {m : Nat} (h : (rnumS st m).2 = none) : (rnumS st m).1 = 0 := by
  unfold rnumS at h ⊢
  split at h
  · rename_i hc
    simp only at h
    rw [if_pos hc]; simp [h]
  · rename_i hc
    rw [if_neg hc]
end Go.Proofs.YtfojjklohbiffaaDoor
