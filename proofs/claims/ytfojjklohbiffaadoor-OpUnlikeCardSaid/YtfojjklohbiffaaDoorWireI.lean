/- Known values of layer 2, and what keeps a reader. -/
import Derived.Test.YtfojjklohbiffaaDoorWireH
namespace Go.Proofs.YtfojjklohbiffaaDoor
open Go.RowKit Tran Tran.Wire
set_option linter.unusedVariables false
theorem nf5 : numF 5 = [5] := by simp [numF]
theorem nf127 : numF 127 = [127] := by simp [numF]
theorem nf128 : numF 128 = [129, 128] := by simp [numF, dig]
theorem nf256 : numF 256 = [130, 1, 0] := by simp [numF, dig]
theorem nfmax : numF 18446744073709551615 = [136, 255, 255, 255, 255, 255, 255, 255, 255] := by simp [numF, dig]
theorem tf_ab : textF [97, 98] = [2, 97, 98] := by simp [textF, numF]
theorem df_3 : dotF 3 300 = [3, 130, 1, 44] := by simp [dotF, numF, dig]
theorem rt_ab : rtextS (some [2, 97, 98, 3, 130, 1, 44]) 2 = ([97, 98], some [3, 130, 1, 44]) := by decide
theorem rd_3 : rdotS (some [3, 130, 1, 44]) = ((3, 300), some []) := by decide
theorem nn1 : rnumS (some [129, 5]) 18446744073709551615 = (0, none) := by decide
theorem nn2 : rnumS (some [130, 0, 255]) 18446744073709551615 = (0, none) := by decide
theorem nn3 : rnumS (some [137]) 18446744073709551615 = (0, none) := by decide
theorem nn4 : rnumS (some [128]) 18446744073709551615 = (0, none) := by decide
theorem nn5 : rnumS (some [129]) 18446744073709551615 = (0, none) := by decide
theorem nn6 : rnumS (some [5]) 4 = (0, none) := by decide
theorem RdP.chg {w w' : World} {p : Option Addr} {st : Option (List UInt8)} {S : Nat → Prop} (h : RdP w p st) (hc : Chg S w w') (hn : ∀ k, p = some ⟨k, 0, none⟩ → ¬ S k) : RdP w' p st := by
  rcases h with h | ⟨g, hp, s, pos, ok, hk, h1⟩
  · exact .inl h
  · exact .inr ⟨g, hp, s, pos, ok, hk.chg hc (hn g hp), h1⟩
theorem own_ne_rd {w : World} {B n : Nat} {v : Value} {xs : List Value} {g : Nat} {st : Option (List UInt8)} (ho : Own w B 5 1 v n xs) (h : RdP w (some ⟨g, 0, none⟩) st) : blkOf v ≠ some g := by
  rcases h with ⟨h, _⟩ | ⟨k, hp, s, pos, ok, hk, _⟩
  · cases h
  · injection hp with hp; injection hp with hp; subst hp
    exact ho.ne_ hk (by decide)
end Go.Proofs.YtfojjklohbiffaaDoor
