/- A burst's step, in the walk's own spelling. -/
import Derived.Test.YtfojjklohbiffaaBurst
import Derived.Test.YtfojjklohbiffaaOwn
namespace Go.Proofs.Ytfojjklohbiffaa
open Go.RowKit Tran
theorem bc_flip (m : List UInt8) (p : Nat) (h : p / 8 < m.length) : bc (Crc.flip m p) = (bc m).set (p / 8) (.int .u8 (bits BinOp.xor .u8 (m[p / 8].toNat : Int) ((2 : Int) ^ (p % 8) % 256))) := by
  have h8 : 2 ^ (p % 8) < 2 ^ 8 := Nat.pow_lt_pow_right (by omega) (by omega)
  have e : ((2 : Int) ^ (p % 8) % 256) = ((2 ^ (p % 8) : Nat) : Int) := by
    rw [show ((2 : Int) ^ (p % 8)) = ((2 ^ (p % 8) : Nat) : Int) by simp]
    generalize 2 ^ (p % 8) = x at *
    omega
  rw [e, u8_xor_nat _ _ (Crc.byte_lt _) (by omega)]
  unfold Crc.flip bc
  rw [List.map_set]
  congr 2
  rw [List.getD_eq_getElem?_getD, List.getElem?_eq_getElem h, Option.getD_some, UInt8.toNat_xor, UInt8.toNat_ofNat', Nat.mod_eq_of_lt h8]
theorem shr_yes (b j : Nat) (h : b / 2 ^ j % 2 = 1) : (((b : Int) / 2 ^ j).tmod 2 == 1) = true := by
  have e : (b : Int) / 2 ^ j = ((b / 2 ^ j : Nat) : Int) := by simp
  rw [e, Int.tmod_eq_emod_of_nonneg (Int.natCast_nonneg _), beq_iff_eq]
  generalize b / 2 ^ j = x at *
  omega
theorem shr_no (b j : Nat) (h : ¬ b / 2 ^ j % 2 = 1) : (((b : Int) / 2 ^ j).tmod 2 == 1) = false := by
  have e : (b : Int) / 2 ^ j = ((b / 2 ^ j : Nat) : Int) := by simp
  rw [e, Int.tmod_eq_emod_of_nonneg (Int.natCast_nonneg _), beq_eq_false_iff_ne]
  generalize b / 2 ^ j = x at *
  omega
end Go.Proofs.Ytfojjklohbiffaa
