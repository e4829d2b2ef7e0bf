/- Numbers in bytes: plain Lean, no program in sight. -/
import Derived.Test.YtfojjklohbiffaaDoorWords
namespace Tran.Wire
/-- the digits of n to the base 256, the highest first; none for 0 -/
def dig (n : Nat) : List UInt8 := if _h : n = 0 then [] else dig (n / 256) ++ [UInt8.ofNat n]
termination_by n
decreasing_by omega
theorem dig_zero : dig 0 = [] := by rw [dig]; simp
theorem dig_pos {n : Nat} (h : n ≠ 0) : dig n = dig (n / 256) ++ [UInt8.ofNat n] := by rw [dig]; simp [h]
theorem dig_length {s : Nat} : ∀ {n : Nat}, n / 256 ^ (s + 1) = 0 → 0 < n / 256 ^ s → (dig n).length = s + 1 := by
  induction s with
  | zero =>
    intro n h1 h2
    rw [Nat.pow_zero, Nat.div_one] at h2
    rw [dig_pos (by omega), show n / 256 = 0 by simpa using h1, dig_zero]; rfl
  | succ s ih =>
    intro n h1 h2
    have e1 : n / 256 / 256 ^ (s + 1) = 0 := by rw [Nat.div_div_eq_div_mul, ← Nat.pow_succ']; exact h1
    have e2 : 0 < n / 256 / 256 ^ s := by rw [Nat.div_div_eq_div_mul, ← Nat.pow_succ']; exact h2
    have h0 : n ≠ 0 := by rintro rfl; simp at h2
    rw [dig_pos h0, List.length_append, ih e1 e2]; rfl
theorem dig_get (n : Nat) : ∀ (k : Nat) (h : k < (dig n).length), (dig n)[k] = UInt8.ofNat (n / 256 ^ ((dig n).length - 1 - k)) := by
  induction n using Nat.strongRecOn with
  | _ n ih =>
    intro k h
    by_cases h0 : n = 0
    · subst h0; rw [dig_zero] at h; simp at h
    · have e := dig_pos h0
      have hl : (dig n).length = (dig (n / 256)).length + 1 := by rw [e]; simp
      by_cases hk : k < (dig (n / 256)).length
      · have e1 : (dig n)[k] = (dig (n / 256))[k] := by simp only [e]; rw [List.getElem_append_left hk]
        rw [e1, ih (n / 256) (by omega) k hk, hl, Nat.div_div_eq_div_mul, ← Nat.pow_succ']
        congr 3; omega
      · have hk2 : k = (dig (n / 256)).length := by omega
        have e1 : (dig n)[k] = UInt8.ofNat n := by simp only [e]; rw [List.getElem_append_right (by omega)]; simp [hk2]
        rw [e1, hl, hk2]; simp
theorem dig_le (n : Nat) (s : Nat) (h : n < 256 ^ s) : (dig n).length ≤ s := by
  induction s generalizing n with
  | zero => have : n = 0 := by simpa using h
            subst this; rw [dig_zero]; simp
  | succ s ih =>
    by_cases h0 : n = 0
    · subst h0; rw [dig_zero]; simp
    · rw [dig_pos h0, List.length_append]
      have := ih (n / 256) (by rw [Nat.pow_succ] at h; omega)
      simp; omega
/-- the bytes as one number, the first byte highest -/
def val (l : List UInt8) : Nat := l.foldl (fun a b => a * 256 + b.toNat) 0
theorem val_snoc (l : List UInt8) (b : UInt8) : val (l ++ [b]) = val l * 256 + b.toNat := by simp [val, List.foldl_append]
theorem val_dig (n : Nat) : val (dig n) = n := by
  induction n using Nat.strongRecOn with
  | _ n ih =>
    by_cases h0 : n = 0
    · subst h0; rw [dig_zero]; rfl
    · rw [dig_pos h0, val_snoc, ih (n / 256) (by omega), UInt8.toNat_ofNat']; omega
/-- a number as the wire writes it -/
def numF (n : Nat) : List UInt8 := if n < 128 then [UInt8.ofNat n] else UInt8.ofNat (128 + (dig n).length) :: dig n
theorem numF_len (n : Nat) (h : n < 2 ^ 64) : (numF n).length ≤ 9 ∧ 1 ≤ (numF n).length := by
  unfold numF; split
  · simp
  · have := dig_le n 8 (by omega)
    simp; omega
end Tran.Wire
