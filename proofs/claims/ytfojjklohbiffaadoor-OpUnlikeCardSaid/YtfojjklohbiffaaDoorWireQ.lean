/- What is written reads back; order. -/
import Derived.Test.YtfojjklohbiffaaDoorWireE
namespace Go.Proofs.YtfojjklohbiffaaDoor
open Tran Tran.Wire
theorem dig_head {n : Nat} : n ≠ 0 → 0 < ((dig n).headD 0).toNat := by
  induction n using Nat.strongRecOn with
  | _ n ih =>
    intro h
    rw [dig_pos h]
    by_cases h0 : n / 256 = 0
    · rw [h0, dig_zero]
      simp only [List.nil_append, List.headD_cons]
      rw [UInt8.toNat_ofNat']; omega
    · have hl : dig (n / 256) ≠ [] := by rw [dig_pos h0]; simp
      obtain ⟨c, t, hc⟩ := List.exists_cons_of_ne_nil hl
      have := ih (n / 256) (by omega) h0
      rw [hc] at this ⊢
      simpa using this
theorem numS_numF (n : Nat) (hn : n < 2 ^ 64) (r : List UInt8) : numS (some (numF n ++ r)) = (n, true, some r) := by
  unfold numF
  split
  · rename_i h
    simp only [List.cons_append, List.nil_append, numS]
    have e : (UInt8.ofNat n).toNat = n := by rw [UInt8.toNat_ofNat']; omega
    rw [e, if_pos h]
  · rename_i h
    have hl := dig_le n 8 (by omega)
    have hl1 : 1 ≤ (dig n).length := by rw [dig_pos (by omega)]; simp
    have e : (UInt8.ofNat (128 + (dig n).length)).toNat = 128 + (dig n).length := by rw [UInt8.toNat_ofNat']; omega
    have ht : takeS (some (dig n ++ r)) (dig n).length = (dig n, some r) := by
      unfold takeS
      simp
    simp only [List.cons_append, numS]
    rw [e, if_neg (by omega), if_neg (by omega), show 128 + (dig n).length - 128 = (dig n).length by omega, ht, val_dig]
    simp only [Prod.mk.injEq, and_true, true_and, Bool.and_eq_true, decide_eq_true_eq]
    exact ⟨dig_head (by omega), by omega⟩
theorem numF_prefix {a b : Nat} (ha : a < 2 ^ 64) (hb : b < 2 ^ 64) {r : List UInt8} (h : numF b = numF a ++ r) : a = b := by
  have h1 := numS_numF b hb []
  rw [List.append_nil, h, numS_numF a ha r] at h1
  exact (Prod.mk.inj h1).1
theorem numF_take {a b : Nat} (ha : a < 2 ^ 64) (hb : b < 2 ^ 64) (hne : a ≠ b) : (numF b).take (numF a).length ≠ numF a := by
  intro h
  have e : numF b = numF a ++ (numF b).drop (numF a).length := by
    conv => lhs; rw [← List.take_append_drop (numF a).length (numF b)]
    rw [h]
  exact hne (numF_prefix ha hb e)
theorem dig_mono : ∀ {a b : Nat}, a ≤ b → (dig a).length ≤ (dig b).length := by
  intro a
  induction a using Nat.strongRecOn with
  | _ a ih =>
    intro b hab
    by_cases h0 : a = 0
    · rw [h0, dig_zero]; simp
    · rw [dig_pos h0, dig_pos (by omega : b ≠ 0), List.length_append, List.length_append]
      have := ih (a / 256) (by omega) (Nat.div_le_div_right (c := 256) hab)
      simp only [List.length_singleton]; omega
theorem numF_mono {a b : Nat} (h : a ≤ b) : (numF a).length ≤ (numF b).length := by
  have := dig_mono h
  unfold numF
  split <;> split
  · simp
  · simp
  · omega
  · simp; omega
end Go.Proofs.YtfojjklohbiffaaDoor
