/- What the document's reader of a number answers: plain. -/
import Derived.Test.YtfojjklohbiffaaDoorWireQ
namespace Go.Proofs.YtfojjklohbiffaaDoor
open Tran Tran.Wire
set_option linter.unusedSimpArgs false
set_option maxRecDepth 100000
theorem dig_val : ∀ (n : Nat) (d : List UInt8), d.length = n → 0 < (d.headD 0).toNat → dig (val d) = d := by
  intro n
  induction n with
  | zero =>
    intro d hd h
    obtain rfl : d = [] := List.eq_nil_of_length_eq_zero hd
    simp at h
  | succ n ih =>
    intro d hd h
    rcases List.eq_nil_or_concat d with rfl | ⟨l, b, rfl⟩
    · simp at hd
    · rw [List.concat_eq_append] at hd h ⊢
      have hb := b.toNat_lt
      rw [val_snoc]
      by_cases hl : l = []
      · subst hl
        simp only [List.nil_append, List.headD_cons] at h
        have e : val ([] : List UInt8) = 0 := rfl
        rw [e, Nat.zero_mul, Nat.zero_add, dig_pos (by omega), show b.toNat / 256 = 0 by omega, dig_zero]
        simp
      · have h1 : 0 < (l.headD 0).toNat := by
          obtain ⟨c, t, rfl⟩ := List.exists_cons_of_ne_nil hl
          simpa using h
        have hp : 0 < val l := by
          refine Nat.pos_of_ne_zero fun e => ?_
          have := ih l (by simpa using hd) h1
          rw [e, dig_zero] at this
          exact hl this.symm
        rw [dig_pos (by omega), show (val l * 256 + b.toNat) / 256 = val l by omega, ih l (by simpa using hd) h1]
        congr 2
        apply UInt8.toNat_inj.1
        rw [UInt8.toNat_ofNat']; omega
theorem numS_mid {b : UInt8} (r : List UInt8) (hb : ¬ b.toNat < 128) (h2 : ¬ (b.toNat = 128 ∨ 136 < b.toNat)) :
    numS (some (b :: r)) = (val (takeS (some r) (b.toNat - 128)).1, decide (0 < ((takeS (some r) (b.toNat - 128)).1.headD 0).toNat) && decide (128 ≤ val (takeS (some r) (b.toNat - 128)).1), (takeS (some r) (b.toNat - 128)).2) := by
  unfold numS; exact (if_neg hb).trans (if_neg h2)
theorem rnum_lo {b : UInt8} (r : List UInt8) (most : Nat) (hb : b.toNat < 128) : rnumS (some (b :: r)) most = if b.toNat ≤ most then (b.toNat, some r) else (0, none) := by
  unfold rnumS
  rw [show numS (some (b :: r)) = (b.toNat, true, some r) by unfold numS; exact if_pos hb]
  simp
theorem rnum_short {b : UInt8} (r : List UInt8) (most : Nat) (hb : ¬ b.toNat < 128) (h : 8 < b.toNat - 128 ∨ r.length < b.toNat - 128) : rnumS (some (b :: r)) most = (0, none) := by
  unfold rnumS
  by_cases h2 : b.toNat = 128 ∨ 136 < b.toNat
  · rw [show numS (some (b :: r)) = (0, false, some r) by unfold numS; exact (if_neg hb).trans (if_pos h2)]
    simp
  · have ht : takeS (some r) (b.toNat - 128) = ([], none) := if_neg (by omega)
    have e := numS_mid r hb h2
    rw [ht] at e
    rw [e]; simp
set_option maxRecDepth 100000 in
theorem numF_of {b : UInt8} {d : List UInt8} (hb : ¬ b.toNat < 128) (hk : b.toNat - 128 = d.length) : (numF (val d) = b :: d) ↔ (d.length ≤ 8 ∧ d ≠ [] ∧ 0 < (d.headD 0).toNat ∧ 128 ≤ val d) ∨ (8 < d.length ∧ numF (val d) = b :: d) := by
  have hbl := b.toNat_lt
  constructor
  · intro h
    by_cases h8 : d.length ≤ 8
    · refine .inl ⟨h8, ?_⟩
      have h128 : 128 ≤ val d := by
        refine Nat.le_of_not_lt fun hlt => ?_
        have : numF (val d) = [UInt8.ofNat (val d)] := if_pos hlt
        rw [this] at h
        injection h with h1 h2
        subst h2
        have : val ([] : List UInt8) = 0 := rfl
        rw [this] at h1
        rw [← h1] at hb
        exact hb (by decide)
      have e : numF (val d) = UInt8.ofNat (128 + (dig (val d)).length) :: dig (val d) := if_neg (by omega)
      rw [e] at h
      injection h with h1 h2
      have hne : d ≠ [] := by
        rintro rfl
        have : val ([] : List UInt8) = 0 := rfl
        omega
      exact ⟨hne, h2 ▸ dig_head (by omega), h128⟩
    · exact .inr ⟨by omega, h⟩
  · rintro (⟨h8, hne, h0, h128⟩ | ⟨_, h⟩)
    · have e : numF (val d) = UInt8.ofNat (128 + (dig (val d)).length) :: dig (val d) := if_neg (by omega)
      rw [e, dig_val _ d rfl h0]
      congr 1
      apply UInt8.toNat_inj.1
      rw [UInt8.toNat_ofNat']; omega
    · exact h
set_option maxRecDepth 100000 in
theorem rnum_hi {b : UInt8} (r : List UInt8) (most : Nat) (hb : ¬ b.toNat < 128) (h8 : b.toNat - 128 ≤ 8) (hr : b.toNat - 128 ≤ r.length) :
    rnumS (some (b :: r)) most = if numF (val (r.take (b.toNat - 128))) = b :: r.take (b.toNat - 128) ∧ val (r.take (b.toNat - 128)) ≤ most then (val (r.take (b.toNat - 128)), some (r.drop (b.toNat - 128))) else (0, none) := by
  have hl : b.toNat - 128 = (r.take (b.toNat - 128)).length := by rw [List.length_take]; omega
  have hiff := numF_of hb hl
  have ht : takeS (some r) (b.toNat - 128) = (r.take (b.toNat - 128), some (r.drop (b.toNat - 128))) := if_pos hr
  unfold rnumS
  by_cases h2 : b.toNat = 128 ∨ 136 < b.toNat
  · rw [show numS (some (b :: r)) = (0, false, some r) by unfold numS; exact (if_neg hb).trans (if_pos h2)]
    have h0 : b.toNat - 128 = 0 := by omega
    rw [if_neg (by simp), if_neg]
    rintro ⟨h, _⟩
    rcases hiff.1 h with ⟨_, h3, _⟩ | ⟨h3, _⟩
    · rw [h0] at h3; exact h3 (by simp)
    · rw [h0] at h3; simp at h3
  · have e := numS_mid r hb h2
    rw [ht] at e
    rw [e]
    generalize hd : r.take (b.toNat - 128) = d at *
    have hne : d ≠ [] := by intro h; rw [h] at hl; simp at hl; omega
    by_cases hg : 0 < (d.headD 0).toNat ∧ 128 ≤ val d
    · have h1 : numF (val d) = b :: d := hiff.2 (.inl ⟨by omega, hne, hg.1, hg.2⟩)
      by_cases hm : val d ≤ most
      · refine (if_pos ⟨by simp only [Bool.and_eq_true, decide_eq_true_eq]; exact hg, hm⟩).trans ?_
        exact Eq.trans rfl (if_pos ⟨h1, hm⟩).symm
      · rw [if_neg (fun h => hm h.2), if_neg (fun h => hm h.2)]
    · rw [if_neg (by simp only [Bool.and_eq_true, decide_eq_true_eq]; exact fun h => hg h.1), if_neg]
      rintro ⟨h, _⟩
      rcases hiff.1 h with ⟨_, _, h3, h4⟩ | ⟨h3, _⟩
      · exact hg ⟨h3, h4⟩
      · omega
end Go.Proofs.YtfojjklohbiffaaDoor
