/- Plain facts on bursts in sealed bytes: no program in sight. -/
import Derived.Test.YtfojjklohbiffaaMp26
namespace Tran.Crc

/-- the bytes as one number, the first byte lowest -/
def le : List UInt8 → Nat
  | [] => 0
  | b :: l => b.toNat + 256 * le l
theorem le_lt (l : List UInt8) : le l < 2 ^ (8 * l.length) := by
  induction l with
  | nil => simp [le]
  | cons b l ih =>
    have := byte_lt b
    rw [List.length_cons, show 8 * (l.length + 1) = 8 * l.length + 8 by omega, Nat.pow_add]
    simp only [le]; omega
theorem le_inj {a b : List UInt8} (hl : a.length = b.length) (h : le a = le b) : a = b := by
  induction a generalizing b with
  | nil => cases b with
    | nil => rfl
    | cons => simp at hl
  | cons x a ih => cases b with
    | nil => simp at hl
    | cons y b =>
      simp only [le] at h
      have hx := byte_lt x
      have hy := byte_lt y
      have e1 : x.toNat = y.toNat := by omega
      have e2 : le a = le b := by omega
      rw [UInt8.toNat_inj.1 e1, ih (by simpa using hl) e2]
theorem add_xor {n a b : Nat} (ha : a < 2 ^ n) : a + 2 ^ n * b = a ^^^ (b * 2 ^ n) := by
  have h := split_xor n (a + 2 ^ n * b)
  rw [Nat.add_mul_div_left _ _ (Nat.two_pow_pos n), Nat.add_mul_mod_self_left, Nat.div_eq_of_lt ha, Nat.mod_eq_of_lt ha, Nat.zero_add] at h
  rw [← h, Nat.xor_comm]
theorem run_le (l : List UInt8) : ∀ w, run w l = it (8 * l.length) (w ^^^ le l) := by
  induction l with
  | nil => intro w; simp [run, le, it]
  | cons b l ih =>
    intro w
    rw [run_cons, ih, upd_eq _ _ (byte_lt b), List.length_cons, show 8 * (l.length + 1) = 8 + 8 * l.length by omega, it_add]
    congr 1
    simp only [le]
    have e : b.toNat + 256 * le l = b.toNat ^^^ (le l * 2 ^ 8) := add_xor (n := 8) (byte_lt b)
    have e2 : it 8 (le l * 2 ^ 8) = le l := by rw [it_shift 8 _ (by rw [Nat.mul_mod_left]), Nat.mul_div_cancel _ (by decide)]
    rw [e, ← Nat.xor_assoc, it_xor 8 (w ^^^ b.toNat), e2]
theorem fs_none {w : Nat} (hw : w < 2 ^ 32) (h : fs w = 0) : w = 0 := by
  unfold fs at h
  split at h
  · rename_i ho
    have e : w / 2 = poly := by
      have h2 : (w / 2 ^^^ poly) ^^^ poly = 0 ^^^ poly := by rw [h]
      rwa [Nat.xor_assoc, Nat.xor_self, Nat.xor_zero, Nat.zero_xor] at h2
    unfold poly at e; omega
  · rw [Nat.xor_zero] at h; omega
theorem it_none {w : Nat} (n : Nat) (hw : w < 2 ^ 32) (h : it n w = 0) : w = 0 := by
  induction n generalizing w with
  | zero => exact h
  | succ n ih => exact fs_none hw (ih (fs_lt hw) h)
theorem it_inj {v w : Nat} (n : Nat) (hv : v < 2 ^ 32) (hw : w < 2 ^ 32) (h : it n v = it n w) : v = w := by
  have h1 : it n (v ^^^ w) = 0 := by rw [it_xor, h, Nat.xor_self]
  have h2 := it_none n (xor_lt 32 hv hw) h1
  have h3 : (v ^^^ w) ^^^ w = 0 ^^^ w := by rw [h2]
  rwa [Nat.xor_assoc, Nat.xor_self, Nat.xor_zero, Nat.zero_xor] at h3
theorem tail_length (w : Nat) : (tail w).length = 4 := rfl
theorem tail_le {w : Nat} (h : w < 2 ^ 32) : le (tail w) = w := by
  simp only [tail, le, UInt8.toNat_ofNat']; omega
theorem tail_snoc (w : Nat) {j : Nat} (h : j < 4) : (tail w).take (j + 1) = (tail w).take j ++ [UInt8.ofNat (w / 256 ^ j)] := by
  have h4 : j = 0 ∨ j = 1 ∨ j = 2 ∨ j = 3 := by omega
  rcases h4 with rfl | rfl | rfl | rfl <;> simp [tail]
theorem sealed_length (l : List UInt8) : (sealed l).length = l.length + 4 := by simp [sealed, tail]
theorem sealed_take (l : List UInt8) : (sealed l).take l.length = l := by simp [sealed]
theorem sealed_inj {a b : List UInt8} (h : sealed a = sealed b) : a = b := by
  have hl : a.length = b.length := by have := congrArg List.length h; rw [sealed_length, sealed_length] at this; omega
  rw [← sealed_take a, ← sealed_take b, h, hl]
theorem opened_sealed (l : List UInt8) : opened (sealed l) = true := by
  unfold opened
  rw [sealed_length, show l.length + 4 - 4 = l.length by omega, sealed_take]
  simp
theorem opens_sealed (l : List UInt8) : opens (sealed l) = l := by
  unfold opens
  rw [if_pos (opened_sealed l), sealed_length, show l.length + 4 - 4 = l.length by omega, sealed_take]
theorem opened_short {l : List UInt8} (h : l.length < 4) : opened l = false := by
  unfold opened
  rw [decide_eq_false (by omega), Bool.false_and]
theorem opened_no {l : List UInt8} (h : opened l = false) (h4 : ¬ l.length < 4) : (sealed (l.take (l.length - 4)) == l) = false := by
  unfold opened at h
  rw [decide_eq_true (by omega : 4 ≤ l.length), Bool.true_and] at h
  rw [beq_eq_false_iff_ne]
  exact of_decide_eq_false h
theorem opened_yes {l : List UInt8} (h : opened l = true) : (sealed (l.take (l.length - 4)) == l) = true := by
  unfold opened at h
  rw [Bool.and_eq_true] at h
  rw [beq_iff_eq]
  exact of_decide_eq_true h.2
theorem opened_iff (y : List UInt8) : opened y = true ↔ ∃ l, y = sealed l := by
  constructor
  · intro h; simp [opened] at h; exact ⟨_, h.2.symm⟩
  · rintro ⟨l, rfl⟩; exact opened_sealed l
/-- what the register comes to behind sealed bytes -/
def residue : Nat := it 32 4294967295
theorem opened_run (y : List UInt8) : opened y = (decide (4 ≤ y.length) && decide (run 4294967295 y = residue)) := by
  unfold opened
  by_cases h4 : 4 ≤ y.length
  · simp only [h4, decide_true, Bool.true_and]
    rw [Bool.eq_iff_iff, decide_eq_true_iff, decide_eq_true_iff]
    generalize hl : y.take (y.length - 4) = l
    generalize ht : y.drop (y.length - 4) = t
    have hy : y = l ++ t := by rw [← hl, ← ht, List.take_append_drop]
    have ht4 : t.length = 4 := by rw [← ht, List.length_drop]; omega
    have hr := run_lt (w := 4294967295) (by omega) l
    have hrun : run 4294967295 y = it 32 (run 4294967295 l ^^^ le t) := by rw [hy, run_append, run_le t, ht4]
    have hc : crc l = run 4294967295 l ^^^ 4294967295 := by unfold crc more; rw [show turn 0 = 4294967295 by rfl]; exact turn_xor hr
    have hlt : le t < 2 ^ 32 := by have := le_lt t; rwa [ht4] at this
    rw [hrun, hy]
    unfold sealed residue
    rw [List.append_cancel_left_eq]
    generalize hR : run 4294967295 l = R at *
    constructor
    · intro h
      rw [← h, tail_le (crc_lt l), hc, ← Nat.xor_assoc, Nat.xor_self, Nat.zero_xor]
    · intro h
      have h2 := it_inj 32 (xor_lt 32 hr hlt) (by omega) h
      have h3 : le t = crc l := by
        rw [hc, ← h2, ← Nat.xor_assoc, Nat.xor_self, Nat.zero_xor]
      apply le_inj
      · rw [tail_length, ht4]
      · rw [tail_le (crc_lt l), h3]
  · simp [h4]

/-- a bit is turned -/
def flip (l : List UInt8) (p : Nat) : List UInt8 := l.set (p / 8) (l.getD (p / 8) 0 ^^^ UInt8.ofNat (2 ^ (p % 8)))
theorem flip_length (l : List UInt8) (p : Nat) : (flip l p).length = l.length := by simp [flip]
theorem flip_le {l : List UInt8} {p : Nat} (h : p < 8 * l.length) : le (flip l p) = le l ^^^ 2 ^ p := by
  induction l generalizing p with
  | nil => simp at h
  | cons b l ih =>
    by_cases h8 : p < 8
    · have e0 : p / 8 = 0 := by omega
      have e1 : p % 8 = p := by omega
      have hb : (2 : Nat) ^ p < 256 := Nat.pow_lt_pow_right (by omega) (by omega : p < 8)
      simp only [flip, e0, e1, List.set_cons_zero, List.getD_cons_zero, le, UInt8.toNat_xor, UInt8.toNat_ofNat']
      rw [show (2 : Nat) ^ p % 2 ^ 8 = 2 ^ p by exact Nat.mod_eq_of_lt hb]
      have a1 := add_xor (n := 8) (a := b.toNat) (b := le l) (byte_lt b)
      have a2 := add_xor (n := 8) (a := b.toNat ^^^ 2 ^ p) (b := le l) (xor_lt 8 (byte_lt b) hb)
      rw [show (256 : Nat) = 2 ^ 8 by rfl, a1, a2, Nat.xor_assoc, Nat.xor_assoc, Nat.xor_comm (2 ^ p)]
    · have e0 : p / 8 = (p - 8) / 8 + 1 := by omega
      have e1 : p % 8 = (p - 8) % 8 := by omega
      have e2 : (2 : Nat) ^ p = 2 ^ (p - 8) * 2 ^ 8 := by rw [← Nat.pow_add]; congr 1; omega
      have hi := ih (p := p - 8) (by simp at h; omega)
      unfold flip at hi
      simp only [flip, e0, e1, List.set_cons_succ, List.getD_cons_succ, le]
      rw [hi]
      have a1 := add_xor (n := 8) (a := b.toNat) (b := le l) (byte_lt b)
      have a2 := add_xor (n := 8) (a := b.toNat) (b := le l ^^^ 2 ^ (p - 8)) (byte_lt b)
      rw [show (256 : Nat) = 2 ^ 8 by rfl, a1, a2, Nat.xor_assoc, e2]
      congr 1
      apply Nat.eq_of_testBit_eq
      intro i
      simp only [Nat.testBit_xor, Nat.testBit_mul_two_pow]
      cases decide (8 ≤ i) <;> simp
/-- the first n of a burst's bits are turned, from the place k on; is one? -/
def burst (l : List UInt8) (k bits : Nat) : Nat → List UInt8 × Bool
  | 0 => (l, false)
  | i + 1 => if bits / 2 ^ i % 2 = 1 ∧ k + i < 8 * l.length then (flip (burst l k bits i).1 (k + i), true) else burst l k bits i
theorem burst_length (l : List UInt8) (k bits i : Nat) : (burst l k bits i).1.length = l.length := by
  induction i with
  | zero => rfl
  | succ i ih => simp only [burst]; split <;> simp [flip_length, ih]
theorem burst_le (l : List UInt8) (k bits i : Nat) :
    ∃ p, p < 2 ^ i ∧ le (burst l k bits i).1 = le l ^^^ (p * 2 ^ k) ∧ ((burst l k bits i).2 = decide (p ≠ 0)) ∧ (p ≠ 0 → k < 8 * l.length) := by
  induction i with
  | zero => exact ⟨0, by simp, by simp [burst], by simp [burst], by simp⟩
  | succ i ih =>
    obtain ⟨p, hp, h1, h2, h3⟩ := ih
    simp only [burst]
    split
    · rename_i hc
      have hpi : p + 2 ^ i = p ^^^ 2 ^ i := by have := add_xor (n := i) (a := p) (b := 1) hp; simpa using this
      refine ⟨p + 2 ^ i, by rw [Nat.pow_succ]; omega, ?_, ?_, fun _ => by omega⟩
      · rw [flip_le (by rw [burst_length]; exact hc.2), h1, hpi, Nat.xor_assoc]
        congr 1
        rw [Nat.add_comm k i, Nat.pow_add]
        apply Nat.eq_of_testBit_eq
        intro j
        simp only [Nat.testBit_xor, Nat.testBit_mul_two_pow]
        cases decide (k ≤ j) <;> simp
      · simp
    · exact ⟨p, by rw [Nat.pow_succ]; omega, h1, h2, h3⟩
/-- sealed bytes of which a burst is turned are not opened -/
theorem opened_burst (s : List UInt8) (k bits : Nat) : opened (burst (sealed s) k bits 32).1 = !(burst (sealed s) k bits 32).2 := by
  obtain ⟨p, hp, h1, h2, h3⟩ := burst_le (sealed s) k bits 32
  have hl := burst_length (sealed s) k bits 32
  have h0 := opened_sealed s
  rw [opened_run] at h0 ⊢
  rw [hl, h2]
  have h4 : 4 ≤ (sealed s).length := by rw [sealed_length]; omega
  simp only [h4, decide_true, Bool.true_and, decide_eq_true_iff] at h0 ⊢
  rw [run_le] at h0 ⊢
  rw [h1, hl, ← Nat.xor_assoc, it_xor, h0]
  by_cases hz : p = 0
  · subst hz; simp [it_zero]
  · have hk := h3 hz
    have hn : it (8 * (sealed s).length) (p * 2 ^ k) ≠ 0 := by
      rw [show 8 * (sealed s).length = k + (8 * (sealed s).length - k) by omega, it_add, it_shift k _ (by rw [Nat.mul_mod_left]), Nat.mul_div_cancel _ (Nat.two_pow_pos k)]
      exact fun h => hz (it_none _ hp h)
    have : residue ^^^ it (8 * (sealed s).length) (p * 2 ^ k) ≠ residue := by
      intro h
      apply hn
      have h5 : residue ^^^ (residue ^^^ it (8 * (sealed s).length) (p * 2 ^ k)) = residue ^^^ residue := by rw [h]
      rwa [← Nat.xor_assoc, Nat.xor_self, Nat.zero_xor] at h5
    simp [hz, this]
theorem burst_turned_of (l : List UInt8) (k bits : Nat) (hk : k + 32 ≤ 8 * l.length) : ∀ n i, i < n → n ≤ 32 → bits / 2 ^ i % 2 = 1 → (burst l k bits n).2 = true := by
  intro n
  induction n with
  | zero => intro i h; omega
  | succ n ih =>
    intro i hi hn hb
    simp only [burst]
    by_cases h : i = n
    · subst h; rw [if_pos ⟨hb, by omega⟩]
    · split
      · rfl
      · exact ih i (by omega) (by omega) hb
/-- a burst that lies within the bytes turns something -/
theorem burst_turned (l : List UInt8) (k bits : Nat) (hk : k + 32 ≤ 8 * l.length) (hb : bits ≠ 0) (hb2 : bits < 2 ^ 32) : (burst l k bits 32).2 = true := by
  obtain ⟨i, hi⟩ := Nat.exists_testBit_of_ne_zero hb
  have h32 : i < 32 := by
    rcases Nat.lt_or_ge i 32 with h | h
    · exact h
    · have : bits.testBit i = false := Nat.testBit_lt_two_pow (Nat.lt_of_lt_of_le hb2 (Nat.pow_le_pow_right (by omega) h))
      rw [this] at hi; cases hi
  refine burst_turned_of l k bits hk 32 i h32 (Nat.le_refl _) ?_
  rw [Nat.testBit_eq_decide_div_mod_eq] at hi
  simpa using hi
end Tran.Crc
