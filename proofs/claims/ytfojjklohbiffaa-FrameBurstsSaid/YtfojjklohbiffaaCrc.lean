/- Plain facts on the checksum of layer 1: no program in sight. -/
namespace Tran.Crc

def poly : Nat := 2197175160
/-- one round -/
def fs (w : Nat) : Nat := w / 2 ^^^ (if w % 2 = 1 then poly else 0)
/-- n rounds -/
def it : Nat → Nat → Nat
  | 0, w => w
  | n + 1, w => it n (fs w)
def tab (i : Nat) : Nat := it 8 i
def upd (w b : Nat) : Nat := tab ((w % 256) ^^^ b) ^^^ w / 256
def run (w : Nat) (l : List UInt8) : Nat := l.foldl (fun w b => upd w b.toNat) w
def turn (w : Nat) : Nat := 4294967295 - w
def more (s : Nat) (l : List UInt8) : Nat := turn (run (turn s) l)
def crc (l : List UInt8) : Nat := more 0 l
def tail (w : Nat) : List UInt8 := [UInt8.ofNat w, UInt8.ofNat (w / 256), UInt8.ofNat (w / 65536), UInt8.ofNat (w / 16777216)]
def sealed (l : List UInt8) : List UInt8 := l ++ tail (crc l)
def opened (l : List UInt8) : Bool := decide (4 ≤ l.length) && decide (sealed (l.take (l.length - 4)) = l)
def opens (l : List UInt8) : List UInt8 := if opened l then l.take (l.length - 4) else []

theorem xor_lt {a b : Nat} (n : Nat) (ha : a < 2 ^ n) (hb : b < 2 ^ n) : a ^^^ b < 2 ^ n := Nat.xor_lt_two_pow ha hb
theorem poly_lt : poly < 2 ^ 32 := by unfold poly; omega
theorem fs_lt {w : Nat} (h : w < 2 ^ 32) : fs w < 2 ^ 32 := by
  unfold fs
  refine xor_lt 32 (by omega) ?_
  split
  · exact poly_lt
  · omega
theorem fs_zero : fs 0 = 0 := by decide
theorem xor_mod2 (a b : Nat) : (a ^^^ b) % 2 = (a % 2 + b % 2) % 2 := by
  have h := Nat.xor_mod_two_pow (a := a) (b := b) (n := 1)
  simp only [Nat.pow_one] at h
  rw [h]
  rcases Nat.mod_two_eq_zero_or_one a with ha | ha <;> rcases Nat.mod_two_eq_zero_or_one b with hb | hb <;> rw [ha, hb] <;> rfl
theorem xor_div2 (a b : Nat) : (a ^^^ b) / 2 = a / 2 ^^^ b / 2 := by
  have h := Nat.xor_div_two_pow (a := a) (b := b) (n := 1)
  simpa using h
theorem xor_div256 (a b : Nat) : (a ^^^ b) / 256 = a / 256 ^^^ b / 256 := by
  have h := Nat.xor_div_two_pow (a := a) (b := b) (n := 8)
  simpa using h
theorem xor_mod256 (a b : Nat) : (a ^^^ b) % 256 = a % 256 ^^^ b % 256 := by
  have h := Nat.xor_mod_two_pow (a := a) (b := b) (n := 8)
  simpa using h
theorem xor_swap (a b c d : Nat) : (a ^^^ b) ^^^ (c ^^^ d) = (a ^^^ c) ^^^ (b ^^^ d) := by
  rw [Nat.xor_assoc, Nat.xor_assoc, ← Nat.xor_assoc b c d, Nat.xor_comm b c, Nat.xor_assoc c b d]
theorem fs_xor (a b : Nat) : fs (a ^^^ b) = fs a ^^^ fs b := by
  unfold fs
  rw [xor_div2, xor_mod2, xor_swap]
  congr 1
  rcases Nat.mod_two_eq_zero_or_one a with ha | ha <;> rcases Nat.mod_two_eq_zero_or_one b with hb | hb <;> rw [ha, hb] <;> simp
theorem it_xor (n a b : Nat) : it n (a ^^^ b) = it n a ^^^ it n b := by
  induction n generalizing a b with
  | zero => rfl
  | succ n ih => simp only [it]; rw [fs_xor, ih]
theorem it_zero (n : Nat) : it n 0 = 0 := by
  induction n with
  | zero => rfl
  | succ n ih => simp only [it]; rw [fs_zero, ih]
theorem it_lt {w : Nat} (n : Nat) (h : w < 2 ^ 32) : it n w < 2 ^ 32 := by
  induction n generalizing w with
  | zero => exact h
  | succ n ih => exact ih (fs_lt h)
theorem it_add (m n w : Nat) : it (m + n) w = it n (it m w) := by
  induction m generalizing w with
  | zero => simp [it]
  | succ m ih => rw [show m + 1 + n = (m + n) + 1 by omega]; simp only [it]; exact ih _
/-- shifting: the low n bits are none -/
theorem it_shift (n w : Nat) (h : w % 2 ^ n = 0) : it n w = w / 2 ^ n := by
  induction n generalizing w with
  | zero => simp [it]
  | succ n ih =>
    have h2 : w % 2 = 0 := by
      have : w % 2 ^ (n + 1) % 2 = w % 2 := Nat.mod_mod_of_dvd _ ⟨2 ^ n, by rw [Nat.pow_succ, Nat.mul_comm]⟩
      omega
    have hf : fs w = w / 2 := by unfold fs; simp [h2]
    have hd : w / 2 % 2 ^ n = 0 := by
      rw [← Nat.mod_mul_right_div_self, Nat.mul_comm, ← Nat.pow_succ, h]
    simp only [it]; rw [hf, ih _ hd, Nat.div_div_eq_div_mul, Nat.pow_succ, Nat.mul_comm]
/-- the low part and the high part -/
theorem split_xor (n w : Nat) : (w / 2 ^ n * 2 ^ n) ^^^ (w % 2 ^ n) = w := by
  apply Nat.eq_of_testBit_eq
  intro i
  rw [Nat.testBit_xor, Nat.testBit_mod_two_pow, Nat.testBit_mul_two_pow, Nat.testBit_div_two_pow]
  by_cases h : i < n
  · simp [h, Nat.not_le.2 h]
  · have : n ≤ i := by omega
    simp [h, this]
theorem it_split (n w : Nat) : it n w = it n (w % 2 ^ n) ^^^ w / 2 ^ n := by
  conv => lhs; rw [← split_xor n w]
  rw [it_xor, it_shift n _ (by rw [Nat.mul_mod_left]), Nat.mul_div_cancel _ (Nat.two_pow_pos n), Nat.xor_comm]
/-- a byte's turn is eight rounds behind the byte's own exclusive or -/
theorem upd_eq (w b : Nat) (hb : b < 256) : upd w b = it 8 (w ^^^ b) := by
  have e : (w ^^^ b) / 256 = w / 256 := by rw [xor_div256, Nat.div_eq_of_lt hb, Nat.xor_zero]
  have e2 : (w ^^^ b) % 256 = w % 256 ^^^ b := by rw [xor_mod256, Nat.mod_eq_of_lt hb]
  have h := it_split 8 (w ^^^ b)
  rw [show (2 : Nat) ^ 8 = 256 by rfl, e, e2] at h
  rw [h]; rfl
theorem upd_lt {w b : Nat} (hw : w < 2 ^ 32) (hb : b < 256) : upd w b < 2 ^ 32 := by
  rw [upd_eq w b hb]; exact it_lt 8 (xor_lt 32 hw (by omega))
theorem byte_lt (b : UInt8) : b.toNat < 256 := b.toNat_lt
theorem run_lt {w : Nat} (hw : w < 2 ^ 32) (l : List UInt8) : run w l < 2 ^ 32 := by
  induction l generalizing w with
  | nil => exact hw
  | cons b l ih => exact ih (upd_lt hw (byte_lt b))
theorem run_append (w : Nat) (a b : List UInt8) : run w (a ++ b) = run (run w a) b := by simp [run]
theorem run_cons (w : Nat) (b : UInt8) (l : List UInt8) : run w (b :: l) = run (upd w b.toNat) l := rfl
theorem turn_lt (w : Nat) : turn w < 2 ^ 32 := by unfold turn; omega
theorem turn_turn {w : Nat} (h : w < 2 ^ 32) : turn (turn w) = w := by unfold turn; omega
theorem more_lt (s : Nat) (l : List UInt8) : more s l < 2 ^ 32 := turn_lt _
theorem more_append (s : Nat) (a b : List UInt8) : more (more s a) b = more s (a ++ b) := by
  unfold more; rw [turn_turn (run_lt (turn_lt _) _), run_append]
theorem crc_lt (l : List UInt8) : crc l < 2 ^ 32 := turn_lt _
theorem crc_append (a b : List UInt8) : more (crc a) b = crc (a ++ b) := more_append 0 a b
theorem turn_xor {w : Nat} (h : w < 2 ^ 32) : turn w = w ^^^ 4294967295 := by
  have e : (2 : Nat) ^ 32 - (w + 1) = turn w := by unfold turn; omega
  rw [← e]
  apply Nat.eq_of_testBit_eq
  intro i
  rw [Nat.testBit_two_pow_sub_succ h, Nat.testBit_xor, show (4294967295 : Nat) = 2 ^ 32 - 1 by rfl, Nat.testBit_two_pow_sub_one]
  by_cases hi : i < 32
  · simp [hi]
  · have : w.testBit i = false := Nat.testBit_lt_two_pow (Nat.lt_of_lt_of_le h (Nat.pow_le_pow_right (by omega) (by omega)))
    simp [hi, this]

/-- byte by byte -/
def zx (a b : List UInt8) : List UInt8 := List.zipWith (fun x y => x ^^^ y) a b
theorem upd_xor (v w : Nat) (a b : UInt8) : upd (v ^^^ w) (a ^^^ b).toNat = upd v a.toNat ^^^ upd w b.toNat := by
  rw [upd_eq _ _ (byte_lt _), upd_eq _ _ (byte_lt _), upd_eq _ _ (byte_lt _), UInt8.toNat_xor, ← it_xor, xor_swap]
theorem run_xor (v w : Nat) (a b : List UInt8) (h : a.length = b.length) : run (v ^^^ w) (zx a b) = run v a ^^^ run w b := by
  induction a generalizing v w b with
  | nil => cases b with
    | nil => rfl
    | cons => simp at h
  | cons x a ih => cases b with
    | nil => simp at h
    | cons y b =>
      simp only [zx, List.zipWith_cons_cons, run_cons]
      rw [upd_xor]
      exact ih _ _ _ (by simpa using h)
theorem zx_length (a b : List UInt8) : (zx a b).length = min a.length b.length := by simp [zx]
/-- of three texts that are equally long: the sum of their exclusive or is that of their sums -/
theorem crc_mix (a b c : List UInt8) (hb : a.length = b.length) (hc : a.length = c.length) : crc (zx (zx a b) c) = crc a ^^^ crc b ^^^ crc c := by
  unfold crc more
  have t0 : turn 0 = 4294967295 := rfl
  rw [t0]
  have e : run 4294967295 (zx (zx a b) c) = run 4294967295 a ^^^ run 4294967295 b ^^^ run 4294967295 c := by
    rw [← run_xor _ _ a b hb, ← run_xor _ _ (zx a b) c (by rw [zx_length]; omega)]
    rfl
  rw [e]
  have l1 := run_lt (w := 4294967295) (by omega) a
  have l2 := run_lt (w := 4294967295) (by omega) b
  have l3 := run_lt (w := 4294967295) (by omega) c
  rw [turn_xor l1, turn_xor l2, turn_xor l3, turn_xor (xor_lt 32 (xor_lt 32 l1 l2) l3)]
  generalize run 4294967295 a = x
  generalize run 4294967295 b = y
  generalize run 4294967295 c = z
  rw [xor_swap x 4294967295 y 4294967295, Nat.xor_self, Nat.xor_zero, Nat.xor_assoc (x ^^^ y)]
end Tran.Crc
