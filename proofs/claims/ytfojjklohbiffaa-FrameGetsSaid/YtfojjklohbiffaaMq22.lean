/- Frames: frame.Get: the closure next (an operation in a text). -/
import Derived.Test.YtfojjklohbiffaaMq8
import Derived.Test.YtfojjklohbiffaaMq15
import Derived.Test.YtfojjklohbiffaaMq21
namespace Go.Proofs.Ytfojjklohbiffaa
open Go.RowKit Tran Tran.Wire
set_option linter.unusedVariables false
set_option linter.unusedSimpArgs false
/-- the operation that is got, or zero -/
def gotO (t : List UInt8) : NOp := if (rdO (some t)).2 = some [] then (rdO (some t)).1 else zeroO
theorem gotO_ok (t : List UInt8) : (gotO t).ok := by
  unfold gotO; split
  · exact rdO_ok _
  · exact zeroO_ok
theorem gotO_lines (t : List UInt8) : (gotO t).lines.length ≤ 16 := by
  unfold gotO; split
  · exact rdO_lines _
  · simp [zeroO]
theorem endN_zero (st : Option (List UInt8)) (b : Bool) (hb : b = true ↔ st = some []) : (((endN st : Nat) : Int) == 0) = b := by
  rw [Bool.eq_iff_iff, hb, beq_iff_eq]
  match st with
  | none => simp [endN]
  | some [] => simp [endN]
  | some (a :: l) => simp [endN]
set_option maxRecDepth 100000 in
set_option maxHeartbeats 8000000 in
theorem next_any {w : World} {g bx sx : Nat} {st : Option (List UInt8)} {s : List UInt8} (h : RdP w (some ⟨g, 0, none⟩) st) (kb : Blk w bx 86 #[.pointer (some ⟨g, 0, none⟩)]) (ks : Blk w sx 9 #[.string ⟨s.toArray⟩]) (hs : s.length ≤ 1000000)
    (b : Bool) (hb : b = true ↔ (rdO (some (rtextS st s.length).1)).2 = some []) :
    Calls Try.prog 100 #[.pointer (some ⟨bx, 0, none⟩), .pointer (some ⟨sx, 0, none⟩)] w fun e w' => ∃ lv, e = .returned (.tuple #[.agg (opA (gotO (rtextS st s.length).1) lv), .bool b]) ∧ Tran.Own w' w.heap.size 177 4 lv (gotO (rtextS st s.length).1).lines.length ((gotO (rtextS st s.length).1).lines.flatMap claimF) ∧ Rdd w w' (some ⟨g, 0, none⟩) (rtextS st s.length).2 := by
  have hgl : g < w.heap.size := h.lt rfl
  have hb1 := (Below.refl w.heap.size w).alloc (Nat.le_refl _) (.cells (opA zeroO (.slice none 0 0)) 122)
  have r1 := (Rdd.refl h).below hb1
  have kn := Blk.new w 122 (opA zeroO (.slice none 0 0))
  have c0 : _ = some (Value.pointer (some ⟨g, 0, none⟩)) := (kb.below hb1 kb.lt).cell 0
  have c1 : _ = some (Value.string ⟨s.toArray⟩) := (ks.below hb1 ks.lt).cell 0
  have T := rtext_r r1.rd (s.length : Int) (by omega)
  have htl : (rtextS st s.length).1.length ≤ 1000000 := by
    unfold rtextS
    have h1 := takeS_len (rnumS st (s.length : Int).toNat).2 (rnumS st (s.length : Int).toNat).1
    have h2 := rnumS_le st (s.length : Int).toNat
    omega
  generalize hq : rtextS st (s.length : Int) = q at *
  obtain ⟨t, st2⟩ := q
  simp only at T htl hb ⊢
  have HQ := Lib.hid hq
  have T := Lib.hid T
  have G := Lib.hid (fun W => getO_any W t htl)
  have HE := Lib.hid (endN_zero (rdO (some t)).2 b hb)
  have HG : Hid (gotO t = if (rdO (some t)).2 = some [] then (rdO (some t)).1 else zeroO) := Lib.hid rfl
  have HOK := Lib.hid (gotO_ok t)
  have R1 := Lib.hid r1
  have KN := Lib.hid kn
  clear h kb ks hb hq r1 kn hb1
  rw [zO_eq] at c0 c1 T R1 KN
  go_enter Try.func100, Try.ntmps100
  go_wp2_with fail
  refine T.out.mono ?_
  rintro e w2 ⟨rfl, hr2⟩
  have R2 := Lib.hid (R1.out.trans hr2)
  have K2 := Lib.hid (KN.out.chg hr2.ch (fun e => by injection e with e; injection e with e; omega))
  clear hr2 T c0 c1 R1
  go_wp2_with fail
  refine (G.out _).mono ?_
  rintro e w3 ⟨lv, rfl, hL, hb3⟩
  rw [← HG.out] at hL ⊢
  have hLO := own_weaken hL (show w.heap.size ≤ w2.heap.size from R2.out.ch.size)
  have hL := lns_own hL (gotO_lines t)
  have R3 := Lib.hid (R2.out.below hb3)
  have K3 := Lib.hid (K2.out.below hb3 K2.out.lt)
  have hsz : w.heap.size < w3.heap.size := K3.out.lt
  have e0 := HE.out
  have HLN := Lib.hid hL
  have HSX := Lib.hid (opA_size (gotO t) lv HOK.out.dep8)
  have HOX := Lib.hid (opA_one (gotO t) lv hL)
  generalize (endN (rdO (some t)).2 : Nat) = en at *
  have kn := Blk.new w3 122 (opA zeroO (.slice none 0 0))
  have KN3 := Lib.hid kn
  have KX := Lib.hid (kn.row (opA (gotO t) lv))
  have b4 := (Below.refl w3.heap.size w3).alloc (Nat.le_refl _) (.cells (opA zeroO (.slice none 0 0)) 122)
  have b5 := below_setRow b4 (Nat.le_refl _) (opA (gotO t) lv)
  have K5 := Lib.hid (K3.out.below b5 K3.out.lt)
  have R5 := Lib.hid (R3.out.below b5)
  have L5 := Lib.hid (hLO.below b5 (Nat.le_refl _))
  have hne := Lib.hid (show blkOf lv ≠ some w.heap.size from hLO.ne_ K3.out (by decide))
  rw [zO_eq] at KN3 KX K5 R5 L5
  clear kn b4 b5 hL hLO hb3 KN K2 K3 R2 R3 G HG HE
  obtain ⟨X, hX⟩ : ∃ X, opA (gotO t) lv = X := ⟨_, rfl⟩
  rw [hX] at HSX HOX KX K5 R5 L5 ⊢
  have HX := Lib.hid hX
  clear hX
  go_wp2_with (first
    | (refine wpList_store_row rfl 122 _ _ rfl w3.heap.size X rfl rfl 122 _ KN3.out (by rw [HSX.out]; exact size122) (by rw [HSX.out]; rfl) HOX.out ?_)
    | (refine wpList_load_row rfl 122 _ rfl w3.heap.size rfl 122 X (0, 0) _ KX.out Try.underlying122 rfl (by rw [HSX.out]; exact size122) ?_)
    | (refine wpList_store_row rfl 122 _ _ rfl w.heap.size X rfl rfl 122 _ K5.out (by rw [HSX.out]; exact size122) (by rw [HSX.out]; rfl) HOX.out ?_))
  refine bodyPost_ret (results_row_tmp rfl _ _ w.heap.size 122 X (0, 0) _ _ rfl rfl (K5.out.row _) Try.underlying122 rfl (by rw [HSX.out]; exact size122)) rfl ?_
  refine ⟨lv, by rw [HX.out]; rfl, L5.out.rowFar hne.out _, R5.out.row (fun k e => by injection e with e; injection e with e; omega) (Nat.le_refl _) _⟩
end Go.Proofs.Ytfojjklohbiffaa
/- Plain facts on the checksum of layer 1: no program in sight. -/
namespace Tran.Crc

def poly : Nat := 2197175160
/-- one round -/
def fs (w : Nat) : Nat := w / 2 ^^^ (if w % 2 = 1 then poly else 0)
/-- n rounds -/
def it : Nat → Nat → Nat
  | 0, w => w
  | n + 1, w => it n (fs w)
def tab (i : Nat) : Nat := it 8 i
def upd (w b : Nat) : Nat := tab ((w % 256) ^^^ b) ^^^ w / 256
def run (w : Nat) (l : List UInt8) : Nat := l.foldl (fun w b => upd w b.toNat) w
def turn (w : Nat) : Nat := 4294967295 - w
def more (s : Nat) (l : List UInt8) : Nat := turn (run (turn s) l)
def crc (l : List UInt8) : Nat := more 0 l
def tail (w : Nat) : List UInt8 := [UInt8.ofNat w, UInt8.ofNat (w / 256), UInt8.ofNat (w / 65536), UInt8.ofNat (w / 16777216)]
def sealed (l : List UInt8) : List UInt8 := l ++ tail (crc l)
def opened (l : List UInt8) : Bool := decide (4 ≤ l.length) && decide (sealed (l.take (l.length - 4)) = l)
def opens (l : List UInt8) : List UInt8 := if opened l then l.take (l.length - 4) else []

theorem xor_lt {a b : Nat} (n : Nat) (ha : a < 2 ^ n) (hb : b < 2 ^ n) : a ^^^ b < 2 ^ n := Nat.xor_lt_two_pow ha hb
theorem poly_lt : poly < 2 ^ 32 := by unfold poly; omega
theorem fs_lt {w : Nat} (h : w < 2 ^ 32) : fs w < 2 ^ 32 := by
  unfold fs
  refine xor_lt 32 (by omega) ?_
  split
  · exact poly_lt
  · omega
theorem fs_zero : fs 0 = 0 := by decide
theorem xor_mod2 (a b : Nat) : (a ^^^ b) % 2 = (a % 2 + b % 2) % 2 := by
  have h := Nat.xor_mod_two_pow (a := a) (b := b) (n := 1)
  simp only [Nat.pow_one] at h
  rw [h]
  rcases Nat.mod_two_eq_zero_or_one a with ha | ha <;> rcases Nat.mod_two_eq_zero_or_one b with hb | hb <;> rw [ha, hb] <;> rfl
theorem xor_div2 (a b : Nat) : (a ^^^ b) / 2 = a / 2 ^^^ b / 2 := by
  have h := Nat.xor_div_two_pow (a := a) (b := b) (n := 1)
  simpa using h
theorem xor_div256 (a b : Nat) : (a ^^^ b) / 256 = a / 256 ^^^ b / 256 := by
  have h := Nat.xor_div_two_pow (a := a) (b := b) (n := 8)
  simpa using h
theorem xor_mod256 (a b : Nat) : (a ^^^ b) % 256 = a % 256 ^^^ b % 256 := by
  have h := Nat.xor_mod_two_pow (a := a) (b := b) (n := 8)
  simpa using h
theorem xor_swap (a b c d : Nat) : (a ^^^ b) ^^^ (c ^^^ d) = (a ^^^ c) ^^^ (b ^^^ d) := by
  rw [Nat.xor_assoc, Nat.xor_assoc, ← Nat.xor_assoc b c d, Nat.xor_comm b c, Nat.xor_assoc c b d]
theorem fs_xor (a b : Nat) : fs (a ^^^ b) = fs a ^^^ fs b := by
  unfold fs
  rw [xor_div2, xor_mod2, xor_swap]
  congr 1
  rcases Nat.mod_two_eq_zero_or_one a with ha | ha <;> rcases Nat.mod_two_eq_zero_or_one b with hb | hb <;> rw [ha, hb] <;> simp
theorem it_xor (n a b : Nat) : it n (a ^^^ b) = it n a ^^^ it n b := by
  induction n generalizing a b with
  | zero => rfl
  | succ n ih => simp only [it]; rw [fs_xor, ih]
theorem it_zero (n : Nat) : it n 0 = 0 := by
  induction n with
  | zero => rfl
  | succ n ih => simp only [it]; rw [fs_zero, ih]
theorem it_lt {w : Nat} (n : Nat) (h : w < 2 ^ 32) : it n w < 2 ^ 32 := by
  induction n generalizing w with
  | zero => exact h
  | succ n ih => exact ih (fs_lt h)
theorem it_add (m n w : Nat) : it (m + n) w = it n (it m w) := by
  induction m generalizing w with
  | zero => simp [it]
  | succ m ih => rw [show m + 1 + n = (m + n) + 1 by omega]; simp only [it]; exact ih _
/-- shifting: the low n bits are none -/
theorem it_shift (n w : Nat) (h : w % 2 ^ n = 0) : it n w = w / 2 ^ n := by
  induction n generalizing w with
  | zero => simp [it]
  | succ n ih =>
    have h2 : w % 2 = 0 := by
      have : w % 2 ^ (n + 1) % 2 = w % 2 := Nat.mod_mod_of_dvd _ ⟨2 ^ n, by rw [Nat.pow_succ, Nat.mul_comm]⟩
      omega
    have hf : fs w = w / 2 := by unfold fs; simp [h2]
    have hd : w / 2 % 2 ^ n = 0 := by
      rw [← Nat.mod_mul_right_div_self, Nat.mul_comm, ← Nat.pow_succ, h]
    simp only [it]; rw [hf, ih _ hd, Nat.div_div_eq_div_mul, Nat.pow_succ, Nat.mul_comm]
/-- the low part and the high part -/
theorem split_xor (n w : Nat) : (w / 2 ^ n * 2 ^ n) ^^^ (w % 2 ^ n) = w := by
  apply Nat.eq_of_testBit_eq
  intro i
  rw [Nat.testBit_xor, Nat.testBit_mod_two_pow, Nat.testBit_mul_two_pow, Nat.testBit_div_two_pow]
  by_cases h : i < n
  · simp [h, Nat.not_le.2 h]
  · have : n ≤ i := by omega
    simp [h, this]
theorem it_split (n w : Nat) : it n w = it n (w % 2 ^ n) ^^^ w / 2 ^ n := by
  conv => lhs; rw [← split_xor n w]
  rw [it_xor, it_shift n _ (by rw [Nat.mul_mod_left]), Nat.mul_div_cancel _ (Nat.two_pow_pos n), Nat.xor_comm]
/-- a byte's turn is eight rounds behind the byte's own exclusive or -/
theorem upd_eq (w b : Nat) (hb : b < 256) : upd w b = it 8 (w ^^^ b) := by
  have e : (w ^^^ b) / 256 = w / 256 := by rw [xor_div256, Nat.div_eq_of_lt hb, Nat.xor_zero]
  have e2 : (w ^^^ b) % 256 = w % 256 ^^^ b := by rw [xor_mod256, Nat.mod_eq_of_lt hb]
  have h := it_split 8 (w ^^^ b)
  rw [show (2 : Nat) ^ 8 = 256 by rfl, e, e2] at h
  rw [h]; rfl
theorem upd_lt {w b : Nat} (hw : w < 2 ^ 32) (hb : b < 256) : upd w b < 2 ^ 32 := by
  rw [upd_eq w b hb]; exact it_lt 8 (xor_lt 32 hw (by omega))
theorem byte_lt (b : UInt8) : b.toNat < 256 := b.toNat_lt
theorem run_lt {w : Nat} (hw : w < 2 ^ 32) (l : List UInt8) : run w l < 2 ^ 32 := by
  induction l generalizing w with
  | nil => exact hw
  | cons b l ih => exact ih (upd_lt hw (byte_lt b))
theorem run_append (w : Nat) (a b : List UInt8) : run w (a ++ b) = run (run w a) b := by simp [run]
theorem run_cons (w : Nat) (b : UInt8) (l : List UInt8) : run w (b :: l) = run (upd w b.toNat) l := rfl
theorem turn_lt (w : Nat) : turn w < 2 ^ 32 := by unfold turn; omega
theorem turn_turn {w : Nat} (h : w < 2 ^ 32) : turn (turn w) = w := by unfold turn; omega
theorem more_lt (s : Nat) (l : List UInt8) : more s l < 2 ^ 32 := turn_lt _
theorem more_append (s : Nat) (a b : List UInt8) : more (more s a) b = more s (a ++ b) := by
  unfold more; rw [turn_turn (run_lt (turn_lt _) _), run_append]
theorem crc_lt (l : List UInt8) : crc l < 2 ^ 32 := turn_lt _
theorem crc_append (a b : List UInt8) : more (crc a) b = crc (a ++ b) := more_append 0 a b
theorem turn_xor {w : Nat} (h : w < 2 ^ 32) : turn w = w ^^^ 4294967295 := by
  have e : (2 : Nat) ^ 32 - (w + 1) = turn w := by unfold turn; omega
  rw [← e]
  apply Nat.eq_of_testBit_eq
  intro i
  rw [Nat.testBit_two_pow_sub_succ h, Nat.testBit_xor, show (4294967295 : Nat) = 2 ^ 32 - 1 by rfl, Nat.testBit_two_pow_sub_one]
  by_cases hi : i < 32
  · simp [hi]
  · have : w.testBit i = false := Nat.testBit_lt_two_pow (Nat.lt_of_lt_of_le h (Nat.pow_le_pow_right (by omega) (by omega)))
    simp [hi, this]

/-- byte by byte -/
def zx (a b : List UInt8) : List UInt8 := List.zipWith (fun x y => x ^^^ y) a b
theorem upd_xor (v w : Nat) (a b : UInt8) : upd (v ^^^ w) (a ^^^ b).toNat = upd v a.toNat ^^^ upd w b.toNat := by
  rw [upd_eq _ _ (byte_lt _), upd_eq _ _ (byte_lt _), upd_eq _ _ (byte_lt _), UInt8.toNat_xor, ← it_xor, xor_swap]
theorem run_xor (v w : Nat) (a b : List UInt8) (h : a.length = b.length) : run (v ^^^ w) (zx a b) = run v a ^^^ run w b := by
  induction a generalizing v w b with
  | nil => cases b with
    | nil => rfl
    | cons => simp at h
  | cons x a ih => cases b with
    | nil => simp at h
    | cons y b =>
      simp only [zx, List.zipWith_cons_cons, run_cons]
      rw [upd_xor]
      exact ih _ _ _ (by simpa using h)
theorem zx_length (a b : List UInt8) : (zx a b).length = min a.length b.length := by simp [zx]
/-- of three texts that are equally long: the sum of their exclusive or is that of their sums -/
theorem crc_mix (a b c : List UInt8) (hb : a.length = b.length) (hc : a.length = c.length) : crc (zx (zx a b) c) = crc a ^^^ crc b ^^^ crc c := by
  unfold crc more
  have t0 : turn 0 = 4294967295 := rfl
  rw [t0]
  have e : run 4294967295 (zx (zx a b) c) = run 4294967295 a ^^^ run 4294967295 b ^^^ run 4294967295 c := by
    rw [← run_xor _ _ a b hb, ← run_xor _ _ (zx a b) c (by rw [zx_length]; omega)]
    rfl
  rw [e]
  have l1 := run_lt (w := 4294967295) (by omega) a
  have l2 := run_lt (w := 4294967295) (by omega) b
  have l3 := run_lt (w := 4294967295) (by omega) c
  rw [turn_xor l1, turn_xor l2, turn_xor l3, turn_xor (xor_lt 32 (xor_lt 32 l1 l2) l3)]
  generalize run 4294967295 a = x
  generalize run 4294967295 b = y
  generalize run 4294967295 c = z
  rw [xor_swap x 4294967295 y 4294967295, Nat.xor_self, Nat.xor_zero, Nat.xor_assoc (x ^^^ y)]
end Tran.Crc
/- Plain facts on bursts in sealed bytes: no program in sight. -/
namespace Tran.Crc

/-- the bytes as one number, the first byte lowest -/
def le : List UInt8 → Nat
  | [] => 0
  | b :: l => b.toNat + 256 * le l
theorem le_lt (l : List UInt8) : le l < 2 ^ (8 * l.length) := by
  induction l with
  | nil => simp [le]
  | cons b l ih =>
    have := byte_lt b
    rw [List.length_cons, show 8 * (l.length + 1) = 8 * l.length + 8 by omega, Nat.pow_add]
    simp only [le]; omega
theorem le_inj {a b : List UInt8} (hl : a.length = b.length) (h : le a = le b) : a = b := by
  induction a generalizing b with
  | nil => cases b with
    | nil => rfl
    | cons => simp at hl
  | cons x a ih => cases b with
    | nil => simp at hl
    | cons y b =>
      simp only [le] at h
      have hx := byte_lt x
      have hy := byte_lt y
      have e1 : x.toNat = y.toNat := by omega
      have e2 : le a = le b := by omega
      rw [UInt8.toNat_inj.1 e1, ih (by simpa using hl) e2]
theorem add_xor {n a b : Nat} (ha : a < 2 ^ n) : a + 2 ^ n * b = a ^^^ (b * 2 ^ n) := by
  have h := split_xor n (a + 2 ^ n * b)
  rw [Nat.add_mul_div_left _ _ (Nat.two_pow_pos n), Nat.add_mul_mod_self_left, Nat.div_eq_of_lt ha, Nat.mod_eq_of_lt ha, Nat.zero_add] at h
  rw [← h, Nat.xor_comm]
theorem run_le (l : List UInt8) : ∀ w, run w l = it (8 * l.length) (w ^^^ le l) := by
  induction l with
  | nil => intro w; simp [run, le, it]
  | cons b l ih =>
    intro w
    rw [run_cons, ih, upd_eq _ _ (byte_lt b), List.length_cons, show 8 * (l.length + 1) = 8 + 8 * l.length by omega, it_add]
    congr 1
    simp only [le]
    have e : b.toNat + 256 * le l = b.toNat ^^^ (le l * 2 ^ 8) := add_xor (n := 8) (byte_lt b)
    have e2 : it 8 (le l * 2 ^ 8) = le l := by rw [it_shift 8 _ (by rw [Nat.mul_mod_left]), Nat.mul_div_cancel _ (by decide)]
    rw [e, ← Nat.xor_assoc, it_xor 8 (w ^^^ b.toNat), e2]
theorem fs_none {w : Nat} (hw : w < 2 ^ 32) (h : fs w = 0) : w = 0 := by
  unfold fs at h
  split at h
  · rename_i ho
    have e : w / 2 = poly := by
      have h2 : (w / 2 ^^^ poly) ^^^ poly = 0 ^^^ poly := by rw [h]
      rwa [Nat.xor_assoc, Nat.xor_self, Nat.xor_zero, Nat.zero_xor] at h2
    unfold poly at e; omega
  · rw [Nat.xor_zero] at h; omega
theorem it_none {w : Nat} (n : Nat) (hw : w < 2 ^ 32) (h : it n w = 0) : w = 0 := by
  induction n generalizing w with
  | zero => exact h
  | succ n ih => exact fs_none hw (ih (fs_lt hw) h)
theorem it_inj {v w : Nat} (n : Nat) (hv : v < 2 ^ 32) (hw : w < 2 ^ 32) (h : it n v = it n w) : v = w := by
  have h1 : it n (v ^^^ w) = 0 := by rw [it_xor, h, Nat.xor_self]
  have h2 := it_none n (xor_lt 32 hv hw) h1
  have h3 : (v ^^^ w) ^^^ w = 0 ^^^ w := by rw [h2]
  rwa [Nat.xor_assoc, Nat.xor_self, Nat.xor_zero, Nat.zero_xor] at h3
theorem tail_length (w : Nat) : (tail w).length = 4 := rfl
theorem tail_le {w : Nat} (h : w < 2 ^ 32) : le (tail w) = w := by
  simp only [tail, le, UInt8.toNat_ofNat']; omega
theorem tail_snoc (w : Nat) {j : Nat} (h : j < 4) : (tail w).take (j + 1) = (tail w).take j ++ [UInt8.ofNat (w / 256 ^ j)] := by
  have h4 : j = 0 ∨ j = 1 ∨ j = 2 ∨ j = 3 := by omega
  rcases h4 with rfl | rfl | rfl | rfl <;> simp [tail]
theorem sealed_length (l : List UInt8) : (sealed l).length = l.length + 4 := by simp [sealed, tail]
theorem sealed_take (l : List UInt8) : (sealed l).take l.length = l := by simp [sealed]
theorem sealed_inj {a b : List UInt8} (h : sealed a = sealed b) : a = b := by
  have hl : a.length = b.length := by have := congrArg List.length h; rw [sealed_length, sealed_length] at this; omega
  rw [← sealed_take a, ← sealed_take b, h, hl]
theorem opened_sealed (l : List UInt8) : opened (sealed l) = true := by
  unfold opened
  rw [sealed_length, show l.length + 4 - 4 = l.length by omega, sealed_take]
  simp
theorem opens_sealed (l : List UInt8) : opens (sealed l) = l := by
  unfold opens
  rw [if_pos (opened_sealed l), sealed_length, show l.length + 4 - 4 = l.length by omega, sealed_take]
theorem opened_short {l : List UInt8} (h : l.length < 4) : opened l = false := by
  unfold opened
  rw [decide_eq_false (by omega), Bool.false_and]
theorem opened_no {l : List UInt8} (h : opened l = false) (h4 : ¬ l.length < 4) : (sealed (l.take (l.length - 4)) == l) = false := by
  unfold opened at h
  rw [decide_eq_true (by omega : 4 ≤ l.length), Bool.true_and] at h
  rw [beq_eq_false_iff_ne]
  exact of_decide_eq_false h
theorem opened_yes {l : List UInt8} (h : opened l = true) : (sealed (l.take (l.length - 4)) == l) = true := by
  unfold opened at h
  rw [Bool.and_eq_true] at h
  rw [beq_iff_eq]
  exact of_decide_eq_true h.2
theorem opened_iff (y : List UInt8) : opened y = true ↔ ∃ l, y = sealed l := by
  constructor
  · intro h; simp [opened] at h; exact ⟨_, h.2.symm⟩
  · rintro ⟨l, rfl⟩; exact opened_sealed l
/-- what the register comes to behind sealed bytes -/
def residue : Nat := it 32 4294967295
theorem opened_run (y : List UInt8) : opened y = (decide (4 ≤ y.length) && decide (run 4294967295 y = residue)) := by
  unfold opened
  by_cases h4 : 4 ≤ y.length
  · simp only [h4, decide_true, Bool.true_and]
    rw [Bool.eq_iff_iff, decide_eq_true_iff, decide_eq_true_iff]
    generalize hl : y.take (y.length - 4) = l
    generalize ht : y.drop (y.length - 4) = t
    have hy : y = l ++ t := by rw [← hl, ← ht, List.take_append_drop]
    have ht4 : t.length = 4 := by rw [← ht, List.length_drop]; omega
    have hr := run_lt (w := 4294967295) (by omega) l
    have hrun : run 4294967295 y = it 32 (run 4294967295 l ^^^ le t) := by rw [hy, run_append, run_le t, ht4]
    have hc : crc l = run 4294967295 l ^^^ 4294967295 := by unfold crc more; rw [show turn 0 = 4294967295 by rfl]; exact turn_xor hr
    have hlt : le t < 2 ^ 32 := by have := le_lt t; rwa [ht4] at this
    rw [hrun, hy]
    unfold sealed residue
    rw [List.append_cancel_left_eq]
    generalize hR : run 4294967295 l = R at *
    constructor
    · intro h
      rw [← h, tail_le (crc_lt l), hc, ← Nat.xor_assoc, Nat.xor_self, Nat.zero_xor]
    · intro h
      have h2 := it_inj 32 (xor_lt 32 hr hlt) (by omega) h
      have h3 : le t = crc l := by
        rw [hc, ← h2, ← Nat.xor_assoc, Nat.xor_self, Nat.zero_xor]
      apply le_inj
      · rw [tail_length, ht4]
      · rw [tail_le (crc_lt l), h3]
  · simp [h4]

/-- a bit is turned -/
def flip (l : List UInt8) (p : Nat) : List UInt8 := l.set (p / 8) (l.getD (p / 8) 0 ^^^ UInt8.ofNat (2 ^ (p % 8)))
theorem flip_length (l : List UInt8) (p : Nat) : (flip l p).length = l.length := by simp [flip]
theorem flip_le {l : List UInt8} {p : Nat} (h : p < 8 * l.length) : le (flip l p) = le l ^^^ 2 ^ p := by
  induction l generalizing p with
  | nil => simp at h
  | cons b l ih =>
    by_cases h8 : p < 8
    · have e0 : p / 8 = 0 := by omega
      have e1 : p % 8 = p := by omega
      have hb : (2 : Nat) ^ p < 256 := Nat.pow_lt_pow_right (by omega) (by omega : p < 8)
      simp only [flip, e0, e1, List.set_cons_zero, List.getD_cons_zero, le, UInt8.toNat_xor, UInt8.toNat_ofNat']
      rw [show (2 : Nat) ^ p % 2 ^ 8 = 2 ^ p by exact Nat.mod_eq_of_lt hb]
      have a1 := add_xor (n := 8) (a := b.toNat) (b := le l) (byte_lt b)
      have a2 := add_xor (n := 8) (a := b.toNat ^^^ 2 ^ p) (b := le l) (xor_lt 8 (byte_lt b) hb)
      rw [show (256 : Nat) = 2 ^ 8 by rfl, a1, a2, Nat.xor_assoc, Nat.xor_assoc, Nat.xor_comm (2 ^ p)]
    · have e0 : p / 8 = (p - 8) / 8 + 1 := by omega
      have e1 : p % 8 = (p - 8) % 8 := by omega
      have e2 : (2 : Nat) ^ p = 2 ^ (p - 8) * 2 ^ 8 := by rw [← Nat.pow_add]; congr 1; omega
      have hi := ih (p := p - 8) (by simp at h; omega)
      unfold flip at hi
      simp only [flip, e0, e1, List.set_cons_succ, List.getD_cons_succ, le]
      rw [hi]
      have a1 := add_xor (n := 8) (a := b.toNat) (b := le l) (byte_lt b)
      have a2 := add_xor (n := 8) (a := b.toNat) (b := le l ^^^ 2 ^ (p - 8)) (byte_lt b)
      rw [show (256 : Nat) = 2 ^ 8 by rfl, a1, a2, Nat.xor_assoc, e2]
      congr 1
      apply Nat.eq_of_testBit_eq
      intro i
      simp only [Nat.testBit_xor, Nat.testBit_mul_two_pow]
      cases decide (8 ≤ i) <;> simp
/-- the first n of a burst's bits are turned, from the place k on; is one? -/
def burst (l : List UInt8) (k bits : Nat) : Nat → List UInt8 × Bool
  | 0 => (l, false)
  | i + 1 => if bits / 2 ^ i % 2 = 1 ∧ k + i < 8 * l.length then (flip (burst l k bits i).1 (k + i), true) else burst l k bits i
theorem burst_length (l : List UInt8) (k bits i : Nat) : (burst l k bits i).1.length = l.length := by
  induction i with
  | zero => rfl
  | succ i ih => simp only [burst]; split <;> simp [flip_length, ih]
theorem burst_le (l : List UInt8) (k bits i : Nat) :
    ∃ p, p < 2 ^ i ∧ le (burst l k bits i).1 = le l ^^^ (p * 2 ^ k) ∧ ((burst l k bits i).2 = decide (p ≠ 0)) ∧ (p ≠ 0 → k < 8 * l.length) := by
  induction i with
  | zero => exact ⟨0, by simp, by simp [burst], by simp [burst], by simp⟩
  | succ i ih =>
    obtain ⟨p, hp, h1, h2, h3⟩ := ih
    simp only [burst]
    split
    · rename_i hc
      have hpi : p + 2 ^ i = p ^^^ 2 ^ i := by have := add_xor (n := i) (a := p) (b := 1) hp; simpa using this
      refine ⟨p + 2 ^ i, by rw [Nat.pow_succ]; omega, ?_, ?_, fun _ => by omega⟩
      · rw [flip_le (by rw [burst_length]; exact hc.2), h1, hpi, Nat.xor_assoc]
        congr 1
        rw [Nat.add_comm k i, Nat.pow_add]
        apply Nat.eq_of_testBit_eq
        intro j
        simp only [Nat.testBit_xor, Nat.testBit_mul_two_pow]
        cases decide (k ≤ j) <;> simp
      · simp
    · exact ⟨p, by rw [Nat.pow_succ]; omega, h1, h2, h3⟩
/-- sealed bytes of which a burst is turned are not opened -/
theorem opened_burst (s : List UInt8) (k bits : Nat) : opened (burst (sealed s) k bits 32).1 = !(burst (sealed s) k bits 32).2 := by
  obtain ⟨p, hp, h1, h2, h3⟩ := burst_le (sealed s) k bits 32
  have hl := burst_length (sealed s) k bits 32
  have h0 := opened_sealed s
  rw [opened_run] at h0 ⊢
  rw [hl, h2]
  have h4 : 4 ≤ (sealed s).length := by rw [sealed_length]; omega
  simp only [h4, decide_true, Bool.true_and, decide_eq_true_iff] at h0 ⊢
  rw [run_le] at h0 ⊢
  rw [h1, hl, ← Nat.xor_assoc, it_xor, h0]
  by_cases hz : p = 0
  · subst hz; simp [it_zero]
  · have hk := h3 hz
    have hn : it (8 * (sealed s).length) (p * 2 ^ k) ≠ 0 := by
      rw [show 8 * (sealed s).length = k + (8 * (sealed s).length - k) by omega, it_add, it_shift k _ (by rw [Nat.mul_mod_left]), Nat.mul_div_cancel _ (Nat.two_pow_pos k)]
      exact fun h => hz (it_none _ hp h)
    have : residue ^^^ it (8 * (sealed s).length) (p * 2 ^ k) ≠ residue := by
      intro h
      apply hn
      have h5 : residue ^^^ (residue ^^^ it (8 * (sealed s).length) (p * 2 ^ k)) = residue ^^^ residue := by rw [h]
      rwa [← Nat.xor_assoc, Nat.xor_self, Nat.zero_xor] at h5
    simp [hz, this]
theorem burst_turned_of (l : List UInt8) (k bits : Nat) (hk : k + 32 ≤ 8 * l.length) : ∀ n i, i < n → n ≤ 32 → bits / 2 ^ i % 2 = 1 → (burst l k bits n).2 = true := by
  intro n
  induction n with
  | zero => intro i h; omega
  | succ n ih =>
    intro i hi hn hb
    simp only [burst]
    by_cases h : i = n
    · subst h; rw [if_pos ⟨hb, by omega⟩]
    · split
      · rfl
      · exact ih i (by omega) (by omega) hb
/-- a burst that lies within the bytes turns something -/
theorem burst_turned (l : List UInt8) (k bits : Nat) (hk : k + 32 ≤ 8 * l.length) (hb : bits ≠ 0) (hb2 : bits < 2 ^ 32) : (burst l k bits 32).2 = true := by
  obtain ⟨i, hi⟩ := Nat.exists_testBit_of_ne_zero hb
  have h32 : i < 32 := by
    rcases Nat.lt_or_ge i 32 with h | h
    · exact h
    · have : bits.testBit i = false := Nat.testBit_lt_two_pow (Nat.lt_of_lt_of_le hb2 (Nat.pow_le_pow_right (by omega) h))
      rw [this] at hi; cases hi
  refine burst_turned_of l k bits hk 32 i h32 (Nat.le_refl _) ?_
  rw [Nat.testBit_eq_decide_div_mod_eq] at hi
  simpa using hi
end Tran.Crc
