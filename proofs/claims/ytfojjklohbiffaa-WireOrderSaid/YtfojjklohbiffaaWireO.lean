/- Numbers' bytes in order; what is none has nothing. -/
import Derived.Test.YtfojjklohbiffaaWireQ
import Derived.Test.YtfojjklohbiffaaWireJ
namespace Go.Proofs.Ytfojjklohbiffaa
open Go.RowKit Tran Tran.Wire
set_option linter.unusedVariables false
theorem zero_eq : ∀ W, (binOp .eql 54 (.agg #[.int .u32 0, .int .u32 0, .int .u32 0, .int .u32 0, .int .u32 0, .int .u32 0, .int .u32 0, .int .u32 0]) (.agg #[.int .u32 0, .int .u32 0, .int .u32 0, .int .u32 0, .int .u32 0, .int .u32 0, .int .u32 0, .int .u32 0])).run Try.prog W = .ok (.bool true) W := fun _ => by kernel_rfl
set_option maxRecDepth 100000 in
set_option maxHeartbeats 8000000 in
theorem order_lt (a b : Nat) (ha : a < 2 ^ 64) (hb : b < 2 ^ 64) (hab : a < b) (w : World) :
    Calls Try.prog 16 #[.int .u64 (a : Int), .int .u64 (b : Int)] w fun e w' => e = .returned (.bool true) ∧ Below w.heap.size w w' := by
  have zeq := zero_eq
  have N1 := num_any w a ha
  have N2 := Lib.hid (fun W => num_any W b hb)
  have L1 := Lib.hid (fun h => numF_mono (a := a) (b := b) h)
  have L2 := Lib.hid (fun h => numF_mono (a := b) (b := a) h)
  have P1 := Lib.hid (fun h => numF_take (a := a) (b := b) ha hb h)
  clear ha hb
  generalize numF a = x at *
  generalize numF b = y at *
  have N1 := Lib.hid N1
  have hcut : (⟨y.toArray⟩ : ByteArray).extract 0 x.length = ⟨(y.take x.length).toArray⟩ := str_take y x.length
  have l1 := L1.out (by omega)
  have p1 : (y.take x.length == x) = false := by rw [beq_eq_false_iff_ne]; exact P1.out (by omega)
  have p2 : (x == y) = false := by
    rw [beq_eq_false_iff_ne]; intro e; subst e
    exact P1.out (by omega) (List.take_length)
  have hne : ((a : Int) == (b : Int)) = false := by rw [beq_eq_false_iff_ne]; omega
  have hdl : decide (y.length < x.length) = false := decide_eq_false (by omega)
  go_enter Try.func16, Try.ntmps16
  go_wp2_with fail
  refine N1.out.mono ?_
  rintro e w1 ⟨rfl, b1⟩
  go_wp2_with fail
  refine (N2.out w1).mono ?_
  rintro e w2 ⟨rfl, d2⟩
  have b2 := b1.trans (d2.mono b1.size)
  go_wp2_with fail
  refine (wnum_no (.inl rfl) a).mono ?_
  rintro e w3 ⟨rfl, rfl⟩
  go_wp2_with fail
  refine (wtext_no (w := w2) (p := .pointer none) (.inl rfl) [97] (by simp)).mono ?_
  rintro e w3 ⟨rfl, rfl⟩
  go_wp2_with fail
  refine (wdot_no (w := w2) (p := .pointer none) (.inl rfl) 0 0 (by omega) (by omega)).mono ?_
  rintro e w3 ⟨rfl, d3⟩
  have b3 := b2.trans (d3.mono b2.size)
  go_wp2_with fail
  refine (wvec_no (w := w3) (q := none) (.inl rfl) zer8 rfl (by decide)).mono ?_
  rintro e w4 ⟨rfl, d4⟩
  have b4 := b3.trans (d4.mono b3.size)
  go_wp2_with fail
  have l5 := (Below.refl w4.heap.size w4).alloc (Nat.le_refl _) (.cells #[.slice none 0 0, .bool false] 104)
  have z5 : NoWr (w4.alloc (.cells #[.slice none 0 0, .bool false] 104)) (.pointer (some ⟨w4.heap.size, 0, none⟩)) := .inr ⟨_, rfl, Blk.new w4 104 _⟩
  have b5 := b4.trans (l5.mono b4.size)
  have Z5 := Lib.hid z5
  clear l5 z5
  refine (wnum_no Z5.out a).mono ?_
  rintro e w5 ⟨rfl, rfl⟩
  go_wp2_with fail
  refine (wtext_no Z5.out [97] (by simp)).mono ?_
  rintro e w5 ⟨rfl, rfl⟩
  go_wp2_with fail
  refine (bytes_no (w := w4.alloc (.cells #[.slice none 0 0, .bool false] 104)) (p := .pointer none) (.inl rfl)).mono ?_
  rintro e w5 ⟨rfl, rfl⟩
  go_wp2_with fail
  refine (bytes_no Z5.out).mono ?_
  rintro e w5 ⟨rfl, rfl⟩
  go_wp2_with fail
  have R := rnum_r (w := w4.alloc (.cells #[.slice none 0 0, .bool false] 104)) (p := none) (st := none) (.inl ⟨rfl, rfl⟩) b
  rw [rnumS_none] at R
  refine R.mono ?_
  rintro e w5 ⟨rfl, q5⟩
  have b6 := b5.trans ((q5.ch.toBelow (B := w.heap.size) b5.size (fun k _ hk => by cases hk)))
  clear R q5 Z5 b5 b4
  go_wp2_with fail
  have R := rtext_r (w := w5) (p := none) (st := none) (.inl ⟨rfl, rfl⟩) 5 (by omega)
  rw [show rtextS none 5 = ([], none) from rfl] at R
  refine R.mono ?_
  rintro e w6 ⟨rfl, q6⟩
  have b7 := b6.trans ((q6.ch.toBelow (B := w.heap.size) b6.size (fun k _ hk => by cases hk)))
  clear R q6 b6
  go_wp2_with fail
  refine (rdot_r (w := w6) (p := none) (st := none) (.inl ⟨rfl, rfl⟩)).mono ?_
  rw [show dotV none = .agg #[.int .u8 0, .int .u32 0] from rfl]
  rintro e w7 ⟨rfl, q7⟩
  have b8 := b7.trans ((q7.ch.toBelow (B := w.heap.size) b7.size (fun k _ hk => by cases hk)))
  clear q7 b7
  go_wp2_with fail
  refine (rvec_r (w := w7) (p := none) (st := none) (.inl ⟨rfl, rfl⟩)).mono ?_
  rw [show vecV none = .agg #[.int .u32 0, .int .u32 0, .int .u32 0, .int .u32 0, .int .u32 0, .int .u32 0, .int .u32 0, .int .u32 0] from rfl]
  rintro e w8 ⟨rfl, q8⟩
  have b9 := b8.trans ((q8.ch.toBelow (B := w.heap.size) b8.size (fun k _ hk => by cases hk)))
  clear q8 b8
  go_wp2_with fail
  refine (left_r (w := w8) (p := none) (st := none) (.inl ⟨rfl, rfl⟩)).mono ?_
  rintro e w9 ⟨rfl, n9, hn9⟩
  have b10 : Below w.heap.size w w9 := by rw [hn9]; exact below_drewN b9 n9
  clear hn9 b9
  go_wp2_with fail
  refine (fine_r (w := w9) (p := none) (st := none) (.inl ⟨rfl, rfl⟩)).mono ?_
  rintro e w10 ⟨rfl, rfl⟩
  go_wp2_with fail
  refine (end_r (w := w9) (p := none) (st := none) (.inl ⟨rfl, rfl⟩) (by simp [leftN])).mono ?_
  rintro e w10 ⟨rfl, n10, hn10⟩
  have b11 : Below w.heap.size w w10 := by rw [hn10]; exact below_drewN b10 n10
  clear hn10 b10
  go_wp2_with fail
  refine (head02_any w10).mono ?_
  rintro e w11 ⟨rfl, d11⟩
  have b12 := b11.trans (d11.mono b11.size)
  go_wp2
  go_ret
  exact ⟨rfl, b12⟩
set_option maxRecDepth 100000 in
set_option maxHeartbeats 8000000 in
theorem order_gt1 (a b : Nat) (ha : a < 2 ^ 64) (hb : b < 2 ^ 64) (hab : b < a) (hxy : (numF a).length ≤ (numF b).length) (w : World) :
    Calls Try.prog 16 #[.int .u64 (a : Int), .int .u64 (b : Int)] w fun e w' => e = .returned (.bool true) ∧ Below w.heap.size w w' := by
  have zeq := zero_eq
  have N1 := num_any w a ha
  have N2 := Lib.hid (fun W => num_any W b hb)
  have L1 := Lib.hid (fun h => numF_mono (a := a) (b := b) h)
  have L2 := Lib.hid (fun h => numF_mono (a := b) (b := a) h)
  have P1 := Lib.hid (fun h => numF_take (a := a) (b := b) ha hb h)
  clear ha hb
  generalize numF a = x at *
  generalize numF b = y at *
  have N1 := Lib.hid N1
  have hcut : (⟨y.toArray⟩ : ByteArray).extract 0 x.length = ⟨(y.take x.length).toArray⟩ := str_take y x.length
  have l2 := L2.out (by omega)
  have p1 : (y.take x.length == x) = false := by rw [beq_eq_false_iff_ne]; exact P1.out (by omega)
  have p2 : (x == y) = false := by
    rw [beq_eq_false_iff_ne]; intro e; subst e
    exact P1.out (by omega) (List.take_length)
  have hne : ((a : Int) == (b : Int)) = false := by rw [beq_eq_false_iff_ne]; omega
  have hdl : decide (x.length < y.length) = false := decide_eq_false (by omega)
  have hd2 : decide (x.length ≤ y.length) = true := decide_eq_true hxy
  go_enter Try.func16, Try.ntmps16
  go_wp2_with fail
  refine N1.out.mono ?_
  rintro e w1 ⟨rfl, b1⟩
  go_wp2_with fail
  refine (N2.out w1).mono ?_
  rintro e w2 ⟨rfl, d2⟩
  have b2 := b1.trans (d2.mono b1.size)
  go_wp2_with fail
  refine (wnum_no (.inl rfl) a).mono ?_
  rintro e w3 ⟨rfl, rfl⟩
  go_wp2_with fail
  refine (wtext_no (w := w2) (p := .pointer none) (.inl rfl) [97] (by simp)).mono ?_
  rintro e w3 ⟨rfl, rfl⟩
  go_wp2_with fail
  refine (wdot_no (w := w2) (p := .pointer none) (.inl rfl) 0 0 (by omega) (by omega)).mono ?_
  rintro e w3 ⟨rfl, d3⟩
  have b3 := b2.trans (d3.mono b2.size)
  go_wp2_with fail
  refine (wvec_no (w := w3) (q := none) (.inl rfl) zer8 rfl (by decide)).mono ?_
  rintro e w4 ⟨rfl, d4⟩
  have b4 := b3.trans (d4.mono b3.size)
  go_wp2_with fail
  have l5 := (Below.refl w4.heap.size w4).alloc (Nat.le_refl _) (.cells #[.slice none 0 0, .bool false] 104)
  have z5 : NoWr (w4.alloc (.cells #[.slice none 0 0, .bool false] 104)) (.pointer (some ⟨w4.heap.size, 0, none⟩)) := .inr ⟨_, rfl, Blk.new w4 104 _⟩
  have b5 := b4.trans (l5.mono b4.size)
  have Z5 := Lib.hid z5
  clear l5 z5
  refine (wnum_no Z5.out a).mono ?_
  rintro e w5 ⟨rfl, rfl⟩
  go_wp2_with fail
  refine (wtext_no Z5.out [97] (by simp)).mono ?_
  rintro e w5 ⟨rfl, rfl⟩
  go_wp2_with fail
  refine (bytes_no (w := w4.alloc (.cells #[.slice none 0 0, .bool false] 104)) (p := .pointer none) (.inl rfl)).mono ?_
  rintro e w5 ⟨rfl, rfl⟩
  go_wp2_with fail
  refine (bytes_no Z5.out).mono ?_
  rintro e w5 ⟨rfl, rfl⟩
  go_wp2_with fail
  have R := rnum_r (w := w4.alloc (.cells #[.slice none 0 0, .bool false] 104)) (p := none) (st := none) (.inl ⟨rfl, rfl⟩) b
  rw [rnumS_none] at R
  refine R.mono ?_
  rintro e w5 ⟨rfl, q5⟩
  have b6 := b5.trans ((q5.ch.toBelow (B := w.heap.size) b5.size (fun k _ hk => by cases hk)))
  clear R q5 Z5 b5 b4
  go_wp2_with fail
  have R := rtext_r (w := w5) (p := none) (st := none) (.inl ⟨rfl, rfl⟩) 5 (by omega)
  rw [show rtextS none 5 = ([], none) from rfl] at R
  refine R.mono ?_
  rintro e w6 ⟨rfl, q6⟩
  have b7 := b6.trans ((q6.ch.toBelow (B := w.heap.size) b6.size (fun k _ hk => by cases hk)))
  clear R q6 b6
  go_wp2_with fail
  refine (rdot_r (w := w6) (p := none) (st := none) (.inl ⟨rfl, rfl⟩)).mono ?_
  rw [show dotV none = .agg #[.int .u8 0, .int .u32 0] from rfl]
  rintro e w7 ⟨rfl, q7⟩
  have b8 := b7.trans ((q7.ch.toBelow (B := w.heap.size) b7.size (fun k _ hk => by cases hk)))
  clear q7 b7
  go_wp2_with fail
  refine (rvec_r (w := w7) (p := none) (st := none) (.inl ⟨rfl, rfl⟩)).mono ?_
  rw [show vecV none = .agg #[.int .u32 0, .int .u32 0, .int .u32 0, .int .u32 0, .int .u32 0, .int .u32 0, .int .u32 0, .int .u32 0] from rfl]
  rintro e w8 ⟨rfl, q8⟩
  have b9 := b8.trans ((q8.ch.toBelow (B := w.heap.size) b8.size (fun k _ hk => by cases hk)))
  clear q8 b8
  go_wp2_with fail
  refine (left_r (w := w8) (p := none) (st := none) (.inl ⟨rfl, rfl⟩)).mono ?_
  rintro e w9 ⟨rfl, n9, hn9⟩
  have b10 : Below w.heap.size w w9 := by rw [hn9]; exact below_drewN b9 n9
  clear hn9 b9
  go_wp2_with fail
  refine (fine_r (w := w9) (p := none) (st := none) (.inl ⟨rfl, rfl⟩)).mono ?_
  rintro e w10 ⟨rfl, rfl⟩
  go_wp2_with fail
  refine (end_r (w := w9) (p := none) (st := none) (.inl ⟨rfl, rfl⟩) (by simp [leftN])).mono ?_
  rintro e w10 ⟨rfl, n10, hn10⟩
  have b11 : Below w.heap.size w w10 := by rw [hn10]; exact below_drewN b10 n10
  clear hn10 b10
  go_wp2_with fail
  refine (head02_any w10).mono ?_
  rintro e w11 ⟨rfl, d11⟩
  have b12 := b11.trans (d11.mono b11.size)
  go_wp2
  go_ret
  exact ⟨rfl, b12⟩
set_option maxRecDepth 100000 in
set_option maxHeartbeats 8000000 in
theorem order_gt2 (a b : Nat) (ha : a < 2 ^ 64) (hb : b < 2 ^ 64) (hab : b < a) (hxy : ¬ (numF a).length ≤ (numF b).length) (w : World) :
    Calls Try.prog 16 #[.int .u64 (a : Int), .int .u64 (b : Int)] w fun e w' => e = .returned (.bool true) ∧ Below w.heap.size w w' := by
  have zeq := zero_eq
  have N1 := num_any w a ha
  have N2 := Lib.hid (fun W => num_any W b hb)
  have L1 := Lib.hid (fun h => numF_mono (a := a) (b := b) h)
  have L2 := Lib.hid (fun h => numF_mono (a := b) (b := a) h)
  have P1 := Lib.hid (fun h => numF_take (a := a) (b := b) ha hb h)
  clear ha hb
  generalize numF a = x at *
  generalize numF b = y at *
  have N1 := Lib.hid N1
  have hcut : (⟨y.toArray⟩ : ByteArray).extract 0 x.length = ⟨(y.take x.length).toArray⟩ := str_take y x.length
  have l2 := L2.out (by omega)
  have p1 : (y.take x.length == x) = false := by rw [beq_eq_false_iff_ne]; exact P1.out (by omega)
  have p2 : (x == y) = false := by
    rw [beq_eq_false_iff_ne]; intro e; subst e
    exact P1.out (by omega) (List.take_length)
  have hne : ((a : Int) == (b : Int)) = false := by rw [beq_eq_false_iff_ne]; omega
  have hdl : decide (x.length < y.length) = false := decide_eq_false (by omega)
  have hd2 : decide (x.length ≤ y.length) = false := decide_eq_false hxy
  go_enter Try.func16, Try.ntmps16
  go_wp2_with fail
  refine N1.out.mono ?_
  rintro e w1 ⟨rfl, b1⟩
  go_wp2_with fail
  refine (N2.out w1).mono ?_
  rintro e w2 ⟨rfl, d2⟩
  have b2 := b1.trans (d2.mono b1.size)
  go_wp2_with fail
  refine (wnum_no (.inl rfl) a).mono ?_
  rintro e w3 ⟨rfl, rfl⟩
  go_wp2_with fail
  refine (wtext_no (w := w2) (p := .pointer none) (.inl rfl) [97] (by simp)).mono ?_
  rintro e w3 ⟨rfl, rfl⟩
  go_wp2_with fail
  refine (wdot_no (w := w2) (p := .pointer none) (.inl rfl) 0 0 (by omega) (by omega)).mono ?_
  rintro e w3 ⟨rfl, d3⟩
  have b3 := b2.trans (d3.mono b2.size)
  go_wp2_with fail
  refine (wvec_no (w := w3) (q := none) (.inl rfl) zer8 rfl (by decide)).mono ?_
  rintro e w4 ⟨rfl, d4⟩
  have b4 := b3.trans (d4.mono b3.size)
  go_wp2_with fail
  have l5 := (Below.refl w4.heap.size w4).alloc (Nat.le_refl _) (.cells #[.slice none 0 0, .bool false] 104)
  have z5 : NoWr (w4.alloc (.cells #[.slice none 0 0, .bool false] 104)) (.pointer (some ⟨w4.heap.size, 0, none⟩)) := .inr ⟨_, rfl, Blk.new w4 104 _⟩
  have b5 := b4.trans (l5.mono b4.size)
  have Z5 := Lib.hid z5
  clear l5 z5
  refine (wnum_no Z5.out a).mono ?_
  rintro e w5 ⟨rfl, rfl⟩
  go_wp2_with fail
  refine (wtext_no Z5.out [97] (by simp)).mono ?_
  rintro e w5 ⟨rfl, rfl⟩
  go_wp2_with fail
  refine (bytes_no (w := w4.alloc (.cells #[.slice none 0 0, .bool false] 104)) (p := .pointer none) (.inl rfl)).mono ?_
  rintro e w5 ⟨rfl, rfl⟩
  go_wp2_with fail
  refine (bytes_no Z5.out).mono ?_
  rintro e w5 ⟨rfl, rfl⟩
  go_wp2_with fail
  have R := rnum_r (w := w4.alloc (.cells #[.slice none 0 0, .bool false] 104)) (p := none) (st := none) (.inl ⟨rfl, rfl⟩) b
  rw [rnumS_none] at R
  refine R.mono ?_
  rintro e w5 ⟨rfl, q5⟩
  have b6 := b5.trans ((q5.ch.toBelow (B := w.heap.size) b5.size (fun k _ hk => by cases hk)))
  clear R q5 Z5 b5 b4
  go_wp2_with fail
  have R := rtext_r (w := w5) (p := none) (st := none) (.inl ⟨rfl, rfl⟩) 5 (by omega)
  rw [show rtextS none 5 = ([], none) from rfl] at R
  refine R.mono ?_
  rintro e w6 ⟨rfl, q6⟩
  have b7 := b6.trans ((q6.ch.toBelow (B := w.heap.size) b6.size (fun k _ hk => by cases hk)))
  clear R q6 b6
  go_wp2_with fail
  refine (rdot_r (w := w6) (p := none) (st := none) (.inl ⟨rfl, rfl⟩)).mono ?_
  rw [show dotV none = .agg #[.int .u8 0, .int .u32 0] from rfl]
  rintro e w7 ⟨rfl, q7⟩
  have b8 := b7.trans ((q7.ch.toBelow (B := w.heap.size) b7.size (fun k _ hk => by cases hk)))
  clear q7 b7
  go_wp2_with fail
  refine (rvec_r (w := w7) (p := none) (st := none) (.inl ⟨rfl, rfl⟩)).mono ?_
  rw [show vecV none = .agg #[.int .u32 0, .int .u32 0, .int .u32 0, .int .u32 0, .int .u32 0, .int .u32 0, .int .u32 0, .int .u32 0] from rfl]
  rintro e w8 ⟨rfl, q8⟩
  have b9 := b8.trans ((q8.ch.toBelow (B := w.heap.size) b8.size (fun k _ hk => by cases hk)))
  clear q8 b8
  go_wp2_with fail
  refine (left_r (w := w8) (p := none) (st := none) (.inl ⟨rfl, rfl⟩)).mono ?_
  rintro e w9 ⟨rfl, n9, hn9⟩
  have b10 : Below w.heap.size w w9 := by rw [hn9]; exact below_drewN b9 n9
  clear hn9 b9
  go_wp2_with fail
  refine (fine_r (w := w9) (p := none) (st := none) (.inl ⟨rfl, rfl⟩)).mono ?_
  rintro e w10 ⟨rfl, rfl⟩
  go_wp2_with fail
  refine (end_r (w := w9) (p := none) (st := none) (.inl ⟨rfl, rfl⟩) (by simp [leftN])).mono ?_
  rintro e w10 ⟨rfl, n10, hn10⟩
  have b11 : Below w.heap.size w w10 := by rw [hn10]; exact below_drewN b10 n10
  clear hn10 b10
  go_wp2_with fail
  refine (head02_any w10).mono ?_
  rintro e w11 ⟨rfl, d11⟩
  have b12 := b11.trans (d11.mono b11.size)
  go_wp2
  go_ret
  exact ⟨rfl, b12⟩
set_option maxRecDepth 100000 in
set_option maxHeartbeats 8000000 in
theorem order_eq (a : Nat) (ha : a < 2 ^ 64) (w : World) :
    Calls Try.prog 16 #[.int .u64 (a : Int), .int .u64 (a : Int)] w fun e w' => e = .returned (.bool true) ∧ Below w.heap.size w w' := by
  have zeq := zero_eq
  have N1 := num_any w a ha
  have N2 := Lib.hid (fun W => num_any W a ha)
  clear ha
  generalize numF a = x at *
  have N1 := Lib.hid N1
  go_enter Try.func16, Try.ntmps16
  go_wp2_with fail
  refine N1.out.mono ?_
  rintro e w1 ⟨rfl, b1⟩
  go_wp2_with fail
  refine (N2.out w1).mono ?_
  rintro e w2 ⟨rfl, d2⟩
  have b2 := b1.trans (d2.mono b1.size)
  go_wp2_with fail
  refine (wnum_no (.inl rfl) a).mono ?_
  rintro e w3 ⟨rfl, rfl⟩
  go_wp2_with fail
  refine (wtext_no (w := w2) (p := .pointer none) (.inl rfl) [97] (by simp)).mono ?_
  rintro e w3 ⟨rfl, rfl⟩
  go_wp2_with fail
  refine (wdot_no (w := w2) (p := .pointer none) (.inl rfl) 0 0 (by omega) (by omega)).mono ?_
  rintro e w3 ⟨rfl, d3⟩
  have b3 := b2.trans (d3.mono b2.size)
  go_wp2_with fail
  refine (wvec_no (w := w3) (q := none) (.inl rfl) zer8 rfl (by decide)).mono ?_
  rintro e w4 ⟨rfl, d4⟩
  have b4 := b3.trans (d4.mono b3.size)
  go_wp2_with fail
  have l5 := (Below.refl w4.heap.size w4).alloc (Nat.le_refl _) (.cells #[.slice none 0 0, .bool false] 104)
  have z5 : NoWr (w4.alloc (.cells #[.slice none 0 0, .bool false] 104)) (.pointer (some ⟨w4.heap.size, 0, none⟩)) := .inr ⟨_, rfl, Blk.new w4 104 _⟩
  have b5 := b4.trans (l5.mono b4.size)
  have Z5 := Lib.hid z5
  clear l5 z5
  refine (wnum_no Z5.out a).mono ?_
  rintro e w5 ⟨rfl, rfl⟩
  go_wp2_with fail
  refine (wtext_no Z5.out [97] (by simp)).mono ?_
  rintro e w5 ⟨rfl, rfl⟩
  go_wp2_with fail
  refine (bytes_no (w := w4.alloc (.cells #[.slice none 0 0, .bool false] 104)) (p := .pointer none) (.inl rfl)).mono ?_
  rintro e w5 ⟨rfl, rfl⟩
  go_wp2_with fail
  refine (bytes_no Z5.out).mono ?_
  rintro e w5 ⟨rfl, rfl⟩
  go_wp2_with fail
  have R := rnum_r (w := w4.alloc (.cells #[.slice none 0 0, .bool false] 104)) (p := none) (st := none) (.inl ⟨rfl, rfl⟩) a
  rw [rnumS_none] at R
  refine R.mono ?_
  rintro e w5 ⟨rfl, q5⟩
  have b6 := b5.trans ((q5.ch.toBelow (B := w.heap.size) b5.size (fun k _ hk => by cases hk)))
  clear R q5 Z5 b5 b4
  go_wp2_with fail
  have R := rtext_r (w := w5) (p := none) (st := none) (.inl ⟨rfl, rfl⟩) 5 (by omega)
  rw [show rtextS none 5 = ([], none) from rfl] at R
  refine R.mono ?_
  rintro e w6 ⟨rfl, q6⟩
  have b7 := b6.trans ((q6.ch.toBelow (B := w.heap.size) b6.size (fun k _ hk => by cases hk)))
  clear R q6 b6
  go_wp2_with fail
  refine (rdot_r (w := w6) (p := none) (st := none) (.inl ⟨rfl, rfl⟩)).mono ?_
  rw [show dotV none = .agg #[.int .u8 0, .int .u32 0] from rfl]
  rintro e w7 ⟨rfl, q7⟩
  have b8 := b7.trans ((q7.ch.toBelow (B := w.heap.size) b7.size (fun k _ hk => by cases hk)))
  clear q7 b7
  go_wp2_with fail
  refine (rvec_r (w := w7) (p := none) (st := none) (.inl ⟨rfl, rfl⟩)).mono ?_
  rw [show vecV none = .agg #[.int .u32 0, .int .u32 0, .int .u32 0, .int .u32 0, .int .u32 0, .int .u32 0, .int .u32 0, .int .u32 0] from rfl]
  rintro e w8 ⟨rfl, q8⟩
  have b9 := b8.trans ((q8.ch.toBelow (B := w.heap.size) b8.size (fun k _ hk => by cases hk)))
  clear q8 b8
  go_wp2_with fail
  refine (left_r (w := w8) (p := none) (st := none) (.inl ⟨rfl, rfl⟩)).mono ?_
  rintro e w9 ⟨rfl, n9, hn9⟩
  have b10 : Below w.heap.size w w9 := by rw [hn9]; exact below_drewN b9 n9
  clear hn9 b9
  go_wp2_with fail
  refine (fine_r (w := w9) (p := none) (st := none) (.inl ⟨rfl, rfl⟩)).mono ?_
  rintro e w10 ⟨rfl, rfl⟩
  go_wp2_with fail
  refine (end_r (w := w9) (p := none) (st := none) (.inl ⟨rfl, rfl⟩) (by simp [leftN])).mono ?_
  rintro e w10 ⟨rfl, n10, hn10⟩
  have b11 : Below w.heap.size w w10 := by rw [hn10]; exact below_drewN b10 n10
  clear hn10 b10
  go_wp2_with fail
  refine (head02_any w10).mono ?_
  rintro e w11 ⟨rfl, d11⟩
  have b12 := b11.trans (d11.mono b11.size)
  go_wp2
  go_ret
  exact ⟨rfl, b12⟩
theorem order_any (a b : Nat) (ha : a < 2 ^ 64) (hb : b < 2 ^ 64) (w : World) :
    Calls Try.prog 16 #[.int .u64 (a : Int), .int .u64 (b : Int)] w fun e w' => e = .returned (.bool true) ∧ Below w.heap.size w w' := by
  rcases Nat.lt_trichotomy a b with hab | hab | hab
  · exact order_lt a b ha hb hab w
  · subst hab; exact order_eq a ha w
  · by_cases hxy : (numF a).length ≤ (numF b).length
    · exact order_gt1 a b ha hb hab hxy w
    · exact order_gt2 a b ha hb hab hxy w
end Go.Proofs.Ytfojjklohbiffaa
