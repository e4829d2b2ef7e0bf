/- Records: the length that stands first. -/
import Derived.Test.YtfojjklohbiffaaRecA
import Derived.Test.YtfojjklohbiffaaWireK
namespace Go.Proofs.Ytfojjklohbiffaa
open Go.RowKit Tran Tran.Wire
set_option linter.unusedVariables false
/-- the least that a length of k bytes may be, i of them looked at -/
def lowI (r : List UInt8) (k i : Nat) : Nat :=
  if r = [] then (if i = 0 then 0 else if k = 1 then 128 else 256 ^ (i - 1)) else val (r.take i) * 256 ^ (i - (r.take i).length)
def lowF (r : List UInt8) (k : Nat) : Nat := lowI r k k
theorem lowI_zero (r : List UInt8) (k : Nat) : lowI r k 0 = 0 := by
  unfold lowI
  split
  · rfl
  · simp [val]
theorem lowI_nil1 (i : Nat) (hi : i ≤ 1) : lowI [] 1 i = if i = 0 then 0 else 128 := by simp [lowI]
theorem lowI_nil (k i : Nat) (hk : k ≠ 1) (h0 : i ≠ 0) : lowI [] k i = 256 ^ (i - 1) := by simp [lowI, hk, h0]
theorem lowI_in {r : List UInt8} {k i : Nat} (hi : i < r.length) : lowI r k (i + 1) = lowI r k i * 256 + r[i].toNat := by
  have hr : r ≠ [] := by rintro rfl; simp at hi
  unfold lowI
  rw [if_neg hr, if_neg hr, List.take_succ_eq_append_getElem hi, val_snoc, List.length_append, List.length_take]
  have e1 : i + 1 - (min i r.length + [r[i]].length) = 0 := by simp; omega
  have e2 : i - min i r.length = 0 := by omega
  rw [e1, e2]; simp
theorem lowI_out {r : List UInt8} {k i : Nat} (hr : r ≠ []) (hi : r.length ≤ i) : lowI r k (i + 1) = lowI r k i * 256 := by
  unfold lowI
  rw [if_neg hr, if_neg hr, List.take_of_length_le (by omega), List.take_of_length_le hi]
  rw [show i + 1 - r.length = (i - r.length) + 1 by omega, Nat.pow_succ, Nat.mul_assoc]
theorem lowI_lt (r : List UInt8) (k i : Nat) (hr : r ≠ []) : lowI r k i < 256 ^ i := by
  unfold lowI
  rw [if_neg hr]
  have h1 := val_lt (r.take i)
  have h2 : (r.take i).length ≤ i := by rw [List.length_take]; omega
  have e : 256 ^ i = 256 ^ (r.take i).length * 256 ^ (i - (r.take i).length) := by rw [← Nat.pow_add]; congr 1; omega
  rw [e]
  exact Nat.mul_lt_mul_of_pos_right h1 (Nat.pow_pos (by decide))
theorem or_nat2 (x y : Nat) (hx : x ≤ 72057594037927935) (hy : y < 256) : bits BinOp.or IntKind.u64 ((x : Int) * 256) (y : Int) = ((x * 256 + y : Nat) : Int) := by
  have h := or_nat x y hx hy
  have e1 : IntKind.u64.wrap (y : Int) = (y : Int) := by exact IntWalk.u64_in _ (by omega)
  rwa [e1] at h
set_option maxRecDepth 100000 in
set_option maxHeartbeats 4000000 in
theorem least_some (w : World) (a1 a2 : Addr) (k : Nat) (b : UInt8) (r : List UInt8) (h1 : w.cell? a1 = some (.int .i64 k)) (h2 : w.cell? a2 = some (.string ⟨(b :: r).toArray⟩)) (hk8 : k ≤ 8) (hr : r ≠ []) (hl : r.length ≤ 140737488355328) :
    Calls Try.prog 148 #[.pointer (some a1), .pointer (some a2)] w fun e w' => e = .returned (.int .u64 (lowF r k : Nat)) ∧ w = w' := by
  have hr1 : 0 < r.length := List.length_pos_iff.2 hr
  have HZ := Lib.hid (lowI_zero r k)
  have HIN := Lib.hid (fun i (hi : i < r.length) => lowI_in (k := k) hi)
  have HOUT := Lib.hid (fun i (hi : r.length ≤ i) => lowI_out (k := k) hr hi)
  have HLT := Lib.hid (fun i => lowI_lt r k i hr)
  have HF := Lib.hid (show lowF r k = lowI r k k from rfl)
  clear hr
  go_enter Try.func148, Try.ntmps148
  go_wp2_with fail
  go_loop [2, 5] (fun x i => ∃ j : Nat, j ≤ k ∧ i = .int .i64 j ∧ x = .int .u64 (lowI r k j : Nat)) (fun _ i => k - (intOf i).toNat)
  case atStart => exact ⟨0, by omega, rfl, by rw [HZ.out]; rfl⟩
  case round =>
    obtain ⟨j, hj, rfl, rfl⟩ := hrel
    by_cases hjk : j < k
    · have hx := HLT.out j
      have hx7 : lowI r k j ≤ 72057594037927935 := by
        have : 256 ^ j ≤ 256 ^ 7 := Nat.pow_le_pow_right (by decide) (by omega)
        omega
      clear hx
      by_cases hin : j < r.length
      · have HS := Lib.hid (HIN.out j hin)
        have hidx : ∀ h, (⟨(b :: r).toArray⟩ : ByteArray)[j + 1]'h = r[j] := fun _ => rfl
        have hbj := r[j].toNat_lt
        generalize lowI r k j = x at *
        go_wp2_with fail
        go_round
        case rel =>
          refine ⟨j + 1, hjk, by go_num, ?_⟩
          rw [HS.out]
          exact congrArg (Value.int .u64) (or_nat2 x _ hx7 hbj)
        case measure => simp [intOf]; omega
      · have HS := Lib.hid (HOUT.out j (by omega))
        have hj0 : ((j : Int) == 0) = false := by rw [beq_eq_false_iff_ne]; omega
        generalize lowI r k j = x at *
        go_wp2_with fail
        go_round
        case rel =>
          refine ⟨j + 1, hjk, by go_num, ?_⟩
          rw [HS.out]
          exact congrArg (Value.int .u64) (by omega)
        case measure => simp [intOf]; omega
    · obtain rfl : j = k := by omega
      go_wp2
      go_ret
      rw [HF.out]
      exact ⟨rfl, rfl⟩
set_option maxRecDepth 100000 in
set_option maxHeartbeats 4000000 in
theorem least_nil (w : World) (a1 a2 : Addr) (k : Nat) (b : UInt8) (h1 : w.cell? a1 = some (.int .i64 k)) (h2 : w.cell? a2 = some (.string ⟨[b].toArray⟩)) (hk8 : k ≤ 8) (hk1 : 1 ≤ k) :
    Calls Try.prog 148 #[.pointer (some a1), .pointer (some a2)] w fun e w' => e = .returned (.int .u64 (lowF [] k : Nat)) ∧ w = w' := by
  by_cases h : k = 1
  · subst h
    go_enter Try.func148, Try.ntmps148
    go_wp2_with fail
    go_loop [2, 5] (fun x i => (i = .int .i64 0 ∧ x = .int .u64 0) ∨ (i = .int .i64 1 ∧ x = .int .u64 128)) (fun _ i => 1 - (intOf i).toNat)
    case atStart => exact .inl ⟨rfl, rfl⟩
    case round =>
      rcases hrel with ⟨rfl, rfl⟩ | ⟨rfl, rfl⟩
      · go_wp2_with fail
        go_round
        case rel => exact .inr ⟨rfl, rfl⟩
        case measure => simp [intOf]
      · go_wp2
        go_ret
        exact ⟨rfl, rfl⟩
  · have HF := Lib.hid (show lowF [] k = 256 ^ (k - 1) from lowI_nil k k h (by omega))
    have hk2 : 2 ≤ k := by omega
    have hne : ((k : Int) == 1) = false := by rw [beq_eq_false_iff_ne]; omega
    clear h
    go_enter Try.func148, Try.ntmps148
    go_wp2_with fail
    go_loop [2, 5] (fun x i => (i = .int .i64 0 ∧ x = .int .u64 0) ∨ ∃ j : Nat, j < k ∧ i = .int .i64 ((j : Nat) + 1) ∧ x = .int .u64 (256 ^ j : Nat)) (fun _ i => k - (intOf i).toNat)
    case atStart => exact .inl ⟨rfl, rfl⟩
    case round =>
      rcases hrel with ⟨rfl, rfl⟩ | ⟨j, hj, rfl, rfl⟩
      · go_wp2_with fail
        go_round
        case rel => exact .inr ⟨0, by omega, by rfl, rfl⟩
        case measure => simp [intOf]; omega
      · by_cases hjk : j + 1 < k
        · have hx7 : 256 ^ j ≤ 72057594037927935 := by
            have : 256 ^ j ≤ 256 ^ 6 := Nat.pow_le_pow_right (by decide) (by omega)
            omega
          have hj0 : (((j : Int) + 1) == 0) = false := by rw [beq_eq_false_iff_ne]; omega
          have HS := Lib.hid (show 256 ^ (j + 1) = 256 ^ j * 256 from Nat.pow_succ ..)
          generalize 256 ^ j = x at *
          go_wp2_with fail
          go_round
          case rel =>
            refine .inr ⟨j + 1, by omega, by go_num, ?_⟩
            rw [HS.out]
            exact congrArg (Value.int .u64) (by omega)
          case measure => simp [intOf]; omega
        · obtain rfl : k = j + 1 := by omega
          rw [Nat.add_sub_cancel] at HF
          generalize 256 ^ j = x at *
          go_wp2
          go_ret
          rw [HF.out]
          exact ⟨rfl, rfl⟩
/-- a length that is none leaves some number -/
def SomeNum (w : World) (e : Ending) (w' : World) : Prop := ∃ x : Int, e = .returned (.int .u64 x) ∧ w = w'
set_option maxRecDepth 100000 in
set_option maxHeartbeats 4000000 in
theorem least_any (w : World) (a1 a2 : Addr) (k : Nat) (b : UInt8) (r : List UInt8) (h1 : w.cell? a1 = some (.int .i64 k)) (h2 : w.cell? a2 = some (.string ⟨(b :: r).toArray⟩)) (hk : k ≤ 1000) (hl : r.length ≤ 140737488355328) :
    Calls Try.prog 148 #[.pointer (some a1), .pointer (some a2)] w (SomeNum w) := by
  go_enter Try.func148, Try.ntmps148
  go_wp2_with fail
  go_loop [2, 5] (fun x i => ∃ j : Nat, ∃ y : Int, j ≤ k ∧ i = .int .i64 j ∧ x = .int .u64 y) (fun _ i => k - (intOf i).toNat)
  case atStart => exact ⟨0, 0, by omega, rfl, rfl⟩
  case round =>
    obtain ⟨j, y, hj, rfl, rfl⟩ := hrel
    by_cases hjk : j < k
    · by_cases hin : j < r.length
      · have hidx : ∀ h, (⟨(b :: r).toArray⟩ : ByteArray)[j + 1]'h = r[j] := fun _ => rfl
        go_wp2_with fail
        go_round
        case rel => exact ⟨j + 1, _, hjk, by go_num, rfl⟩
        case measure => simp [intOf]; omega
      · by_cases hj0 : j = 0
        · subst hj0
          by_cases hk1 : k = 1
          · subst hk1
            go_wp2_with fail
            go_round
            case rel => exact ⟨1, _, by omega, rfl, rfl⟩
            case measure => simp [intOf]
          · have hne : ((k : Int) == 1) = false := by rw [beq_eq_false_iff_ne]; omega
            go_wp2_with fail
            go_round
            case rel => exact ⟨1, _, by omega, rfl, rfl⟩
            case measure => simp [intOf]; omega
        · have hj0' : ((j : Int) == 0) = false := by rw [beq_eq_false_iff_ne]; omega
          go_wp2_with fail
          go_round
          case rel => exact ⟨j + 1, _, hjk, by go_num, rfl⟩
          case measure => simp [intOf]; omega
    · go_wp2
      go_ret
      exact ⟨y, rfl, rfl⟩
end Go.Proofs.Ytfojjklohbiffaa
