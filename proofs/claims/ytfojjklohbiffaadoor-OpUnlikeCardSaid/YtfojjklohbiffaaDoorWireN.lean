/- Readers: number, Num. -/
import Derived.Test.YtfojjklohbiffaaDoorWireR
namespace Go.Proofs.YtfojjklohbiffaaDoor
open Go.RowKit Tran Tran.Wire
set_option linter.unusedVariables false
/-- a number read: the number, whether it is one, what is left -/
def numS : Option (List UInt8) → Nat × Bool × Option (List UInt8)
  | some (b :: r) =>
    if b.toNat < 128 then (b.toNat, true, some r)
    else if b.toNat = 128 ∨ 136 < b.toNat then (0, false, some r)
    else (val (takeS (some r) (b.toNat - 128)).1, decide (0 < ((takeS (some r) (b.toNat - 128)).1.headD 0).toNat) && decide (128 ≤ val (takeS (some r) (b.toNat - 128)).1), (takeS (some r) (b.toNat - 128)).2)
  | st => (0, false, none)
theorem val_from : ∀ (l : List UInt8) (a : Nat), l.foldl (fun a b => a * 256 + b.toNat) a < (a + 1) * 256 ^ l.length
  | [], a => by simp
  | b :: l, a => by
    have h := val_from l (a * 256 + b.toNat)
    have hb := b.toNat_lt
    rw [List.foldl_cons, List.length_cons, Nat.pow_succ']
    refine Nat.lt_of_lt_of_le h ?_
    rw [← Nat.mul_assoc]
    exact Nat.mul_le_mul_right _ (by omega)
theorem val_lt (l : List UInt8) : val l < 256 ^ l.length := by
  have := val_from l 0
  rwa [Nat.zero_add, Nat.one_mul] at this
theorem takeS_len (st : Option (List UInt8)) (n : Nat) : (takeS st n).1.length ≤ n := by
  cases st with
  | none => simp [takeS]
  | some r => unfold takeS; simp only; split <;> simp; omega
theorem or_nat (x y : Nat) (hx : x ≤ 72057594037927935) (hy : y < 256) : bits BinOp.or IntKind.u64 ((x : Int) * 256) (IntKind.u64.wrap (y : Int)) = ((x * 256 + y : Nat) : Int) := by
  have e1 : IntKind.u64.wrap (y : Int) = (y : Int) := by exact IntWalk.u64_in _ (by omega)
  rw [e1]
  have e3 : ((x : Int) * 256) = ((x * 256 : Nat) : Int) := by simp
  rw [e3, u64_or_nat _ _ (by omega) (by omega)]
  have := Nat.shiftLeft_add_eq_or_of_lt (i := 8) (b := y) (by simpa using hy) x
  rw [Nat.shiftLeft_eq] at this
  rw [← this]
def Numbered (w : World) (p : Option Addr) (r : Nat × Bool × Option (List UInt8)) (e : Ending) (w' : World) : Prop :=
  e = .returned (.tuple #[.int .u64 (r.1 : Nat), .bool r.2.1]) ∧ Rdd w w' p r.2.2
set_option maxRecDepth 100000 in
set_option maxHeartbeats 4000000 in
theorem number_r {w : World} {p : Option Addr} {st : Option (List UInt8)} (h : RdP w p st) :
    Calls Tryd.prog 49 #[.func (.func 50) #[.pointer p] #[]] w (Numbered w p (numS st)) := by
  have T := Lib.hid (take_r h 1 (by omega))
  clear h
  cases st with
  | none =>
    go_enter Tryd.func49, Tryd.ntmps49
    go_wp2_with fail
    refine T.out.mono ?_
    rintro e w1 ⟨rfl, hr⟩
    go_wp2
    go_ret2
    exact ⟨rfl, hr⟩
  | some r0 =>
    cases r0 with
    | nil =>
      go_enter Tryd.func49, Tryd.ntmps49
      go_wp2_with fail
      refine T.out.mono ?_
      rintro e w1 ⟨rfl, hr⟩
      go_wp2
      go_ret2
      exact ⟨rfl, hr⟩
    | cons b r =>
      have e1 : takeS (some (b :: r)) 1 = ([b], some r) := by simp [takeS]
      rw [e1] at T
      clear e1
      have hb := b.toNat_lt
      have hi0 : ∀ h, (⟨#[b]⟩ : ByteArray)[0]'h = b := fun _ => rfl
      by_cases h1 : b.toNat < 128
      · have HN := Lib.hid (p := numS (some (b :: r)) = (b.toNat, true, some r)) (by unfold numS; exact if_pos h1)
        go_enter Tryd.func49, Tryd.ntmps49
        go_wp2_with fail
        refine T.out.mono ?_
        rintro e w1 ⟨rfl, hr⟩
        go_wp2
        go_ret2
        rw [HN.out]
        refine ⟨?_, hr⟩
        rfl
      · by_cases h2 : b.toNat = 128 ∨ 136 < b.toNat
        · have HN := Lib.hid (p := numS (some (b :: r)) = (0, false, some r)) (by unfold numS; exact (if_neg h1).trans (if_pos h2))
          rcases h2 with h2 | h2
          all_goals
            go_enter Tryd.func49, Tryd.ntmps49
            go_wp2_with fail
            refine T.out.mono ?_
            rintro e w1 ⟨rfl, hr⟩
            go_wp2
            go_ret2
            rw [HN.out]
            exact ⟨rfl, hr⟩
        · obtain ⟨k, hk⟩ : ∃ k, b.toNat = 128 + k := ⟨b.toNat - 128, by omega⟩
          have hk1 : 1 ≤ k := by omega
          have hk8 : k ≤ 8 := by omega
          have hbk : (b.toNat : Int) - 128 = (k : Nat) := by omega
          obtain ⟨d, hd⟩ : ∃ d, d = (takeS (some r) k).1 := ⟨_, rfl⟩
          have hdl : d.length ≤ 8 := by rw [hd]; exact Nat.le_trans (takeS_len _ _) hk8
          have HN := Lib.hid (p := numS (some (b :: r)) = (val d, decide (0 < (d.headD 0).toNat) && decide (128 ≤ val d), (takeS (some r) k).2)) (by
            unfold numS
            rw [hd, show k = b.toNat - 128 by omega]
            exact (if_neg h1).trans (if_neg h2))
          have HB := Lib.hid hbk
          have hb1 : ¬ (b.toNat : Int) < 128 := by omega
          have HK := Lib.hid hk
          have HD := Lib.hid hd
          clear hk hd hbk h2 h1
          go_enter Tryd.func49, Tryd.ntmps49
          go_wp2_with fail
          refine T.out.mono ?_
          rintro e w1 ⟨rfl, hr⟩
          have T2 := take_r hr.rd k (by omega)
          rw [← HD.out] at T2
          have T2 := Lib.hid T2
          have hbk := HB.out
          go_wp2_with fail
          refine T2.out.mono ?_
          rintro e w2 ⟨rfl, hr2⟩
          have HR2 := Lib.hid (hr.trans hr2)
          clear T2 T hr hr2 hbk hb hb1 hi0 HB HK hk1 hk8
          go_wp2_with fail
          go_loopw [7, 8, 33] (fun n u i wr => ∃ j : Nat, j ≤ d.length ∧ i = .int .i64 j ∧ n = .int .u64 (val (d.take j) : Nat) ∧ wr = w2) (fun _ _ i _ => d.length - (intOf i).toNat)
          case atStart => exact ⟨0, by omega, rfl, rfl, rfl⟩
          case round =>
            obtain ⟨j, hj, rfl, rfl, rfl⟩ := hrel
            by_cases hjl : j < d.length
            · have hx := val_lt (d.take j)
              rw [List.length_take, Nat.min_eq_left hj] at hx
              have hx7 : val (d.take j) ≤ 72057594037927935 := by
                have : 256 ^ j ≤ 256 ^ 7 := Nat.pow_le_pow_right (by decide) (by omega)
                omega
              have hst : val (d.take (j + 1)) = val (d.take j) * 256 + d[j].toNat := by rw [List.take_succ_eq_append_getElem hjl, val_snoc]
              have HST := Lib.hid hst
              have hdj := d[j].toNat_lt
              clear hx hst
              generalize val (d.take j) = x at *
              go_wp2_with fail
              go_roundw
              case rel =>
                refine ⟨j + 1, hjl, by go_num, ?_, by trivial⟩
                rw [HST.out]
                exact congrArg (Value.int .u64) (or_nat x _ hx7 hdj)
              case measure => simp [intOf]; omega
            · have hjd : d.take j = d := List.take_of_length_le (by omega)
              rw [hjd]
              clear hjd
              have hvl : val d ≤ 18446744073709551615 := by
                have h1 := val_lt d
                have h2 : 256 ^ d.length ≤ 256 ^ 8 := Nat.pow_le_pow_right (by decide) hdl
                omega
              cases d with
              | nil =>
                go_wp2
                go_ret2
                rw [HN.out]
                exact ⟨rfl, HR2.out⟩
              | cons c t =>
                have hi0 : ∀ h, (⟨(c :: t).toArray⟩ : ByteArray)[0]'h = c := fun _ => rfl
                have hc := c.toNat_lt
                have hjn : ¬ ((j : Int) < ((t.length : Int) + 1)) := by simp only [List.length_cons] at hjl; omega
                have HV := Lib.hid hvl
                clear hvl
                generalize val (c :: t) = x at *
                by_cases h0 : 0 < c.toNat
                · by_cases h128 : 128 ≤ x
                  · go_wp2
                    go_ret2
                    rw [HN.out]
                    refine ⟨?_, HR2.out⟩
                    simp [h0, h128]
                    omega
                  · go_wp2
                    go_ret2
                    rw [HN.out]
                    refine ⟨?_, HR2.out⟩
                    simp [h0, h128]
                    omega
                · go_wp2
                  go_ret2
                  rw [HN.out]
                  refine ⟨?_, HR2.out⟩
                  simp [h0]
/-- a number of at most most -/
def rnumS (st : Option (List UInt8)) (most : Nat) : Nat × Option (List UInt8) :=
  if (numS st).2.1 = true ∧ (numS st).1 ≤ most then (if (numS st).2.2.isSome = true then (numS st).1 else 0, (numS st).2.2) else (0, none)
set_option maxRecDepth 100000 in
set_option maxHeartbeats 4000000 in
theorem rnum_r {w : World} {p : Option Addr} {st : Option (List UInt8)} (h : RdP w p st) (most : Nat) :
    Calls Tryd.prog 38 #[.pointer p, .int .u64 most] w fun e w' => e = .returned (.int .u64 ((rnumS st most).1 : Nat)) ∧ Rdd w w' p (rnumS st most).2 := by
  have N := Lib.hid (number_r h)
  clear h
  obtain ⟨x, good, s1, hq⟩ : ∃ x good s1, numS st = (x, good, s1) := ⟨_, _, _, rfl⟩
  rw [hq] at N
  have HQ := Lib.hid (p := rnumS st most = if good = true ∧ x ≤ most then (if s1.isSome = true then x else 0, s1) else (0, none)) (by unfold rnumS; rw [hq])
  clear hq
  cases good
  · have HQ2 := Lib.hid (p := rnumS st most = (0, none)) (HQ.out.trans (if_neg (by simp)))
    clear HQ
    go_enter Tryd.func38, Tryd.ntmps38
    go_wp2_with fail
    refine N.out.mono ?_
    rintro e w1 ⟨rfl, hr⟩
    have S := Lib.hid (sure_r hr.rd false)
    go_wp2_with fail
    refine S.out.mono ?_
    rintro e w2 ⟨rfl, hr2⟩
    go_wp2
    go_ret
    rw [HQ2.out]
    exact ⟨rfl, hr.trans hr2⟩
  · by_cases hle : x ≤ most
    · have HQ2 := Lib.hid (p := rnumS st most = (if s1.isSome = true then x else 0, s1)) (HQ.out.trans (if_pos ⟨rfl, hle⟩))
      clear HQ
      cases s1 with
      | none =>
        go_enter Tryd.func38, Tryd.ntmps38
        go_wp2_with fail
        refine N.out.mono ?_
        rintro e w1 ⟨rfl, hr⟩
        have S := Lib.hid (sure_r hr.rd true)
        go_wp2_with fail
        refine S.out.mono ?_
        rintro e w2 ⟨rfl, hr2⟩
        go_wp2
        go_ret
        rw [HQ2.out]
        exact ⟨rfl, hr.trans hr2⟩
      | some s2 =>
        go_enter Tryd.func38, Tryd.ntmps38
        go_wp2_with fail
        refine N.out.mono ?_
        rintro e w1 ⟨rfl, hr⟩
        have S := Lib.hid (sure_r hr.rd true)
        go_wp2_with fail
        refine S.out.mono ?_
        rintro e w2 ⟨rfl, hr2⟩
        go_wp2
        go_ret
        rw [HQ2.out]
        exact ⟨rfl, hr.trans hr2⟩
    · have HQ2 := Lib.hid (p := rnumS st most = (0, none)) (HQ.out.trans (if_neg (by simp; omega)))
      clear HQ
      go_enter Tryd.func38, Tryd.ntmps38
      go_wp2_with fail
      refine N.out.mono ?_
      rintro e w1 ⟨rfl, hr⟩
      have S := Lib.hid (sure_r hr.rd false)
      go_wp2_with fail
      refine S.out.mono ?_
      rintro e w2 ⟨rfl, hr2⟩
      go_wp2
      go_ret
      rw [HQ2.out]
      exact ⟨rfl, hr.trans hr2⟩
end Go.Proofs.YtfojjklohbiffaaDoor
