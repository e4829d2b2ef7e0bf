/- Readers: Text, Dot, Vector. -/
import Derived.Test.YtfojjklohbiffaaWireN
namespace Go.Proofs.Ytfojjklohbiffaa
open Go.RowKit Tran Tran.Wire
set_option linter.unusedVariables false
theorem RdP.left_le {w : World} {p : Option Addr} {st : Option (List UInt8)} (h : RdP w p st) : leftN st ≤ 140737488355328 := by
  rcases h with ⟨_, rfl⟩ | ⟨g, _, s, pos, ok, hb, hp, hs, rfl⟩
  · simp [leftN]
  · cases ok
    · simp [leftN]
    · simp [leftN]; omega
theorem rnumS_none (m : Nat) : rnumS none m = (0, none) := by simp [rnumS, numS]
def rtextS (st : Option (List UInt8)) (most : Int) : List UInt8 × Option (List UInt8) := takeS (rnumS st most.toNat).2 (rnumS st most.toNat).1
theorem rnumS_zero {st : Option (List UInt8)} {m : Nat} (h : (rnumS st m).2 = none) : (rnumS st m).1 = 0 := by
  unfold rnumS at h ⊢
  split at h
  · rename_i hc
    simp only at h
    rw [if_pos hc]; simp [h]
  · rename_i hc
    rw [if_neg hc]
set_option maxRecDepth 100000 in
set_option maxHeartbeats 4000000 in
theorem rtext_r {w : World} {p : Option Addr} {st : Option (List UInt8)} (h : RdP w p st) (most : Int) (hm : most ≤ 140737488355328) :
    Calls Try.prog 66 #[.pointer p, .int .i64 most] w fun e w' => e = .returned (.string ⟨(rtextS st most).1.toArray⟩) ∧ Rdd w w' p (rtextS st most).2 := by
  obtain ⟨m, hmm⟩ : ∃ m : Nat, (m : Int) = max most 0 ∧ m = most.toNat ∧ m ≤ 140737488355328 := ⟨most.toNat, by omega, rfl, by omega⟩
  obtain ⟨hm1, hm2, hm3⟩ := hmm
  have N := Lib.hid (rnum_r h m)
  have HQ := Lib.hid (p := rtextS st most = takeS (rnumS st m).2 (rnumS st m).1) (by unfold rtextS; rw [hm2])
  have HZ := Lib.hid (fun hh => rnumS_zero (st := st) (m := m) hh)
  generalize rnumS st m = q at *
  obtain ⟨x, s1⟩ := q
  clear h hm2
  by_cases hneg : most < 0
  · have e : m = 0 := by omega
    subst e
    rw [show ((0 : Nat) : Int) = 0 from rfl] at N
    clear hm1 hm3
    go_enter Try.func66, Try.ntmps66
    go_wp2_with fail
    refine N.out.mono ?_
    rintro e w1 ⟨rfl, hr⟩
    have hlb := hr.rd.left_le
    have L := left_r hr.rd
    obtain ⟨y, hy⟩ : ∃ y, y = leftN s1 := ⟨_, rfl⟩
    rw [← hy] at L hlb
    have L := Lib.hid L
    have HR := Lib.hid hr
    have HY := Lib.hid hy
    clear hr N hy
    go_wp2_with fail
    refine L.out.mono ?_
    rintro e w2 ⟨rfl, n, rfl⟩
    have hr2 : Rdd w (w1.drewN n) p s1 := ⟨HR.out.rd, HR.out.ch.drewN n⟩
    clear L
    by_cases hle : x ≤ y
    · have S := sure_r hr2.rd true
      have hd : decide (x ≤ y) = true := decide_eq_true hle
      cases hs : s1.isSome
      · rw [hs] at S
        have S := Lib.hid S
        have HS := Lib.hid hs
        have HR2 := Lib.hid hr2
        clear hs hr2
        go_wp2_with fail
        first | refine S.out.mono ?_ | (rw [hd]; refine S.out.mono ?_)
        rintro e w3 ⟨rfl, hr3⟩
        go_wp2
        go_ret
        have h0 : takeS s1 x = ([], none) := by
          have := HS.out
          cases s1 with
          | none => rfl
          | some r => simp at this
        have h1 : s1 = none := by
          have := HS.out
          cases s1 with
          | none => rfl
          | some r => simp at this
        rw [HQ.out]
        simp only [h0]
        rw [h1] at hr3
        exact ⟨rfl, by rw [h1] at HR2; exact HR2.out.trans hr3⟩
      · rw [hs] at S
        have S := Lib.hid S
        have HR2 := Lib.hid hr2
        clear hs hr2
        go_wp2_with fail
        first | refine S.out.mono ?_ | (rw [hd]; refine S.out.mono ?_)
        rintro e w3 ⟨rfl, hr3⟩
        have T := Lib.hid (take_r hr3.rd x (by omega))
        have HR3 := Lib.hid hr3
        clear hr3 S
        go_wp2_with fail
        refine T.out.mono ?_
        rintro e w4 ⟨rfl, hr4⟩
        go_wp2
        go_ret
        rw [HQ.out]
        exact ⟨rfl, (HR2.out.trans HR3.out).trans hr4⟩
    · have S := Lib.hid (sure_r hr2.rd false)
      have hd : decide (x ≤ y) = false := decide_eq_false hle
      have HR2 := Lib.hid hr2
      clear hr2
      go_wp2_with fail
      first | refine S.out.mono ?_ | (rw [hd]; refine S.out.mono ?_)
      rintro e w3 ⟨rfl, hr3⟩
      go_wp2
      go_ret
      have h0 : takeS s1 x = ([], none) := by
        have := HY.out
        cases s1 with
        | none => rfl
        | some r => exact if_neg (by simp only [leftN] at this; omega)
      rw [HQ.out]
      simp only [h0]
      exact ⟨rfl, HR2.out.trans hr3⟩
  · obtain rfl : most = (m : Int) := by omega
    clear hm1 hm
    go_enter Try.func66, Try.ntmps66
    go_wp2_with fail
    refine N.out.mono ?_
    rintro e w1 ⟨rfl, hr⟩
    have hlb := hr.rd.left_le
    have L := left_r hr.rd
    obtain ⟨y, hy⟩ : ∃ y, y = leftN s1 := ⟨_, rfl⟩
    rw [← hy] at L hlb
    have L := Lib.hid L
    have HR := Lib.hid hr
    have HY := Lib.hid hy
    clear hr N hy
    go_wp2_with fail
    refine L.out.mono ?_
    rintro e w2 ⟨rfl, n, rfl⟩
    have hr2 : Rdd w (w1.drewN n) p s1 := ⟨HR.out.rd, HR.out.ch.drewN n⟩
    clear L
    by_cases hle : x ≤ y
    · have S := sure_r hr2.rd true
      have hd : decide (x ≤ y) = true := decide_eq_true hle
      cases hs : s1.isSome
      · rw [hs] at S
        have S := Lib.hid S
        have HS := Lib.hid hs
        have HR2 := Lib.hid hr2
        clear hs hr2
        go_wp2_with fail
        first | refine S.out.mono ?_ | (rw [hd]; refine S.out.mono ?_)
        rintro e w3 ⟨rfl, hr3⟩
        go_wp2
        go_ret
        have h0 : takeS s1 x = ([], none) := by
          have := HS.out
          cases s1 with
          | none => rfl
          | some r => simp at this
        have h1 : s1 = none := by
          have := HS.out
          cases s1 with
          | none => rfl
          | some r => simp at this
        rw [HQ.out]
        simp only [h0]
        rw [h1] at hr3
        exact ⟨rfl, by rw [h1] at HR2; exact HR2.out.trans hr3⟩
      · rw [hs] at S
        have S := Lib.hid S
        have HR2 := Lib.hid hr2
        clear hs hr2
        go_wp2_with fail
        first | refine S.out.mono ?_ | (rw [hd]; refine S.out.mono ?_)
        rintro e w3 ⟨rfl, hr3⟩
        have T := Lib.hid (take_r hr3.rd x (by omega))
        have HR3 := Lib.hid hr3
        clear hr3 S
        go_wp2_with fail
        refine T.out.mono ?_
        rintro e w4 ⟨rfl, hr4⟩
        go_wp2
        go_ret
        rw [HQ.out]
        exact ⟨rfl, (HR2.out.trans HR3.out).trans hr4⟩
    · have S := Lib.hid (sure_r hr2.rd false)
      have hd : decide (x ≤ y) = false := decide_eq_false hle
      have HR2 := Lib.hid hr2
      clear hr2
      go_wp2_with fail
      first | refine S.out.mono ?_ | (rw [hd]; refine S.out.mono ?_)
      rintro e w3 ⟨rfl, hr3⟩
      go_wp2
      go_ret
      have h0 : takeS s1 x = ([], none) := by
        have := HY.out
        cases s1 with
        | none => rfl
        | some r => exact if_neg (by simp only [leftN] at this; omega)
      rw [HQ.out]
      simp only [h0]
      exact ⟨rfl, HR2.out.trans hr3⟩
end Go.Proofs.Ytfojjklohbiffaa
