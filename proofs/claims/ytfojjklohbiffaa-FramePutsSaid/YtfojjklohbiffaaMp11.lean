/- Readers: Text, Dot, Vector. -/
import Derived.Handy
import Derived.Test.YtfojjklohbiffaaMp10
namespace Go.Proofs.Ytfojjklohbiffaa
open Go.RowKit Tran Tran.Wire
set_option linter.unusedVariables false
theorem RdP.left_le {w : World} {p : Option Addr} {st : Option (List UInt8)} (h : RdP w p st) : leftN st ≤ 140737488355328 := by
  rcases h with ⟨_, rfl⟩ | ⟨g, _, s, pos, ok, hb, hp, hs, rfl⟩
  · simp [leftN]
  · cases ok
    · simp [leftN]
    · simp [leftN]; omega
theorem rnumS_none (m : Nat) : rnumS none m = (0, none) := by simp [rnumS, numS]
def rtextS (st : Option (List UInt8)) (most : Int) : List UInt8 × Option (List UInt8) := takeS (rnumS st most.toNat).2 (rnumS st most.toNat).1
theorem rnumS_zero {st : Option (List UInt8)} {m : Nat} (h : (rnumS st m).2 = none) : (rnumS st m).1 = 0 := by
  unfold rnumS at h ⊢
  split at h
  · rename_i hc
    simp only at h
    rw [if_pos hc]; simp [h]
  · rename_i hc
    rw [if_neg hc]
set_option maxRecDepth 100000 in
set_option maxHeartbeats 4000000 in
theorem rtext_r {w : World} {p : Option Addr} {st : Option (List UInt8)} (h : RdP w p st) (most : Int) (hm : most ≤ 140737488355328) :
    Calls Try.prog 66 #[.pointer p, .int .i64 most] w fun e w' => e = .returned (.string ⟨(rtextS st most).1.toArray⟩) ∧ Rdd w w' p (rtextS st most).2 := by
  obtain ⟨m, hmm⟩ : ∃ m : Nat, (m : Int) = max most 0 ∧ m = most.toNat ∧ m ≤ 140737488355328 := ⟨most.toNat, by omega, rfl, by omega⟩
  obtain ⟨hm1, hm2, hm3⟩ := hmm
  have N := Lib.hid (rnum_r h m)
  have HQ := Lib.hid (p := rtextS st most = takeS (rnumS st m).2 (rnumS st m).1) (by unfold rtextS; rw [hm2])
  have HZ := Lib.hid (fun hh => rnumS_zero (st := st) (m := m) hh)
  generalize rnumS st m = q at *
  obtain ⟨x, s1⟩ := q
  clear h hm2
  by_cases hneg : most < 0
  · have e : m = 0 := by omega
    subst e
    rw [show ((0 : Nat) : Int) = 0 from rfl] at N
    clear hm1 hm3
    go_enter Try.func66, Try.ntmps66
    go_wp2_with fail
    refine N.out.mono ?_
    rintro e w1 ⟨rfl, hr⟩
    have hlb := hr.rd.left_le
    have L := left_r hr.rd
    obtain ⟨y, hy⟩ : ∃ y, y = leftN s1 := ⟨_, rfl⟩
    rw [← hy] at L hlb
    have L := Lib.hid L
    have HR := Lib.hid hr
    have HY := Lib.hid hy
    clear hr N hy
    go_wp2_with fail
    refine L.out.mono ?_
    rintro e w2 ⟨rfl, n, rfl⟩
    have hr2 : Rdd w (w1.drewN n) p s1 := ⟨HR.out.rd, HR.out.ch.drewN n⟩
    clear L
    by_cases hle : x ≤ y
    · have S := sure_r hr2.rd true
      have hd : decide (x ≤ y) = true := decide_eq_true hle
      cases hs : s1.isSome
      · rw [hs] at S
        have S := Lib.hid S
        have HS := Lib.hid hs
        have HR2 := Lib.hid hr2
        clear hs hr2
        go_wp2_with fail
        first | refine S.out.mono ?_ | (rw [hd]; refine S.out.mono ?_)
        rintro e w3 ⟨rfl, hr3⟩
        go_wp2
        go_ret
        have h0 : takeS s1 x = ([], none) := by
          have := HS.out
          cases s1 with
          | none => rfl
          | some r => simp at this
        have h1 : s1 = none := by
          have := HS.out
          cases s1 with
          | none => rfl
          | some r => simp at this
        rw [HQ.out]
        simp only [h0]
        rw [h1] at hr3
        exact ⟨rfl, by rw [h1] at HR2; exact HR2.out.trans hr3⟩
      · rw [hs] at S
        have S := Lib.hid S
        have HR2 := Lib.hid hr2
        clear hs hr2
        go_wp2_with fail
        first | refine S.out.mono ?_ | (rw [hd]; refine S.out.mono ?_)
        rintro e w3 ⟨rfl, hr3⟩
        have T := Lib.hid (take_r hr3.rd x (by omega))
        have HR3 := Lib.hid hr3
        clear hr3 S
        go_wp2_with fail
        refine T.out.mono ?_
        rintro e w4 ⟨rfl, hr4⟩
        go_wp2
        go_ret
        rw [HQ.out]
        exact ⟨rfl, (HR2.out.trans HR3.out).trans hr4⟩
    · have S := Lib.hid (sure_r hr2.rd false)
      have hd : decide (x ≤ y) = false := decide_eq_false hle
      have HR2 := Lib.hid hr2
      clear hr2
      go_wp2_with fail
      first | refine S.out.mono ?_ | (rw [hd]; refine S.out.mono ?_)
      rintro e w3 ⟨rfl, hr3⟩
      go_wp2
      go_ret
      have h0 : takeS s1 x = ([], none) := by
        have := HY.out
        cases s1 with
        | none => rfl
        | some r => exact if_neg (by simp only [leftN] at this; omega)
      rw [HQ.out]
      simp only [h0]
      exact ⟨rfl, HR2.out.trans hr3⟩
  · obtain rfl : most = (m : Int) := by omega
    clear hm1 hm
    go_enter Try.func66, Try.ntmps66
    go_wp2_with fail
    refine N.out.mono ?_
    rintro e w1 ⟨rfl, hr⟩
    have hlb := hr.rd.left_le
    have L := left_r hr.rd
    obtain ⟨y, hy⟩ : ∃ y, y = leftN s1 := ⟨_, rfl⟩
    rw [← hy] at L hlb
    have L := Lib.hid L
    have HR := Lib.hid hr
    have HY := Lib.hid hy
    clear hr N hy
    go_wp2_with fail
    refine L.out.mono ?_
    rintro e w2 ⟨rfl, n, rfl⟩
    have hr2 : Rdd w (w1.drewN n) p s1 := ⟨HR.out.rd, HR.out.ch.drewN n⟩
    clear L
    by_cases hle : x ≤ y
    · have S := sure_r hr2.rd true
      have hd : decide (x ≤ y) = true := decide_eq_true hle
      cases hs : s1.isSome
      · rw [hs] at S
        have S := Lib.hid S
        have HS := Lib.hid hs
        have HR2 := Lib.hid hr2
        clear hs hr2
        go_wp2_with fail
        first | refine S.out.mono ?_ | (rw [hd]; refine S.out.mono ?_)
        rintro e w3 ⟨rfl, hr3⟩
        go_wp2
        go_ret
        have h0 : takeS s1 x = ([], none) := by
          have := HS.out
          cases s1 with
          | none => rfl
          | some r => simp at this
        have h1 : s1 = none := by
          have := HS.out
          cases s1 with
          | none => rfl
          | some r => simp at this
        rw [HQ.out]
        simp only [h0]
        rw [h1] at hr3
        exact ⟨rfl, by rw [h1] at HR2; exact HR2.out.trans hr3⟩
      · rw [hs] at S
        have S := Lib.hid S
        have HR2 := Lib.hid hr2
        clear hs hr2
        go_wp2_with fail
        first | refine S.out.mono ?_ | (rw [hd]; refine S.out.mono ?_)
        rintro e w3 ⟨rfl, hr3⟩
        have T := Lib.hid (take_r hr3.rd x (by omega))
        have HR3 := Lib.hid hr3
        clear hr3 S
        go_wp2_with fail
        refine T.out.mono ?_
        rintro e w4 ⟨rfl, hr4⟩
        go_wp2
        go_ret
        rw [HQ.out]
        exact ⟨rfl, (HR2.out.trans HR3.out).trans hr4⟩
    · have S := Lib.hid (sure_r hr2.rd false)
      have hd : decide (x ≤ y) = false := decide_eq_false hle
      have HR2 := Lib.hid hr2
      clear hr2
      go_wp2_with fail
      first | refine S.out.mono ?_ | (rw [hd]; refine S.out.mono ?_)
      rintro e w3 ⟨rfl, hr3⟩
      go_wp2
      go_ret
      have h0 : takeS s1 x = ([], none) := by
        have := HY.out
        cases s1 with
        | none => rfl
        | some r => exact if_neg (by simp only [leftN] at this; omega)
      rw [HQ.out]
      simp only [h0]
      exact ⟨rfl, HR2.out.trans hr3⟩
end Go.Proofs.Ytfojjklohbiffaa
/- Readers: Dot, Vector. -/
namespace Go.Proofs.Ytfojjklohbiffaa
open Go.RowKit Tran Tran.Wire
set_option linter.unusedVariables false
theorem RdP.below {w w' : World} {p : Option Addr} {st : Option (List UInt8)} (h : RdP w p st) (hb : Below w.heap.size w w') : RdP w' p st := by
  rcases h with h | ⟨g, hp, s, pos, ok, hk, h1⟩
  · exact .inl h
  · exact .inr ⟨g, hp, s, pos, ok, hk.below hb hk.lt, h1⟩
theorem Rdd.below {w w1 w2 : World} {p : Option Addr} {st : Option (List UInt8)} (h : Rdd w w1 p st) (hb : Below w1.heap.size w1 w2) : Rdd w w2 p st := ⟨h.rd.below hb, h.ch.below hb h.ch.size⟩
theorem RdP.lt {w : World} {p : Option Addr} {st : Option (List UInt8)} (h : RdP w p st) {k : Nat} (hk : p = some ⟨k, 0, none⟩) : k < w.heap.size := by
  rcases h with ⟨h, _⟩ | ⟨g, hp, s, pos, ok, hb, h1⟩
  · rw [h] at hk; cases hk
  · rw [hp] at hk; injection hk with hk; injection hk with hk; exact hk ▸ hb.lt
theorem rnumS_le (st : Option (List UInt8)) (m : Nat) : (rnumS st m).1 ≤ m := by
  unfold rnumS
  split
  · rename_i h
    simp only
    split
    · exact h.2
    · omega
  · exact Nat.zero_le _
def pickS (st : Option (List UInt8)) (x y : Value) : Value := match st with | some _ => x | none => y
set_option maxRecDepth 100000 in
set_option maxHeartbeats 4000000 in
theorem alldot_r {w : World} {p : Option Addr} {st : Option (List UInt8)} (h : RdP w p st) (a b : Nat) :
    Calls Try.prog 117 #[.pointer p, .agg #[.int .u8 a, .int .u32 b]] w fun e w' => e = .returned (pickS st (.agg #[.int .u8 a, .int .u32 b]) (.agg #[.int .u8 0, .int .u32 0])) ∧ Rdd w w' p st := by
  have l1 := (Below.refl w.heap.size w).alloc (Nat.le_refl _) (.cells #[.int .u8 a, .int .u32 b] 82)
  have l2 := l1.alloc (by simp) (.cells #[.int .u8 0, .int .u32 0] 82)
  have F := Lib.hid (fine_r (h.below l2))
  have HP := Lib.hid ((Rdd.refl h).below l2)
  have HP3 := Lib.hid ((Rdd.refl h).below (l1.alloc (by simp) (.cells #[.int .u8 a, .int .u32 b] 82)))
  clear h
  cases st with
  | none =>
    go_enter Try.func117, Try.ntmps117
    go_wp2_with fail
    refine F.out.mono ?_
    rintro e w1 ⟨rfl, rfl⟩
    go_wp2
    go_returns
    exact ⟨rfl, HP.out⟩
  | some r =>
    go_enter Try.func117, Try.ntmps117
    go_wp2_with fail
    refine F.out.mono ?_
    rintro e w1 ⟨rfl, rfl⟩
    go_wp2
    go_returns
    exact ⟨rfl, HP3.out⟩
theorem RdP.far {w : World} {p : Option Addr} {st : Option (List UInt8)} (h : RdP w p st) {q : Addr} (hq : ∀ k, p = some ⟨k, 0, none⟩ → k ≠ q.block) (u : Value) : RdP (w.setCell q u) p st := by
  rcases h with h | ⟨g, hp, s, pos, ok, hk, h1⟩
  · exact .inl h
  · exact .inr ⟨g, hp, s, pos, ok, hk.far (hq g hp) u, h1⟩
theorem Rdd.far {w w1 : World} {p : Option Addr} {st : Option (List UInt8)} (h : Rdd w w1 p st) {q : Addr} (hq : ∀ k, p = some ⟨k, 0, none⟩ → k < w.heap.size) (hl : w.heap.size ≤ q.block) (u : Value) : Rdd w (w1.setCell q u) p st :=
  ⟨h.rd.far (fun k hk => by have := hq k hk; omega) u, h.ch.setCell (.inr hl) u⟩
theorem size82 : (Try.prog.info? 82).map (·.size) = some 2 := by kernel_rfl
/-- a dot read -/
def rdotS (st : Option (List UInt8)) : (Nat × Nat) × Option (List UInt8) := (((rnumS st 255).1, (rnumS (rnumS st 255).2 4294967295).1), (rnumS (rnumS st 255).2 4294967295).2)
def dotV (st : Option (List UInt8)) : Value := pickS (rdotS st).2 (.agg #[.int .u8 ((rdotS st).1.1 : Nat), .int .u32 ((rdotS st).1.2 : Nat)]) (.agg #[.int .u8 0, .int .u32 0])
set_option maxRecDepth 100000 in
set_option maxHeartbeats 4000000 in
theorem rdot_r {w : World} {p : Option Addr} {st : Option (List UInt8)} (h : RdP w p st) :
    Calls Try.prog 67 #[.pointer p] w fun e w' => e = .returned (dotV st) ∧ Rdd w w' p (rdotS st).2 := by
  have hp := fun k => h.lt (k := k)
  have l1 := (Below.refl w.heap.size w).alloc (Nat.le_refl _) (.cells #[.int .u8 0, .int .u32 0] 82)
  have l2 := l1.alloc (by simp) (.cells #[.int .u8 0, .int .u32 0] 82)
  have r0 := (Rdd.refl h).below l2
  have hb1 := (Blk.new w 82 #[.int .u8 0, .int .u32 0]).alloc (.cells #[.int .u8 0, .int .u32 0] 82)
  have hb2 := Blk.new (w.alloc (.cells #[.int .u8 0, .int .u32 0] 82)) 82 #[.int .u8 0, .int .u32 0]
  rw [show (w.alloc (.cells #[.int .u8 0, .int .u32 0] 82)).heap.size = w.heap.size + 1 by simp] at hb2
  have N1 := rnum_r r0.rd 255
  have ha := rnumS_le st 255
  have HD : Hid (dotV st = pickS (rnumS (rnumS st 255).2 4294967295).2 (.agg #[.int .u8 ((rnumS st 255).1 : Nat), .int .u32 ((rnumS (rnumS st 255).2 4294967295).1 : Nat)]) (.agg #[.int .u8 0, .int .u32 0]) ∧ (rdotS st).2 = (rnumS (rnumS st 255).2 4294967295).2) := ⟨rfl, rfl⟩
  generalize rnumS st 255 = q1 at *
  obtain ⟨a, s1⟩ := q1
  have N1 := Lib.hid N1
  have HP := Lib.hid hp
  clear h l1 l2 hp
  go_enter Try.func67, Try.ntmps67
  go_wp2_with fail
  refine N1.out.mono ?_
  rintro e w1 ⟨rfl, r1⟩
  have r01 := r0.trans r1
  have hc1 := hb1.chg r1.ch (fun hk => by have := HP.out _ hk; omega)
  have hc2 := hb2.chg r1.ch (fun hk => by have := HP.out _ hk; omega)
  have hx0 := hc2.cell 0
  have hf0 := hc2.frozen 0
  have ha2 : a ≤ 255 := ha
  clear ha hb1 hb2 N1 r0 r1
  have rF := r01.far HP.out (q := ⟨w.heap.size + 1, 0, none⟩) (by show w.heap.size ≤ w.heap.size + 1; omega) (.int .u8 (a : Nat))
  have d1 := hc1.far (p := ⟨w.heap.size + 1, 0, none⟩) (by show w.heap.size ≠ w.heap.size + 1; omega) (.int .u8 (a : Nat))
  have d2 := hc2.set_ 0 (.int .u8 (a : Nat))
  have N2 := rnum_r rF.rd 4294967295
  have hbm := rnumS_le s1 4294967295
  generalize rnumS s1 4294967295 = q2 at *
  obtain ⟨b, s2⟩ := q2
  have N2 := Lib.hid N2
  have hbm2 : b ≤ 4294967295 := hbm
  clear hc1 hc2 hbm
  go_wp2_with fail
  refine N2.out.mono ?_
  rintro e w2 ⟨rfl, r2⟩
  have r02 := rF.trans r2
  have e1 := d1.chg r2.ch (fun hk => by have := HP.out _ hk; omega)
  have e2 := d2.chg r2.ch (fun hk => by have := HP.out _ hk; omega)
  have hy0 := e2.cell 0
  have hy1 := e2.cell 1
  have hg1 := e2.frozen 1
  have rG := r02.far HP.out (q := ⟨w.heap.size + 1, 1, none⟩) (by show w.heap.size ≤ w.heap.size + 1; omega) (.int .u32 (b : Nat))
  have f1 := e1.far (p := ⟨w.heap.size + 1, 1, none⟩) (by show w.heap.size ≠ w.heap.size + 1; omega) (.int .u32 (b : Nat))
  have AD := Lib.hid (alldot_r rG.rd a b)
  clear N2 e1 d1 d2 hx0 hf0 r2
  go_wp2_with fail
  refine AD.out.mono ?_
  rintro e w3 ⟨rfl, r3⟩
  have r03 := rG.trans r3
  have g1 := f1.chg r3.ch (fun hk => by have := HP.out _ hk; omega)
  have hz0 := g1.cell 0
  have hz1 := g1.cell 1
  have hh0 := g1.frozen 0
  have hh1 := g1.frozen 1
  have HD2 := HD.out
  clear AD e2 f1 hy0 hy1 hg1 r3 HD
  obtain ⟨hd1, hd2⟩ := HD2
  have HD1 := Lib.hid hd1
  have HD2 := Lib.hid hd2
  clear hd1 hd2
  cases s2 with
  | none =>
    have gA := g1.set_ 0 (.int .u8 0)
    have gB := gA.set_ 1 (.int .u32 0)
    simp only [pickS]
    go_wp2
    refine bodyPost_ret (results_cell_row rfl _ _ w.heap.size 82 #[.int .u8 0, .int .u32 0] (0, 0) _ rfl gB Try.underlying82 rfl size82) rfl ?_
    rw [HD1.out, HD2.out]
    exact ⟨rfl, (r03.far HP.out (by show w.heap.size ≤ w.heap.size; omega) _).far HP.out (by show w.heap.size ≤ w.heap.size; omega) _⟩
  | some r =>
    have gA := g1.set_ 0 (.int .u8 (a : Nat))
    have gB := gA.set_ 1 (.int .u32 (b : Nat))
    simp only [pickS]
    go_wp2
    refine bodyPost_ret (results_cell_row rfl _ _ w.heap.size 82 #[.int .u8 (a : Nat), .int .u32 (b : Nat)] (0, 0) _ rfl gB Try.underlying82 rfl size82) rfl ?_
    rw [HD1.out, HD2.out]
    exact ⟨rfl, (r03.far HP.out (by show w.heap.size ≤ w.heap.size; omega) _).far HP.out (by show w.heap.size ≤ w.heap.size; omega) _⟩
end Go.Proofs.Ytfojjklohbiffaa
