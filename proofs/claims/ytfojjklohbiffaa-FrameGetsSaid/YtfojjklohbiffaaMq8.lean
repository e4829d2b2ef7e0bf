/- Readers: Text, Dot, Vector. -/
import Derived.Handy
import Derived.Test.YtfojjklohbiffaaMq7
namespace Go.Proofs.Ytfojjklohbiffaa
open Go.RowKit Tran Tran.Wire
set_option linter.unusedVariables false
theorem RdP.left_le {w : World} {p : Option Addr} {st : Option (List UInt8)} (h : RdP w p st) : leftN st ≤ 140737488355328 := by
  rcases h with ⟨_, rfl⟩ | ⟨g, _, s, pos, ok, hb, hp, hs, rfl⟩
  · simp [leftN]
  · cases ok
    · simp [leftN]
    · simp [leftN]; omega
theorem rnumS_none (m : Nat) : rnumS none m = (0, none) := by simp [rnumS, numS]
def rtextS (st : Option (List UInt8)) (most : Int) : List UInt8 × Option (List UInt8) := takeS (rnumS st most.toNat).2 (rnumS st most.toNat).1
theorem rnumS_zero {st : Option (List UInt8)} {m : Nat} (h : (rnumS st m).2 = none) : (rnumS st m).1 = 0 := by
  unfold rnumS at h ⊢
  split at h
  · rename_i hc
    simp only at h
    rw [if_pos hc]; simp [h]
  · rename_i hc
    rw [if_neg hc]
set_option maxRecDepth 100000 in
set_option maxHeartbeats 4000000 in
theorem rtext_r {w : World} {p : Option Addr} {st : Option (List UInt8)} (h : RdP w p st) (most : Int) (hm : most ≤ 140737488355328) :
    Calls Try.prog 66 #[.pointer p, .int .i64 most] w fun e w' => e = .returned (.string ⟨(rtextS st most).1.toArray⟩) ∧ Rdd w w' p (rtextS st most).2 := by
  obtain ⟨m, hmm⟩ : ∃ m : Nat, (m : Int) = max most 0 ∧ m = most.toNat ∧ m ≤ 140737488355328 := ⟨most.toNat, by omega, rfl, by omega⟩
  obtain ⟨hm1, hm2, hm3⟩ := hmm
  have N := Lib.hid (rnum_r h m)
  have HQ := Lib.hid (p := rtextS st most = takeS (rnumS st m).2 (rnumS st m).1) (by unfold rtextS; rw [hm2])
  have HZ := Lib.hid (fun hh => rnumS_zero (st := st) (m := m) hh)
  generalize rnumS st m = q at *
  obtain ⟨x, s1⟩ := q
  clear h hm2
  by_cases hneg : most < 0
  · have e : m = 0 := by omega
    subst e
    rw [show ((0 : Nat) : Int) = 0 from rfl] at N
    clear hm1 hm3
    go_enter Try.func66, Try.ntmps66
    go_wp2_with fail
    refine N.out.mono ?_
    rintro e w1 ⟨rfl, hr⟩
    have hlb := hr.rd.left_le
    have L := left_r hr.rd
    obtain ⟨y, hy⟩ : ∃ y, y = leftN s1 := ⟨_, rfl⟩
    rw [← hy] at L hlb
    have L := Lib.hid L
    have HR := Lib.hid hr
    have HY := Lib.hid hy
    clear hr N hy
    go_wp2_with fail
    refine L.out.mono ?_
    rintro e w2 ⟨rfl, n, rfl⟩
    have hr2 : Rdd w (w1.drewN n) p s1 := ⟨HR.out.rd, HR.out.ch.drewN n⟩
    clear L
    by_cases hle : x ≤ y
    · have S := sure_r hr2.rd true
      have hd : decide (x ≤ y) = true := decide_eq_true hle
      cases hs : s1.isSome
      · rw [hs] at S
        have S := Lib.hid S
        have HS := Lib.hid hs
        have HR2 := Lib.hid hr2
        clear hs hr2
        go_wp2_with fail
        first | refine S.out.mono ?_ | (rw [hd]; refine S.out.mono ?_)
        rintro e w3 ⟨rfl, hr3⟩
        go_wp2
        go_ret
        have h0 : takeS s1 x = ([], none) := by
          have := HS.out
          cases s1 with
          | none => rfl
          | some r => simp at this
        have h1 : s1 = none := by
          have := HS.out
          cases s1 with
          | none => rfl
          | some r => simp at this
        rw [HQ.out]
        simp only [h0]
        rw [h1] at hr3
        exact ⟨rfl, by rw [h1] at HR2; exact HR2.out.trans hr3⟩
      · rw [hs] at S
        have S := Lib.hid S
        have HR2 := Lib.hid hr2
        clear hs hr2
        go_wp2_with fail
        first | refine S.out.mono ?_ | (rw [hd]; refine S.out.mono ?_)
        rintro e w3 ⟨rfl, hr3⟩
        have T := Lib.hid (take_r hr3.rd x (by omega))
        have HR3 := Lib.hid hr3
        clear hr3 S
        go_wp2_with fail
        refine T.out.mono ?_
        rintro e w4 ⟨rfl, hr4⟩
        go_wp2
        go_ret
        rw [HQ.out]
        exact ⟨rfl, (HR2.out.trans HR3.out).trans hr4⟩
    · have S := Lib.hid (sure_r hr2.rd false)
      have hd : decide (x ≤ y) = false := decide_eq_false hle
      have HR2 := Lib.hid hr2
      clear hr2
      go_wp2_with fail
      first | refine S.out.mono ?_ | (rw [hd]; refine S.out.mono ?_)
      rintro e w3 ⟨rfl, hr3⟩
      go_wp2
      go_ret
      have h0 : takeS s1 x = ([], none) := by
        have := HY.out
        cases s1 with
        | none => rfl
        | some r => exact if_neg (by simp only [leftN] at this; omega)
      rw [HQ.out]
      simp only [h0]
      exact ⟨rfl, HR2.out.trans hr3⟩
  · obtain rfl : most = (m : Int) := by omega
    clear hm1 hm
    go_enter Try.func66, Try.ntmps66
    go_wp2_with fail
    refine N.out.mono ?_
    rintro e w1 ⟨rfl, hr⟩
    have hlb := hr.rd.left_le
    have L := left_r hr.rd
    obtain ⟨y, hy⟩ : ∃ y, y = leftN s1 := ⟨_, rfl⟩
    rw [← hy] at L hlb
    have L := Lib.hid L
    have HR := Lib.hid hr
    have HY := Lib.hid hy
    clear hr N hy
    go_wp2_with fail
    refine L.out.mono ?_
    rintro e w2 ⟨rfl, n, rfl⟩
    have hr2 : Rdd w (w1.drewN n) p s1 := ⟨HR.out.rd, HR.out.ch.drewN n⟩
    clear L
    by_cases hle : x ≤ y
    · have S := sure_r hr2.rd true
      have hd : decide (x ≤ y) = true := decide_eq_true hle
      cases hs : s1.isSome
      · rw [hs] at S
        have S := Lib.hid S
        have HS := Lib.hid hs
        have HR2 := Lib.hid hr2
        clear hs hr2
        go_wp2_with fail
        first | refine S.out.mono ?_ | (rw [hd]; refine S.out.mono ?_)
        rintro e w3 ⟨rfl, hr3⟩
        go_wp2
        go_ret
        have h0 : takeS s1 x = ([], none) := by
          have := HS.out
          cases s1 with
          | none => rfl
          | some r => simp at this
        have h1 : s1 = none := by
          have := HS.out
          cases s1 with
          | none => rfl
          | some r => simp at this
        rw [HQ.out]
        simp only [h0]
        rw [h1] at hr3
        exact ⟨rfl, by rw [h1] at HR2; exact HR2.out.trans hr3⟩
      · rw [hs] at S
        have S := Lib.hid S
        have HR2 := Lib.hid hr2
        clear hs hr2
        go_wp2_with fail
        first | refine S.out.mono ?_ | (rw [hd]; refine S.out.mono ?_)
        rintro e w3 ⟨rfl, hr3⟩
        have T := Lib.hid (take_r hr3.rd x (by omega))
        have HR3 := Lib.hid hr3
        clear hr3 S
        go_wp2_with fail
        refine T.out.mono ?_
        rintro e w4 ⟨rfl, hr4⟩
        go_wp2
        go_ret
        rw [HQ.out]
        exact ⟨rfl, (HR2.out.trans HR3.out).trans hr4⟩
    · have S := Lib.hid (sure_r hr2.rd false)
      have hd : decide (x ≤ y) = false := decide_eq_false hle
      have HR2 := Lib.hid hr2
      clear hr2
      go_wp2_with fail
      first | refine S.out.mono ?_ | (rw [hd]; refine S.out.mono ?_)
      rintro e w3 ⟨rfl, hr3⟩
      go_wp2
      go_ret
      have h0 : takeS s1 x = ([], none) := by
        have := HY.out
        cases s1 with
        | none => rfl
        | some r => exact if_neg (by simp only [leftN] at this; omega)
      rw [HQ.out]
      simp only [h0]
      exact ⟨rfl, HR2.out.trans hr3⟩
end Go.Proofs.Ytfojjklohbiffaa
/- Readers: Dot, Vector. -/
namespace Go.Proofs.Ytfojjklohbiffaa
open Go.RowKit Tran Tran.Wire
set_option linter.unusedVariables false
theorem RdP.below {w w' : World} {p : Option Addr} {st : Option (List UInt8)} (h : RdP w p st) (hb : Below w.heap.size w w') : RdP w' p st := by
  rcases h with h | ⟨g, hp, s, pos, ok, hk, h1⟩
  · exact .inl h
  · exact .inr ⟨g, hp, s, pos, ok, hk.below hb hk.lt, h1⟩
theorem Rdd.below {w w1 w2 : World} {p : Option Addr} {st : Option (List UInt8)} (h : Rdd w w1 p st) (hb : Below w1.heap.size w1 w2) : Rdd w w2 p st := ⟨h.rd.below hb, h.ch.below hb h.ch.size⟩
theorem RdP.lt {w : World} {p : Option Addr} {st : Option (List UInt8)} (h : RdP w p st) {k : Nat} (hk : p = some ⟨k, 0, none⟩) : k < w.heap.size := by
  rcases h with ⟨h, _⟩ | ⟨g, hp, s, pos, ok, hb, h1⟩
  · rw [h] at hk; cases hk
  · rw [hp] at hk; injection hk with hk; injection hk with hk; exact hk ▸ hb.lt
theorem rnumS_le (st : Option (List UInt8)) (m : Nat) : (rnumS st m).1 ≤ m := by
  unfold rnumS
  split
  · rename_i h
    simp only
    split
    · exact h.2
    · omega
  · exact Nat.zero_le _
def pickS (st : Option (List UInt8)) (x y : Value) : Value := match st with | some _ => x | none => y
set_option maxRecDepth 100000 in
set_option maxHeartbeats 4000000 in
theorem alldot_r {w : World} {p : Option Addr} {st : Option (List UInt8)} (h : RdP w p st) (a b : Nat) :
    Calls Try.prog 117 #[.pointer p, .agg #[.int .u8 a, .int .u32 b]] w fun e w' => e = .returned (pickS st (.agg #[.int .u8 a, .int .u32 b]) (.agg #[.int .u8 0, .int .u32 0])) ∧ Rdd w w' p st := by
  have l1 := (Below.refl w.heap.size w).alloc (Nat.le_refl _) (.cells #[.int .u8 a, .int .u32 b] 82)
  have l2 := l1.alloc (by simp) (.cells #[.int .u8 0, .int .u32 0] 82)
  have F := Lib.hid (fine_r (h.below l2))
  have HP := Lib.hid ((Rdd.refl h).below l2)
  have HP3 := Lib.hid ((Rdd.refl h).below (l1.alloc (by simp) (.cells #[.int .u8 a, .int .u32 b] 82)))
  clear h
  cases st with
  | none =>
    go_enter Try.func117, Try.ntmps117
    go_wp2_with fail
    refine F.out.mono ?_
    rintro e w1 ⟨rfl, rfl⟩
    go_wp2
    go_returns
    exact ⟨rfl, HP.out⟩
  | some r =>
    go_enter Try.func117, Try.ntmps117
    go_wp2_with fail
    refine F.out.mono ?_
    rintro e w1 ⟨rfl, rfl⟩
    go_wp2
    go_returns
    exact ⟨rfl, HP3.out⟩
theorem RdP.far {w : World} {p : Option Addr} {st : Option (List UInt8)} (h : RdP w p st) {q : Addr} (hq : ∀ k, p = some ⟨k, 0, none⟩ → k ≠ q.block) (u : Value) : RdP (w.setCell q u) p st := by
  rcases h with h | ⟨g, hp, s, pos, ok, hk, h1⟩
  · exact .inl h
  · exact .inr ⟨g, hp, s, pos, ok, hk.far (hq g hp) u, h1⟩
theorem Rdd.far {w w1 : World} {p : Option Addr} {st : Option (List UInt8)} (h : Rdd w w1 p st) {q : Addr} (hq : ∀ k, p = some ⟨k, 0, none⟩ → k < w.heap.size) (hl : w.heap.size ≤ q.block) (u : Value) : Rdd w (w1.setCell q u) p st :=
  ⟨h.rd.far (fun k hk => by have := hq k hk; omega) u, h.ch.setCell (.inr hl) u⟩
theorem size82 : (Try.prog.info? 82).map (·.size) = some 2 := by kernel_rfl
/-- a dot read -/
def rdotS (st : Option (List UInt8)) : (Nat × Nat) × Option (List UInt8) := (((rnumS st 255).1, (rnumS (rnumS st 255).2 4294967295).1), (rnumS (rnumS st 255).2 4294967295).2)
def dotV (st : Option (List UInt8)) : Value := pickS (rdotS st).2 (.agg #[.int .u8 ((rdotS st).1.1 : Nat), .int .u32 ((rdotS st).1.2 : Nat)]) (.agg #[.int .u8 0, .int .u32 0])
set_option maxRecDepth 100000 in
set_option maxHeartbeats 4000000 in
theorem rdot_r {w : World} {p : Option Addr} {st : Option (List UInt8)} (h : RdP w p st) :
    Calls Try.prog 67 #[.pointer p] w fun e w' => e = .returned (dotV st) ∧ Rdd w w' p (rdotS st).2 := by
  have hp := fun k => h.lt (k := k)
  have l1 := (Below.refl w.heap.size w).alloc (Nat.le_refl _) (.cells #[.int .u8 0, .int .u32 0] 82)
  have l2 := l1.alloc (by simp) (.cells #[.int .u8 0, .int .u32 0] 82)
  have r0 := (Rdd.refl h).below l2
  have hb1 := (Blk.new w 82 #[.int .u8 0, .int .u32 0]).alloc (.cells #[.int .u8 0, .int .u32 0] 82)
  have hb2 := Blk.new (w.alloc (.cells #[.int .u8 0, .int .u32 0] 82)) 82 #[.int .u8 0, .int .u32 0]
  rw [show (w.alloc (.cells #[.int .u8 0, .int .u32 0] 82)).heap.size = w.heap.size + 1 by simp] at hb2
  have N1 := rnum_r r0.rd 255
  have ha := rnumS_le st 255
  have HD : Hid (dotV st = pickS (rnumS (rnumS st 255).2 4294967295).2 (.agg #[.int .u8 ((rnumS st 255).1 : Nat), .int .u32 ((rnumS (rnumS st 255).2 4294967295).1 : Nat)]) (.agg #[.int .u8 0, .int .u32 0]) ∧ (rdotS st).2 = (rnumS (rnumS st 255).2 4294967295).2) := ⟨rfl, rfl⟩
  generalize rnumS st 255 = q1 at *
  obtain ⟨a, s1⟩ := q1
  have N1 := Lib.hid N1
  have HP := Lib.hid hp
  clear h l1 l2 hp
  go_enter Try.func67, Try.ntmps67
  go_wp2_with fail
  refine N1.out.mono ?_
  rintro e w1 ⟨rfl, r1⟩
  have r01 := r0.trans r1
  have hc1 := hb1.chg r1.ch (fun hk => by have := HP.out _ hk; omega)
  have hc2 := hb2.chg r1.ch (fun hk => by have := HP.out _ hk; omega)
  have hx0 := hc2.cell 0
  have hf0 := hc2.frozen 0
  have ha2 : a ≤ 255 := ha
  clear ha hb1 hb2 N1 r0 r1
  have rF := r01.far HP.out (q := ⟨w.heap.size + 1, 0, none⟩) (by show w.heap.size ≤ w.heap.size + 1; omega) (.int .u8 (a : Nat))
  have d1 := hc1.far (p := ⟨w.heap.size + 1, 0, none⟩) (by show w.heap.size ≠ w.heap.size + 1; omega) (.int .u8 (a : Nat))
  have d2 := hc2.set_ 0 (.int .u8 (a : Nat))
  have N2 := rnum_r rF.rd 4294967295
  have hbm := rnumS_le s1 4294967295
  generalize rnumS s1 4294967295 = q2 at *
  obtain ⟨b, s2⟩ := q2
  have N2 := Lib.hid N2
  have hbm2 : b ≤ 4294967295 := hbm
  clear hc1 hc2 hbm
  go_wp2_with fail
  refine N2.out.mono ?_
  rintro e w2 ⟨rfl, r2⟩
  have r02 := rF.trans r2
  have e1 := d1.chg r2.ch (fun hk => by have := HP.out _ hk; omega)
  have e2 := d2.chg r2.ch (fun hk => by have := HP.out _ hk; omega)
  have hy0 := e2.cell 0
  have hy1 := e2.cell 1
  have hg1 := e2.frozen 1
  have rG := r02.far HP.out (q := ⟨w.heap.size + 1, 1, none⟩) (by show w.heap.size ≤ w.heap.size + 1; omega) (.int .u32 (b : Nat))
  have f1 := e1.far (p := ⟨w.heap.size + 1, 1, none⟩) (by show w.heap.size ≠ w.heap.size + 1; omega) (.int .u32 (b : Nat))
  have AD := Lib.hid (alldot_r rG.rd a b)
  clear N2 e1 d1 d2 hx0 hf0 r2
  go_wp2_with fail
  refine AD.out.mono ?_
  rintro e w3 ⟨rfl, r3⟩
  have r03 := rG.trans r3
  have g1 := f1.chg r3.ch (fun hk => by have := HP.out _ hk; omega)
  have hz0 := g1.cell 0
  have hz1 := g1.cell 1
  have hh0 := g1.frozen 0
  have hh1 := g1.frozen 1
  have HD2 := HD.out
  clear AD e2 f1 hy0 hy1 hg1 r3 HD
  obtain ⟨hd1, hd2⟩ := HD2
  have HD1 := Lib.hid hd1
  have HD2 := Lib.hid hd2
  clear hd1 hd2
  cases s2 with
  | none =>
    have gA := g1.set_ 0 (.int .u8 0)
    have gB := gA.set_ 1 (.int .u32 0)
    simp only [pickS]
    go_wp2
    refine bodyPost_ret (results_cell_row rfl _ _ w.heap.size 82 #[.int .u8 0, .int .u32 0] (0, 0) _ rfl gB Try.underlying82 rfl size82) rfl ?_
    rw [HD1.out, HD2.out]
    exact ⟨rfl, (r03.far HP.out (by show w.heap.size ≤ w.heap.size; omega) _).far HP.out (by show w.heap.size ≤ w.heap.size; omega) _⟩
  | some r =>
    have gA := g1.set_ 0 (.int .u8 (a : Nat))
    have gB := gA.set_ 1 (.int .u32 (b : Nat))
    simp only [pickS]
    go_wp2
    refine bodyPost_ret (results_cell_row rfl _ _ w.heap.size 82 #[.int .u8 (a : Nat), .int .u32 (b : Nat)] (0, 0) _ rfl gB Try.underlying82 rfl size82) rfl ?_
    rw [HD1.out, HD2.out]
    exact ⟨rfl, (r03.far HP.out (by show w.heap.size ≤ w.heap.size; omega) _).far HP.out (by show w.heap.size ≤ w.heap.size; omega) _⟩
end Go.Proofs.Ytfojjklohbiffaa
/- Readers: Vector. -/
namespace Go.Proofs.Ytfojjklohbiffaa
open Go.RowKit Tran Tran.Wire
set_option linter.unusedVariables false
def zer8 : List Nat := [0, 0, 0, 0, 0, 0, 0, 0]
theorem vecA_one (xs : List Nat) : (vecA xs).all (·.oneCell') = true := by
  rw [Array.all_eq_true]; intro i hi; simp [vecA, Value.oneCell']
def z8 : Array Value := #[.int .u32 0, .int .u32 0, .int .u32 0, .int .u32 0, .int .u32 0, .int .u32 0, .int .u32 0, .int .u32 0]
theorem z8_eq : z8 = vecA zer8 := rfl
theorem z8_size : z8.size = 8 := rfl
theorem z8_one : z8.all (·.oneCell') = true := by rw [z8_eq]; exact vecA_one _
theorem Rdd.row {w w1 : World} {p : Option Addr} {st : Option (List UInt8)} (h : Rdd w w1 p st) {g : Nat} (hq : ∀ k, p = some ⟨k, 0, none⟩ → k < w.heap.size) (hl : w.heap.size ≤ g) (cs : Array Value) : Rdd w (w1.setRow g cs) p st := by
  refine ⟨?_, h.ch.setRow (.inr hl) cs⟩
  rcases h.rd with h1 | ⟨k, hp, s, pos, ok, hk, h1⟩
  · exact .inl h1
  · exact .inr ⟨k, hp, s, pos, ok, hk.rowFar (by have := hq k hp; omega) cs, h1⟩
set_option maxRecDepth 100000 in
set_option maxHeartbeats 4000000 in
theorem allvec_r {w : World} {p : Option Addr} {st : Option (List UInt8)} (h : RdP w p st) (xs : List Nat) (hx : xs.length = 8) :
    Calls Try.prog 118 #[.pointer p, .agg (vecA xs)] w fun e w' => e = .returned (pickS st (.agg (vecA xs)) (.agg (vecA zer8))) ∧ Rdd w w' p st := by
  have hvs := vecA_size xs
  rw [hx] at hvs
  have hlt := fun k => h.lt (k := k)
  have l1 := (Below.refl w.heap.size w).alloc (Nat.le_refl _) (.cells (vecA xs) 54)
  have l2 := l1.alloc (by simp) (.cells z8 54)
  have hb1 := (Blk.new w 54 (vecA xs)).alloc (.cells z8 54)
  have hb2 := Blk.new (w.alloc (.cells (vecA xs) 54)) 54 z8
  rw [show (w.alloc (.cells (vecA xs) 54)).heap.size = w.heap.size + 1 by simp] at hb2
  have r0 := (Rdd.refl h).below l2
  have F := Lib.hid (fine_r r0.rd)
  clear hx h
  cases st with
  | none =>
    go_enter Try.func118, Try.ntmps118
    go_wp2_with fail
    refine F.out.mono ?_
    rintro e w1 ⟨rfl, rfl⟩
    go_wp2_with (first
      | (refine wpList_load_row rfl 54 _ rfl (w.heap.size + 1) rfl 54 z8 (0, 0) _ hb2 Try.underlying54 rfl (by rw [z8_size]; exact size54) ?_)
      | (refine wpList_store_row rfl 54 _ _ rfl (w.heap.size + 1) z8 rfl rfl 54 z8 hb2 (by rw [z8_size]; exact size54) (by rfl) z8_one ?_))
    refine bodyPost_ret (results_cell_row rfl _ _ (w.heap.size + 1) 54 z8 (0, 0) _ rfl (hb2.row _) Try.underlying54 rfl (by rw [z8_size]; exact size54)) rfl ?_
    exact ⟨rfl, r0.row hlt (by omega) _⟩
  | some r =>
    go_enter Try.func118, Try.ntmps118
    go_wp2_with fail
    refine F.out.mono ?_
    rintro e w1 ⟨rfl, rfl⟩
    go_wp2_with (first
      | (refine wpList_load_row rfl 54 _ rfl w.heap.size rfl 54 (vecA xs) (0, 0) _ hb1 Try.underlying54 rfl (by rw [hvs]; exact size54) ?_)
      | (refine wpList_store_row rfl 54 _ _ rfl (w.heap.size + 1) (vecA xs) rfl rfl 54 z8 hb2 (by rw [hvs]; exact size54) (by rw [hvs]; rfl) (vecA_one xs) ?_)
      | (refine wpList_load_row rfl 54 _ rfl (w.heap.size + 1) rfl 54 (vecA xs) (0, 0) _ (hb2.row _) Try.underlying54 rfl (by rw [hvs]; exact size54) ?_)
      | (refine wpList_store_row rfl 54 _ _ rfl (w.heap.size + 1) (vecA xs) rfl rfl 54 (vecA xs) (hb2.row _) (by rw [hvs]; exact size54) rfl (vecA_one xs) ?_))
    refine bodyPost_ret (results_cell_row rfl _ _ (w.heap.size + 1) 54 (vecA xs) (0, 0) _ rfl ((hb2.row _).row _) Try.underlying54 rfl (by rw [hvs]; exact size54)) rfl ?_
    exact ⟨rfl, (r0.row hlt (by omega) _).row hlt (by omega) _⟩
/-- k numbers read -/
def rvecS (st : Option (List UInt8)) : Nat → List Nat × Option (List UInt8)
  | 0 => ([], st)
  | k + 1 => ((rvecS st k).1 ++ [(rnumS (rvecS st k).2 4294967295).1], (rnumS (rvecS st k).2 4294967295).2)
theorem rvecS_len (st : Option (List UInt8)) : ∀ k, (rvecS st k).1.length = k
  | 0 => rfl
  | k + 1 => by simp [rvecS, rvecS_len st k]
def vecAt (l : List Nat) (k : Nat) : List Nat := l ++ List.replicate (8 - k) 0
theorem vecAt_set (l : List Nat) (k x : Nat) (hl : l.length = k) (hk : k < 8) : (vecA (vecAt l k)).setIfInBounds k (.int .u32 (x : Nat)) = vecA (vecAt (l ++ [x]) (k + 1)) := by
  have e : (vecAt l k).set k x = vecAt (l ++ [x]) (k + 1) := by
    unfold vecAt
    rw [List.set_append, if_neg (by omega), hl, Nat.sub_self, show 8 - k = (8 - (k + 1)) + 1 by omega, List.replicate_succ, List.set_cons_zero, List.append_assoc]
    rfl
  rw [← e]
  apply Array.ext'
  simp [vecA, List.map_set]
theorem vecAt_len (l : List Nat) (k : Nat) (hl : l.length = k) (hk : k ≤ 8) : (vecAt l k).length = 8 := by simp [vecAt]; omega
/-- a vector read -/
def vecV (st : Option (List UInt8)) : Value := pickS (rvecS st 8).2 (.agg (vecA (rvecS st 8).1)) (.agg (vecA zer8))
set_option maxRecDepth 100000 in
set_option maxHeartbeats 4000000 in
theorem rvec_r {w : World} {p : Option Addr} {st : Option (List UInt8)} (h : RdP w p st) :
    Calls Try.prog 68 #[.pointer p] w fun e w' => e = .returned (vecV st) ∧ Rdd w w' p (rvecS st 8).2 := by
  have hp := fun k => h.lt (k := k)
  have l1 := (Below.refl w.heap.size w).alloc (Nat.le_refl _) (.cells z8 54)
  have l2 := l1.alloc (by simp) (.cells z8 54)
  have r0 := (Rdd.refl h).below l2
  have hb1 := (Blk.new w 54 z8).alloc (.cells z8 54)
  have hb2 := Blk.new (w.alloc (.cells z8 54)) 54 z8
  rw [show (w.alloc (.cells z8 54)).heap.size = w.heap.size + 1 by simp] at hb2
  have HP := Lib.hid hp
  clear h l1 l2 hp
  go_enter Try.func68, Try.ntmps68
  go_wp2_with fail
  go_loopw [4, 5] (fun u i wr => ∃ k : Nat, k ≤ 8 ∧ i = .int .i64 k ∧ Rdd w wr p (rvecS st k).2 ∧ Blk wr w.heap.size 54 z8 ∧ Blk wr (w.heap.size + 1) 54 (vecA (vecAt (rvecS st k).1 k))) (fun _ i _ => 8 - (intOf i).toNat)
  case atStart => exact ⟨0, by omega, rfl, r0, hb1, hb2⟩
  case round =>
    clear r0 hb1 hb2
    obtain ⟨k, hk, rfl, r, b1, b2⟩ := hrel
    by_cases hk8 : k < 8
    · have N := rnum_r r.rd 4294967295
      have hm := rnumS_le (rvecS st k).2 4294967295
      have hl := rvecS_len st k
      have hs1 : (rvecS st (k + 1)).1 = (rvecS st k).1 ++ [(rnumS (rvecS st k).2 4294967295).1] := rfl
      have hs2 : (rvecS st (k + 1)).2 = (rnumS (rvecS st k).2 4294967295).2 := rfl
      have H1 := Lib.hid hs1; have H2 := Lib.hid hs2
      clear hs1 hs2
      generalize rnumS (rvecS st k).2 4294967295 = q at *
      generalize (rvecS st k).1 = l at *
      obtain ⟨x, s2⟩ := q
      have N := Lib.hid N
      have hx : x ≤ 4294967295 := hm
      have HL := Lib.hid hl
      clear hm hl
      go_wp2_with fail
      refine N.out.mono ?_
      rintro e w2 ⟨rfl, r2⟩
      have r3 := r.trans r2
      have c1 := b1.chg r2.ch (fun hk => by have := HP.out _ hk; omega)
      have c2 := b2.chg r2.ch (fun hk => by have := HP.out _ hk; omega)
      have hv : (vecA (vecAt l k)).size = 8 := by rw [vecA_size]; exact vecAt_len l k HL.out hk
      have hcc : ∃ u, w2.cell? ⟨w.heap.size + 1, k, none⟩ = some u := ⟨_, (c2.cell k).trans (Array.getElem?_eq_getElem (by rw [hv]; exact hk8))⟩
      obtain ⟨u0, hcc⟩ := hcc
      have hff := c2.frozen k
      have c3 := c2.set_ k (.int .u32 (x : Nat))
      rw [vecAt_set l k x HL.out hk8] at c3
      clear N r r2 b1 b2 hv
      go_wp2
      go_roundw
      case rel =>
        refine ⟨k + 1, hk8, by go_num, ?_, c1.far (by show w.heap.size ≠ w.heap.size + 1; omega) _, ?_⟩
        · rw [H2.out]; exact r3.far HP.out (by show w.heap.size ≤ w.heap.size + 1; omega) _
        · rw [H1.out]; exact c3
      case measure => simp [intOf]; omega
    · obtain rfl : k = 8 := by omega
      have e8 : vecAt (rvecS st 8).1 8 = (rvecS st 8).1 := by simp [vecAt]
      rw [e8] at b2
      have hl8 := rvecS_len st 8
      have HV : Hid (vecV st = pickS (rvecS st 8).2 (.agg (vecA (rvecS st 8).1)) (.agg (vecA zer8))) := rfl
      obtain ⟨q, hq⟩ : ∃ q, q = rvecS st 8 := ⟨_, rfl⟩
      rw [← hq] at r b2 hl8 HV
      obtain ⟨l, s8⟩ := q
      have HQ := Lib.hid hq
      clear hq
      have hl8' : l.length = 8 := hl8
      have hv : (vecA l).size = 8 := by rw [vecA_size]; exact hl8'
      have A := Lib.hid (allvec_r r.rd l hl8')
      have HH := Lib.hid hl8'
      clear hl8 hl8' e8
      go_wp2_with (refine wpList_load_row rfl 54 _ rfl (w.heap.size + 1) rfl 54 (vecA l) (0, 0) _ b2 Try.underlying54 rfl (by rw [hv]; exact size54) ?_)
      refine A.out.mono ?_
      rintro e w2 ⟨rfl, r2⟩
      have r3 := r.trans r2
      have c1 := b1.chg r2.ch (fun hk => by have := HP.out _ hk; omega)
      cases s8 with
      | none =>
        simp only [pickS]
        go_wp2_with (refine wpList_store_row rfl 54 _ _ rfl w.heap.size (vecA zer8) rfl rfl 54 z8 c1 size54 rfl (vecA_one _) ?_)
        refine bodyPost_ret (results_cell_row rfl _ _ w.heap.size 54 (vecA zer8) (0, 0) _ rfl (c1.row _) Try.underlying54 rfl size54) rfl ?_
        rw [HV.out, ← HQ.out]
        exact ⟨rfl, r3.row HP.out (Nat.le_refl _) _⟩
      | some r8 =>
        simp only [pickS]
        go_wp2_with (refine wpList_store_row rfl 54 _ _ rfl w.heap.size (vecA l) rfl rfl 54 z8 c1 (by rw [hv]; exact size54) (by rw [hv]; rfl) (vecA_one _) ?_)
        refine bodyPost_ret (results_cell_row rfl _ _ w.heap.size 54 (vecA l) (0, 0) _ rfl (c1.row _) Try.underlying54 rfl (by rw [hv]; exact size54)) rfl ?_
        rw [HV.out, ← HQ.out]
        exact ⟨rfl, r3.row HP.out (Nat.le_refl _) _⟩
end Go.Proofs.Ytfojjklohbiffaa
/- Known answers of layer 2 (law02.none, head). -/
namespace Go.Proofs.Ytfojjklohbiffaa
open Go.RowKit Tran Tran.Wire
set_option linter.unusedVariables false
theorem Rdd.toBelow {w w' : World} {g : Nat} {st : Option (List UInt8)} {B : Nat} (h : Rdd w w' (some ⟨g, 0, none⟩) st) (hg : B ≤ g) (hB : B ≤ w.heap.size) : Below B w w' :=
  h.ch.toBelow hB (fun k _ hk => by injection hk with hk; injection hk with hk; omega)
set_option maxRecDepth 100000 in
set_option maxHeartbeats 4000000 in
theorem none02_any (w : World) (s : List UInt8) (hs : s.length ≤ 100) (most : Nat) (hn : rnumS (some s) most = (0, none)) :
    Calls Try.prog 108 #[.string ⟨s.toArray⟩, .int .u64 most] w fun e w' => e = .returned (.bool true) ∧ Below w.heap.size w w' := by
  have HN := Lib.hid hn
  clear hn
  go_enter Try.func108, Try.ntmps108
  go_wp2_with fail
  refine (open_r w (by omega)).mono ?_
  rintro e w1 ⟨rfl, r1, hw⟩
  have b1 : Below w.heap.size w w1 := by rw [hw]; exact (Below.refl _ _).alloc (Nat.le_refl _) _
  clear hw
  have N := rnum_r r1 most
  rw [HN.out] at N
  have N := Lib.hid N
  clear r1
  go_wp2_with fail
  refine N.out.mono ?_
  rintro e w2 ⟨rfl, r2⟩
  have b2 := b1.trans (r2.toBelow (Nat.le_refl _) b1.size)
  have F := Lib.hid (fine_r r2.rd)
  have L := Lib.hid (left_r r2.rd)
  clear N
  go_wp2_with fail
  refine F.out.mono ?_
  rintro e w3 ⟨rfl, rfl⟩
  go_wp2_with fail
  refine L.out.mono ?_
  rintro e w3 ⟨rfl, n, rfl⟩
  have E := Lib.hid (end_r (w := w2.drewN n) (p := some ⟨w.heap.size, 0, none⟩) (st := none) r2.rd (by simp [leftN]))
  clear F L
  go_wp2_with fail
  refine E.out.mono ?_
  rintro e w3 ⟨rfl, m, hm⟩
  have r3 : RdP w3 (some ⟨w.heap.size, 0, none⟩) none := by rw [hm]; exact r2.rd
  have b3 : Below w.heap.size w w3 := by rw [hm]; exact below_drewN (below_drewN b2 n) m
  have T := rtext_r r3 9 (by omega)
  rw [show rtextS none 9 = ([], none) from rfl] at T
  have T := Lib.hid T
  clear E hm r2
  go_wp2_with fail
  refine T.out.mono ?_
  rintro e w4 ⟨rfl, r4⟩
  have b4 := b3.trans (r4.toBelow (Nat.le_refl _) b3.size)
  go_wp2
  go_ret
  exact ⟨rfl, b4⟩
end Go.Proofs.Ytfojjklohbiffaa
/- Known values of layer 2, and what keeps a reader. -/
namespace Go.Proofs.Ytfojjklohbiffaa
open Go.RowKit Tran Tran.Wire
set_option linter.unusedVariables false
theorem nf5 : numF 5 = [5] := by simp [numF]
theorem nf127 : numF 127 = [127] := by simp [numF]
theorem nf128 : numF 128 = [129, 128] := by simp [numF, dig]
theorem nf256 : numF 256 = [130, 1, 0] := by simp [numF, dig]
theorem nfmax : numF 18446744073709551615 = [136, 255, 255, 255, 255, 255, 255, 255, 255] := by simp [numF, dig]
theorem tf_ab : textF [97, 98] = [2, 97, 98] := by simp [textF, numF]
theorem df_3 : dotF 3 300 = [3, 130, 1, 44] := by simp [dotF, numF, dig]
theorem rt_ab : rtextS (some [2, 97, 98, 3, 130, 1, 44]) 2 = ([97, 98], some [3, 130, 1, 44]) := by decide
theorem rd_3 : rdotS (some [3, 130, 1, 44]) = ((3, 300), some []) := by decide
theorem nn1 : rnumS (some [129, 5]) 18446744073709551615 = (0, none) := by decide
theorem nn2 : rnumS (some [130, 0, 255]) 18446744073709551615 = (0, none) := by decide
theorem nn3 : rnumS (some [137]) 18446744073709551615 = (0, none) := by decide
theorem nn4 : rnumS (some [128]) 18446744073709551615 = (0, none) := by decide
theorem nn5 : rnumS (some [129]) 18446744073709551615 = (0, none) := by decide
theorem nn6 : rnumS (some [5]) 4 = (0, none) := by decide
theorem RdP.chg {w w' : World} {p : Option Addr} {st : Option (List UInt8)} {S : Nat → Prop} (h : RdP w p st) (hc : Chg S w w') (hn : ∀ k, p = some ⟨k, 0, none⟩ → ¬ S k) : RdP w' p st := by
  rcases h with h | ⟨g, hp, s, pos, ok, hk, h1⟩
  · exact .inl h
  · exact .inr ⟨g, hp, s, pos, ok, hk.chg hc (hn g hp), h1⟩
theorem own_ne_rd {w : World} {B n : Nat} {v : Value} {xs : List Value} {g : Nat} {st : Option (List UInt8)} (ho : Own w B 5 1 v n xs) (h : RdP w (some ⟨g, 0, none⟩) st) : blkOf v ≠ some g := by
  rcases h with ⟨h, _⟩ | ⟨k, hp, s, pos, ok, hk, _⟩
  · cases h
  · injection hp with hp; injection hp with hp; subst hp
    exact ho.ne_ hk (by decide)
end Go.Proofs.Ytfojjklohbiffaa
