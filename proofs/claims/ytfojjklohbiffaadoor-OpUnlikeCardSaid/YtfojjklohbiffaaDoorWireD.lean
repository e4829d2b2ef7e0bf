/- Readers: Dot, Vector. -/
import Derived.Test.YtfojjklohbiffaaDoorWireT
import Derived.Handy
namespace Go.Proofs.YtfojjklohbiffaaDoor
open Go.RowKit Tran Tran.Wire
set_option linter.unusedVariables false
theorem RdP.below {w w' : World} {p : Option Addr} {st : Option (List UInt8)} (h : RdP w p st) (hb : Below w.heap.size w w') : RdP w' p st := by
  rcases h with h | ⟨g, hp, s, pos, ok, hk, h1⟩
  · exact .inl h
  · exact .inr ⟨g, hp, s, pos, ok, hk.below hb hk.lt, h1⟩
theorem Rdd.below {w w1 w2 : World} {p : Option Addr} {st : Option (List UInt8)} (h : Rdd w w1 p st) (hb : Below w1.heap.size w1 w2) : Rdd w w2 p st := ⟨h.rd.below hb, h.ch.below hb h.ch.size⟩
theorem RdP.lt {w : World} {p : Option Addr} {st : Option (List UInt8)} (h : RdP w p st) {k : Nat} (hk : p = some ⟨k, 0, none⟩) : k < w.heap.size := by
  rcases h with ⟨h, _⟩ | ⟨g, hp, s, pos, ok, hb, h1⟩
  · rw [h] at hk; cases hk
  · rw [hp] at hk; injection hk with hk; injection hk with hk; exact hk ▸ hb.lt
theorem rnumS_le (st : Option (List UInt8)) (m : Nat) : (rnumS st m).1 ≤ m := by
  unfold rnumS
  split
  · rename_i h
    simp only
    split
    · exact h.2
    · omega
  · exact Nat.zero_le _
def pickS (st : Option (List UInt8)) (x y : Value) : Value := match st with | some _ => x | none => y
set_option maxRecDepth 100000 in
set_option maxHeartbeats 4000000 in
theorem alldot_r {w : World} {p : Option Addr} {st : Option (List UInt8)} (h : RdP w p st) (a b : Nat) :
    Calls Tryd.prog 52 #[.pointer p, .agg #[.int .u8 a, .int .u32 b]] w fun e w' => e = .returned (pickS st (.agg #[.int .u8 a, .int .u32 b]) (.agg #[.int .u8 0, .int .u32 0])) ∧ Rdd w w' p st := by
  have l1 := (Below.refl w.heap.size w).alloc (Nat.le_refl _) (.cells #[.int .u8 a, .int .u32 b] 24)
  have l2 := l1.alloc (by simp) (.cells #[.int .u8 0, .int .u32 0] 24)
  have F := Lib.hid (fine_r (h.below l2))
  have HP := Lib.hid ((Rdd.refl h).below l2)
  have HP3 := Lib.hid ((Rdd.refl h).below (l1.alloc (by simp) (.cells #[.int .u8 a, .int .u32 b] 24)))
  clear h
  cases st with
  | none =>
    go_enter Tryd.func52, Tryd.ntmps52
    go_wp2_with fail
    refine F.out.mono ?_
    rintro e w1 ⟨rfl, rfl⟩
    go_wp2
    go_returns
    exact ⟨rfl, HP.out⟩
  | some r =>
    go_enter Tryd.func52, Tryd.ntmps52
    go_wp2_with fail
    refine F.out.mono ?_
    rintro e w1 ⟨rfl, rfl⟩
    go_wp2
    go_returns
    exact ⟨rfl, HP3.out⟩
theorem RdP.far {w : World} {p : Option Addr} {st : Option (List UInt8)} (h : RdP w p st) {q : Addr} (hq : ∀ k, p = some ⟨k, 0, none⟩ → k ≠ q.block) (u : Value) : RdP (w.setCell q u) p st := by
  rcases h with h | ⟨g, hp, s, pos, ok, hk, h1⟩
  · exact .inl h
  · exact .inr ⟨g, hp, s, pos, ok, hk.far (hq g hp) u, h1⟩
theorem Rdd.far {w w1 : World} {p : Option Addr} {st : Option (List UInt8)} (h : Rdd w w1 p st) {q : Addr} (hq : ∀ k, p = some ⟨k, 0, none⟩ → k < w.heap.size) (hl : w.heap.size ≤ q.block) (u : Value) : Rdd w (w1.setCell q u) p st :=
  ⟨h.rd.far (fun k hk => by have := hq k hk; omega) u, h.ch.setCell (.inr hl) u⟩
theorem size82 : (Tryd.prog.info? 24).map (·.size) = some 2 := by kernel_rfl
/-- a dot read -/
def rdotS (st : Option (List UInt8)) : (Nat × Nat) × Option (List UInt8) := (((rnumS st 255).1, (rnumS (rnumS st 255).2 4294967295).1), (rnumS (rnumS st 255).2 4294967295).2)
def dotV (st : Option (List UInt8)) : Value := pickS (rdotS st).2 (.agg #[.int .u8 ((rdotS st).1.1 : Nat), .int .u32 ((rdotS st).1.2 : Nat)]) (.agg #[.int .u8 0, .int .u32 0])
set_option maxRecDepth 100000 in
set_option maxHeartbeats 4000000 in
theorem rdot_r {w : World} {p : Option Addr} {st : Option (List UInt8)} (h : RdP w p st) :
    Calls Tryd.prog 40 #[.pointer p] w fun e w' => e = .returned (dotV st) ∧ Rdd w w' p (rdotS st).2 := by
  have hp := fun k => h.lt (k := k)
  have l1 := (Below.refl w.heap.size w).alloc (Nat.le_refl _) (.cells #[.int .u8 0, .int .u32 0] 24)
  have l2 := l1.alloc (by simp) (.cells #[.int .u8 0, .int .u32 0] 24)
  have r0 := (Rdd.refl h).below l2
  have hb1 := (Blk.new w 24 #[.int .u8 0, .int .u32 0]).alloc (.cells #[.int .u8 0, .int .u32 0] 24)
  have hb2 := Blk.new (w.alloc (.cells #[.int .u8 0, .int .u32 0] 24)) 24 #[.int .u8 0, .int .u32 0]
  rw [show (w.alloc (.cells #[.int .u8 0, .int .u32 0] 24)).heap.size = w.heap.size + 1 by simp] at hb2
  have N1 := rnum_r r0.rd 255
  have ha := rnumS_le st 255
  have HD : Hid (dotV st = pickS (rnumS (rnumS st 255).2 4294967295).2 (.agg #[.int .u8 ((rnumS st 255).1 : Nat), .int .u32 ((rnumS (rnumS st 255).2 4294967295).1 : Nat)]) (.agg #[.int .u8 0, .int .u32 0]) ∧ (rdotS st).2 = (rnumS (rnumS st 255).2 4294967295).2) := ⟨rfl, rfl⟩
  generalize rnumS st 255 = q1 at *
  obtain ⟨a, s1⟩ := q1
  have N1 := Lib.hid N1
  have HP := Lib.hid hp
  clear h l1 l2 hp
  go_enter Tryd.func40, Tryd.ntmps40
  go_wp2_with fail
  refine N1.out.mono ?_
  rintro e w1 ⟨rfl, r1⟩
  have r01 := r0.trans r1
  have hc1 := hb1.chg r1.ch (fun hk => by have := HP.out _ hk; omega)
  have hc2 := hb2.chg r1.ch (fun hk => by have := HP.out _ hk; omega)
  have hx0 := hc2.cell 0
  have hf0 := hc2.frozen 0
  have ha2 : a ≤ 255 := ha
  clear ha hb1 hb2 N1 r0 r1
  have rF := r01.far HP.out (q := ⟨w.heap.size + 1, 0, none⟩) (by show w.heap.size ≤ w.heap.size + 1; omega) (.int .u8 (a : Nat))
  have d1 := hc1.far (p := ⟨w.heap.size + 1, 0, none⟩) (by show w.heap.size ≠ w.heap.size + 1; omega) (.int .u8 (a : Nat))
  have d2 := hc2.set_ 0 (.int .u8 (a : Nat))
  have N2 := rnum_r rF.rd 4294967295
  have hbm := rnumS_le s1 4294967295
  generalize rnumS s1 4294967295 = q2 at *
  obtain ⟨b, s2⟩ := q2
  have N2 := Lib.hid N2
  have hbm2 : b ≤ 4294967295 := hbm
  clear hc1 hc2 hbm
  go_wp2_with fail
  refine N2.out.mono ?_
  rintro e w2 ⟨rfl, r2⟩
  have r02 := rF.trans r2
  have e1 := d1.chg r2.ch (fun hk => by have := HP.out _ hk; omega)
  have e2 := d2.chg r2.ch (fun hk => by have := HP.out _ hk; omega)
  have hy0 := e2.cell 0
  have hy1 := e2.cell 1
  have hg1 := e2.frozen 1
  have rG := r02.far HP.out (q := ⟨w.heap.size + 1, 1, none⟩) (by show w.heap.size ≤ w.heap.size + 1; omega) (.int .u32 (b : Nat))
  have f1 := e1.far (p := ⟨w.heap.size + 1, 1, none⟩) (by show w.heap.size ≠ w.heap.size + 1; omega) (.int .u32 (b : Nat))
  have AD := Lib.hid (alldot_r rG.rd a b)
  clear N2 e1 d1 d2 hx0 hf0 r2
  go_wp2_with fail
  refine AD.out.mono ?_
  rintro e w3 ⟨rfl, r3⟩
  have r03 := rG.trans r3
  have g1 := f1.chg r3.ch (fun hk => by have := HP.out _ hk; omega)
  have hz0 := g1.cell 0
  have hz1 := g1.cell 1
  have hh0 := g1.frozen 0
  have hh1 := g1.frozen 1
  have HD2 := HD.out
  clear AD e2 f1 hy0 hy1 hg1 r3 HD
  obtain ⟨hd1, hd2⟩ := HD2
  have HD1 := Lib.hid hd1
  have HD2 := Lib.hid hd2
  clear hd1 hd2
  cases s2 with
  | none =>
    have gA := g1.set_ 0 (.int .u8 0)
    have gB := gA.set_ 1 (.int .u32 0)
    simp only [pickS]
    go_wp2
    refine bodyPost_ret (results_cell_row rfl _ _ w.heap.size 24 #[.int .u8 0, .int .u32 0] (0, 0) _ rfl gB Tryd.underlying24 rfl size82) rfl ?_
    rw [HD1.out, HD2.out]
    exact ⟨rfl, (r03.far HP.out (by show w.heap.size ≤ w.heap.size; omega) _).far HP.out (by show w.heap.size ≤ w.heap.size; omega) _⟩
  | some r =>
    have gA := g1.set_ 0 (.int .u8 (a : Nat))
    have gB := gA.set_ 1 (.int .u32 (b : Nat))
    simp only [pickS]
    go_wp2
    refine bodyPost_ret (results_cell_row rfl _ _ w.heap.size 24 #[.int .u8 (a : Nat), .int .u32 (b : Nat)] (0, 0) _ rfl gB Tryd.underlying24 rfl size82) rfl ?_
    rw [HD1.out, HD2.out]
    exact ⟨rfl, (r03.far HP.out (by show w.heap.size ≤ w.heap.size; omega) _).far HP.out (by show w.heap.size ≤ w.heap.size; omega) _⟩
end Go.Proofs.YtfojjklohbiffaaDoor
