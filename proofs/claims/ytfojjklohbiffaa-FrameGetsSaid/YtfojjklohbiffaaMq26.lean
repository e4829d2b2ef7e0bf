/- Frames: frame.Get: what is read, plain; the operations got, in memory of the call's own. -/
import Derived.Test.YtfojjklohbiffaaMq21
import Derived.Test.YtfojjklohbiffaaMq22
import Derived.Test.YtfojjklohbiffaaMq24
import Derived.Test.YtfojjklohbiffaaMq25
namespace Go.Proofs.Ytfojjklohbiffaa
open Go.RowKit Tran Tran.Wire
set_option linter.unusedVariables false
set_option linter.unusedSimpArgs false
/-- n operations read, each in a text, as long as they are operations -/
def gOps (L : Nat) : Nat → Option (List UInt8) → Bool → List NOp × Option (List UInt8) × Bool
  | 0, st, is => ([], st, is)
  | n + 1, st, false => ([], st, false)
  | n + 1, st, true =>
    if (rdO (some (rtextS st L).1)).2 = some [] then (gotO (rtextS st L).1 :: (gOps L n (rtextS st L).2 true).1, (gOps L n (rtextS st L).2 true).2)
    else ([], (rtextS st L).2, false)
theorem gOps_no (L n : Nat) (st : Option (List UInt8)) : gOps L n st false = ([], st, false) := by cases n <;> rfl
theorem gOps_yes {L n : Nat} {st : Option (List UInt8)} (h : (rdO (some (rtextS st L).1)).2 = some []) : gOps L (n + 1) st true = (gotO (rtextS st L).1 :: (gOps L n (rtextS st L).2 true).1, (gOps L n (rtextS st L).2 true).2) := by
  simp only [gOps, h, if_true]
theorem gOps_bad {L n : Nat} {st : Option (List UInt8)} (h : ¬ (rdO (some (rtextS st L).1)).2 = some []) : gOps L (n + 1) st true = ([], (rtextS st L).2, false) := by
  simp only [gOps, if_neg h]
/-- operations in memory of the call's own -/
def OpsO (w : World) (B : Nat) (ov : Value) (ps : List POp) : Prop :=
  Tran.Own w B 122 29 ov ps.length (ps.flatMap pF) ∧ ∀ p ∈ ps, Tran.Own w B 177 4 p.2 p.1.lines.length (p.1.lines.flatMap claimF) ∧ p.1.ok ∧ p.1.lines.length ≤ 16
theorem OpsO.nil (w : World) (B : Nat) : OpsO w B (.slice none 0 0) [] := ⟨Tran.Own.nil _ _ _ _, by simp⟩
theorem OpsO.ops {w : World} {B : Nat} {ov : Value} {ps : List POp} (h : OpsO w B ov ps) (hl : ps.length ≤ 64) : Ops w ov ps := by
  obtain ⟨A, cap, rfl, _, _, hr⟩ := h.1.slice
  exact ⟨A, cap, rfl, hr, by omega, fun p hp => ⟨lns_own (h.2 p hp).1 (h.2 p hp).2.2, (h.2 p hp).2.1⟩⟩
theorem OpsO.chg {w w' : World} {B : Nat} {ov : Value} {ps : List POp} {S : Nat → Prop} (h : OpsO w B ov ps) (hc : Chg S w w') (hS : ∀ k, S k → k < B) : OpsO w' B ov ps :=
  ⟨h.1.chg hc (fun g hg k => by have := (h.1.lt g hg).1; have := hS g k; omega), fun p hp => ⟨(h.2 p hp).1.chg hc (fun g hg k => by have := ((h.2 p hp).1.lt g hg).1; have := hS g k; omega), (h.2 p hp).2⟩⟩
theorem OpsO.below {w w' : World} {B : Nat} {ov : Value} {ps : List POp} (h : OpsO w B ov ps) (hb : Below w.heap.size w w') : OpsO w' B ov ps :=
  ⟨h.1.below hb (Nat.le_refl _), fun p hp => ⟨(h.2 p hp).1.below hb (Nat.le_refl _), (h.2 p hp).2⟩⟩
theorem OpsO.far {w : World} {B : Nat} {ov : Value} {ps : List POp} (h : OpsO w B ov ps) {q : Addr} (hq : q.block < B) (u : Value) : OpsO (w.setCell q u) B ov ps :=
  ⟨h.1.far (fun e => by have := (h.1.lt _ e).1; omega) u, fun p hp => ⟨(h.2 p hp).1.far (fun e => by have := ((h.2 p hp).1.lt _ e).1; omega) u, (h.2 p hp).2⟩⟩
theorem OpsO.rowFar {w : World} {B : Nat} {ov : Value} {ps : List POp} (h : OpsO w B ov ps) {g : Nat} (h1 : blkOf ov ≠ some g) (h2 : ∀ p ∈ ps, blkOf p.2 ≠ some g) (cs : Array Value) : OpsO (w.setRow g cs) B ov ps :=
  ⟨h.1.rowFar h1 cs, fun p hp => ⟨(h.2 p hp).1.rowFar (h2 p hp) cs, (h.2 p hp).2⟩⟩
theorem own_apart {w : World} {B C e f m n k l : Nat} {v u : Value} {xs ys : List Value} (h : Tran.Own w B e m v k xs) (h2 : Tran.Own w C f n u l ys) (hne : e ≠ f) : ∀ g, blkOf v = some g → blkOf u ≠ some g := by
  intro g hg hu
  rcases h.2 with ⟨A, rfl, _⟩ | ⟨g1, c1, cur1, fz1, rfl, _, hb1, _⟩
  · cases A <;> simp [blkOf] at hg
  · rcases h2.2 with ⟨A, rfl, _⟩ | ⟨g2, c2, cur2, fz2, rfl, _, hb2, _⟩
    · cases A <;> simp [blkOf] at hu
    · simp [blkOf] at hg hu
      subst hg hu
      rw [hb1] at hb2
      injection hb2 with hb2
      injection hb2 with _ hb2 _
      exact hne hb2
/-- one operation more: what append leaves -/
theorem OpsO.snoc {w w' : World} {B : Nat} {ov v' : Value} {ps : List POp} {p : POp} (h : OpsO w B ov ps) (hp : Tran.Own w B 177 4 p.2 p.1.lines.length (p.1.lines.flatMap claimF)) (hok : p.1.ok) (hl : p.1.lines.length ≤ 16)
    (hg : w.grownBy w' (blkOf ov)) (ho : Tran.Own w' B 122 29 v' (ps.length + 1) (ps.flatMap pF ++ pF p)) : OpsO w' B v' (ps ++ [p]) := by
  have keep : ∀ q : POp, Tran.Own w B 177 4 q.2 q.1.lines.length (q.1.lines.flatMap claimF) → Tran.Own w' B 177 4 q.2 q.1.lines.length (q.1.lines.flatMap claimF) := fun q hq => by
    refine hq.kept hg ?_
    cases hb : blkOf q.2 with
    | none => exact .inl rfl
    | some g => exact .inr fun e => own_apart hq h.1 (by decide) g hb e.symm
  refine ⟨by simpa using ho, fun q hq => ?_⟩
  rcases List.mem_append.1 hq with hq | hq
  · exact ⟨keep q (h.2 q hq).1, (h.2 q hq).2⟩
  · simp at hq
    subst hq
    exact ⟨keep _ hp, hok, hl⟩
theorem info122 : (Try.prog.info? 122).map (fun i => (i.zero, i.size, i.bytes)) = some (some (.agg (opA zeroO (.slice none 0 0))), 29, 144) := by kernel_rfl
end Go.Proofs.Ytfojjklohbiffaa
/- Frames compared: frame.Same, the document's Same. -/
namespace Tran
open Go Go.RowKit
theorem exec_bslice {P : Program} {o : Oper} {a : Act} {w w' : World} (t : TypeId) (n : Nat) (parts : Array (Nat × Operand)) (ho : o.op = .buildSlice t n parts) {vs : Array (Nat × Value)} {v : Value} (hv : (parts.map fun (i, x) => (i, a.eval x)) = vs)
    (hr : (Instr.buildSlice t n vs).run P w = .ok v w') : (execOp a.eval o).run P w = .ok (.value v) w' := by
  have hr' : (Instr.buildSlice t n (parts.map fun (i, x) => (i, a.eval x))).run P w = .ok v w' := by rw [hv]; exact hr
  unfold execOp
  simp only [ho, Sem.run_bind, hr', Result.andThen_ok]
  rfl
theorem lst_call_if {P : Program} {ops : Array Oper} {rest : List Oper} {Q : Exit → Act → World → Prop} {o : Oper} {a : Act} {w : World} (d : Option Tmp) {f : FuncId} {args : Array Value} (hd : o.dst = d) (hw : Region.wanted o (yielded ops a.tmps) = true) (hrun : (execOp a.eval o).run P w = .ok (.enter f args) w)
    (h : Calls P f args w fun e w' => ∃ v, e = .returned v ∧ wpList P ops Q rest (a.put d v) w') : wpList P ops Q (o :: rest) a w := by
  subst hd
  refine wpList_step fun K hK => ?_
  rw [if_pos hw]
  unfold Oper.wp
  simp only [hrun, Oper.upon]
  refine h.mono ?_
  rintro e w' ⟨v, rfl, hh⟩
  exact hK _ _ hh
end Tran
namespace Go.Proofs.Ytfojjklohbiffaa
open Go.RowKit Tran
set_option linter.unusedVariables false
set_option linter.unusedSimpArgs false
/-- frames that are the same -/
def sameF (x y : NFrame) : Prop := x.kind = y.kind ∧ x.src = y.src ∧ x.dst = y.dst ∧ x.have_ = y.have_ ∧ opsOf x.ops = opsOf y.ops
theorem bs179 (W : World) (a b c d e : Bool) : (Instr.buildSlice 179 5 #[(0, .bool a), (1, .bool b), (2, .bool c), (3, .bool d), (4, .bool e)]).run Try.prog W = .ok (.slice (some ⟨W.heap.size, 0, none⟩) 5 5) (W.alloc (.cells #[.bool a, .bool b, .bool c, .bool d, .bool e] 4)) := by go_simp
section
variable {w : World} {x y : NFrame} {ov pv : Value} {W : World}
theorem sf (hx : x.ok) (hO : Ops w ov x.ops) (h : SI w 57 (frA x ov) (frA y pv) W) : True := trivial
end
theorem en103 (args : Array Value) (W : World) : (callFunc 103 args).run Try.prog W = .ok (.enter 103 args) W := enters_of Try.func103 (by kernel_rfl) rfl args W
theorem en102 (args : Array Value) (W : World) : (callFunc 102 args).run Try.prog W = .ok (.enter 102 args) W := enters_of Try.func102 (by kernel_rfl) rfl args W
theorem en98 (args : Array Value) (W : World) : (callFunc 98 args).run Try.prog W = .ok (.enter 98 args) W := enters_of Try.func98 (by kernel_rfl) rfl args W
set_option maxRecDepth 100000 in
set_option maxHeartbeats 8000000 in
theorem fsame_any (w : World) (x y : NFrame) (ov pv : Value) (hx : x.ok) (hy : y.ok) (hO : Ops w ov x.ops) (hQ : Ops w pv y.ops) : Calls Try.prog 50 #[.agg (frA x ov), .agg (frA y pv)] w (Tells w (sameF x y)) := by
  obtain ⟨r0, hr0⟩ := bool_of (x.kind = y.kind)
  obtain ⟨r1, hr1⟩ := bool_of (x.src = y.src)
  obtain ⟨r2, hr2⟩ := bool_of (x.dst = y.dst)
  obtain ⟨r3, hr3⟩ := bool_of (x.have_ = y.have_)
  obtain ⟨r4, hr4⟩ := bool_of (opsOf x.ops = opsOf y.ops)
  have HR := Lib.hid (show ([r0, r1, r2, r3, r4].all id) = true ↔ sameF x y by
    unfold sameF
    rw [← hr0, ← hr1, ← hr2, ← hr3, ← hr4]
    simp)
  have S0 := SI.start w 57 (frA x ov) (frA y pv)
  have C := Lib.hid (fun W (h : SI w 57 (frA x ov) (frA y pv) W) => (equalf_any W ov pv x.ops y.ops (hO.later h.b) (hQ.later h.b)).mono fun e w' h => h.fixed hr4)
  have Q3 := Lib.hid (fun W => eql_vec x.have_ y.have_ hx.have8 hy.have8 r3 hr3 W)
  have L0 := Lib.hid (fun W (h : SI w 57 (frA x ov) (frA y pv) W) => (h.k0.cell 0).trans (fr_c0 x _))
  have M0 := Lib.hid (fun W (h : SI w 57 (frA x ov) (frA y pv) W) => (h.k1.cell 0).trans (fr_c0 y _))
  have L1 := Lib.hid (fun W (h : SI w 57 (frA x ov) (frA y pv) W) => (h.k0.cell 1).trans (fr_c1 x _))
  have M1 := Lib.hid (fun W (h : SI w 57 (frA x ov) (frA y pv) W) => (h.k1.cell 1).trans (fr_c1 y _))
  have L2 := Lib.hid (fun W (h : SI w 57 (frA x ov) (frA y pv) W) => (h.k0.cell 2).trans (fr_c2 x _))
  have M2 := Lib.hid (fun W (h : SI w 57 (frA x ov) (frA y pv) W) => (h.k1.cell 2).trans (fr_c2 y _))
  have L3 := Lib.hid (fun W (h : SI w 57 (frA x ov) (frA y pv) W) => ld54 x.have_ hx.have8 (fun j u hj => (h.k0.cell (3 + j)).trans (fr_c3 x _ j u hj)))
  have M3 := Lib.hid (fun W (h : SI w 57 (frA x ov) (frA y pv) W) => ld54 y.have_ hy.have8 (fun j u hj => (h.k1.cell (3 + j)).trans (fr_c3 y _ j u hj)))
  have L4 := Lib.hid (fun W (h : SI w 57 (frA x ov) (frA y pv) W) => (h.k0.cell 11).trans (fr_c11 x _ hx.have8))
  have M4 := Lib.hid (fun W (h : SI w 57 (frA x ov) (frA y pv) W) => (h.k1.cell 11).trans (fr_c11 y _ hy.have8))
  have S0 := Lib.hid S0
  have HQ := Lib.hid (And.intro hr0 (And.intro hr1 hr2))
  clear hx hy hO hQ hr0 hr1 hr2 hr3 hr4
  generalize frA x ov = X at *
  generalize frA y pv = Y at *
  go_enter Try.func50, Try.ntmps50
  go_wp2_with fail
  refine reg_begin_ (SI w 57 X Y) (by kernel_rfl) ?_
  intro A hA
  have h2 : A.eval (.tmp 2) = .pointer (some ⟨w.heap.size, 0, none⟩) := by rw [hA]; rfl
  have h3 : A.eval (.tmp 3) = .pointer (some ⟨w.heap.size + 1, 0, none⟩) := by rw [hA]; rfl
  have hsz : A.tmps.size = 32 := by rw [hA]; rfl
  have hdf : A.defers = [] := by rw [hA]
  have hS := SI.drew S0.out
  clear hA
  refine reg_take (some 5) (i := 0) (.pointer (some ⟨w.heap.size, 0, none⟩)) rfl rfl (by kernel_rfl) (fun _ _ _ h => h) (by rfl) (fun W hW => exec_addr 57 _ 0 rfl h2 (fb0)) hS ?_
  refine reg_take (some 6) (i := 1) (.int .u8 (x.kind : Int)) rfl rfl (by kernel_rfl) (fun _ _ _ h => h) (by rfl) (fun W hW => exec_load1 5 _ rfl (ev_eq (by (try simp only [Act.size_put]); rw [hsz]; decide)) (ld5 (L0.out W hW))) hS ?_
  refine reg_take (some 7) (i := 2) (.pointer (some ⟨w.heap.size + 1, 0, none⟩)) rfl rfl (by kernel_rfl) (fun _ _ _ h => h) (by rfl) (fun W hW => exec_addr 57 _ 0 rfl (ev_ne (by rfl) (ev_ne (by rfl) h3)) (fb0)) hS ?_
  refine reg_take (some 8) (i := 3) (.int .u8 (y.kind : Int)) rfl rfl (by kernel_rfl) (fun _ _ _ h => h) (by rfl) (fun W hW => exec_load1 5 _ rfl (ev_eq (by (try simp only [Act.size_put]); rw [hsz]; decide)) (ld5 (M0.out W hW))) hS ?_
  refine reg_take (some 9) (i := 4) (.bool r0) rfl rfl (by kernel_rfl) (fun _ _ _ h => h) (by rfl) (fun W hW => exec_bin .eql 5 5 _ _ rfl (ev_ne (by rfl) (ev_ne (by rfl) (ev_eq (by (try simp only [Act.size_put]); rw [hsz]; decide)))) (ev_eq (by (try simp only [Act.size_put]); rw [hsz]; decide)) (eqgi) (eqi5 HQ.out.1)) hS ?_
  refine reg_take (some 10) (i := 5) (.pointer (some ⟨w.heap.size, 1, none⟩)) rfl rfl (by kernel_rfl) (fun _ _ _ h => h) (by rfl) (fun W hW => exec_addr 57 _ 1 rfl (ev_ne (by rfl) (ev_ne (by rfl) (ev_ne (by rfl) (ev_ne (by rfl) (ev_ne (by rfl) h2))))) (fb1)) hS ?_
  refine reg_take (some 11) (i := 6) (.int .u8 (x.src : Int)) rfl rfl (by kernel_rfl) (fun _ _ _ h => h) (by rfl) (fun W hW => exec_load1 5 _ rfl (ev_eq (by (try simp only [Act.size_put]); rw [hsz]; decide)) (ld5 (L1.out W hW))) hS ?_
  refine reg_take (some 12) (i := 7) (.pointer (some ⟨w.heap.size + 1, 1, none⟩)) rfl rfl (by kernel_rfl) (fun _ _ _ h => h) (by rfl) (fun W hW => exec_addr 57 _ 1 rfl (ev_ne (by rfl) (ev_ne (by rfl) (ev_ne (by rfl) (ev_ne (by rfl) (ev_ne (by rfl) (ev_ne (by rfl) (ev_ne (by rfl) h3))))))) (fb1)) hS ?_
  refine reg_take (some 13) (i := 8) (.int .u8 (y.src : Int)) rfl rfl (by kernel_rfl) (fun _ _ _ h => h) (by rfl) (fun W hW => exec_load1 5 _ rfl (ev_eq (by (try simp only [Act.size_put]); rw [hsz]; decide)) (ld5 (M1.out W hW))) hS ?_
  refine reg_take (some 14) (i := 9) (.bool r1) rfl rfl (by kernel_rfl) (fun _ _ _ h => h) (by rfl) (fun W hW => exec_bin .eql 5 5 _ _ rfl (ev_ne (by rfl) (ev_ne (by rfl) (ev_eq (by (try simp only [Act.size_put]); rw [hsz]; decide)))) (ev_eq (by (try simp only [Act.size_put]); rw [hsz]; decide)) (eqgi) (eqi5 HQ.out.2.1)) hS ?_
  refine reg_take (some 15) (i := 10) (.pointer (some ⟨w.heap.size, 2, none⟩)) rfl rfl (by kernel_rfl) (fun _ _ _ h => h) (by rfl) (fun W hW => exec_addr 57 _ 2 rfl (ev_ne (by rfl) (ev_ne (by rfl) (ev_ne (by rfl) (ev_ne (by rfl) (ev_ne (by rfl) (ev_ne (by rfl) (ev_ne (by rfl) (ev_ne (by rfl) (ev_ne (by rfl) (ev_ne (by rfl) h2)))))))))) (fb2)) hS ?_
  refine reg_take (some 16) (i := 11) (.int .u8 (x.dst : Int)) rfl rfl (by kernel_rfl) (fun _ _ _ h => h) (by rfl) (fun W hW => exec_load1 5 _ rfl (ev_eq (by (try simp only [Act.size_put]); rw [hsz]; decide)) (ld5 (L2.out W hW))) hS ?_
  refine reg_take (some 17) (i := 12) (.pointer (some ⟨w.heap.size + 1, 2, none⟩)) rfl rfl (by kernel_rfl) (fun _ _ _ h => h) (by rfl) (fun W hW => exec_addr 57 _ 2 rfl (ev_ne (by rfl) (ev_ne (by rfl) (ev_ne (by rfl) (ev_ne (by rfl) (ev_ne (by rfl) (ev_ne (by rfl) (ev_ne (by rfl) (ev_ne (by rfl) (ev_ne (by rfl) (ev_ne (by rfl) (ev_ne (by rfl) (ev_ne (by rfl) h3)))))))))))) (fb2)) hS ?_
  refine reg_take (some 18) (i := 13) (.int .u8 (y.dst : Int)) rfl rfl (by kernel_rfl) (fun _ _ _ h => h) (by rfl) (fun W hW => exec_load1 5 _ rfl (ev_eq (by (try simp only [Act.size_put]); rw [hsz]; decide)) (ld5 (M2.out W hW))) hS ?_
  refine reg_take (some 19) (i := 14) (.bool r2) rfl rfl (by kernel_rfl) (fun _ _ _ h => h) (by rfl) (fun W hW => exec_bin .eql 5 5 _ _ rfl (ev_ne (by rfl) (ev_ne (by rfl) (ev_eq (by (try simp only [Act.size_put]); rw [hsz]; decide)))) (ev_eq (by (try simp only [Act.size_put]); rw [hsz]; decide)) (eqgi) (eqi5 HQ.out.2.2)) hS ?_
  refine reg_take (some 20) (i := 15) (.pointer (some ⟨w.heap.size, 3, none⟩)) rfl rfl (by kernel_rfl) (fun _ _ _ h => h) (by rfl) (fun W hW => exec_addr 57 _ 3 rfl (ev_ne (by rfl) (ev_ne (by rfl) (ev_ne (by rfl) (ev_ne (by rfl) (ev_ne (by rfl) (ev_ne (by rfl) (ev_ne (by rfl) (ev_ne (by rfl) (ev_ne (by rfl) (ev_ne (by rfl) (ev_ne (by rfl) (ev_ne (by rfl) (ev_ne (by rfl) (ev_ne (by rfl) (ev_ne (by rfl) h2))))))))))))))) (fb3)) hS ?_
  refine reg_take (some 21) (i := 16) (.agg (vecA x.have_)) rfl rfl (by kernel_rfl) (fun _ _ _ h => h) (by rfl) (fun W hW => exec_load1 54 _ rfl (ev_eq (by (try simp only [Act.size_put]); rw [hsz]; decide)) (L3.out W hW)) hS ?_
  refine reg_take (some 22) (i := 17) (.pointer (some ⟨w.heap.size + 1, 3, none⟩)) rfl rfl (by kernel_rfl) (fun _ _ _ h => h) (by rfl) (fun W hW => exec_addr 57 _ 3 rfl (ev_ne (by rfl) (ev_ne (by rfl) (ev_ne (by rfl) (ev_ne (by rfl) (ev_ne (by rfl) (ev_ne (by rfl) (ev_ne (by rfl) (ev_ne (by rfl) (ev_ne (by rfl) (ev_ne (by rfl) (ev_ne (by rfl) (ev_ne (by rfl) (ev_ne (by rfl) (ev_ne (by rfl) (ev_ne (by rfl) (ev_ne (by rfl) (ev_ne (by rfl) h3))))))))))))))))) (fb3)) hS ?_
  refine reg_take (some 23) (i := 18) (.agg (vecA y.have_)) rfl rfl (by kernel_rfl) (fun _ _ _ h => h) (by rfl) (fun W hW => exec_load1 54 _ rfl (ev_eq (by (try simp only [Act.size_put]); rw [hsz]; decide)) (M3.out W hW)) hS ?_
  refine reg_take (some 24) (i := 19) (.bool r3) rfl rfl (by kernel_rfl) (fun _ _ _ h => h) (by rfl) (fun W hW => exec_bin .eql 54 54 _ _ rfl (ev_ne (by rfl) (ev_ne (by rfl) (ev_eq (by (try simp only [Act.size_put]); rw [hsz]; decide)))) (ev_eq (by (try simp only [Act.size_put]); rw [hsz]; decide)) (eqg_agg _ _ _ _ _ _ W eqt54) (Q3.out W)) hS ?_
  refine reg_take (some 25) (i := 20) (.pointer (some ⟨w.heap.size, 11, none⟩)) rfl rfl (by kernel_rfl) (fun _ _ _ h => h) (by rfl) (fun W hW => exec_addr 57 _ 4 rfl (ev_ne (by rfl) (ev_ne (by rfl) (ev_ne (by rfl) (ev_ne (by rfl) (ev_ne (by rfl) (ev_ne (by rfl) (ev_ne (by rfl) (ev_ne (by rfl) (ev_ne (by rfl) (ev_ne (by rfl) (ev_ne (by rfl) (ev_ne (by rfl) (ev_ne (by rfl) (ev_ne (by rfl) (ev_ne (by rfl) (ev_ne (by rfl) (ev_ne (by rfl) (ev_ne (by rfl) (ev_ne (by rfl) (ev_ne (by rfl) h2)))))))))))))))))))) (fb4)) hS ?_
  refine reg_take (some 26) (i := 21) (ov) rfl rfl (by kernel_rfl) (fun _ _ _ h => h) (by rfl) (fun W hW => exec_load1 55 _ rfl (ev_eq (by (try simp only [Act.size_put]); rw [hsz]; decide)) (ld55 (L4.out W hW))) hS ?_
  refine reg_take (some 27) (i := 22) (.pointer (some ⟨w.heap.size + 1, 11, none⟩)) rfl rfl (by kernel_rfl) (fun _ _ _ h => h) (by rfl) (fun W hW => exec_addr 57 _ 4 rfl (ev_ne (by rfl) (ev_ne (by rfl) (ev_ne (by rfl) (ev_ne (by rfl) (ev_ne (by rfl) (ev_ne (by rfl) (ev_ne (by rfl) (ev_ne (by rfl) (ev_ne (by rfl) (ev_ne (by rfl) (ev_ne (by rfl) (ev_ne (by rfl) (ev_ne (by rfl) (ev_ne (by rfl) (ev_ne (by rfl) (ev_ne (by rfl) (ev_ne (by rfl) (ev_ne (by rfl) (ev_ne (by rfl) (ev_ne (by rfl) (ev_ne (by rfl) (ev_ne (by rfl) h3)))))))))))))))))))))) (fb4)) hS ?_
  refine reg_take (some 28) (i := 23) (pv) rfl rfl (by kernel_rfl) (fun _ _ _ h => h) (by rfl) (fun W hW => exec_load1 55 _ rfl (ev_eq (by (try simp only [Act.size_put]); rw [hsz]; decide)) (ld55 (M4.out W hW))) hS ?_
  refine reg_call (some 29) (i := 24) rfl rfl (by kernel_rfl) (by rfl) (exec_call0 rfl rfl (map3 (ev_ne (by rfl) (ev_ne (by rfl) (ev_eq (by (try simp only [Act.size_put]); rw [hsz]; decide)))) (ev_eq (by (try simp only [Act.size_put]); rw [hsz]; decide)) rfl) en103) ?_
  refine (C.out _ hS).mono ?_
  rintro _ w2 ⟨rfl, hb2⟩
  have hS2 := SI.next _ _ hS hb2
  refine ⟨_, rfl, hS2, ?_⟩
  have hS3 : SI w 57 X Y (w2.alloc (.cells #[.bool r0, .bool r1, .bool r2, .bool r3, .bool r4] 4)) := SI.next _ _ hS2 ((Below.refl _ _).alloc (Nat.le_refl _) _)
  refine reg_run (some 30) (i := 25) rfl rfl (by kernel_rfl) (by rfl) (exec_bslice 179 5 _ rfl (vs := #[(0, .bool r0), (1, .bool r1), (2, .bool r2), (3, .bool r3), (4, .bool r4)]) (by simp only [List.map_toArray, List.map_cons, List.map_nil]; rw [(show Act.eval _ (.tmp 9) = _ from (ev_ne (by rfl) (ev_ne (by rfl) (ev_ne (by rfl) (ev_ne (by rfl) (ev_ne (by rfl) (ev_ne (by rfl) (ev_ne (by rfl) (ev_ne (by rfl) (ev_ne (by rfl) (ev_ne (by rfl) (ev_ne (by rfl) (ev_ne (by rfl) (ev_ne (by rfl) (ev_ne (by rfl) (ev_ne (by rfl) (ev_ne (by rfl) (ev_ne (by rfl) (ev_ne (by rfl) (ev_ne (by rfl) (ev_ne (by rfl) (ev_eq (by (try simp only [Act.size_put]); rw [hsz]; decide))))))))))))))))))))))), (show Act.eval _ (.tmp 14) = _ from (ev_ne (by rfl) (ev_ne (by rfl) (ev_ne (by rfl) (ev_ne (by rfl) (ev_ne (by rfl) (ev_ne (by rfl) (ev_ne (by rfl) (ev_ne (by rfl) (ev_ne (by rfl) (ev_ne (by rfl) (ev_ne (by rfl) (ev_ne (by rfl) (ev_ne (by rfl) (ev_ne (by rfl) (ev_ne (by rfl) (ev_eq (by (try simp only [Act.size_put]); rw [hsz]; decide)))))))))))))))))), (show Act.eval _ (.tmp 19) = _ from (ev_ne (by rfl) (ev_ne (by rfl) (ev_ne (by rfl) (ev_ne (by rfl) (ev_ne (by rfl) (ev_ne (by rfl) (ev_ne (by rfl) (ev_ne (by rfl) (ev_ne (by rfl) (ev_ne (by rfl) (ev_eq (by (try simp only [Act.size_put]); rw [hsz]; decide))))))))))))), (show Act.eval _ (.tmp 24) = _ from (ev_ne (by rfl) (ev_ne (by rfl) (ev_ne (by rfl) (ev_ne (by rfl) (ev_ne (by rfl) (ev_eq (by (try simp only [Act.size_put]); rw [hsz]; decide)))))))), (show Act.eval _ (.tmp 29) = _ from (ev_eq (by (try simp only [Act.size_put]); rw [hsz]; decide)))]) (bs179 w2 r0 r1 r2 r3 r4)) hS3 ?_
  refine reg_call (some 31) (i := 26) rfl rfl (by kernel_rfl) (by rfl) (exec_call0 rfl rfl (map1 (ev_eq (by (try simp only [Act.size_put]); rw [hsz]; decide))) en98) ?_
  refine (all_new w2 [r0, r1, r2, r3, r4] _ rfl 5 rfl (by simp)).mono ?_
  rintro _ _ ⟨rfl, rfl⟩
  refine ⟨_, rfl, hS3, ?_⟩
  refine reg_run (some 4) (i := 27) rfl rfl (by kernel_rfl) (by rfl) (exec_assign _ rfl (ev_eq (by (try simp only [Act.size_put]); rw [hsz]; decide))) hS3 ?_
  refine reg_end (by kernel_rfl) ?_
  generalize hr : [r0, r1, r2, r3, r4].all id = r at *
  have fin : ∀ B : Act, B.eval (.tmp 4) = .bool r → B.defers = [] → bodyPost Try.prog Try.f50 (Tells w (sameF x y)) Exit.ret B (w2.alloc (.cells #[.bool r0, .bool r1, .bool r2, .bool r3, .bool r4] 4)) := fun B h4 hd => by
    refine bodyPost_ret (results_tmp rfl _ _ _) hd ?_
    exact ⟨r, congrArg Ending.returned h4, HR.out, hS3.b⟩
  have FIN := Lib.hid fin
  clear fin
  go_wp2_with fail
  refine FIN.out _ ?_ ?_
  · exact ev_eq (by (try simp only [Act.size_put]); rw [hsz]; decide)
  · simp only [put_defers]; exact hdf
set_option maxRecDepth 100000 in
set_option maxHeartbeats 8000000 in
theorem tfsame_any (w : World) (x y : NFrame) (ov pv : Value) (hx : x.ok) (hy : y.ok) (hO : Ops w ov x.ops) (hQ : Ops w pv y.ops) : Calls Try.prog 49 #[.agg (frA x ov), .agg (frA y pv)] w (Tells w (sameF x y)) := by
  obtain ⟨r0, hr0⟩ := bool_of (x.kind = y.kind)
  obtain ⟨r1, hr1⟩ := bool_of (x.src = y.src)
  obtain ⟨r2, hr2⟩ := bool_of (x.dst = y.dst)
  obtain ⟨r3, hr3⟩ := bool_of (x.have_ = y.have_)
  obtain ⟨r4, hr4⟩ := bool_of (opsOf x.ops = opsOf y.ops)
  have HR := Lib.hid (show ((((r0 && r1) && r2) && r3) && r4) = true ↔ sameF x y by
    unfold sameF
    rw [← hr0, ← hr1, ← hr2, ← hr3, ← hr4]
    simp [and_assoc])
  have S0 := SI.start w 57 (frA x ov) (frA y pv)
  have C := Lib.hid (fun W (h : SI w 57 (frA x ov) (frA y pv) W) => (sameall_any W ov pv x.ops y.ops (hO.later h.b) (hQ.later h.b)).mono fun e w' h => h.fixed hr4)
  have Q3 := Lib.hid (fun W => eql_vec x.have_ y.have_ hx.have8 hy.have8 r3 hr3 W)
  have L0 := (S0.k0.cell 0).trans (fr_c0 x _)
  have M0 := (S0.k1.cell 0).trans (fr_c0 y _)
  have L1 := (S0.k0.cell 1).trans (fr_c1 x _)
  have M1 := (S0.k1.cell 1).trans (fr_c1 y _)
  have L2 := (S0.k0.cell 2).trans (fr_c2 x _)
  have M2 := (S0.k1.cell 2).trans (fr_c2 y _)
  have L3 := ld54 x.have_ hx.have8 (fun j u hj => (S0.k0.cell (3 + j)).trans (fr_c3 x _ j u hj))
  have M3 := ld54 y.have_ hy.have8 (fun j u hj => (S0.k1.cell (3 + j)).trans (fr_c3 y _ j u hj))
  have L4 := (S0.k0.cell 11).trans (fr_c11 x _ hx.have8)
  have M4 := (S0.k1.cell 11).trans (fr_c11 y _ hy.have8)
  have S0 := Lib.hid S0
  have N0 := Lib.hid (And.intro (And.intro L0 M0) (And.intro (And.intro L1 M1) (And.intro (And.intro L2 M2) (And.intro (And.intro L3 M3) (And.intro L4 M4)))))
  have HQ := Lib.hid (And.intro hr0 (And.intro hr1 hr2))
  clear hx hy hO hQ hr0 hr1 hr2 hr3 hr4 L0 M0 L1 M1 L2 M2 L3 M3 L4 M4
  generalize frA x ov = X at *
  generalize frA y pv = Y at *
  go_enter Try.func49, Try.ntmps49
  go_upto_region 1 with (fail)
  refine lst_begin ?_
  intro A hA
  have h2 : A.eval (.tmp 2) = .pointer (some ⟨w.heap.size, 0, none⟩) := by rw [hA]; rfl
  have h3 : A.eval (.tmp 3) = .pointer (some ⟨w.heap.size + 1, 0, none⟩) := by rw [hA]; rfl
  have hsz : A.tmps.size = 38 := by rw [hA]; rfl
  have hdf : A.defers = [] := by rw [hA]
  clear hA
  refine lst_val (some 5) (v := .pointer (some ⟨w.heap.size, 0, none⟩)) rfl rfl (exec_addr 57 _ 0 rfl h2 (fb0)) ?_
  refine lst_val (some 6) (v := .int .u8 (x.kind : Int)) rfl rfl (exec_load1 5 _ rfl (ev_eq (by (try simp only [Act.size_put]); rw [hsz]; decide)) (ld5 N0.out.1.1)) ?_
  refine lst_val (some 7) (v := .pointer (some ⟨w.heap.size + 1, 0, none⟩)) rfl rfl (exec_addr 57 _ 0 rfl (ev_ne (by rfl) (ev_ne (by rfl) h3)) (fb0)) ?_
  refine lst_val (some 8) (v := .int .u8 (y.kind : Int)) rfl rfl (exec_load1 5 _ rfl (ev_eq (by (try simp only [Act.size_put]); rw [hsz]; decide)) (ld5 N0.out.1.2)) ?_
  refine lst_val (some 9) (v := .bool r0) rfl rfl (exec_bin .eql 5 5 _ _ rfl (ev_ne (by rfl) (ev_ne (by rfl) (ev_eq (by (try simp only [Act.size_put]); rw [hsz]; decide)))) (ev_eq (by (try simp only [Act.size_put]); rw [hsz]; decide)) (eqgi) (eqi5 HQ.out.1)) ?_
  have ht : (((((A.put (some 5) (.pointer (some ⟨w.heap.size, 0, none⟩))).put (some 6) (.int .u8 (x.kind : Int))).put (some 7) (.pointer (some ⟨w.heap.size + 1, 0, none⟩))).put (some 8) (.int .u8 (y.kind : Int))).put (some 9) (.bool r0)).eval (.tmp 9) = .bool r0 := (ev_eq (by (try simp only [Act.size_put]); rw [hsz]; decide))
  have h2 : (((((A.put (some 5) (.pointer (some ⟨w.heap.size, 0, none⟩))).put (some 6) (.int .u8 (x.kind : Int))).put (some 7) (.pointer (some ⟨w.heap.size + 1, 0, none⟩))).put (some 8) (.int .u8 (y.kind : Int))).put (some 9) (.bool r0)).eval (.tmp 2) = .pointer (some ⟨w.heap.size, 0, none⟩) := (ev_ne (by rfl) (ev_ne (by rfl) (ev_ne (by rfl) (ev_ne (by rfl) (ev_ne (by rfl) h2)))))
  have h3 : (((((A.put (some 5) (.pointer (some ⟨w.heap.size, 0, none⟩))).put (some 6) (.int .u8 (x.kind : Int))).put (some 7) (.pointer (some ⟨w.heap.size + 1, 0, none⟩))).put (some 8) (.int .u8 (y.kind : Int))).put (some 9) (.bool r0)).eval (.tmp 3) = .pointer (some ⟨w.heap.size + 1, 0, none⟩) := (ev_ne (by rfl) (ev_ne (by rfl) (ev_ne (by rfl) (ev_ne (by rfl) (ev_ne (by rfl) h3)))))
  have hsz : (((((A.put (some 5) (.pointer (some ⟨w.heap.size, 0, none⟩))).put (some 6) (.int .u8 (x.kind : Int))).put (some 7) (.pointer (some ⟨w.heap.size + 1, 0, none⟩))).put (some 8) (.int .u8 (y.kind : Int))).put (some 9) (.bool r0)).tmps.size = 38 := (by (try simp only [Act.size_put]); exact hsz)
  have hdf : (((((A.put (some 5) (.pointer (some ⟨w.heap.size, 0, none⟩))).put (some 6) (.int .u8 (x.kind : Int))).put (some 7) (.pointer (some ⟨w.heap.size + 1, 0, none⟩))).put (some 8) (.int .u8 (y.kind : Int))).put (some 9) (.bool r0)).defers = [] := (by (try simp only [put_defers]); exact hdf)
  generalize (((((A.put (some 5) (.pointer (some ⟨w.heap.size, 0, none⟩))).put (some 6) (.int .u8 (x.kind : Int))).put (some 7) (.pointer (some ⟨w.heap.size + 1, 0, none⟩))).put (some 8) (.int .u8 (y.kind : Int))).put (some 9) (.bool r0)) = A1 at *
  refine and_step (t := 9) (j := 5) (n := 38) ⟨rfl, rfl, rfl⟩ ⟨rfl, rfl, rfl⟩ ⟨rfl, rfl, rfl⟩ ⟨rfl, rfl, rfl⟩ ⟨rfl, rfl, rfl⟩ ⟨rfl, rfl, rfl⟩ ⟨rfl, rfl, rfl⟩ rfl hsz hdf (by omega) (by omega) ht h2 h3 fb1 fb1 (ld5 N0.out.2.1.1) (ld5 N0.out.2.1.2) eqgi (eqi5 HQ.out.2.1) ?_
  clear hsz hdf h2 h3 ht
  intro A hsz hdf h2 h3 ht
  try simp only [Nat.reduceAdd] at ht
  refine and_step (t := 16) (j := 12) (n := 38) ⟨rfl, rfl, rfl⟩ ⟨rfl, rfl, rfl⟩ ⟨rfl, rfl, rfl⟩ ⟨rfl, rfl, rfl⟩ ⟨rfl, rfl, rfl⟩ ⟨rfl, rfl, rfl⟩ ⟨rfl, rfl, rfl⟩ rfl hsz hdf (by omega) (by omega) ht h2 h3 fb2 fb2 (ld5 N0.out.2.2.1.1) (ld5 N0.out.2.2.1.2) eqgi (eqi5 HQ.out.2.2) ?_
  clear hsz hdf h2 h3 ht
  intro A hsz hdf h2 h3 ht
  try simp only [Nat.reduceAdd] at ht
  refine and_step (t := 23) (j := 19) (n := 38) ⟨rfl, rfl, rfl⟩ ⟨rfl, rfl, rfl⟩ ⟨rfl, rfl, rfl⟩ ⟨rfl, rfl, rfl⟩ ⟨rfl, rfl, rfl⟩ ⟨rfl, rfl, rfl⟩ ⟨rfl, rfl, rfl⟩ rfl hsz hdf (by omega) (by omega) ht h2 h3 fb3 fb3 N0.out.2.2.2.1.1 N0.out.2.2.2.1.2 (eqg_agg _ _ _ _ _ _ _ eqt54) (Q3.out _) ?_
  clear hsz hdf h2 h3 ht
  intro A hsz hdf h2 h3 ht
  try simp only [Nat.reduceAdd] at ht
  generalize (((r0 && r1) && r2) && r3) = b at *
  refine lst_val (some 31) (v := .bool b) rfl rfl (exec_move _ rfl ht) ?_
  have m1 : (A.put (some 31) (.bool b)).eval (.tmp 31) = .bool b := ev_eq (by rw [hsz]; decide)
  have h2 := ev_ne (d := 31) (v := .bool b) (by rfl) h2
  have h3 := ev_ne (d := 31) (v := .bool b) (by rfl) h3
  have hsz : (A.put (some 31) (.bool b)).tmps.size = 38 := by rw [Act.size_put]; exact hsz
  have hdf : (A.put (some 31) (.bool b)).defers = [] := (put_defers _ _ _).trans hdf
  generalize A.put (some 31) (.bool b) = A2 at *
  clear ht
  have FIN : ∀ (B : Act) (r : Bool) (W : World), (r = true ↔ sameF x y) → B.eval (.tmp 4) = .bool r → B.defers = [] → Below w.heap.size w W → bodyPost Try.prog Try.f49 (Tells w (sameF x y)) Exit.ret B W := fun B r W hr h4 hd hb => by
    refine bodyPost_ret (results_tmp rfl _ _ _) hd ?_
    exact ⟨r, congrArg Ending.returned h4, hr, hb⟩
  have FIN := Lib.hid FIN
  cases b with
  | false =>
    refine lst_un (some 32) rfl (wanted_of (d := 31) (c := true) rfl rfl rfl m1) ?_
    refine lst_un (some 33) rfl (wanted_of (d := 31) (c := true) rfl rfl rfl (ev_ne (by rfl) m1)) ?_
    refine lst_un (some 34) rfl (wanted_of (d := 31) (c := true) rfl rfl rfl (ev_ne (by rfl) (ev_ne (by rfl) m1))) ?_
    refine lst_un (some 35) rfl (wanted_of (d := 31) (c := true) rfl rfl rfl (ev_ne (by rfl) (ev_ne (by rfl) (ev_ne (by rfl) m1)))) ?_
    refine lst_un (some 36) rfl (wanted_of (d := 31) (c := true) rfl rfl rfl (ev_ne (by rfl) (ev_ne (by rfl) (ev_ne (by rfl) (ev_ne (by rfl) m1))))) ?_
    refine lst_val (some 37) (v := .bool false) rfl rfl (exec_pick (.tmp 31) (.tmp 36) (.const (.bool false)) rfl (ev_ne (by rfl) (ev_ne (by rfl) (ev_ne (by rfl) (ev_ne (by rfl) (ev_ne (by rfl) m1))))) rfl rfl) ?_
    refine lst_val (some 4) (v := .bool false) rfl rfl (exec_assign _ rfl (ev_eq (by (try simp only [Act.size_put]); rw [hsz]; decide))) ?_
    refine lst_nil ?_
    go_wp2_with fail
    refine FIN.out _ false _ (by rw [← HR.out]; simp) (ev_eq (by (try simp only [Act.size_put]); rw [hsz]; decide)) (by simp only [put_defers]; exact hdf) S0.out.b
  | true =>
    refine lst_val_if (some 32) (v := .pointer (some ⟨w.heap.size, 11, none⟩)) rfl (wanted_of (d := 31) (c := true) rfl rfl rfl m1) (exec_addr 57 _ 4 rfl h2 fb4) ?_
    refine lst_val_if (some 33) (v := ov) rfl (wanted_of (d := 31) (c := true) rfl rfl rfl (ev_ne (by rfl) m1)) (exec_load1 55 _ rfl (ev_eq (by (try simp only [Act.size_put]); rw [hsz]; decide)) (ld55 N0.out.2.2.2.2.1)) ?_
    refine lst_val_if (some 34) (v := .pointer (some ⟨w.heap.size + 1, 11, none⟩)) rfl (wanted_of (d := 31) (c := true) rfl rfl rfl (ev_ne (by rfl) (ev_ne (by rfl) m1))) (exec_addr 57 _ 4 rfl (ev_ne (by rfl) (ev_ne (by rfl) h3)) fb4) ?_
    refine lst_val_if (some 35) (v := pv) rfl (wanted_of (d := 31) (c := true) rfl rfl rfl (ev_ne (by rfl) (ev_ne (by rfl) (ev_ne (by rfl) m1)))) (exec_load1 55 _ rfl (ev_eq (by (try simp only [Act.size_put]); rw [hsz]; decide)) (ld55 N0.out.2.2.2.2.2)) ?_
    refine lst_call_if (some 36) rfl (wanted_of (d := 31) (c := true) rfl rfl rfl (ev_ne (by rfl) (ev_ne (by rfl) (ev_ne (by rfl) (ev_ne (by rfl) m1))))) (exec_call0 rfl rfl (map2 (ev_ne (by rfl) (ev_ne (by rfl) (ev_eq (by (try simp only [Act.size_put]); rw [hsz]; decide)))) (ev_eq (by (try simp only [Act.size_put]); rw [hsz]; decide))) en102) ?_
    refine (C.out _ S0.out).mono ?_
    rintro _ w2 ⟨rfl, hb2⟩
    refine ⟨_, rfl, ?_⟩
    refine lst_val (some 37) (v := .bool r4) rfl rfl (exec_pick (.tmp 31) (.tmp 36) (.const (.bool false)) rfl (ev_ne (by rfl) (ev_ne (by rfl) (ev_ne (by rfl) (ev_ne (by rfl) (ev_ne (by rfl) m1))))) (ev_eq (by (try simp only [Act.size_put]); rw [hsz]; decide)) rfl) ?_
    refine lst_val (some 4) (v := .bool r4) rfl rfl (exec_assign _ rfl (ev_eq (by (try simp only [Act.size_put]); rw [hsz]; decide))) ?_
    refine lst_nil ?_
    have HB := Lib.hid (SI.next _ _ S0.out hb2).b
    clear hb2
    go_wp2_with fail
    refine FIN.out _ r4 _ (by rw [← HR.out]; simp) (ev_eq (by (try simp only [Act.size_put]); rw [hsz]; decide)) (by simp only [put_defers]; exact hdf) HB.out
end Go.Proofs.Ytfojjklohbiffaa
/- Frames: plain: bytes of unlike frames are not the same. -/
namespace Go.Proofs.Ytfojjklohbiffaa
open Go.RowKit Tran Tran.Wire
set_option linter.unusedVariables false
set_option linter.unusedSimpArgs false
theorem numF_cancel {a b : Nat} (ha : a < 18446744073709551616) (hb : b < 18446744073709551616) {r s : List UInt8} (h : numF a ++ r = numF b ++ s) : a = b ∧ r = s := by
  have h1 := rnum_nm a 18446744073709551615 (by omega) (by omega) r
  rw [h, rnum_nm b 18446744073709551615 (by omega) (by omega) s] at h1
  injection h1 with h1 h2
  injection h2 with h2
  exact ⟨h1.symm, h2.symm⟩
theorem vecF_cancel : ∀ {xs ys : List Nat} {r s : List UInt8}, xs.length = ys.length → (∀ x ∈ xs, x < 4294967296) → (∀ y ∈ ys, y < 4294967296) → vecF xs ++ r = vecF ys ++ s → xs = ys ∧ r = s
  | [], [], r, s, _, _, _, h => ⟨rfl, by simpa [vecF] using h⟩
  | x :: xs, y :: ys, r, s, hl, hx, hy, h => by
    simp only [vecF, List.flatMap_cons, List.append_assoc] at h
    obtain ⟨rfl, h2⟩ := numF_cancel (by have := hx x (by simp); omega) (by have := hy y (by simp); omega) h
    obtain ⟨rfl, h3⟩ := vecF_cancel (xs := xs) (ys := ys) (by simpa using hl) (fun z hz => hx z (by simp [hz])) (fun z hz => hy z (by simp [hz])) h2
    exact ⟨rfl, h3⟩
  | [], _ :: _, _, _, hl, _, _, _ => by simp at hl
  | _ :: _, [], _, _, hl, _, _, _ => by simp at hl
theorem textF_cancel {u v r s : List UInt8} (hu : u.length < 18446744073709551616) (hv : v.length < 18446744073709551616) (h : textF u ++ r = textF v ++ s) : u = v ∧ r = s := by
  simp only [textF, List.append_assoc] at h
  obtain ⟨h1, h2⟩ := numF_cancel hu hv h
  exact List.append_inj h2 h1
theorem textsF_cancel (ps : List POp) : ∀ qs : List POp, ps.length = qs.length → (∀ p ∈ ps, p.1.ok ∧ p.1.lines.length ≤ 16) → (∀ q ∈ qs, q.1.ok ∧ q.1.lines.length ≤ 16) → textsF ps = textsF qs → opsOf ps = opsOf qs := by
  induction ps with
  | nil =>
    intro qs hl _ _ _
    cases qs with
    | nil => rfl
    | cons q qs => simp at hl
  | cons p ps ih =>
    intro qs hl hp hq h
    cases qs with
    | nil => simp at hl
    | cons q qs =>
      obtain ⟨p1, p2⟩ := hp p (by simp)
      obtain ⟨q1, q2⟩ := hq q (by simp)
      have l1 := putO_len p.1 p1 p2
      have l2 := putO_len q.1 q1 q2
      rw [textsF, textsF, List.flatMap_cons, List.flatMap_cons] at h
      obtain ⟨h1, h2⟩ := textF_cancel (by omega) (by omega) h
      have h1' : putO p.1 ++ [] = putO q.1 ++ [] := by rw [h1]
      obtain ⟨h3, _⟩ := putO_inj p1 q1 p2 q2 h1'
      have h4 := ih qs (by simpa using hl) (fun z hz => hp z (List.mem_cons_of_mem _ hz)) (fun z hz => hq z (List.mem_cons_of_mem _ hz)) h2
      rw [opsOf, opsOf] at h4
      rw [opsOf, opsOf, List.map_cons, List.map_cons, h3, h4]
theorem sealed_inj {a b : List UInt8} (h : Crc.sealed a = Crc.sealed b) : a = b := by
  have := Crc.opens_sealed a
  rw [h, Crc.opens_sealed] at this
  exact this.symm
theorem textsF_ops (ps : List POp) : textsF ps = (opsOf ps).flatMap fun x => textF (putO x) := by
  simp [textsF, opsOf, List.flatMap_map]
theorem may_ops {x : NFrame} (h : mayF x) : ∀ p ∈ x.ops, p.1.lines.length ≤ 16 := fun p hp => by
  rcases Nat.lt_or_ge 16 p.1.lines.length with h2 | h2
  · exact absurd ⟨p, hp, h2⟩ h.2.2.2.2.2.2
  · exact h2
/-- the same bytes, the same frame -/
theorem putF_same {x y : NFrame} (hx : x.ok) (hy : y.ok) (gx : ∀ p ∈ x.ops, p.1.ok) (gy : ∀ p ∈ y.ops, p.1.ok) (mx : mayF x) (my : mayF y) : putF x = putF y ↔ sameF x y := by
  constructor
  · intro h
    have h := sealed_inj h
    simp only [bodyF, List.append_assoc] at h
    have k1 := hx.kind; have k2 := hx.src; have k3 := hx.dst
    have j1 := hy.kind; have j2 := hy.src; have j3 := hy.dst
    obtain ⟨h1, h⟩ := vecF_cancel (xs := [x.kind, x.src, x.dst]) (ys := [y.kind, y.src, y.dst]) rfl (by simp; omega) (by simp; omega) h
    obtain ⟨h2, h⟩ := vecF_cancel (hx.have8.trans hy.have8.symm) hx.have_ hy.have_ h
    have n1 := mx.2.2.2.2.2.1
    have n2 := my.2.2.2.2.2.1
    obtain ⟨h3, h⟩ := numF_cancel (by omega) (by omega) h
    have h4 := textsF_cancel _ _ h3 (fun p hp => ⟨gx p hp, may_ops mx p hp⟩) (fun p hp => ⟨gy p hp, may_ops my p hp⟩) h
    simp only [List.cons.injEq, and_true] at h1
    exact ⟨h1.1, h1.2.1, h1.2.2, h2, h4⟩
  · rintro ⟨h1, h2, h3, h4, h5⟩
    unfold putF bodyF
    rw [textsF_ops, textsF_ops, h1, h2, h3, h4, h5, ops_len h5]
end Go.Proofs.Ytfojjklohbiffaa
/- Frames: plain: what is read of a frame's bytes; they are read back; what is read is a frame's bytes. -/
namespace Go.Proofs.Ytfojjklohbiffaa
open Go.RowKit Tran Tran.Wire
set_option linter.unusedVariables false
set_option linter.unusedSimpArgs false
/-- what is read of a frame: its numbers, and the operations' end -/
def frK (l : List UInt8) := rnumS (some (Crc.opens l)) 1
def frS (l : List UInt8) := rnumS (frK l).2 7
def frD (l : List UInt8) := rnumS (frS l).2 7
def frN (l : List UInt8) := rnumS (rvecS (frD l).2 8).2 64
def frR (l : List UInt8) := gOps (Crc.opens l).length (frN l).1 (frN l).2 (Crc.opened l)
/-- the frame that is read, its operations apart -/
def frHead (l : List UInt8) (ps : List POp) : NFrame := { kind := (frK l).1, src := (frS l).1, dst := (frD l).1, have_ := vecZ (frD l).2, ops := ps }
/-- is it one? -/
def frIs (l : List UInt8) : Prop := (frR l).2.2 = true ∧ (frR l).2.1 = some [] ∧ ∀ ps : List POp, opsOf ps = (frR l).1 → mayF (frHead l ps)
theorem may_len {x : NFrame} (h : mayF x) : x.ops.length ≤ 64 := h.2.2.2.2.2.1
theorem frHead_ok (l : List UInt8) (ps : List POp) : (frHead l ps).ok := by
  have h1 := rnumS_le (some (Crc.opens l)) 1
  have h2 := rnumS_le (frK l).2 7
  have h3 := rnumS_le (frS l).2 7
  exact ⟨by show (rnumS _ 1).1 < 256; omega, by show (rnumS _ 7).1 < 256; omega, by show (rnumS _ 7).1 < 256; omega, vecZ_len _, vecZ_lt _⟩
theorem may_same {x y : NFrame} (h : sameF x y) (hm : mayF x) : mayF y := by
  obtain ⟨h1, h2, h3, h4, h5⟩ := h
  have hl := ops_len h5
  obtain ⟨m1, m2, m3, m4, m5, m6, m7⟩ := hm
  refine ⟨by omega, by omega, by omega, by omega, ?_, by omega, ?_⟩
  · rcases m5 with m5 | m5
    · exact .inl (by omega)
    · refine .inr (List.length_eq_zero_iff.1 (by rw [← hl, m5]; rfl))
  · rintro ⟨p, hp, h16⟩
    have : p.1 ∈ opsOf x.ops := by rw [h5]; exact List.mem_map_of_mem hp
    obtain ⟨q, hq, e⟩ := List.mem_map.1 this
    exact m7 ⟨q, hq, by rw [e]; exact h16⟩
theorem takeS_app (s r : List UInt8) : takeS (some (s ++ r)) s.length = (s, some r) := by
  simp [takeS]
theorem rtext_text (s r : List UInt8) (m : Nat) (h : s.length ≤ m) (hm : s.length < 2 ^ 64) : rtextS (some (textF s ++ r)) (m : Int) = (s, some r) := by
  unfold rtextS textF
  rw [List.append_assoc, Int.toNat_natCast, rnum_nm s.length m h hm (s ++ r)]
  exact takeS_app s r
theorem textsF_cons (p : POp) (ps : List POp) : textsF (p :: ps) = textF (putO p.1) ++ textsF ps := rfl
theorem gotO_put (x : NOp) (hx : x.ok) (hl : x.lines.length ≤ 16) : (rdO (some (putO x))).2 = some [] ∧ gotO (putO x) = x := by
  have h := rdO_put x hx hl []
  rw [List.append_nil] at h
  have h2 : (rdO (some (putO x))).2 = some [] := by rw [h]
  refine ⟨h2, ?_⟩
  unfold gotO
  rw [if_pos h2, h]
/-- operations' texts are read back -/
theorem gOps_put (L : Nat) (r : List UInt8) (ps : List POp) (hp : ∀ p ∈ ps, p.1.ok ∧ p.1.lines.length ≤ 16) (hL : (textsF ps).length ≤ L) : gOps L ps.length (some (textsF ps ++ r)) true = (opsOf ps, some r, true) := by
  induction ps with
  | nil => rfl
  | cons p ps ih =>
    obtain ⟨h1, h2⟩ := hp p (by simp)
    have hl := putO_len p.1 h1 h2
    obtain ⟨g1, g2⟩ := gotO_put p.1 h1 h2
    rw [textsF_cons, List.length_append] at hL
    have hle : (putO p.1).length ≤ (textF (putO p.1)).length := by rw [textF, List.length_append]; omega
    have ht : rtextS (some (textsF (p :: ps) ++ r)) (L : Int) = (putO p.1, some (textsF ps ++ r)) := by
      rw [textsF_cons, List.append_assoc]
      exact rtext_text _ _ L (by omega) (by omega)
    have ih := ih (fun q hq => hp q (List.mem_cons_of_mem _ hq)) (by omega)
    rw [List.length_cons, gOps_yes (by rw [ht]; exact g1), ht]
    simp only [g2, ih]
    rfl
theorem takeS_some {q l : List UInt8} {n : Nat} (h : (takeS (some q) n).2 = some l) : q = (takeS (some q) n).1 ++ l ∧ (takeS (some q) n).1.length = n := by
  simp only [takeS] at h ⊢
  by_cases hle : n ≤ q.length
  · rw [if_pos hle] at h ⊢
    simp only [Option.some.injEq] at h
    exact ⟨by rw [← h, List.take_append_drop], by rw [List.length_take, Nat.min_eq_left hle]⟩
  · rw [if_neg hle] at h
    simp at h
theorem text_some {st : Option (List UInt8)} {m : Int} {l : List UInt8} (h : (rtextS st m).2 = some l) : st = some (textF (rtextS st m).1 ++ l) := by
  unfold rtextS at h ⊢
  generalize hn : rnumS st m.toNat = n at *
  obtain ⟨n, q⟩ := n
  simp only at h ⊢
  cases q with
  | none => simp [takeS] at h
  | some q =>
    obtain ⟨h1, h2⟩ := takeS_some h
    have h3 : st = some (numF n ++ q) := by
      have h4 := num_some (st := st) (m := m.toNat) (l := q) (by rw [hn])
      rwa [hn] at h4
    rw [h3, textF, h2, List.append_assoc, ← h1]
theorem rdO_whole {t : List UInt8} (h : (rdO (some t)).2 = some []) : t = putO (gotO t) := by
  have h1 := rdO_some h
  unfold gotO
  rw [if_pos h]
  rw [List.append_nil] at h1
  injection h1
/-- what is read of operations is their texts -/
theorem gOps_some (L : Nat) (n : Nat) : ∀ (st : Option (List UInt8)) {os : List NOp} {r : List UInt8}, gOps L n st true = (os, some r, true) →
    st = some (os.flatMap (fun x => textF (putO x)) ++ r) ∧ os.length = n ∧ ∀ x ∈ os, x.ok ∧ x.lines.length ≤ 16 := by
  induction n with
  | zero =>
    intro st os r h
    simp only [gOps, Prod.mk.injEq, and_true] at h
    obtain ⟨rfl, rfl⟩ := h
    simp
  | succ n ih =>
    intro st os r h
    by_cases hc : (rdO (some (rtextS st L).1)).2 = some []
    · rw [gOps_yes hc] at h
      generalize hg : gOps L n (rtextS st L).2 true = q at h
      obtain ⟨os', st', b'⟩ := q
      simp only [Prod.mk.injEq] at h
      obtain ⟨rfl, rfl, rfl⟩ := h
      obtain ⟨h1, h2, h3⟩ := ih _ hg
      have h4 := text_some h1
      have h5 := rdO_whole hc
      have h6 := gotO_ok (rtextS st (L : Int)).1
      have h7 := gotO_lines (rtextS st (L : Int)).1
      generalize gotO (rtextS st (L : Int)).1 = x0 at *
      refine ⟨?_, by rw [List.length_cons, h2], ?_⟩
      · rw [List.flatMap_cons, ← h5, List.append_assoc]
        exact h4
      · intro x hx
        rcases List.mem_cons.1 hx with h8 | h8
        · rw [h8]; exact ⟨h6, h7⟩
        · exact h3 x h8
    · rw [gOps_bad hc] at h
      have h2 := congrArg (fun q => q.2.2) h
      exact Bool.noConfusion h2
/-- a frame's bytes are read back -/
theorem fr_put (x : NFrame) (hx : x.ok) (gx : ∀ p ∈ x.ops, p.1.ok) (mx : mayF x) : frIs (putF x) ∧ (frR (putF x)).1 = opsOf x.ops ∧ ∀ ps, frHead (putF x) ps = { x with ops := ps } := by
  have m1 := mx.1; have m2 := mx.2.1; have m3 := mx.2.2.1; have m6 := may_len mx
  have hop : Crc.opens (putF x) = bodyF x := Crc.opens_sealed _
  have hod : Crc.opened (putF x) = true := Crc.opened_sealed _
  have eb : bodyF x = numF x.kind ++ (numF x.src ++ (numF x.dst ++ (vecF x.have_ ++ (numF x.ops.length ++ textsF x.ops)))) := by
    simp only [bodyF, List.append_assoc]
    simp only [vecF, List.flatMap_cons, List.flatMap_nil, List.append_assoc, List.nil_append, List.append_nil]
  have hK : frK (putF x) = (x.kind, some (numF x.src ++ (numF x.dst ++ (vecF x.have_ ++ (numF x.ops.length ++ textsF x.ops))))) := by
    unfold frK; rw [hop, eb]; exact rnum_nm _ 1 (by omega) (by omega) _
  have hS : frS (putF x) = (x.src, some (numF x.dst ++ (vecF x.have_ ++ (numF x.ops.length ++ textsF x.ops)))) := by
    unfold frS; rw [hK]; exact rnum_nm _ 7 (by omega) (by omega) _
  have hD : frD (putF x) = (x.dst, some (vecF x.have_ ++ (numF x.ops.length ++ textsF x.ops))) := by
    unfold frD; rw [hS]; exact rnum_nm _ 7 (by omega) (by omega) _
  have hV : rvecS (frD (putF x)).2 8 = (x.have_, some (numF x.ops.length ++ textsF x.ops)) := by
    rw [hD, rvec_vec x.have_ hx.have_ _ 8 (by rw [hx.have8]; omega), List.take_of_length_le (by rw [hx.have8]; omega), List.drop_of_length_le (by rw [hx.have8]; omega)]
    rfl
  have hN : frN (putF x) = (x.ops.length, some (textsF x.ops)) := by
    unfold frN; rw [hV]; exact rnum_nm _ 64 m6 (by omega) _
  have hR : frR (putF x) = (opsOf x.ops, some [], true) := by
    unfold frR
    rw [hN, hod, hop]
    have h := gOps_put (bodyF x).length [] x.ops (fun p hp => ⟨gx p hp, may_ops mx p hp⟩) (by rw [eb]; simp only [List.length_append]; omega)
    rw [List.append_nil] at h
    exact h
  have hH : ∀ ps, frHead (putF x) ps = { x with ops := ps } := fun ps => by
    unfold frHead
    rw [vecZ_of hV, hK, hS, hD]
  refine ⟨⟨by rw [hR], by rw [hR], fun ps hps => ?_⟩, by rw [hR], hH⟩
  rw [hR] at hps
  rw [hH]
  exact may_same (x := x) ⟨rfl, rfl, rfl, rfl, hps.symm⟩ mx
/-- what is read of a frame is its bytes -/
theorem fr_back (l : List UInt8) (h : frIs l) (ps : List POp) (hps : opsOf ps = (frR l).1) : putF (frHead l ps) = l ∧ ∀ p ∈ ps, p.1.ok ∧ p.1.lines.length ≤ 16 := by
  obtain ⟨h1, h2, h3⟩ := h
  have hod : Crc.opened l = true := by
    cases ho : Crc.opened l with
    | true => rfl
    | false =>
      unfold frR at h1
      rw [ho, gOps_no] at h1
      cases h1
  obtain ⟨s, rfl⟩ := (Crc.opened_iff l).1 hod
  have hop : Crc.opens (Crc.sealed s) = s := Crc.opens_sealed s
  have hR : frR (Crc.sealed s) = ((frR (Crc.sealed s)).1, some [], true) := by
    rw [← h2, ← h1]
  have hR2 := hR
  conv at hR2 => lhs; unfold frR
  rw [hod] at hR2
  obtain ⟨g1, g2, g3⟩ := gOps_some _ _ _ hR2
  rw [List.append_nil] at g1
  have a5 := num_some g1
  have a4 := vec_some a5
  have a3 := num_some a4
  have a2 := num_some a3
  have a1 := num_some a2
  rw [hop] at a1
  injection a1 with a1
  refine ⟨?_, fun p hp => g3 p.1 (by rw [← hps]; exact List.mem_map_of_mem hp)⟩
  unfold putF
  congr 1
  have hlen : ps.length = (rnumS (rvecS (frD (Crc.sealed s)).2 8).2 64).1 := by
    have : (opsOf ps).length = (frN (Crc.sealed s)).1 := by rw [hps]; exact g2
    rw [opsOf, List.length_map] at this
    exact this
  rw [bodyF, textsF_ops]
  show vecF [(frK _).1, (frS _).1, (frD _).1] ++ vecF (vecZ (frD _).2) ++ numF ps.length ++ (opsOf ps).flatMap _ = s
  rw [hps, hlen]
  simp only [vecF, List.flatMap_cons, List.flatMap_nil, List.append_assoc, List.nil_append, List.append_nil]
  simp only [vecF] at a1
  refine Eq.trans ?_ a1.symm
  unfold frD frS frK
  rw [hop]
end Go.Proofs.Ytfojjklohbiffaa
