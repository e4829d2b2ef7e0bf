/- Frames: frame.Get: what is read, plain; the operations got, in memory of the call's own. -/
import Derived.Test.YtfojjklohbiffaaMp25
import Derived.Test.YtfojjklohbiffaaMp26
import Derived.Test.YtfojjklohbiffaaMp30
namespace Go.Proofs.Ytfojjklohbiffaa
open Go.RowKit Tran Tran.Wire
set_option linter.unusedVariables false
set_option linter.unusedSimpArgs false
/-- n operations read, each in a text, as long as they are operations -/
def gOps (L : Nat) : Nat → Option (List UInt8) → Bool → List NOp × Option (List UInt8) × Bool
  | 0, st, is => ([], st, is)
  | n + 1, st, false => ([], st, false)
  | n + 1, st, true =>
    if (rdO (some (rtextS st L).1)).2 = some [] then (gotO (rtextS st L).1 :: (gOps L n (rtextS st L).2 true).1, (gOps L n (rtextS st L).2 true).2)
    else ([], (rtextS st L).2, false)
theorem gOps_no (L n : Nat) (st : Option (List UInt8)) : gOps L n st false = ([], st, false) := by cases n <;> rfl
theorem gOps_yes {L n : Nat} {st : Option (List UInt8)} (h : (rdO (some (rtextS st L).1)).2 = some []) : gOps L (n + 1) st true = (gotO (rtextS st L).1 :: (gOps L n (rtextS st L).2 true).1, (gOps L n (rtextS st L).2 true).2) := by
  simp only [gOps, h, if_true]
theorem gOps_bad {L n : Nat} {st : Option (List UInt8)} (h : ¬ (rdO (some (rtextS st L).1)).2 = some []) : gOps L (n + 1) st true = ([], (rtextS st L).2, false) := by
  simp only [gOps, if_neg h]
/-- operations in memory of the call's own -/
def OpsO (w : World) (B : Nat) (ov : Value) (ps : List POp) : Prop :=
  Tran.Own w B 122 29 ov ps.length (ps.flatMap pF) ∧ ∀ p ∈ ps, Tran.Own w B 177 4 p.2 p.1.lines.length (p.1.lines.flatMap claimF) ∧ p.1.ok ∧ p.1.lines.length ≤ 16
theorem OpsO.nil (w : World) (B : Nat) : OpsO w B (.slice none 0 0) [] := ⟨Tran.Own.nil _ _ _ _, by simp⟩
theorem OpsO.ops {w : World} {B : Nat} {ov : Value} {ps : List POp} (h : OpsO w B ov ps) (hl : ps.length ≤ 64) : Ops w ov ps := by
  obtain ⟨A, cap, rfl, _, _, hr⟩ := h.1.slice
  exact ⟨A, cap, rfl, hr, by omega, fun p hp => ⟨lns_own (h.2 p hp).1 (h.2 p hp).2.2, (h.2 p hp).2.1⟩⟩
theorem OpsO.chg {w w' : World} {B : Nat} {ov : Value} {ps : List POp} {S : Nat → Prop} (h : OpsO w B ov ps) (hc : Chg S w w') (hS : ∀ k, S k → k < B) : OpsO w' B ov ps :=
  ⟨h.1.chg hc (fun g hg k => by have := (h.1.lt g hg).1; have := hS g k; omega), fun p hp => ⟨(h.2 p hp).1.chg hc (fun g hg k => by have := ((h.2 p hp).1.lt g hg).1; have := hS g k; omega), (h.2 p hp).2⟩⟩
theorem OpsO.below {w w' : World} {B : Nat} {ov : Value} {ps : List POp} (h : OpsO w B ov ps) (hb : Below w.heap.size w w') : OpsO w' B ov ps :=
  ⟨h.1.below hb (Nat.le_refl _), fun p hp => ⟨(h.2 p hp).1.below hb (Nat.le_refl _), (h.2 p hp).2⟩⟩
theorem OpsO.far {w : World} {B : Nat} {ov : Value} {ps : List POp} (h : OpsO w B ov ps) {q : Addr} (hq : q.block < B) (u : Value) : OpsO (w.setCell q u) B ov ps :=
  ⟨h.1.far (fun e => by have := (h.1.lt _ e).1; omega) u, fun p hp => ⟨(h.2 p hp).1.far (fun e => by have := ((h.2 p hp).1.lt _ e).1; omega) u, (h.2 p hp).2⟩⟩
theorem OpsO.rowFar {w : World} {B : Nat} {ov : Value} {ps : List POp} (h : OpsO w B ov ps) {g : Nat} (h1 : blkOf ov ≠ some g) (h2 : ∀ p ∈ ps, blkOf p.2 ≠ some g) (cs : Array Value) : OpsO (w.setRow g cs) B ov ps :=
  ⟨h.1.rowFar h1 cs, fun p hp => ⟨(h.2 p hp).1.rowFar (h2 p hp) cs, (h.2 p hp).2⟩⟩
theorem own_apart {w : World} {B C e f m n k l : Nat} {v u : Value} {xs ys : List Value} (h : Tran.Own w B e m v k xs) (h2 : Tran.Own w C f n u l ys) (hne : e ≠ f) : ∀ g, blkOf v = some g → blkOf u ≠ some g := by
  intro g hg hu
  rcases h.2 with ⟨A, rfl, _⟩ | ⟨g1, c1, cur1, fz1, rfl, _, hb1, _⟩
  · cases A <;> simp [blkOf] at hg
  · rcases h2.2 with ⟨A, rfl, _⟩ | ⟨g2, c2, cur2, fz2, rfl, _, hb2, _⟩
    · cases A <;> simp [blkOf] at hu
    · simp [blkOf] at hg hu
      subst hg hu
      rw [hb1] at hb2
      injection hb2 with hb2
      injection hb2 with _ hb2 _
      exact hne hb2
/-- one operation more: what append leaves -/
theorem OpsO.snoc {w w' : World} {B : Nat} {ov v' : Value} {ps : List POp} {p : POp} (h : OpsO w B ov ps) (hp : Tran.Own w B 177 4 p.2 p.1.lines.length (p.1.lines.flatMap claimF)) (hok : p.1.ok) (hl : p.1.lines.length ≤ 16)
    (hg : w.grownBy w' (blkOf ov)) (ho : Tran.Own w' B 122 29 v' (ps.length + 1) (ps.flatMap pF ++ pF p)) : OpsO w' B v' (ps ++ [p]) := by
  have keep : ∀ q : POp, Tran.Own w B 177 4 q.2 q.1.lines.length (q.1.lines.flatMap claimF) → Tran.Own w' B 177 4 q.2 q.1.lines.length (q.1.lines.flatMap claimF) := fun q hq => by
    refine hq.kept hg ?_
    cases hb : blkOf q.2 with
    | none => exact .inl rfl
    | some g => exact .inr fun e => own_apart hq h.1 (by decide) g hb e.symm
  refine ⟨by simpa using ho, fun q hq => ?_⟩
  rcases List.mem_append.1 hq with hq | hq
  · exact ⟨keep q (h.2 q hq).1, (h.2 q hq).2⟩
  · simp at hq
    subst hq
    exact ⟨keep _ hp, hok, hl⟩
theorem info122 : (Try.prog.info? 122).map (fun i => (i.zero, i.size, i.bytes)) = some (some (.agg (opA zeroO (.slice none 0 0))), 29, 144) := by kernel_rfl
end Go.Proofs.Ytfojjklohbiffaa
/- Frames compared: frame.Same, the document's Same. -/
namespace Tran
open Go Go.RowKit
theorem exec_bslice {P : Program} {o : Oper} {a : Act} {w w' : World} (t : TypeId) (n : Nat) (parts : Array (Nat × Operand)) (ho : o.op = .buildSlice t n parts) {vs : Array (Nat × Value)} {v : Value} (hv : (parts.map fun (i, x) => (i, a.eval x)) = vs)
    (hr : (Instr.buildSlice t n vs).run P w = .ok v w') : (execOp a.eval o).run P w = .ok (.value v) w' := by
  have hr' : (Instr.buildSlice t n (parts.map fun (i, x) => (i, a.eval x))).run P w = .ok v w' := by rw [hv]; exact hr
  unfold execOp
  simp only [ho, Sem.run_bind, hr', Result.andThen_ok]
  rfl
theorem lst_call_if {P : Program} {ops : Array Oper} {rest : List Oper} {Q : Exit → Act → World → Prop} {o : Oper} {a : Act} {w : World} (d : Option Tmp) {f : FuncId} {args : Array Value} (hd : o.dst = d) (hw : Region.wanted o (yielded ops a.tmps) = true) (hrun : (execOp a.eval o).run P w = .ok (.enter f args) w)
    (h : Calls P f args w fun e w' => ∃ v, e = .returned v ∧ wpList P ops Q rest (a.put d v) w') : wpList P ops Q (o :: rest) a w := by
  subst hd
  refine wpList_step fun K hK => ?_
  rw [if_pos hw]
  unfold Oper.wp
  simp only [hrun, Oper.upon]
  refine h.mono ?_
  rintro e w' ⟨v, rfl, hh⟩
  exact hK _ _ hh
end Tran
namespace Go.Proofs.Ytfojjklohbiffaa
open Go.RowKit Tran
set_option linter.unusedVariables false
set_option linter.unusedSimpArgs false
/-- frames that are the same -/
def sameF (x y : NFrame) : Prop := x.kind = y.kind ∧ x.src = y.src ∧ x.dst = y.dst ∧ x.have_ = y.have_ ∧ opsOf x.ops = opsOf y.ops
theorem bs179 (W : World) (a b c d e : Bool) : (Instr.buildSlice 179 5 #[(0, .bool a), (1, .bool b), (2, .bool c), (3, .bool d), (4, .bool e)]).run Try.prog W = .ok (.slice (some ⟨W.heap.size, 0, none⟩) 5 5) (W.alloc (.cells #[.bool a, .bool b, .bool c, .bool d, .bool e] 4)) := by go_simp
section
variable {w : World} {x y : NFrame} {ov pv : Value} {W : World}
theorem sf (hx : x.ok) (hO : Ops w ov x.ops) (h : SI w 57 (frA x ov) (frA y pv) W) : True := trivial
end
theorem en103 (args : Array Value) (W : World) : (callFunc 103 args).run Try.prog W = .ok (.enter 103 args) W := enters_of Try.func103 (by kernel_rfl) rfl args W
theorem en102 (args : Array Value) (W : World) : (callFunc 102 args).run Try.prog W = .ok (.enter 102 args) W := enters_of Try.func102 (by kernel_rfl) rfl args W
theorem en98 (args : Array Value) (W : World) : (callFunc 98 args).run Try.prog W = .ok (.enter 98 args) W := enters_of Try.func98 (by kernel_rfl) rfl args W
set_option maxRecDepth 100000 in
set_option maxHeartbeats 8000000 in
theorem fsame_any (w : World) (x y : NFrame) (ov pv : Value) (hx : x.ok) (hy : y.ok) (hO : Ops w ov x.ops) (hQ : Ops w pv y.ops) : Calls Try.prog 50 #[.agg (frA x ov), .agg (frA y pv)] w (Tells w (sameF x y)) := by
  obtain ⟨r0, hr0⟩ := bool_of (x.kind = y.kind)
  obtain ⟨r1, hr1⟩ := bool_of (x.src = y.src)
  obtain ⟨r2, hr2⟩ := bool_of (x.dst = y.dst)
  obtain ⟨r3, hr3⟩ := bool_of (x.have_ = y.have_)
  obtain ⟨r4, hr4⟩ := bool_of (opsOf x.ops = opsOf y.ops)
  have HR := Lib.hid (show ([r0, r1, r2, r3, r4].all id) = true ↔ sameF x y by
    unfold sameF
    rw [← hr0, ← hr1, ← hr2, ← hr3, ← hr4]
    simp)
  have S0 := SI.start w 57 (frA x ov) (frA y pv)
  have C := Lib.hid (fun W (h : SI w 57 (frA x ov) (frA y pv) W) => (equalf_any W ov pv x.ops y.ops (hO.later h.b) (hQ.later h.b)).mono fun e w' h => h.fixed hr4)
  have Q3 := Lib.hid (fun W => eql_vec x.have_ y.have_ hx.have8 hy.have8 r3 hr3 W)
  have L0 := Lib.hid (fun W (h : SI w 57 (frA x ov) (frA y pv) W) => (h.k0.cell 0).trans (fr_c0 x _))
  have M0 := Lib.hid (fun W (h : SI w 57 (frA x ov) (frA y pv) W) => (h.k1.cell 0).trans (fr_c0 y _))
  have L1 := Lib.hid (fun W (h : SI w 57 (frA x ov) (frA y pv) W) => (h.k0.cell 1).trans (fr_c1 x _))
  have M1 := Lib.hid (fun W (h : SI w 57 (frA x ov) (frA y pv) W) => (h.k1.cell 1).trans (fr_c1 y _))
  have L2 := Lib.hid (fun W (h : SI w 57 (frA x ov) (frA y pv) W) => (h.k0.cell 2).trans (fr_c2 x _))
  have M2 := Lib.hid (fun W (h : SI w 57 (frA x ov) (frA y pv) W) => (h.k1.cell 2).trans (fr_c2 y _))
  have L3 := Lib.hid (fun W (h : SI w 57 (frA x ov) (frA y pv) W) => ld54 x.have_ hx.have8 (fun j u hj => (h.k0.cell (3 + j)).trans (fr_c3 x _ j u hj)))
  have M3 := Lib.hid (fun W (h : SI w 57 (frA x ov) (frA y pv) W) => ld54 y.have_ hy.have8 (fun j u hj => (h.k1.cell (3 + j)).trans (fr_c3 y _ j u hj)))
  have L4 := Lib.hid (fun W (h : SI w 57 (frA x ov) (frA y pv) W) => (h.k0.cell 11).trans (fr_c11 x _ hx.have8))
  have M4 := Lib.hid (fun W (h : SI w 57 (frA x ov) (frA y pv) W) => (h.k1.cell 11).trans (fr_c11 y _ hy.have8))
  have S0 := Lib.hid S0
  have HQ := Lib.hid (And.intro hr0 (And.intro hr1 hr2))
  clear hx hy hO hQ hr0 hr1 hr2 hr3 hr4
  generalize frA x ov = X at *
  generalize frA y pv = Y at *
  go_enter Try.func50, Try.ntmps50
  go_wp2_with fail
  refine reg_begin_ (SI w 57 X Y) (by kernel_rfl) ?_
  intro A hA
  have h2 : A.eval (.tmp 2) = .pointer (some ⟨w.heap.size, 0, none⟩) := by rw [hA]; rfl
  have h3 : A.eval (.tmp 3) = .pointer (some ⟨w.heap.size + 1, 0, none⟩) := by rw [hA]; rfl
  have hsz : A.tmps.size = 32 := by rw [hA]; rfl
  have hdf : A.defers = [] := by rw [hA]
  have hS := SI.drew S0.out
  clear hA
  refine reg_take (some 5) (i := 0) (.pointer (some ⟨w.heap.size, 0, none⟩)) rfl rfl (by kernel_rfl) (fun _ _ _ h => h) (by rfl) (fun W hW => exec_addr 57 _ 0 rfl h2 (fb0)) hS ?_
  refine reg_take (some 6) (i := 1) (.int .u8 (x.kind : Int)) rfl rfl (by kernel_rfl) (fun _ _ _ h => h) (by rfl) (fun W hW => exec_load1 5 _ rfl (ev_eq (by (try simp only [Act.size_put]); rw [hsz]; decide)) (ld5 (L0.out W hW))) hS ?_
  refine reg_take (some 7) (i := 2) (.pointer (some ⟨w.heap.size + 1, 0, none⟩)) rfl rfl (by kernel_rfl) (fun _ _ _ h => h) (by rfl) (fun W hW => exec_addr 57 _ 0 rfl (ev_ne (by rfl) (ev_ne (by rfl) h3)) (fb0)) hS ?_
  refine reg_take (some 8) (i := 3) (.int .u8 (y.kind : Int)) rfl rfl (by kernel_rfl) (fun _ _ _ h => h) (by rfl) (fun W hW => exec_load1 5 _ rfl (ev_eq (by (try simp only [Act.size_put]); rw [hsz]; decide)) (ld5 (M0.out W hW))) hS ?_
  refine reg_take (some 9) (i := 4) (.bool r0) rfl rfl (by kernel_rfl) (fun _ _ _ h => h) (by rfl) (fun W hW => exec_bin .eql 5 5 _ _ rfl (ev_ne (by rfl) (ev_ne (by rfl) (ev_eq (by (try simp only [Act.size_put]); rw [hsz]; decide)))) (ev_eq (by (try simp only [Act.size_put]); rw [hsz]; decide)) (eqgi) (eqi5 HQ.out.1)) hS ?_
  refine reg_take (some 10) (i := 5) (.pointer (some ⟨w.heap.size, 1, none⟩)) rfl rfl (by kernel_rfl) (fun _ _ _ h => h) (by rfl) (fun W hW => exec_addr 57 _ 1 rfl (ev_ne (by rfl) (ev_ne (by rfl) (ev_ne (by rfl) (ev_ne (by rfl) (ev_ne (by rfl) h2))))) (fb1)) hS ?_
  refine reg_take (some 11) (i := 6) (.int .u8 (x.src : Int)) rfl rfl (by kernel_rfl) (fun _ _ _ h => h) (by rfl) (fun W hW => exec_load1 5 _ rfl (ev_eq (by (try simp only [Act.size_put]); rw [hsz]; decide)) (ld5 (L1.out W hW))) hS ?_
  refine reg_take (some 12) (i := 7) (.pointer (some ⟨w.heap.size + 1, 1, none⟩)) rfl rfl (by kernel_rfl) (fun _ _ _ h => h) (by rfl) (fun W hW => exec_addr 57 _ 1 rfl (ev_ne (by rfl) (ev_ne (by rfl) (ev_ne (by rfl) (ev_ne (by rfl) (ev_ne (by rfl) (ev_ne (by rfl) (ev_ne (by rfl) h3))))))) (fb1)) hS ?_
  refine reg_take (some 13) (i := 8) (.int .u8 (y.src : Int)) rfl rfl (by kernel_rfl) (fun _ _ _ h => h) (by rfl) (fun W hW => exec_load1 5 _ rfl (ev_eq (by (try simp only [Act.size_put]); rw [hsz]; decide)) (ld5 (M1.out W hW))) hS ?_
  refine reg_take (some 14) (i := 9) (.bool r1) rfl rfl (by kernel_rfl) (fun _ _ _ h => h) (by rfl) (fun W hW => exec_bin .eql 5 5 _ _ rfl (ev_ne (by rfl) (ev_ne (by rfl) (ev_eq (by (try simp only [Act.size_put]); rw [hsz]; decide)))) (ev_eq (by (try simp only [Act.size_put]); rw [hsz]; decide)) (eqgi) (eqi5 HQ.out.2.1)) hS ?_
  refine reg_take (some 15) (i := 10) (.pointer (some ⟨w.heap.size, 2, none⟩)) rfl rfl (by kernel_rfl) (fun _ _ _ h => h) (by rfl) (fun W hW => exec_addr 57 _ 2 rfl (ev_ne (by rfl) (ev_ne (by rfl) (ev_ne (by rfl) (ev_ne (by rfl) (ev_ne (by rfl) (ev_ne (by rfl) (ev_ne (by rfl) (ev_ne (by rfl) (ev_ne (by rfl) (ev_ne (by rfl) h2)))))))))) (fb2)) hS ?_
  refine reg_take (some 16) (i := 11) (.int .u8 (x.dst : Int)) rfl rfl (by kernel_rfl) (fun _ _ _ h => h) (by rfl) (fun W hW => exec_load1 5 _ rfl (ev_eq (by (try simp only [Act.size_put]); rw [hsz]; decide)) (ld5 (L2.out W hW))) hS ?_
  refine reg_take (some 17) (i := 12) (.pointer (some ⟨w.heap.size + 1, 2, none⟩)) rfl rfl (by kernel_rfl) (fun _ _ _ h => h) (by rfl) (fun W hW => exec_addr 57 _ 2 rfl (ev_ne (by rfl) (ev_ne (by rfl) (ev_ne (by rfl) (ev_ne (by rfl) (ev_ne (by rfl) (ev_ne (by rfl) (ev_ne (by rfl) (ev_ne (by rfl) (ev_ne (by rfl) (ev_ne (by rfl) (ev_ne (by rfl) (ev_ne (by rfl) h3)))))))))))) (fb2)) hS ?_
  refine reg_take (some 18) (i := 13) (.int .u8 (y.dst : Int)) rfl rfl (by kernel_rfl) (fun _ _ _ h => h) (by rfl) (fun W hW => exec_load1 5 _ rfl (ev_eq (by (try simp only [Act.size_put]); rw [hsz]; decide)) (ld5 (M2.out W hW))) hS ?_
  refine reg_take (some 19) (i := 14) (.bool r2) rfl rfl (by kernel_rfl) (fun _ _ _ h => h) (by rfl) (fun W hW => exec_bin .eql 5 5 _ _ rfl (ev_ne (by rfl) (ev_ne (by rfl) (ev_eq (by (try simp only [Act.size_put]); rw [hsz]; decide)))) (ev_eq (by (try simp only [Act.size_put]); rw [hsz]; decide)) (eqgi) (eqi5 HQ.out.2.2)) hS ?_
  refine reg_take (some 20) (i := 15) (.pointer (some ⟨w.heap.size, 3, none⟩)) rfl rfl (by kernel_rfl) (fun _ _ _ h => h) (by rfl) (fun W hW => exec_addr 57 _ 3 rfl (ev_ne (by rfl) (ev_ne (by rfl) (ev_ne (by rfl) (ev_ne (by rfl) (ev_ne (by rfl) (ev_ne (by rfl) (ev_ne (by rfl) (ev_ne (by rfl) (ev_ne (by rfl) (ev_ne (by rfl) (ev_ne (by rfl) (ev_ne (by rfl) (ev_ne (by rfl) (ev_ne (by rfl) (ev_ne (by rfl) h2))))))))))))))) (fb3)) hS ?_
  refine reg_take (some 21) (i := 16) (.agg (vecA x.have_)) rfl rfl (by kernel_rfl) (fun _ _ _ h => h) (by rfl) (fun W hW => exec_load1 54 _ rfl (ev_eq (by (try simp only [Act.size_put]); rw [hsz]; decide)) (L3.out W hW)) hS ?_
  refine reg_take (some 22) (i := 17) (.pointer (some ⟨w.heap.size + 1, 3, none⟩)) rfl rfl (by kernel_rfl) (fun _ _ _ h => h) (by rfl) (fun W hW => exec_addr 57 _ 3 rfl (ev_ne (by rfl) (ev_ne (by rfl) (ev_ne (by rfl) (ev_ne (by rfl) (ev_ne (by rfl) (ev_ne (by rfl) (ev_ne (by rfl) (ev_ne (by rfl) (ev_ne (by rfl) (ev_ne (by rfl) (ev_ne (by rfl) (ev_ne (by rfl) (ev_ne (by rfl) (ev_ne (by rfl) (ev_ne (by rfl) (ev_ne (by rfl) (ev_ne (by rfl) h3))))))))))))))))) (fb3)) hS ?_
  refine reg_take (some 23) (i := 18) (.agg (vecA y.have_)) rfl rfl (by kernel_rfl) (fun _ _ _ h => h) (by rfl) (fun W hW => exec_load1 54 _ rfl (ev_eq (by (try simp only [Act.size_put]); rw [hsz]; decide)) (M3.out W hW)) hS ?_
  refine reg_take (some 24) (i := 19) (.bool r3) rfl rfl (by kernel_rfl) (fun _ _ _ h => h) (by rfl) (fun W hW => exec_bin .eql 54 54 _ _ rfl (ev_ne (by rfl) (ev_ne (by rfl) (ev_eq (by (try simp only [Act.size_put]); rw [hsz]; decide)))) (ev_eq (by (try simp only [Act.size_put]); rw [hsz]; decide)) (eqg_agg _ _ _ _ _ _ W eqt54) (Q3.out W)) hS ?_
  refine reg_take (some 25) (i := 20) (.pointer (some ⟨w.heap.size, 11, none⟩)) rfl rfl (by kernel_rfl) (fun _ _ _ h => h) (by rfl) (fun W hW => exec_addr 57 _ 4 rfl (ev_ne (by rfl) (ev_ne (by rfl) (ev_ne (by rfl) (ev_ne (by rfl) (ev_ne (by rfl) (ev_ne (by rfl) (ev_ne (by rfl) (ev_ne (by rfl) (ev_ne (by rfl) (ev_ne (by rfl) (ev_ne (by rfl) (ev_ne (by rfl) (ev_ne (by rfl) (ev_ne (by rfl) (ev_ne (by rfl) (ev_ne (by rfl) (ev_ne (by rfl) (ev_ne (by rfl) (ev_ne (by rfl) (ev_ne (by rfl) h2)))))))))))))))))))) (fb4)) hS ?_
  refine reg_take (some 26) (i := 21) (ov) rfl rfl (by kernel_rfl) (fun _ _ _ h => h) (by rfl) (fun W hW => exec_load1 55 _ rfl (ev_eq (by (try simp only [Act.size_put]); rw [hsz]; decide)) (ld55 (L4.out W hW))) hS ?_
  refine reg_take (some 27) (i := 22) (.pointer (some ⟨w.heap.size + 1, 11, none⟩)) rfl rfl (by kernel_rfl) (fun _ _ _ h => h) (by rfl) (fun W hW => exec_addr 57 _ 4 rfl (ev_ne (by rfl) (ev_ne (by rfl) (ev_ne (by rfl) (ev_ne (by rfl) (ev_ne (by rfl) (ev_ne (by rfl) (ev_ne (by rfl) (ev_ne (by rfl) (ev_ne (by rfl) (ev_ne (by rfl) (ev_ne (by rfl) (ev_ne (by rfl) (ev_ne (by rfl) (ev_ne (by rfl) (ev_ne (by rfl) (ev_ne (by rfl) (ev_ne (by rfl) (ev_ne (by rfl) (ev_ne (by rfl) (ev_ne (by rfl) (ev_ne (by rfl) (ev_ne (by rfl) h3)))))))))))))))))))))) (fb4)) hS ?_
  refine reg_take (some 28) (i := 23) (pv) rfl rfl (by kernel_rfl) (fun _ _ _ h => h) (by rfl) (fun W hW => exec_load1 55 _ rfl (ev_eq (by (try simp only [Act.size_put]); rw [hsz]; decide)) (ld55 (M4.out W hW))) hS ?_
  refine reg_call (some 29) (i := 24) rfl rfl (by kernel_rfl) (by rfl) (exec_call0 rfl rfl (map3 (ev_ne (by rfl) (ev_ne (by rfl) (ev_eq (by (try simp only [Act.size_put]); rw [hsz]; decide)))) (ev_eq (by (try simp only [Act.size_put]); rw [hsz]; decide)) rfl) en103) ?_
  refine (C.out _ hS).mono ?_
  rintro _ w2 ⟨rfl, hb2⟩
  have hS2 := SI.next _ _ hS hb2
  refine ⟨_, rfl, hS2, ?_⟩
  have hS3 : SI w 57 X Y (w2.alloc (.cells #[.bool r0, .bool r1, .bool r2, .bool r3, .bool r4] 4)) := SI.next _ _ hS2 ((Below.refl _ _).alloc (Nat.le_refl _) _)
  refine reg_run (some 30) (i := 25) rfl rfl (by kernel_rfl) (by rfl) (exec_bslice 179 5 _ rfl (vs := #[(0, .bool r0), (1, .bool r1), (2, .bool r2), (3, .bool r3), (4, .bool r4)]) (by simp only [List.map_toArray, List.map_cons, List.map_nil]; rw [(show Act.eval _ (.tmp 9) = _ from (ev_ne (by rfl) (ev_ne (by rfl) (ev_ne (by rfl) (ev_ne (by rfl) (ev_ne (by rfl) (ev_ne (by rfl) (ev_ne (by rfl) (ev_ne (by rfl) (ev_ne (by rfl) (ev_ne (by rfl) (ev_ne (by rfl) (ev_ne (by rfl) (ev_ne (by rfl) (ev_ne (by rfl) (ev_ne (by rfl) (ev_ne (by rfl) (ev_ne (by rfl) (ev_ne (by rfl) (ev_ne (by rfl) (ev_ne (by rfl) (ev_eq (by (try simp only [Act.size_put]); rw [hsz]; decide))))))))))))))))))))))), (show Act.eval _ (.tmp 14) = _ from (ev_ne (by rfl) (ev_ne (by rfl) (ev_ne (by rfl) (ev_ne (by rfl) (ev_ne (by rfl) (ev_ne (by rfl) (ev_ne (by rfl) (ev_ne (by rfl) (ev_ne (by rfl) (ev_ne (by rfl) (ev_ne (by rfl) (ev_ne (by rfl) (ev_ne (by rfl) (ev_ne (by rfl) (ev_ne (by rfl) (ev_eq (by (try simp only [Act.size_put]); rw [hsz]; decide)))))))))))))))))), (show Act.eval _ (.tmp 19) = _ from (ev_ne (by rfl) (ev_ne (by rfl) (ev_ne (by rfl) (ev_ne (by rfl) (ev_ne (by rfl) (ev_ne (by rfl) (ev_ne (by rfl) (ev_ne (by rfl) (ev_ne (by rfl) (ev_ne (by rfl) (ev_eq (by (try simp only [Act.size_put]); rw [hsz]; decide))))))))))))), (show Act.eval _ (.tmp 24) = _ from (ev_ne (by rfl) (ev_ne (by rfl) (ev_ne (by rfl) (ev_ne (by rfl) (ev_ne (by rfl) (ev_eq (by (try simp only [Act.size_put]); rw [hsz]; decide)))))))), (show Act.eval _ (.tmp 29) = _ from (ev_eq (by (try simp only [Act.size_put]); rw [hsz]; decide)))]) (bs179 w2 r0 r1 r2 r3 r4)) hS3 ?_
  refine reg_call (some 31) (i := 26) rfl rfl (by kernel_rfl) (by rfl) (exec_call0 rfl rfl (map1 (ev_eq (by (try simp only [Act.size_put]); rw [hsz]; decide))) en98) ?_
  refine (all_new w2 [r0, r1, r2, r3, r4] _ rfl 5 rfl (by simp)).mono ?_
  rintro _ _ ⟨rfl, rfl⟩
  refine ⟨_, rfl, hS3, ?_⟩
  refine reg_run (some 4) (i := 27) rfl rfl (by kernel_rfl) (by rfl) (exec_assign _ rfl (ev_eq (by (try simp only [Act.size_put]); rw [hsz]; decide))) hS3 ?_
  refine reg_end (by kernel_rfl) ?_
  generalize hr : [r0, r1, r2, r3, r4].all id = r at *
  have fin : ∀ B : Act, B.eval (.tmp 4) = .bool r → B.defers = [] → bodyPost Try.prog Try.f50 (Tells w (sameF x y)) Exit.ret B (w2.alloc (.cells #[.bool r0, .bool r1, .bool r2, .bool r3, .bool r4] 4)) := fun B h4 hd => by
    refine bodyPost_ret (results_tmp rfl _ _ _) hd ?_
    exact ⟨r, congrArg Ending.returned h4, HR.out, hS3.b⟩
  have FIN := Lib.hid fin
  clear fin
  go_wp2_with fail
  refine FIN.out _ ?_ ?_
  · exact ev_eq (by (try simp only [Act.size_put]); rw [hsz]; decide)
  · simp only [put_defers]; exact hdf
set_option maxRecDepth 100000 in
set_option maxHeartbeats 8000000 in
theorem tfsame_any (w : World) (x y : NFrame) (ov pv : Value) (hx : x.ok) (hy : y.ok) (hO : Ops w ov x.ops) (hQ : Ops w pv y.ops) : Calls Try.prog 49 #[.agg (frA x ov), .agg (frA y pv)] w (Tells w (sameF x y)) := by
  obtain ⟨r0, hr0⟩ := bool_of (x.kind = y.kind)
  obtain ⟨r1, hr1⟩ := bool_of (x.src = y.src)
  obtain ⟨r2, hr2⟩ := bool_of (x.dst = y.dst)
  obtain ⟨r3, hr3⟩ := bool_of (x.have_ = y.have_)
  obtain ⟨r4, hr4⟩ := bool_of (opsOf x.ops = opsOf y.ops)
  have HR := Lib.hid (show ((((r0 && r1) && r2) && r3) && r4) = true ↔ sameF x y by
    unfold sameF
    rw [← hr0, ← hr1, ← hr2, ← hr3, ← hr4]
    simp [and_assoc])
  have S0 := SI.start w 57 (frA x ov) (frA y pv)
  have C := Lib.hid (fun W (h : SI w 57 (frA x ov) (frA y pv) W) => (sameall_any W ov pv x.ops y.ops (hO.later h.b) (hQ.later h.b)).mono fun e w' h => h.fixed hr4)
  have Q3 := Lib.hid (fun W => eql_vec x.have_ y.have_ hx.have8 hy.have8 r3 hr3 W)
  have L0 := (S0.k0.cell 0).trans (fr_c0 x _)
  have M0 := (S0.k1.cell 0).trans (fr_c0 y _)
  have L1 := (S0.k0.cell 1).trans (fr_c1 x _)
  have M1 := (S0.k1.cell 1).trans (fr_c1 y _)
  have L2 := (S0.k0.cell 2).trans (fr_c2 x _)
  have M2 := (S0.k1.cell 2).trans (fr_c2 y _)
  have L3 := ld54 x.have_ hx.have8 (fun j u hj => (S0.k0.cell (3 + j)).trans (fr_c3 x _ j u hj))
  have M3 := ld54 y.have_ hy.have8 (fun j u hj => (S0.k1.cell (3 + j)).trans (fr_c3 y _ j u hj))
  have L4 := (S0.k0.cell 11).trans (fr_c11 x _ hx.have8)
  have M4 := (S0.k1.cell 11).trans (fr_c11 y _ hy.have8)
  have S0 := Lib.hid S0
  have N0 := Lib.hid (And.intro (And.intro L0 M0) (And.intro (And.intro L1 M1) (And.intro (And.intro L2 M2) (And.intro (And.intro L3 M3) (And.intro L4 M4)))))
  have HQ := Lib.hid (And.intro hr0 (And.intro hr1 hr2))
  clear hx hy hO hQ hr0 hr1 hr2 hr3 hr4 L0 M0 L1 M1 L2 M2 L3 M3 L4 M4
  generalize frA x ov = X at *
  generalize frA y pv = Y at *
  go_enter Try.func49, Try.ntmps49
  go_upto_region 1 with (fail)
  refine lst_begin ?_
  intro A hA
  have h2 : A.eval (.tmp 2) = .pointer (some ⟨w.heap.size, 0, none⟩) := by rw [hA]; rfl
  have h3 : A.eval (.tmp 3) = .pointer (some ⟨w.heap.size + 1, 0, none⟩) := by rw [hA]; rfl
  have hsz : A.tmps.size = 38 := by rw [hA]; rfl
  have hdf : A.defers = [] := by rw [hA]
  clear hA
  refine lst_val (some 5) (v := .pointer (some ⟨w.heap.size, 0, none⟩)) rfl rfl (exec_addr 57 _ 0 rfl h2 (fb0)) ?_
  refine lst_val (some 6) (v := .int .u8 (x.kind : Int)) rfl rfl (exec_load1 5 _ rfl (ev_eq (by (try simp only [Act.size_put]); rw [hsz]; decide)) (ld5 N0.out.1.1)) ?_
  refine lst_val (some 7) (v := .pointer (some ⟨w.heap.size + 1, 0, none⟩)) rfl rfl (exec_addr 57 _ 0 rfl (ev_ne (by rfl) (ev_ne (by rfl) h3)) (fb0)) ?_
  refine lst_val (some 8) (v := .int .u8 (y.kind : Int)) rfl rfl (exec_load1 5 _ rfl (ev_eq (by (try simp only [Act.size_put]); rw [hsz]; decide)) (ld5 N0.out.1.2)) ?_
  refine lst_val (some 9) (v := .bool r0) rfl rfl (exec_bin .eql 5 5 _ _ rfl (ev_ne (by rfl) (ev_ne (by rfl) (ev_eq (by (try simp only [Act.size_put]); rw [hsz]; decide)))) (ev_eq (by (try simp only [Act.size_put]); rw [hsz]; decide)) (eqgi) (eqi5 HQ.out.1)) ?_
  have ht : (((((A.put (some 5) (.pointer (some ⟨w.heap.size, 0, none⟩))).put (some 6) (.int .u8 (x.kind : Int))).put (some 7) (.pointer (some ⟨w.heap.size + 1, 0, none⟩))).put (some 8) (.int .u8 (y.kind : Int))).put (some 9) (.bool r0)).eval (.tmp 9) = .bool r0 := (ev_eq (by (try simp only [Act.size_put]); rw [hsz]; decide))
  have h2 : (((((A.put (some 5) (.pointer (some ⟨w.heap.size, 0, none⟩))).put (some 6) (.int .u8 (x.kind : Int))).put (some 7) (.pointer (some ⟨w.heap.size + 1, 0, none⟩))).put (some 8) (.int .u8 (y.kind : Int))).put (some 9) (.bool r0)).eval (.tmp 2) = .pointer (some ⟨w.heap.size, 0, none⟩) := (ev_ne (by rfl) (ev_ne (by rfl) (ev_ne (by rfl) (ev_ne (by rfl) (ev_ne (by rfl) h2)))))
  have h3 : (((((A.put (some 5) (.pointer (some ⟨w.heap.size, 0, none⟩))).put (some 6) (.int .u8 (x.kind : Int))).put (some 7) (.pointer (some ⟨w.heap.size + 1, 0, none⟩))).put (some 8) (.int .u8 (y.kind : Int))).put (some 9) (.bool r0)).eval (.tmp 3) = .pointer (some ⟨w.heap.size + 1, 0, none⟩) := (ev_ne (by rfl) (ev_ne (by rfl) (ev_ne (by rfl) (ev_ne (by rfl) (ev_ne (by rfl) h3)))))
  have hsz : (((((A.put (some 5) (.pointer (some ⟨w.heap.size, 0, none⟩))).put (some 6) (.int .u8 (x.kind : Int))).put (some 7) (.pointer (some ⟨w.heap.size + 1, 0, none⟩))).put (some 8) (.int .u8 (y.kind : Int))).put (some 9) (.bool r0)).tmps.size = 38 := (by (try simp only [Act.size_put]); exact hsz)
  have hdf : (((((A.put (some 5) (.pointer (some ⟨w.heap.size, 0, none⟩))).put (some 6) (.int .u8 (x.kind : Int))).put (some 7) (.pointer (some ⟨w.heap.size + 1, 0, none⟩))).put (some 8) (.int .u8 (y.kind : Int))).put (some 9) (.bool r0)).defers = [] := (by (try simp only [put_defers]); exact hdf)
  generalize (((((A.put (some 5) (.pointer (some ⟨w.heap.size, 0, none⟩))).put (some 6) (.int .u8 (x.kind : Int))).put (some 7) (.pointer (some ⟨w.heap.size + 1, 0, none⟩))).put (some 8) (.int .u8 (y.kind : Int))).put (some 9) (.bool r0)) = A1 at *
  refine and_step (t := 9) (j := 5) (n := 38) ⟨rfl, rfl, rfl⟩ ⟨rfl, rfl, rfl⟩ ⟨rfl, rfl, rfl⟩ ⟨rfl, rfl, rfl⟩ ⟨rfl, rfl, rfl⟩ ⟨rfl, rfl, rfl⟩ ⟨rfl, rfl, rfl⟩ rfl hsz hdf (by omega) (by omega) ht h2 h3 fb1 fb1 (ld5 N0.out.2.1.1) (ld5 N0.out.2.1.2) eqgi (eqi5 HQ.out.2.1) ?_
  clear hsz hdf h2 h3 ht
  intro A hsz hdf h2 h3 ht
  try simp only [Nat.reduceAdd] at ht
  refine and_step (t := 16) (j := 12) (n := 38) ⟨rfl, rfl, rfl⟩ ⟨rfl, rfl, rfl⟩ ⟨rfl, rfl, rfl⟩ ⟨rfl, rfl, rfl⟩ ⟨rfl, rfl, rfl⟩ ⟨rfl, rfl, rfl⟩ ⟨rfl, rfl, rfl⟩ rfl hsz hdf (by omega) (by omega) ht h2 h3 fb2 fb2 (ld5 N0.out.2.2.1.1) (ld5 N0.out.2.2.1.2) eqgi (eqi5 HQ.out.2.2) ?_
  clear hsz hdf h2 h3 ht
  intro A hsz hdf h2 h3 ht
  try simp only [Nat.reduceAdd] at ht
  refine and_step (t := 23) (j := 19) (n := 38) ⟨rfl, rfl, rfl⟩ ⟨rfl, rfl, rfl⟩ ⟨rfl, rfl, rfl⟩ ⟨rfl, rfl, rfl⟩ ⟨rfl, rfl, rfl⟩ ⟨rfl, rfl, rfl⟩ ⟨rfl, rfl, rfl⟩ rfl hsz hdf (by omega) (by omega) ht h2 h3 fb3 fb3 N0.out.2.2.2.1.1 N0.out.2.2.2.1.2 (eqg_agg _ _ _ _ _ _ _ eqt54) (Q3.out _) ?_
  clear hsz hdf h2 h3 ht
  intro A hsz hdf h2 h3 ht
  try simp only [Nat.reduceAdd] at ht
  generalize (((r0 && r1) && r2) && r3) = b at *
  refine lst_val (some 31) (v := .bool b) rfl rfl (exec_move _ rfl ht) ?_
  have m1 : (A.put (some 31) (.bool b)).eval (.tmp 31) = .bool b := ev_eq (by rw [hsz]; decide)
  have h2 := ev_ne (d := 31) (v := .bool b) (by rfl) h2
  have h3 := ev_ne (d := 31) (v := .bool b) (by rfl) h3
  have hsz : (A.put (some 31) (.bool b)).tmps.size = 38 := by rw [Act.size_put]; exact hsz
  have hdf : (A.put (some 31) (.bool b)).defers = [] := (put_defers _ _ _).trans hdf
  generalize A.put (some 31) (.bool b) = A2 at *
  clear ht
  have FIN : ∀ (B : Act) (r : Bool) (W : World), (r = true ↔ sameF x y) → B.eval (.tmp 4) = .bool r → B.defers = [] → Below w.heap.size w W → bodyPost Try.prog Try.f49 (Tells w (sameF x y)) Exit.ret B W := fun B r W hr h4 hd hb => by
    refine bodyPost_ret (results_tmp rfl _ _ _) hd ?_
    exact ⟨r, congrArg Ending.returned h4, hr, hb⟩
  have FIN := Lib.hid FIN
  cases b with
  | false =>
    refine lst_un (some 32) rfl (wanted_of (d := 31) (c := true) rfl rfl rfl m1) ?_
    refine lst_un (some 33) rfl (wanted_of (d := 31) (c := true) rfl rfl rfl (ev_ne (by rfl) m1)) ?_
    refine lst_un (some 34) rfl (wanted_of (d := 31) (c := true) rfl rfl rfl (ev_ne (by rfl) (ev_ne (by rfl) m1))) ?_
    refine lst_un (some 35) rfl (wanted_of (d := 31) (c := true) rfl rfl rfl (ev_ne (by rfl) (ev_ne (by rfl) (ev_ne (by rfl) m1)))) ?_
    refine lst_un (some 36) rfl (wanted_of (d := 31) (c := true) rfl rfl rfl (ev_ne (by rfl) (ev_ne (by rfl) (ev_ne (by rfl) (ev_ne (by rfl) m1))))) ?_
    refine lst_val (some 37) (v := .bool false) rfl rfl (exec_pick (.tmp 31) (.tmp 36) (.const (.bool false)) rfl (ev_ne (by rfl) (ev_ne (by rfl) (ev_ne (by rfl) (ev_ne (by rfl) (ev_ne (by rfl) m1))))) rfl rfl) ?_
    refine lst_val (some 4) (v := .bool false) rfl rfl (exec_assign _ rfl (ev_eq (by (try simp only [Act.size_put]); rw [hsz]; decide))) ?_
    refine lst_nil ?_
    go_wp2_with fail
    refine FIN.out _ false _ (by rw [← HR.out]; simp) (ev_eq (by (try simp only [Act.size_put]); rw [hsz]; decide)) (by simp only [put_defers]; exact hdf) S0.out.b
  | true =>
    refine lst_val_if (some 32) (v := .pointer (some ⟨w.heap.size, 11, none⟩)) rfl (wanted_of (d := 31) (c := true) rfl rfl rfl m1) (exec_addr 57 _ 4 rfl h2 fb4) ?_
    refine lst_val_if (some 33) (v := ov) rfl (wanted_of (d := 31) (c := true) rfl rfl rfl (ev_ne (by rfl) m1)) (exec_load1 55 _ rfl (ev_eq (by (try simp only [Act.size_put]); rw [hsz]; decide)) (ld55 N0.out.2.2.2.2.1)) ?_
    refine lst_val_if (some 34) (v := .pointer (some ⟨w.heap.size + 1, 11, none⟩)) rfl (wanted_of (d := 31) (c := true) rfl rfl rfl (ev_ne (by rfl) (ev_ne (by rfl) m1))) (exec_addr 57 _ 4 rfl (ev_ne (by rfl) (ev_ne (by rfl) h3)) fb4) ?_
    refine lst_val_if (some 35) (v := pv) rfl (wanted_of (d := 31) (c := true) rfl rfl rfl (ev_ne (by rfl) (ev_ne (by rfl) (ev_ne (by rfl) m1)))) (exec_load1 55 _ rfl (ev_eq (by (try simp only [Act.size_put]); rw [hsz]; decide)) (ld55 N0.out.2.2.2.2.2)) ?_
    refine lst_call_if (some 36) rfl (wanted_of (d := 31) (c := true) rfl rfl rfl (ev_ne (by rfl) (ev_ne (by rfl) (ev_ne (by rfl) (ev_ne (by rfl) m1))))) (exec_call0 rfl rfl (map2 (ev_ne (by rfl) (ev_ne (by rfl) (ev_eq (by (try simp only [Act.size_put]); rw [hsz]; decide)))) (ev_eq (by (try simp only [Act.size_put]); rw [hsz]; decide))) en102) ?_
    refine (C.out _ S0.out).mono ?_
    rintro _ w2 ⟨rfl, hb2⟩
    refine ⟨_, rfl, ?_⟩
    refine lst_val (some 37) (v := .bool r4) rfl rfl (exec_pick (.tmp 31) (.tmp 36) (.const (.bool false)) rfl (ev_ne (by rfl) (ev_ne (by rfl) (ev_ne (by rfl) (ev_ne (by rfl) (ev_ne (by rfl) m1))))) (ev_eq (by (try simp only [Act.size_put]); rw [hsz]; decide)) rfl) ?_
    refine lst_val (some 4) (v := .bool r4) rfl rfl (exec_assign _ rfl (ev_eq (by (try simp only [Act.size_put]); rw [hsz]; decide))) ?_
    refine lst_nil ?_
    have HB := Lib.hid (SI.next _ _ S0.out hb2).b
    clear hb2
    go_wp2_with fail
    refine FIN.out _ r4 _ (by rw [← HR.out]; simp) (ev_eq (by (try simp only [Act.size_put]); rw [hsz]; decide)) (by simp only [put_defers]; exact hdf) HB.out
end Go.Proofs.Ytfojjklohbiffaa
