/- Operations' forms: what all operations have: the walk of op.head. -/
import Derived.Test.YtfojjklohbiffaaDoorChB
import Derived.Test.YtfojjklohbiffaaDoorOpK
import Derived.Laws.CopyRow
import Derived.Test.YtfojjklohbiffaaDoorChA
import Derived.Maps.Views
import Derived.Maps.OwnOps
import Derived.Maps.OwnSet
import Derived.DeepKeys5
import Derived.Test.YtfojjklohbiffaaDoorChD
import Derived.Test.YtfojjklohbiffaaDoorRows
import Derived.ProofKit
import Derived.OpenShut
import Derived.LaidMore
import Derived.Lay
import Derived.Below
import Derived.ChangeSame
import Derived.Test.YtfojjklohbiffaaDoorChE
namespace Go.Proofs.YtfojjklohbiffaaDoor
open Go.RowKit Tran Tran.Wire
set_option linter.unusedVariables false
set_option linter.unusedSimpArgs false
/-- is what all operations have right? -/
def headP (x : NOp) (n : Nat) : Prop := x.dr < n ∧ 1 ≤ x.dn ∧ x.dep.getD x.dr 0 = x.dn - 1 ∧ x.dep.drop n = zer8.drop n ∧ 1 ≤ x.time ∧ x.time ≤ 281474976710656 ∧ 1 ≤ x.who ∧ x.kind ≤ 8
theorem exec_slc {P : Program} {o : Oper} {a : Act} {w : World} (t : TypeId) (x y : Operand) (ho : o.op = .slice t x none (some y) none) {u v r : Value} (hx : a.eval x = u) (hy : a.eval y = v) (hr : (Instr.sliceAt t u none (some v) none).run P w = .ok r w) : (execOp a.eval o).run P w = .ok (.value r) w := by
  unfold execOp
  simp only [ho, hx, hy, Option.map_none, Option.map_some, Sem.run_bind, hr, Result.andThen_ok]
  rfl
theorem slc26 {g o : Nat} {N : Int} {n : Nat} (h : N = (n : Nat)) (h8 : n ≤ 8) (W : World) : (Instr.sliceAt 26 (.pointer (some ⟨g, o, none⟩)) none (some (.int .i64 N)) none).run Tryd.prog W = .ok (.slice (some ⟨g, o, none⟩) n 8) W := by
  subst h
  have h1 : (0 : Int) ≤ (n : Int) := by omega
  have h2 : (n : Int) ≤ 8 := by omega
  go_simp
theorem exec_cpy {P : Program} {o : Oper} {a : Act} {w w' : World} {x y : Operand} {t u : TypeId} (ho : o.op = .call { callee := .builtin .copy, args := #[x, y], argTypes := #[t, u] }) {p q v : Value} (hx : a.eval x = p) (hy : a.eval y = q)
    (hr : (Builtin.copy_ #[t, u] o.type #[p, q]).run P w = .ok v w') : (execOp a.eval o).run P w = .ok (.value v) w' := by
  simp [execOp, ho, resolve, invoke, builtin, hx, hy, hr, Result.andThen]
theorem far_eq (dep : List Nat) (n : Nat) (h8 : dep.length = 8) (hn : n ≤ 8) : ((vecA zer8).toList.take 0 ++ (dep.take n).map (fun y => Value.int .u32 (y : Nat)) ++ (vecA zer8).toList.drop (0 + ((dep.take n).map (fun y => Value.int .u32 (y : Nat))).length)).toArray = vecA (dep.take n ++ zer8.drop n) := by
  simp [vecA, List.map_append, h8, Nat.min_eq_left hn, List.map_drop]
theorem far_iff (dep : List Nat) (n : Nat) : dep.take n ++ zer8.drop n = dep ↔ dep.drop n = zer8.drop n := by
  constructor
  · intro h
    have h2 := List.take_append_drop n dep
    exact (List.append_cancel_left (h2.trans h.symm))
  · intro h
    rw [← h, List.take_append_drop]
set_option maxRecDepth 100000 in
set_option maxHeartbeats 16000000 in
theorem head_any (w : World) (x : NOp) (A : Option Addr) (ln cap : Nat) (n : Nat) (hx : x.ok) (hn1 : 1 ≤ n) (hn8 : n ≤ 8) : Calls Tryd.prog 18 #[.agg (opA x (.slice A ln cap)), .int .i64 (n : Int)] w (Tells w (headP x n)) := by
  have k0 := Blk.new w 30 (opA x (.slice A ln cap))
  have hb := (Below.refl w.heap.size w).alloc (Nat.le_refl _) (.cells (opA x (.slice A ln cap)) 30)
  have HP : Hid (headP x n ↔ (x.dr < n ∧ 1 ≤ x.dn ∧ x.dep.getD x.dr 0 = x.dn - 1 ∧ x.dep.drop n = zer8.drop n ∧ 1 ≤ x.time ∧ x.time ≤ 281474976710656 ∧ 1 ≤ x.who ∧ x.kind ≤ 8)) := Lib.hid Iff.rfl
  have C0 := (k0.cell 0).trans (op_c0 x _)
  have C1 := (k0.cell 1).trans (op_c1 x _)
  have C10 := (k0.cell 10).trans (op_c10 x _ hx.dep8)
  have C11 := (k0.cell 11).trans (op_c11 x _ hx.dep8)
  have C14 := (k0.cell 14).trans (op_c14 x _ hx.dep8)
  have CD := fun (r : Nat) (h : r < 8) => (k0.cell (2 + r)).trans (dep_at (.slice A ln cap) hx.dep8 h)
  have CV : Hid (∀ j v, (vecA x.dep)[j]? = some v → (w.alloc (.cells (opA x (.slice A ln cap)) 30)).cell? ⟨w.heap.size, 2 + j, none⟩ = some v) := Lib.hid (fun j v hj => (k0.cell (2 + j)).trans (op_c2 x _ j v (by simpa [vecA] using hj)))
  have CT := Lib.hid (fun W (hW : Below (w.alloc (.cells (opA x (.slice A ln cap)) 30)).heap.size (w.alloc (.cells (opA x (.slice A ln cap)) 30)) W) => k0.below hW k0.lt)
  have H8 := Lib.hid hx.dep8
  have HFE := Lib.hid (far_eq x.dep n hx.dep8 hn8)
  have HFI := Lib.hid (far_iff x.dep n)
  have HFL := Lib.hid (show (x.dep.take n ++ zer8.drop n).length = 8 by simp [hx.dep8, zer8]; omega)
  have HBD := Lib.hid (And.intro hx.dr (And.intro hx.dn (And.intro hx.time (And.intro hx.who hx.kind))))
  have HDB := Lib.hid (show x.dep.getD x.dr 0 < 4294967296 by
    by_cases h : x.dr < x.dep.length
    · rw [List.getD_eq_getElem?_getD, List.getElem?_eq_getElem h]; exact hx.dep _ (List.getElem_mem h)
    · rw [List.getD_eq_getElem?_getD, List.getElem?_eq_none (by omega)]; simp)
  have HB := Lib.hid hb
  generalize hX : opA x (.slice A ln cap) = X at *
  have HSX := Lib.hid (show X.size = 29 by rw [← hX]; exact opA_size x _ hx.dep8)
  have HX2 := Lib.hid (show ∀ j v, (vecA x.dep)[j]? = some v → X[2 + j]? = some v by rw [← hX]; exact fun j v hj => op_c2 x _ j v (by simpa [vecA] using hj))
  have HX10 := Lib.hid (show X[10]? = some (.int .u64 (x.time : Int)) by rw [← hX]; exact op_c10 x _ hx.dep8)
  have HX11 := Lib.hid (show X[11]? = some (.int .u32 (x.who : Int)) by rw [← hX]; exact op_c11 x _ hx.dep8)
  have HX14 := Lib.hid (show X[14]? = some (.int .u8 (x.kind : Int)) by rw [← hX]; exact op_c14 x _ hx.dep8)
  clear hX hx hb k0 CV
  obtain ⟨dr, hdr⟩ : ∃ d : Int, d = (x.dr : Int) := ⟨_, rfl⟩
  obtain ⟨dn, hdn⟩ : ∃ d : Int, d = (x.dn : Int) := ⟨_, rfl⟩
  obtain ⟨tm, htm⟩ : ∃ d : Int, d = (x.time : Int) := ⟨_, rfl⟩
  obtain ⟨wh, hwh⟩ : ∃ d : Int, d = (x.who : Int) := ⟨_, rfl⟩
  obtain ⟨kd, hkd⟩ : ∃ d : Int, d = (x.kind : Int) := ⟨_, rfl⟩
  obtain ⟨N, hN⟩ : ∃ d : Int, d = (n : Int) := ⟨_, rfl⟩
  rw [← hdr] at C0
  rw [← hdn] at C1
  rw [← htm] at C10 HX10
  rw [← hwh] at C11 HX11
  rw [← hkd] at C14 HX14
  rw [← hN]
  have HE := Lib.hid (And.intro hdr (And.intro hdn (And.intro htm (And.intro hwh (And.intro hkd hN)))))
  clear hdr hdn htm hwh hkd hN
  have W64 : wrap64 dr = dr := IntWalk.wrap64_in _ (by have := HE.out.1; have := HBD.out.1; omega)
  have NO : Hid ((∀ e : Ending, ∀ w' : World, ¬ headP x n → e = .returned (.bool false) → Below w.heap.size w w' → Tells w (headP x n) e w')) := Lib.hid (fun e w' h1 h2 h3 => ⟨false, h2, by simp [h1], h3⟩)
  by_cases h1 : x.dr < n
  case neg =>
    have e1 : decide (N ≤ dr) = true := decide_eq_true (by have := HE.out; omega)
    have HN := Lib.hid (fun h => h1 (HP.out.1 h).1)
    clear h1 CD hn1 hn8
    go_enter Tryd.func18, Tryd.ntmps18
    go_wp2_with fail
    go_quiet (fail)
    go_wp2_with fail
    go_ret
    exact NO.out _ _ HN.out rfl (below_drewN HB.out _)
  have e1 : decide (N ≤ dr) = false := decide_eq_false (by have := HE.out; omega)
  by_cases h2 : 1 ≤ x.dn
  case neg =>
    have e2 : (dn == 0) = true := by rw [beq_iff_eq]; have := HE.out; omega
    have HN := Lib.hid (fun h => h2 (HP.out.1 h).2.1)
    clear h1 h2 CD hn1 hn8
    go_enter Tryd.func18, Tryd.ntmps18
    go_wp2_with fail
    go_quiet (fail)
    go_wp2_with fail
    go_ret
    exact NO.out _ _ HN.out rfl (below_drewN HB.out _)
  have e2 : (dn == 0) = false := by rw [beq_eq_false_iff_ne]; have := HE.out; omega
  have CD1 := CD x.dr (by omega)
  have IX : ∀ W, (Instr.indexAt 26 (.pointer (some ⟨w.heap.size, 2, none⟩)) (.int .u8 dr)).run Tryd.prog W = .ok (.pointer (some ⟨w.heap.size, 2 + x.dr, none⟩)) W := fun W => by
    rw [HE.out.1]; exact ix26 (by omega) W
  have WR : IntKind.u32.wrap (dn - 1) = ((x.dn - 1 : Nat) : Int) := by rw [HE.out.2.1, IntWalk.u32_in _ (by have := HBD.out; omega)]; omega
  obtain ⟨d, hd⟩ : ∃ d : Int, d = (x.dep.getD x.dr 0 : Nat) := ⟨_, rfl⟩
  obtain ⟨m, hm⟩ : ∃ d : Int, d = ((x.dn - 1 : Nat) : Int) := ⟨_, rfl⟩
  rw [← hd] at CD1
  rw [← hm] at WR
  by_cases h3 : x.dep.getD x.dr 0 = x.dn - 1
  case neg =>
    have e3 : (d == m) = false := by rw [beq_eq_false_iff_ne]; omega
    have e4 : (d != m) = true := by simp [bne, e3]
    have HN := Lib.hid (fun h => h3 (HP.out.1 h).2.2.1)
    clear h1 h2 h3 CD hn1 hn8 hd hm
    go_enter Tryd.func18, Tryd.ntmps18
    go_wp2_with fail
    go_quiet (fail)
    go_wp2_with fail
    go_ret
    exact NO.out _ _ HN.out rfl (below_drewN HB.out _)
  have e3 : (d == m) = true := by rw [beq_iff_eq]; omega
  have e4 : (d != m) = false := by simp [bne, e3]
  have HN1 := Lib.hid (And.intro hn1 hn8)
  have HQ := Lib.hid (And.intro h1 (And.intro h2 h3))
  clear h1 h2 h3 CD hn1 hn8 hd hm
  go_enter Tryd.func18, Tryd.ntmps18
  go_wp2_with fail
  go_quiet (fail)
  obtain ⟨W1, hW1⟩ : ∃ W : World, W = (w.alloc (.cells X 30)).drewN nq := ⟨_, rfl⟩
  have B1 : Hid (Below w.heap.size w W1) := Lib.hid (by rw [hW1]; exact below_drewN HB.out nq)
  have K1 : Hid (Blk W1 w.heap.size 30 X) := Lib.hid (by rw [hW1]; exact (CT.out _ (Below.refl _ _)).drewN nq)
  rw [← hW1]
  obtain ⟨t1, t3, tb⟩ := one_set W1 (vecA zer8) (vecA zer8) 26
  have T1 := Lib.hid t1
  have K5 := Lib.hid t3
  have K2 := Lib.hid (K1.out.below tb K1.out.lt)
  have B2 := Lib.hid (B1.out.trans (tb.mono B1.out.size))
  have LT := Lib.hid K1.out.lt
  clear CD1 IX WR e1 e2 e3 hW1 C0 C1 C10 C11 C14 W64 CT HB t1 t3 tb K1 B1
  go_upto_region 4 with (refine wpList_store_row rfl 26 _ _ rfl W1.heap.size (vecA zer8) rfl rfl 26 _ T1.out (by rw [vecA_size]; exact size54) rfl (vecA_one zer8) ?_)
  obtain ⟨W2, hW2⟩ : ∃ W : World, W = (W1.alloc (.cells #[.int .u32 0, .int .u32 0, .int .u32 0, .int .u32 0, .int .u32 0, .int .u32 0, .int .u32 0, .int .u32 0] 26)).setRow W1.heap.size (vecA zer8) := ⟨_, rfl⟩
  have KF : Hid (Blk W2 W1.heap.size 26 (vecA zer8)) := Lib.hid (by rw [hW2]; exact K5.out)
  have KX : Hid (Blk W2 w.heap.size 30 X) := Lib.hid (by rw [hW2]; exact K2.out)
  have BB : Hid (Below w.heap.size w W2) := Lib.hid (by rw [hW2]; exact B2.out)
  rw [← hW2]
  clear hW2 K5 K2 B2 T1
  generalize W1.heap.size = gf at *
  have hS0 : True := trivial
  refine reg_begin_ (fun _ => True) (by kernel_rfl) ?_
  intro A hA
  have h1 : A.eval (.tmp 1) = .int .i64 N := by rw [hA]; rfl
  have h2 : A.eval (.tmp 2) = .pointer (some ⟨w.heap.size, 0, none⟩) := by rw [hA]; rfl
  have h5 : A.eval (.tmp 5) = .pointer (some ⟨gf, 0, none⟩) := by rw [hA]; rfl
  have hsz : A.tmps.size = 62 := by rw [hA]; rfl
  have hA := Lib.hid hA
  have SL := Lib.hid (fun (g o : Nat) (W : World) => slc26 (g := g) (o := o) (N := N) (n := n) HE.out.2.2.2.2.2 HN1.out.2 W)
  refine reg_take (some 32) (i := 0) (.int .i64 N) rfl rfl (by kernel_rfl) (fun _ _ _ h => h) (by rfl) (fun W hW => exec_move _ rfl h1) hS0 ?_
  refine reg_take (some 33) (i := 1) (.slice (some ⟨gf, 0, none⟩) n 8) rfl rfl (by kernel_rfl) (fun _ _ _ h => h) (by rfl) (fun W hW => exec_slc 26 _ _ rfl (ev_ne (by rfl) h5) (ev_eq (by (try simp only [Act.size_put]); rw [hsz]; decide)) (SL.out _ _ W)) hS0 ?_
  refine reg_take (some 34) (i := 2) (.pointer (some ⟨w.heap.size, 2, none⟩)) rfl rfl (by kernel_rfl) (fun _ _ _ h => h) (by rfl) (fun W hW => exec_addr 30 _ 1 rfl (ev_ne (by rfl) (ev_ne (by rfl) h2)) (fa1)) hS0 ?_
  refine reg_take (some 35) (i := 3) (.int .i64 N) rfl rfl (by kernel_rfl) (fun _ _ _ h => h) (by rfl) (fun W hW => exec_move _ rfl (ev_ne (by rfl) (ev_ne (by rfl) (ev_ne (by rfl) h1)))) hS0 ?_
  refine reg_take (some 36) (i := 4) (.slice (some ⟨w.heap.size, 2, none⟩) n 8) rfl rfl (by kernel_rfl) (fun _ _ _ h => h) (by rfl) (fun W hW => exec_slc 26 _ _ rfl (ev_ne (by rfl) (ev_eq (by (try simp only [Act.size_put]); rw [hsz]; decide))) (ev_eq (by (try simp only [Act.size_put]); rw [hsz]; decide)) (SL.out _ _ W)) hS0 ?_
  have CP := run_copy_row (P := Tryd.prog) W2.drew 84 84 3 22 gf 0 n 8 ⟨w.heap.size, 2, none⟩ n 8 (vecA zer8) 26 ((x.dep.take n).map (fun y => Value.int .u32 (y : Nat))) Tryd.underlying84 (by kernel_rfl) KF.out (by have := H8.out; have := HN1.out; simp; omega) (fun j v hj => by rw [lit_add]; exact (KX.out.drew.cell (2 + j)).trans (HX2.out j v (by simp only [List.getElem?_map, List.getElem?_take] at hj; simp only [vecA, List.getElem?_toArray, List.getElem?_map]; split at hj; exact hj; cases hj))) (by have := HN1.out; simp [vecA, zer8]; omega) (by intro v hv; obtain ⟨y, _, rfl⟩ := List.mem_map.1 hv; rfl)
  rw [HFE.out] at CP
  refine reg_run (some 37) (i := 5) (v := goInt ((x.dep.take n).map (fun y => Value.int .u32 (y : Nat))).length) rfl rfl (by kernel_rfl) (by rfl) (exec_cpy rfl (ev_ne (by rfl) (ev_ne (by rfl) (ev_ne (by rfl) (ev_eq (by (try simp only [Act.size_put]); rw [hsz]; decide))))) (ev_eq (by (try simp only [Act.size_put]); rw [hsz]; decide)) CP) trivial ?_
  refine reg_end (by kernel_rfl) ?_
  have hA := hA.out
  subst hA
  simp only [Act.put, List.setIfInBounds_toArray, List.set_cons_zero, List.set_cons_succ]
  clear h1 h2 h5 hsz hS0 SL CP
  have K5 := Lib.hid (KF.out.drew.row (vecA (x.dep.take n ++ zer8.drop n)))
  have KX3 := Lib.hid (KX.out.drew.rowFar (k := gf) (by have := LT.out; omega) (vecA (x.dep.take n ++ zer8.drop n)))
  have B3 := Lib.hid (below_setRow (below_drew BB.out) (show w.heap.size ≤ gf by have := LT.out; omega) (vecA (x.dep.take n ++ zer8.drop n)))
  clear KF KX BB
  generalize hF : x.dep.take n ++ zer8.drop n = F at *
  have HF := Lib.hid hF
  clear hF
  generalize W2.drew.setRow gf (vecA F) = W3 at *
  have c10 := (KX3.out.cell 10).trans HX10.out
  have c11 := (KX3.out.cell 11).trans HX11.out
  have c14 := (KX3.out.cell 14).trans HX14.out
  have CV := Lib.hid (fun (j : Nat) (v : Value) (hj : (vecA x.dep)[j]? = some v) => show W3.cell? ((⟨w.heap.size, 2, none⟩ : Addr).add j) = some v by rw [lit_add]; exact (KX3.out.cell (2 + j)).trans (HX2.out j v hj))
  have HV8 := Lib.hid (show (vecA x.dep).size = 8 by rw [vecA_size]; exact H8.out)
  have HF8 := Lib.hid (show (vecA F).size = 8 by rw [vecA_size]; exact HFL.out)
  by_cases h4 : x.dep.drop n = zer8.drop n
  case neg =>
    have QE : ∀ W, (binOp .eql 26 (.agg (vecA F)) (.agg (vecA x.dep))).run Tryd.prog W = .ok (.bool false) W := eql_vec _ _ HFL.out H8.out false (by constructor; simp; intro h; exact absurd (HFI.out.1 h) h4)
    have HN := Lib.hid (fun h => h4 (HP.out.1 h).2.2.2.1)
    generalize vecA F = VF at *
    generalize vecA x.dep = VD at *
    clear h4
    go_wp2_with (first
      | (refine wpList_load_row rfl 26 _ rfl gf rfl 26 VF (0, 0) _ K5.out Tryd.underlying26 rfl (by rw [HF8.out]; exact size54) ?_)
      | (refine wpList_load_cells rfl 26 _ rfl ⟨w.heap.size, 2, none⟩ rfl VD _ CV.out Tryd.underlying26 rfl (by rw [HV8.out]; exact size54) ?_))
    go_ret
    exact NO.out _ _ HN.out rfl B3.out
  have QE : ∀ W, (binOp .eql 26 (.agg (vecA F)) (.agg (vecA x.dep))).run Tryd.prog W = .ok (.bool true) W := eql_vec _ _ HFL.out H8.out true (by constructor; intro _; exact HFI.out.2 h4; simp)
  have HQ4 := Lib.hid h4
  clear h4
  generalize vecA F = VF at *
  generalize vecA x.dep = VD at *
  by_cases h5 : 1 ≤ x.time
  case neg =>
    have e5 : decide (0 < tm) = false := decide_eq_false (by have := HE.out.2.2.1; omega)
    have HN := Lib.hid (fun h => h5 (HP.out.1 h).2.2.2.2.1)
    clear h5
    go_wp2_with (first
      | (refine wpList_load_row rfl 26 _ rfl gf rfl 26 VF (0, 0) _ K5.out Tryd.underlying26 rfl (by rw [HF8.out]; exact size54) ?_)
      | (refine wpList_load_cells rfl 26 _ rfl ⟨w.heap.size, 2, none⟩ rfl VD _ CV.out Tryd.underlying26 rfl (by rw [HV8.out]; exact size54) ?_))
    go_ret
    exact NO.out _ _ HN.out rfl B3.out
  have e5 : decide (0 < tm) = true := decide_eq_true (by have := HE.out.2.2.1; omega)
  by_cases h6 : x.time ≤ 281474976710656
  case neg =>
    have e6 : decide (tm ≤ 281474976710656) = false := decide_eq_false (by have := HE.out.2.2.1; omega)
    have HN := Lib.hid (fun h => h6 (HP.out.1 h).2.2.2.2.2.1)
    clear h5 h6
    go_wp2_with (first
      | (refine wpList_load_row rfl 26 _ rfl gf rfl 26 VF (0, 0) _ K5.out Tryd.underlying26 rfl (by rw [HF8.out]; exact size54) ?_)
      | (refine wpList_load_cells rfl 26 _ rfl ⟨w.heap.size, 2, none⟩ rfl VD _ CV.out Tryd.underlying26 rfl (by rw [HV8.out]; exact size54) ?_))
    go_ret
    exact NO.out _ _ HN.out rfl B3.out
  have e6 : decide (tm ≤ 281474976710656) = true := decide_eq_true (by have := HE.out.2.2.1; omega)
  by_cases h7 : 1 ≤ x.who
  case neg =>
    have e7 : decide (0 < wh) = false := decide_eq_false (by have := HE.out.2.2.2.1; omega)
    have HN := Lib.hid (fun h => h7 (HP.out.1 h).2.2.2.2.2.2.1)
    clear h5 h6 h7
    go_wp2_with (first
      | (refine wpList_load_row rfl 26 _ rfl gf rfl 26 VF (0, 0) _ K5.out Tryd.underlying26 rfl (by rw [HF8.out]; exact size54) ?_)
      | (refine wpList_load_cells rfl 26 _ rfl ⟨w.heap.size, 2, none⟩ rfl VD _ CV.out Tryd.underlying26 rfl (by rw [HV8.out]; exact size54) ?_))
    go_ret
    exact NO.out _ _ HN.out rfl B3.out
  have e7 : decide (0 < wh) = true := decide_eq_true (by have := HE.out.2.2.2.1; omega)
  by_cases h8 : x.kind ≤ 8
  case neg =>
    have e8 : decide (kd ≤ 8) = false := decide_eq_false (by have := HE.out.2.2.2.2.1; omega)
    have HN := Lib.hid (fun h => h8 (HP.out.1 h).2.2.2.2.2.2.2)
    clear h5 h6 h7 h8
    go_wp2_with (first
      | (refine wpList_load_row rfl 26 _ rfl gf rfl 26 VF (0, 0) _ K5.out Tryd.underlying26 rfl (by rw [HF8.out]; exact size54) ?_)
      | (refine wpList_load_cells rfl 26 _ rfl ⟨w.heap.size, 2, none⟩ rfl VD _ CV.out Tryd.underlying26 rfl (by rw [HV8.out]; exact size54) ?_))
    go_ret
    exact NO.out _ _ HN.out rfl B3.out
  have e8 : decide (kd ≤ 8) = true := decide_eq_true (by have := HE.out.2.2.2.2.1; omega)
  have HY := Lib.hid (HP.out.2 ⟨HQ.out.1, HQ.out.2.1, HQ.out.2.2, HQ4.out, h5, h6, h7, h8⟩)
  clear h5 h6 h7 h8
  go_wp2_with (first
    | (refine wpList_load_row rfl 26 _ rfl gf rfl 26 VF (0, 0) _ K5.out Tryd.underlying26 rfl (by rw [HF8.out]; exact size54) ?_)
    | (refine wpList_load_cells rfl 26 _ rfl ⟨w.heap.size, 2, none⟩ rfl VD _ CV.out Tryd.underlying26 rfl (by rw [HV8.out]; exact size54) ?_))
  go_ret
  exact ⟨true, rfl, by simp [HY.out], B3.out⟩
end Go.Proofs.YtfojjklohbiffaaDoor
namespace Go.Proofs.YtfojjklohbiffaaDoor
open Go.RowKit Go.Maps Tran Tran.Wire
set_option linter.unusedVariables false
set_option linter.unusedSimpArgs false
theorem laid_out : laidOutB Tryd.prog = true := by kernel_rfl
theorem law24 : Keyed Tryd.prog 24 := Keyed.of_law (deep_law_gate laid_out (by decide +kernel) (by decide +kernel) (by kernel_rfl) (by kernel_rfl))
/-- a dot as a key -/
def keyL (r n : Nat) : Lit := .string (keyBytes [.int .u8 (r : Int), .int .u32 (n : Int)])
theorem key_of {r n : Nat} (hr : r < 256) (hn : n < 4294967296) : keyOf Tryd.prog 24 (.agg #[.int .u8 (r : Int), .int .u32 (n : Int)]) = some (keyL r n) := by
  have h1 : Tryd.prog.keyType 24 = true := by kernel_rfl
  have h2 : (Value.agg #[.int .u8 (r : Int), .int .u32 (n : Int)]).formed Tryd.prog 24 = true := by simp [Value.formed, Tryd.underlying24, opcells82]
  have h3 := key_dot (Tryd.prog.types.size - 1) r n hr hn
  rw [show Tryd.prog.types.size - 1 + 2 = Tryd.prog.types.size + 1 from by kernel_rfl] at h3
  unfold keyOf
  rw [Tryd.underlying24]
  simp only [h1, h2, Bool.and_self, if_true]
  rw [show (Value.agg #[.int .u8 (r : Int), .int .u32 (n : Int)]).cells.toList = [.int .u8 (r : Int), .int .u32 (n : Int)] from rfl, h3]
  rfl
theorem keyL_inj {r n s m : Nat} (hr : r < 256) (hn : n < 4294967296) (hs : s < 256) (hm : m < 4294967296) (h : keyL r n = keyL s m) : r = s ∧ n = m := by
  have h1 := key_of hr hn
  have h2 := key_of hs hm
  rw [← h] at h2
  have h3 := law24.inj h1 h2
  simp at h3
  omega
theorem keyL_lit (r n : Nat) : WideAt.IsKeyLit (keyL r n) := trivial
/-- the map of the first lines' names -/
def dM : List NClaim → DataW Unit
  | [] => .map []
  | c :: r => (dM r).put (keyL c.lr c.ln) (.lit (.int .i64 1))
theorem dM_map : ∀ ls, IsMap (dM ls)
  | [] => isMap_empty
  | c :: r => (dM_map r).put _ _
theorem dM_at (c : NClaim) (hc : c.ok) : ∀ ls : List NClaim, (∀ d ∈ ls, d.ok) → (dM ls).atKey (keyL c.lr c.ln) (.lit (.int .i64 0)) = .lit (.int .i64 (if (∃ d ∈ ls, d.lr = c.lr ∧ d.ln = c.ln) then 1 else 0))
  | [], _ => by
    rw [if_neg (by simp)]
    rfl
  | d :: r, h => by
    have hd := h d (by simp)
    by_cases he : d.lr = c.lr ∧ d.ln = c.ln
    · rw [if_pos ⟨d, by simp, he⟩, dM, he.1, he.2]
      exact atKey_put_same (dM_map r) (keyL_lit _ _) _ _
    · have hne : keyL c.lr c.ln ≠ keyL d.lr d.ln := fun e => he (by have := keyL_inj hc.1 hc.2.1 hd.1 hd.2.1 e; omega)
      rw [dM, atKey_put_other hne, dM_at c hc r (fun e he => h e (List.mem_cons_of_mem _ he))]
      congr 3
      simp only [List.mem_cons, exists_eq_or_imp, he, false_or]
theorem dM_has (c : NClaim) (hc : c.ok) : ∀ ls : List NClaim, (∀ d ∈ ls, d.ok) → (¬ ∃ d ∈ ls, d.lr = c.lr ∧ d.ln = c.ln) → has (dM ls) (keyL c.lr c.ln) = false
  | [], _, _ => rfl
  | d :: r, h, hno => by
    have hd := h d (by simp)
    have hne : keyL c.lr c.ln ≠ keyL d.lr d.ln := fun e => hno ⟨d, by simp, by have := keyL_inj hc.1 hc.2.1 hd.1 hd.2.1 e; omega⟩
    rw [dM, has_put_other hne]
    exact dM_has c hc r (fun e he => h e (List.mem_cons_of_mem _ he)) (fun ⟨e, he, h2⟩ => hno ⟨e, List.mem_cons_of_mem _ he, h2⟩)
theorem dM_size : ∀ ls : List NClaim, (∀ d ∈ ls, d.ok) → (ls.map fun c => (c.lr, c.ln)).Nodup → Tidy (dM ls) ∧ Go.Maps.size (dM ls) = ls.length
  | [], _, _ => ⟨⟨[], rfl, List.Pairwise.nil⟩, rfl⟩
  | c :: r, h, hn => by
    rw [List.map_cons, List.nodup_cons] at hn
    obtain ⟨h1, h2⟩ := dM_size r (fun e he => h e (List.mem_cons_of_mem _ he)) hn.2
    have h3 := dM_has c (h c (by simp)) r (fun e he => h e (List.mem_cons_of_mem _ he)) (fun ⟨e, he, h4, h5⟩ => hn.1 (List.mem_map.2 ⟨e, he, by rw [h4, h5]⟩))
    refine ⟨h1.put (keyL_lit _ _) _, ?_⟩
    rw [dM, size_put h1, h3, h2]
    rfl
/-- may a submit's lines be? -/
def linesP (x : NOp) : Prop := 1 ≤ x.lines.length ∧ x.lines.length ≤ 16 ∧ (∀ c ∈ x.lines, cov x c.lr c.ln ∧ cov x c.vr c.vn) ∧ (x.lines.map fun c => (c.lr, c.ln)).Nodup
end Go.Proofs.YtfojjklohbiffaaDoor
namespace Tran
open Go Go.RowKit
theorem wpList_load_row_if_ {P : Program} {ops : Array Oper} {rest : List Oper} {o : Oper} {a : Act} {w : World} {Q : Exit → Act → World → Prop} (hw : Region.wanted o (yielded ops a.tmps) = true) (ty : TypeId) (x : Operand) (ho : o.op = .load ty x)
    (g : Nat) (hx : a.eval x = .pointer (some ⟨g, 0, none⟩)) (t : TypeId) (cs : Array Value) (fr : Nat × Nat) (d : TypeDesc) (hg : w.heap[g]? = some (.cells cs t fr))
    (hu : P.underlying ty = some d) (hd : (match d with | .struct _ | .array _ _ => true | _ => false) = true) (hi : (P.info? ty).map (·.size) = some cs.size)
    (h : wpList P ops Q rest (a.put o.dst (.agg cs)) w) : wpList P ops Q (o :: rest) a w := by
  refine wpList_step fun K hK => ?_
  rw [if_pos hw]
  exact wp_load_row ty x ho g hx t cs fr d hg hu hd hi (hK _ _ h)
end Tran
namespace Go.Proofs.YtfojjklohbiffaaDoor
open Go.RowKit Go.Maps Tran Tran.Wire
set_option linter.unusedVariables false
set_option linter.unusedSimpArgs false
theorem zero3 (w : World) : (zeroValue 3).run Tryd.prog w = .ok (.int .i64 0) w := by kernel_rfl
theorem elem_one : plainElem (H := Unit) Tryd.prog 3 (.int .i64 1) = some (.lit (.int .i64 1), []) := plainElem_int Tryd.underlying3 (by decide)
theorem size177_ (c : NClaim) : (Tryd.prog.info? 63).map (·.size) = some (claimA c).size := by kernel_rfl
theorem claimA_one (c : NClaim) : (claimA c).all (·.oneCell') = true := by simp [claimA, Value.oneCell']
theorem owns_below {w w' : World} {b n : Nat} {D : DataW Unit} (h : w.ownsMap Tryd.prog 24 (plainElem (H := Unit) Tryd.prog 3) b n D) (hb : Below w.heap.size w w') : w'.ownsMap Tryd.prog 24 (plainElem (H := Unit) Tryd.prog 3) b n D := by
  have hlt := h.lt
  obtain ⟨es, clock, h1, h2, h3, h4⟩ := h
  exact ⟨es, clock, (hb.block b hlt).trans h1, h2, h3, h4⟩
/-- the lines that stand first are good: covered, and no two of one name -/
def goodL (x : NOp) (ls : List NClaim) : Prop := (∀ c ∈ ls, cov x c.lr c.ln ∧ cov x c.vr c.vn) ∧ (ls.map fun c => (c.lr, c.ln)).Nodup
set_option maxRecDepth 100000 in
set_option maxHeartbeats 16000000 in
theorem claims_any (w : World) (x : NOp) (A : Option Addr) (cap : Nat) (hx : x.ok) (hL : Lns w (.slice A x.lines.length cap) x.lines) : Calls Tryd.prog 47 #[.agg (opA x (.slice A x.lines.length cap))] w (Tells w (linesP x)) := by
  have hmm := @run_makeMap Tryd.prog
  obtain ⟨A', cap', e1, hr, hll⟩ := hL
  injection e1 with e1 e2 e3
  subst e1 e3
  have k0 := Blk.new w 30 (opA x (.slice A x.lines.length cap))
  have hb := (Below.refl w.heap.size w).alloc (Nat.le_refl _) (.cells (opA x (.slice A x.lines.length cap)) 30)
  have KM := (World.ownsMap_made (H := Unit) (w.alloc (.cells (opA x (.slice A x.lines.length cap)) 30)) Tryd.prog 24 (plainElem Tryd.prog 3))
  have HB := Lib.hid (hb.alloc (by simp) (.map #[] 0))
  have K0 := Lib.hid (k0.alloc (.map #[] 0))
  have c28 := (k0.alloc (.map #[] 0)).cell 28 |>.trans (op_c28 x _ hx.dep8)
  have HA := Lib.hid (fun W (h : Below w.heap.size w W) k (hk : k < x.lines.length) => line_at (hr.later h) hk)
  have CV := Lib.hid (fun W (c : NClaim) (hc : c.ok) => And.intro (cov_any W x (.slice A x.lines.length cap) c.lr c.ln hx hc.1 hc.2.1) (cov_any W x (.slice A x.lines.length cap) c.vr c.vn hx hc.2.2.1 hc.2.2.2))
  have OK := Lib.hid hx.lines
  have HSX := Lib.hid (opA_size x (.slice A x.lines.length cap) hx.dep8)
  have KM := Lib.hid KM
  rw [World.size_alloc] at KM
  have HLL := Lib.hid hll
  generalize opA x (.slice A x.lines.length cap) = X at *
  have HLP : Hid (linesP x ↔ (1 ≤ x.lines.length ∧ x.lines.length ≤ 16 ∧ goodL x x.lines)) := Lib.hid Iff.rfl
  generalize x.lines = ls at *
  have NO : Hid (∀ (e : Ending) (w' : World), ¬ linesP x → e = .returned (.bool false) → Below w.heap.size w w' → Tells w (linesP x) e w') := Lib.hid (fun e w' h1 h2 h3 => ⟨false, h2, by simp [h1], h3⟩)
  clear hr hb k0 hx hll
  go_enter Tryd.func47, Tryd.ntmps47
  go_wp2_with fail
  go_loopw [10] (fun i wr => ∃ k : Nat, k ≤ ls.length ∧ i = .int .i64 (k : Int) ∧ wr.ownsMap Tryd.prog 24 (plainElem (H := Unit) Tryd.prog 3) (w.heap.size + 1) k (dM (ls.take k).reverse) ∧ Blk wr w.heap.size 30 X ∧ Below w.heap.size w wr ∧ goodL x (ls.take k)) (fun i _ => ls.length - (intOf i).toNat)
  case atStart => exact ⟨0, by omega, rfl, KM.out, K0.out, HB.out, by simp [goodL]⟩
  case round =>
    obtain ⟨k, hk, rfl, hown, hK, hbw, hgd⟩ := hrel
    have OW := Lib.hid hown
    have K := Lib.hid hK
    have B := Lib.hid hbw
    have GD := Lib.hid hgd
    clear hown hK hbw hgd K0 HB KM c28
    by_cases hlt : k < ls.length
    · obtain ⟨ad, rfl, hcell⟩ := HA.out _ B.out k hlt
      have hd : decide ((k : Int) < (ls.length : Int)) = true := decide_eq_true (by omega)
      have IX := fun (W : World) => ix120 (W := W) (ad := ad) (c := cap) hlt HLL.out
      have HOK := Lib.hid (OK.out _ (List.getElem_mem hlt))
      have HTK := Lib.hid (show ls.take (k + 1) = ls.take k ++ [ls[k]] by rw [List.take_add_one, List.getElem?_eq_getElem hlt]; rfl)
      have HOT : Hid (∀ d ∈ (ls.take k).reverse, d.ok) := Lib.hid (fun d hd => OK.out d (List.mem_of_mem_take (List.mem_reverse.1 hd)))
      have HWR := Lib.hid (show wrap64 ((k : Int) + 1) = ((k + 1 : Nat) : Int) by rw [IntWalk.wrap64_in _ (by have := HLL.out; omega)]; omega)
      have HMEM := Lib.hid (List.getElem_mem hlt)
      have HNG : Hid (∀ c, c ∈ ls → ¬ (cov x c.lr c.ln ∧ cov x c.vr c.vn) → ¬ linesP x) := Lib.hid (fun c hc h1 h2 => h1 ((HLP.out.1 h2).2.2.1 c hc))
      have HDP : Hid ((∃ d ∈ (ls.take k).reverse, d.lr = ls[k].lr ∧ d.ln = ls[k].ln) → ¬ linesP x) := Lib.hid (by
        rintro ⟨d, hd, h1, h2⟩ h3
        have h4 := (HLP.out.1 h3).2.2.2
        have h5 : ls = ls.take k ++ ls[k] :: ls.drop (k + 1) := by rw [← List.drop_eq_getElem_cons hlt, List.take_append_drop]
        rw [h5, List.map_append, List.map_cons, List.nodup_append] at h4
        exact h4.2.2 (d.lr, d.ln) (List.mem_map_of_mem (List.mem_reverse.1 hd)) (ls[k].lr, ls[k].ln) (by simp) (by rw [h1, h2]))
      have HCL := Lib.hid hcell
      clear hcell
      generalize ls[k] = c at *
      have HAT := Lib.hid (dM_at c HOK.out _ HOT.out)
      have HKY := Lib.hid (key_of HOK.out.1 HOK.out.2.1)
      obtain ⟨t1, t3, tb⟩ := one_set wr #[.int .u8 0, .int .u32 0, .int .u8 0, .int .u32 0] (claimA c) 63
      have T1 := Lib.hid t1
      have OW := Lib.hid (owns_below OW.out tb)
      have K := Lib.hid (K.out.below tb K.out.lt)
      have B := Lib.hid (B.out.trans (tb.mono B.out.size))
      have KC := Lib.hid t3
      have q0 : _ = some (Value.int .u8 (c.lr : Int)) := t3.cell 0
      have q1 : _ = some (Value.int .u32 (c.ln : Int)) := t3.cell 1
      have q2 : _ = some (Value.int .u8 (c.vr : Int)) := t3.cell 2
      have q3 : _ = some (Value.int .u32 (c.vn : Int)) := t3.cell 3
      clear t1 t3 tb
      by_cases hdup : ∃ d ∈ (ls.take k).reverse, d.lr = c.lr ∧ d.ln = c.ln
      · have HC1 : Hid (∀ v : Int, (dM (ls.take k).reverse).atKey (keyL c.lr c.ln) (.lit (.int .i64 0)) = .lit (.int .i64 v) → v = 1) := Lib.hid (fun v h => by
          rw [HAT.out, if_pos hdup] at h
          injection h with h
          injection h with _ h
          exact h.symm)
        have HN := Lib.hid (HDP.out hdup)
        clear hdup
        go_wp2_with (first
          | (refine wpList_load_cells rfl 63 _ rfl (ad.add (k * 4)) rfl (claimA c) _ (fun j u hj => HCL.out j u hj) Tryd.underlying63 rfl (size177_ c) ?_)
          | (refine wpList_store_row rfl 63 _ _ rfl wr.heap.size (claimA c) rfl rfl 63 _ T1.out (size177_ c) rfl (claimA_one c) ?_)
          | (at_lookup; refine wpList_lookup_own_int _ rfl _ _ 107 rfl 24 3 .i64 law24 Tryd.underlying107 Tryd.underlying3 (zero3 _) (w.heap.size + 1) k _ rfl OW.out _ (keyL c.lr c.ln) rfl HKY.out ?_; intro v hat hwc; obtain rfl := HC1.out v hat))
        go_ret
        exact NO.out _ _ HN.out rfl B.out
      · have HC0 : Hid (∀ v : Int, (dM (ls.take k).reverse).atKey (keyL c.lr c.ln) (.lit (.int .i64 0)) = .lit (.int .i64 v) → v = 0) := Lib.hid (fun v h => by
          rw [HAT.out, if_neg hdup] at h
          injection h with h
          injection h with _ h
          exact h.symm)
        have HND := Lib.hid hdup
        clear hdup
        go_wp2_with (first
          | (refine wpList_load_cells rfl 63 _ rfl (ad.add (k * 4)) rfl (claimA c) _ (fun j u hj => HCL.out j u hj) Tryd.underlying63 rfl (size177_ c) ?_)
          | (refine wpList_store_row rfl 63 _ _ rfl wr.heap.size (claimA c) rfl rfl 63 _ T1.out (size177_ c) rfl (claimA_one c) ?_)
          | (refine wpList_load_row_if_ (by rfl) 30 _ rfl w.heap.size rfl 30 X (0, 0) _ K.out Tryd.underlying30 rfl (by rw [HSX.out]; exact size122) ?_)
          | (at_lookup; refine wpList_lookup_own_int _ rfl _ _ 107 rfl 24 3 .i64 law24 Tryd.underlying107 Tryd.underlying3 (zero3 _) (w.heap.size + 1) k _ rfl OW.out _ (keyL c.lr c.ln) rfl HKY.out ?_; intro v hat hwc; obtain rfl := HC0.out v hat))
        refine (CV.out _ c HOK.out).1.mono ?_
        rintro e w5 ⟨rfl, hb⟩
        have OW := Lib.hid (owns_below OW.out hb)
        have K := Lib.hid (K.out.below hb K.out.lt)
        have KC := Lib.hid (KC.out.below hb KC.out.lt)
        have B := Lib.hid (B.out.trans (hb.mono B.out.size))
        clear hb q0 q1 q2 q3 T1
        by_cases h1 : cov x c.lr c.ln
        case neg =>
          rw [decide_eq_false h1]
          have HN := Lib.hid (HNG.out c HMEM.out (fun h => h1 h.1))
          clear h1
          go_wp2_with fail
          go_ret
          exact NO.out _ _ HN.out rfl B.out
        rw [decide_eq_true h1]
        have H1 := Lib.hid h1
        clear h1
        have q2 : w5.cell? ⟨wr.heap.size, 2, none⟩ = some (Value.int .u8 (c.vr : Int)) := KC.out.cell 2
        have q3 : w5.cell? ⟨wr.heap.size, 3, none⟩ = some (Value.int .u32 (c.vn : Int)) := KC.out.cell 3
        go_wp2_with (refine wpList_load_row_if_ (by rfl) 30 _ rfl w.heap.size rfl 30 X (0, 0) _ K.out Tryd.underlying30 rfl (by rw [HSX.out]; exact size122) ?_)
        refine (CV.out _ c HOK.out).2.mono ?_
        rintro e w6 ⟨rfl, hb⟩
        have OW := Lib.hid (owns_below OW.out hb)
        have K := Lib.hid (K.out.below hb K.out.lt)
        have KC := Lib.hid (KC.out.below hb KC.out.lt)
        have B := Lib.hid (B.out.trans (hb.mono B.out.size))
        clear hb q2 q3
        by_cases h2 : cov x c.vr c.vn
        case neg =>
          rw [decide_eq_false h2]
          have HN := Lib.hid (HNG.out c HMEM.out (fun h => h2 h.2))
          clear h2
          go_wp2_with fail
          go_ret
          exact NO.out _ _ HN.out rfl B.out
        rw [decide_eq_true h2]
        have H2 := Lib.hid h2
        clear h2
        have q0 : w6.cell? ⟨wr.heap.size, 0, none⟩ = some (Value.int .u8 (c.lr : Int)) := KC.out.cell 0
        have q1 : w6.cell? ⟨wr.heap.size, 1, none⟩ = some (Value.int .u32 (c.ln : Int)) := KC.out.cell 1
        go_wp2_with (at_mapUpdate; refine wpList_mapUpdate_own _ rfl _ _ _ 107 rfl 24 3 law24 Tryd.underlying107 (plainElem (H := Unit) Tryd.prog 3) (w.heap.size + 1) k _ rfl OW.out (by have := HLL.out; unfold maxLen; omega) _ _ (keyL c.lr c.ln) rfl rfl HKY.out (.lit (.int .i64 1)) [] elem_one ?_; intro w7 hown1 hgrow1)
        go_roundw
        case rel =>
          refine ⟨k + 1, by omega, by rw [HWR.out], ?_, (hgrow1.block w.heap.size K.out.lt (fun e => by injection e with e; omega)).trans K.out, ?_, ?_⟩
          · rw [HTK.out, List.reverse_append]; exact hown1
          · exact B.out.grown hgrow1 B.out.size (fun j hj => by injection hj with hj; omega)
          · rw [HTK.out]
            refine ⟨fun d hd => ?_, ?_⟩
            · rcases List.mem_append.1 hd with hd | hd
              · exact GD.out.1 d hd
              · simp at hd; subst hd; exact ⟨H1.out, H2.out⟩
            · rw [List.map_append, List.nodup_append]
              refine ⟨GD.out.2, by simp, ?_⟩
              intro a ha b hb e
              obtain ⟨d, hd, rfl⟩ := List.mem_map.1 ha
              simp at hb
              rw [hb] at e
              simp at e
              exact HND.out ⟨d, List.mem_reverse.2 hd, e⟩
        case measure => rw [HWR.out]; simp [intOf]; omega
    · obtain rfl : k = ls.length := by omega
      have hd : decide ((ls.length : Int) < (ls.length : Int)) = false := decide_eq_false (by omega)
      rw [List.take_length] at OW GD
      obtain ⟨es, clock, hbm, F, hs, hD⟩ := OW.out
      have hsz : es.size = ls.length := by
        obtain ⟨_, h2⟩ := dM_size ls.reverse (fun d hd => OK.out d (List.mem_reverse.1 hd)) (by rw [List.map_reverse]; exact List.pairwise_reverse.2 (GD.out.2.imp fun h => h.symm))
        rw [hD, size_eq, length_sorted, List.length_map, List.length_reverse] at h2
        simpa using h2
      have HSZ := Lib.hid hsz
      have LM : ∀ ty, (Builtin.len_ #[107] ty #[.map (some (w.heap.size + 1))]).run Tryd.prog wr = .ok (.int .i64 (es.size : Int)) wr := fun ty => run_len_map wr 107 ty _ es clock (by kernel_rfl) hbm
      clear F hs hD hsz OW
      by_cases h1 : 1 ≤ ls.length
      case neg =>
        have e1 : decide ((0 : Int) < (es.size : Int)) = false := decide_eq_false (by have := HSZ.out; omega)
        have f1 : decide (0 < es.size) = false := decide_eq_false (by have := HSZ.out; omega)
        have HN := Lib.hid (fun h => h1 (HLP.out.1 h).1)
        clear h1
        go_wp2_with fail
        go_ret
        exact NO.out _ _ HN.out rfl B.out
      have e1 : decide ((0 : Int) < (es.size : Int)) = true := decide_eq_true (by have := HSZ.out; omega)
      have f1 : decide (0 < es.size) = true := decide_eq_true (by have := HSZ.out; omega)
      by_cases h2 : ls.length ≤ 16
      case neg =>
        have e2 : decide ((es.size : Int) ≤ 16) = false := decide_eq_false (by have := HSZ.out; omega)
        have f2 : decide (es.size ≤ 16) = false := decide_eq_false (by have := HSZ.out; omega)
        have HN := Lib.hid (fun h => h2 (HLP.out.1 h).2.1)
        clear h1 h2
        go_wp2_with fail
        go_ret
        exact NO.out _ _ HN.out rfl B.out
      have e2 : decide ((es.size : Int) ≤ 16) = true := decide_eq_true (by have := HSZ.out; omega)
      have f2 : decide (es.size ≤ 16) = true := decide_eq_true (by have := HSZ.out; omega)
      have HY := Lib.hid (HLP.out.2 ⟨h1, h2, GD.out⟩)
      clear h1 h2
      go_wp2_with fail
      go_ret
      exact ⟨true, rfl, by simp [HY.out], B.out⟩
end Go.Proofs.YtfojjklohbiffaaDoor
namespace Go.Proofs.YtfojjklohbiffaaDoor
open Go.RowKit Go.ChangeShapes Go.WideShapes Go.Deep Tran
theorem okWide_struct {P : Program} {w : World} {r : Reach} {base : Nat} {t : TypeId} {v : Value} {fs : Array Field} (ht : P.underlying t = some (.struct fs)) (h : Value.okWide P w r base t v) : ∃ cs, v = .agg cs ∧ cs.size = P.cellsOf t := by
  simp only [Value.okWide, ht] at h
  obtain ⟨cs, h1, h2, _⟩ := h
  exact ⟨cs, h1, h2⟩
set_option maxRecDepth 100000 in
theorem op_arg {H : Type} {enc : TypeId × Value → H} {w : World} {base : Nat} {r : Reach} {b0 : Nat} {v : Value} {d : DataW H} {p : List MemPlace}
    (hv : Value.okWide Tryd.prog w r b0 30 v) (h : DataW.Trod enc Tryd.prog w base (fun _ => true) true 30 v d p) (hz : ∀ n ∈ d.weights Tryd.prog 30, n ≤ reachBytes) :
    ∃ (x : NOp) (lv : Value), v = .agg (opA x lv) ∧ Lns w lv x.lines ∧ x.ok := by
  obtain ⟨cs, rfl, hsz⟩ := okWide_struct Tryd.underlying30 hv
  obtain ⟨fuel, hf⟩ := h
  obtain ⟨x, lv, e, hL, hx⟩ := op_of (x := (d, p)) hf hz
  refine ⟨x, lv, ?_, hL, hx⟩
  obtain ⟨l⟩ := cs
  have e2 : l = opF x lv := e
  rw [e2]
  rfl
set_option maxRecDepth 100000 in
theorem dot_arg {H : Type} {enc : TypeId × Value → H} {w : World} {base : Nat} {r : Reach} {b0 : Nat} {v : Value} {d : DataW H} {p : List MemPlace}
    (hv : Value.okWide Tryd.prog w r b0 24 v) (h : DataW.Trod enc Tryd.prog w base (fun _ => true) true 24 v d p) :
    ∃ a b : Nat, v = .agg #[.int .u8 (a : Int), .int .u32 (b : Int)] ∧ a < 256 ∧ b < 4294967296 := by
  obtain ⟨cs, rfl, hsz⟩ := okWide_struct Tryd.underlying24 hv
  obtain ⟨fuel, hf⟩ := h
  obtain ⟨a, b, e, ha, hb⟩ := opdot_of (x := (d, p)) hf
  refine ⟨a, b, ?_, ha, hb⟩
  obtain ⟨l⟩ := cs
  have e2 : l = _ := e
  rw [e2]
def laidL : List (String × DataW Unit) := [("tranter/op.kinds", Rows.laid_tranter_op_kinds)]
theorem glob_of {W : World} (h : laidMetH Tryd.prog [("tranter/op.kinds", Rows.laid_tranter_op_kinds)] W) : Glob W := by
  intro j hj
  rw [MakeChecks.laidMetH_plain _ _ _ (by kernel_rfl)] at h
  obtain ⟨ps, ⟨g, t, cs, fuel, p, q, hg, ht, hv, hd, _, _⟩, _, _⟩ := h
  obtain rfl := Option.some.inj ((show Tryd.prog.globalNamed "tranter/op.kinds" = some 0 by kernel_rfl).symm.trans hg)
  obtain rfl := Option.some.inj ((show (Tryd.prog.globals[0]?).map (·.type) = some 85 by kernel_rfl).symm.trans ht)
  obtain ⟨xs, m, _, ex, _, hl, hel⟩ := DataW.trod_array Tryd.underlying85 hd
  have c5 : Tryd.prog.cellsOf 5 = 1 := by kernel_rfl
  have hE := hel j (by omega)
  rw [c5, Nat.mul_one, List.getElem?_eq_getElem (by omega)] at hE
  obtain ⟨z, e1, e2, _⟩ := DataW.trod_int Tryd.underlying5 hE
  have e3 : (xs.map (·.1)) = [.lit (.int .u8 0), .lit (.int .u8 3), .lit (.int .u8 5), .lit (.int .u8 49), .lit (.int .u8 37), .lit (.int .u8 5), .lit (.int .u8 13), .lit (.int .u8 13), .lit (.int .u8 65)] := (DataW.agg.inj (Prod.mk.inj ex).1).symm
  have e4 : (xs.map (·.1))[j]? = ([.lit (.int .u8 0), .lit (.int .u8 3), .lit (.int .u8 5), .lit (.int .u8 49), .lit (.int .u8 37), .lit (.int .u8 5), .lit (.int .u8 13), .lit (.int .u8 13), .lit (.int .u8 65)] : List (DataW Unit))[j]? := by rw [e3]
  rw [List.getElem?_map, List.getElem?_eq_getElem (by omega : j < xs.length), Option.map_some, e2] at e4
  have hz : z = (kindsF j : Int) := by
    obtain h | h | h | h | h | h | h | h | h : j = 0 ∨ j = 1 ∨ j = 2 ∨ j = 3 ∨ j = 4 ∨ j = 5 ∨ j = 6 ∨ j = 7 ∨ j = 8 := by omega
    all_goals
      rw [h] at e4 ⊢
      simp at e4
      rw [e4]
      rfl
  rw [World.var?_cell hg hv j, ← hz]
  have : cs.toList[j]? = some (.int .u8 z) := by
    have h0 : ((cs.toList.drop j).take 1)[0]? = some (.int .u8 z) := by rw [e1]; rfl
    simpa using h0
  simpa using this
end Go.Proofs.YtfojjklohbiffaaDoor
namespace Tran
open Go Go.RowKit Go.WideShapes Go.ChangeShapes
section
variable {H : Type} {enc : TypeId × Value → H} {P : Program}
theorem post_of_below {f : Func} {s : ChangeSpec} {apart fresh handsOn again : Bool} {W W' : World} {args : Array Value} {v : Value} {ds gs : List (DataW H)} {before pa pv : List MemPlace}
    (hW : DataW.Whole enc P f.params.toList s.vars apart W args.toList ds gs before)
    (hres : ∀ (b : Nat) (sp : Nat → Bool) (hd : Bool), DataW.TrodAll enc P W' b sp hd f.resultTypes.toList (v.resultList f.resultTypes.size) (s.fn H (ds ++ gs)).results [])
    (hargs : ∀ sp : Nat → Bool, (∀ p ∈ before, sp p.block = true) → DataW.TrodAll enc P W' 0 sp true f.params.toList args.toList (s.fn H (ds ++ gs)).args pa)
    (hvars : ∀ sp : Nat → Bool, (∀ p ∈ before, sp p.block = true) → DataW.TrodVars enc P W' sp s.vars (s.fn H (ds ++ gs)).vars pv)
    (hps : before = pa ++ pv) (hb : Below W.heap.size W W')
    (hok : ∀ (j : Nat) (t : TypeId) (r : Value), f.resultTypes[j]? = some t → (v.resultList f.resultTypes.size)[j]? = some r → Value.okWide P W' .any 0 t r) :
    s.post enc P f apart fresh handsOn again W args v W' := by
  have hlt : ∀ p ∈ before, p.block < W.heap.size := fun p hp => hW.lt p hp
  have hold : ∀ p ∈ before, (fun b => decide (b < W.heap.size)) p.block = true := fun p hp => by simpa using hlt p hp
  refine ⟨ds, gs, before, [], pa, pv, hW, hres _ _ _, hargs _ hold, hvars _ hold, World.keptBut_mono (fun p hp => ⟨hp, ?_⟩) (hb.frame (· ∈ before)), fun _ => ?_⟩
  · rw [hps, List.mem_append] at hp
    exact Or.inr hp
  · obtain ⟨_, _, _, _, _, hz, hn⟩ := hW
    refine ⟨hok, _, _, ([] ++ pa) ++ pv, ⟨[] ++ pa, pv, trodAll_append (hargs _ (fun _ _ => rfl)) (hres _ _ _), hvars _ (fun _ _ => rfl), rfl, ?_, ?_⟩, ?_⟩
    · intro b off hp
      have hin : MemPlace.cell b off ∈ before := by rw [hps]; simpa using hp
      rw [hb.frozen (hlt _ hin)]
      exact hz b off hin
    · intro ha
      have := hn ha
      rw [hps] at this
      simpa using this
    · intro p hp _
      rw [hps]
      simpa using hp
end
end Tran
namespace Tran
open Go Go.RowKit
theorem Rep.know {n : Nat} {a0 a : Act} {K : List (Tmp × AV)} (h : Rep n a0 K a) {d : Tmp} {v : Value} (hv : a.eval (.tmp d) = v) : Rep n a0 ((d, .v v) :: K) a := by
  refine ⟨fun t => ?_, h.sz, h.df⟩
  unfold look
  cases hb : Nat.beq d t with
  | true => rw [← Nat.eq_of_beq_eq_true hb]; exact hv
  | false => exact h.ev t
theorem cut_at {P : Program} {ops : Array Oper} {Q : Exit → Act → World → Prop} {l : List Oper} {a : Act} {w : World} (k : Nat) (Φ : Act → World → Prop) (h2 : ∀ A W, Φ A W → wpList P ops Q (l.drop k) A W)
    (h1 : (∀ A W, Φ A W → wpList P ops Q (l.drop k) A W) → wpList P ops Q l a w) : wpList P ops Q l a w := h1 h2
end Tran
namespace Go.Proofs.YtfojjklohbiffaaDoor
open Go.RowKit Tran Tran.Wire
set_option linter.unusedVariables false
set_option linter.unusedSimpArgs false
/-- has a kind not a bit? -/
def zb (x : NOp) (b : Int) : Bool := bits .and .u8 (kindsF x.kind : Int) b == 0
def startP (x : NOp) : Prop := (x.kind = 0 ∧ x.cr = x.dr ∧ x.cn = x.dn) ∨ (x.kind ≠ 0 ∧ cov x x.cr x.cn)
abbrev grantP (x : NOp) : Prop := 1 ≤ x.dest ∧ 1 ≤ x.roles ∧ x.roles ≤ 7 ∧ x.depth ≤ 7 ∧ x.cap ≤ 1099511627776
abbrev qtyP (x : NOp) : Prop := 1 ≤ x.qty ∧ x.qty ≤ 65535
/-- is what a kind has right? -/
def rightP (x : NOp) : Prop := startP x ∧ (zb x 1 = true ∨ cov x x.er x.en) ∧ (zb x 4 = true ∨ cov x x.ar x.an) ∧ (zb x 8 = true ∨ cov x x.vr x.vn) ∧ (zb x 2 = true ∨ grantP x) ∧ (zb x 32 = true ∨ qtyP x) ∧ x.price ≤ 16777215 ∧ (zb x 64 = true ∨ linesP x)
theorem ix85 {r : Nat} (hr : r ≤ 8) (W : World) : (Instr.indexAt 85 (.pointer (some ⟨0, 0, none⟩)) (.int .u8 (r : Int))).run Tryd.prog W = .ok (.pointer (some ⟨0, r, none⟩)) W := by
  have h1 : (0 : Int) ≤ (r : Int) := by omega
  have h2 : (r : Int) < 9 := by omega
  go_simp
theorem en9 (args : Array Value) (W : World) : (callFunc 9 args).run Tryd.prog W = .ok (.enter 9 args) W := enters_of Tryd.func9 (by kernel_rfl) rfl args W
theorem en46 (args : Array Value) (W : World) : (callFunc 46 args).run Tryd.prog W = .ok (.enter 46 args) W := enters_of Tryd.func46 (by kernel_rfl) rfl args W
theorem en47 (args : Array Value) (W : World) : (callFunc 47 args).run Tryd.prog W = .ok (.enter 47 args) W := enters_of Tryd.func47 (by kernel_rfl) rfl args W
theorem rhas_z (w : World) (g : Nat) (x : NOp) (b : Int) (is r : Bool) (k : Blk w g 5 #[.int .u8 (kindsF x.kind : Int)]) (hr : (zb x b || is) = r) :
    Calls Tryd.prog 46 (#[.int .u8 b, .bool is] ++ #[.pointer (some ⟨g, 0, none⟩)]) w fun e w' => e = .returned (.bool r) ∧ Below w.heap.size w w' := by
  have h := rhas_any w g (kindsF x.kind : Int) b is k
  rw [show (bits .and .u8 (kindsF x.kind : Int) b == 0) = zb x b from rfl, hr] at h
  exact h
theorem or_no {z : Bool} {p : Prop} [Decidable p] (h : (z || decide p) = false) : ¬ (z = true ∨ p) := by
  rw [Bool.or_eq_false_iff, decide_eq_false_iff_not] at h
  rintro (h2 | h2)
  · rw [h.1] at h2; cases h2
  · exact h.2 h2
theorem or_yes {z : Bool} {p : Prop} [Decidable p] (h : (z || decide p) = true) : z = true ∨ p := by
  rw [Bool.or_eq_true, decide_eq_true_iff] at h
  exact h
theorem gt_int (t : TypeId) (k : IntKind) (a b : Int) (r : Bool) (ht : Tryd.prog.underlying t = some (.int k)) (h : decide (b < a) = r) (w : World) : (binOp .gtr t (.int k a) (.int k b)).run Tryd.prog w = .ok (.bool r) w := by
  subst h
  go_simp
theorem le_int (t : TypeId) (k : IntKind) (a b : Int) (r : Bool) (ht : Tryd.prog.underlying t = some (.int k)) (h : decide (a ≤ b) = r) (w : World) : (binOp .leq t (.int k a) (.int k b)).run Tryd.prog w = .ok (.bool r) w := by
  subst h
  go_simp
theorem lt_int (t : TypeId) (k : IntKind) (a b : Int) (r : Bool) (ht : Tryd.prog.underlying t = some (.int k)) (h : decide (a < b) = r) (w : World) : (binOp .lss t (.int k a) (.int k b)).run Tryd.prog w = .ok (.bool r) w := by
  subst h
  go_simp
theorem eqg_gt (t : TypeId) (op : BinOp) (x y : Operand) (k : IntKind) (a b : Int) (w : World) : (eqGuard op t x y (.int k a) (.int k b)).run Tryd.prog w = .ok () w := by
  cases op <;> simp [eqGuard]
/-- the worlds within right -/
structure RtW (w0 : World) (X : Array Value) (h : Int) (W : World) : Prop where
  k : Blk W w0.heap.size 30 X
  kh : Blk W (w0.heap.size + 1) 5 #[.int .u8 h]
  b : Below w0.heap.size w0 W
theorem RtW.below {w0 W W' : World} {X : Array Value} {h : Int} (s : RtW w0 X h W) (hb : Below W.heap.size W W') : RtW w0 X h W' := ⟨s.k.below hb s.k.lt, s.kh.below hb s.kh.lt, s.b.trans (hb.mono s.b.size)⟩
/-- where right's ways meet: what is known of the act -/
structure RtA (w0 : World) (X : Array Value) (h : Int) (s : Tmp) (r : Bool) (A : Act) (W : World) : Prop where
  sz : A.tmps.size = 107
  df : A.defers = []
  t1 : A.eval (.tmp 1) = .pointer (some ⟨w0.heap.size, 0, none⟩)
  t4 : A.eval (.tmp 4) = .func (.func 46) #[] #[.pointer (some ⟨w0.heap.size + 1, 0, none⟩)]
  ts : A.eval (.tmp s) = .bool r
  wk : RtW w0 X h W
theorem or_via {z r : Bool} {p : Prop} (h : (z || r) = true) (hr : r = true ↔ p) : z = true ∨ p := by
  rw [Bool.or_eq_true] at h
  exact h.imp id hr.1
theorem or_vian {z r : Bool} {p : Prop} (h : (z || r) = false) (hr : r = true ↔ p) : ¬ (z = true ∨ p) := by
  rw [Bool.or_eq_false_iff] at h
  rintro (h2 | h2)
  · rw [h.1] at h2; cases h2
  · rw [hr.2 h2] at h; cases h.2
set_option maxRecDepth 100000 in
set_option maxHeartbeats 64000000 in
theorem right_any (w : World) (x : NOp) (A : Option Addr) (cap : Nat) (hx : x.ok) (hL : Lns w (.slice A x.lines.length cap) x.lines) (hg : Glob w) (hk : x.kind ≤ 8) : Calls Tryd.prog 20 #[.agg (opA x (.slice A x.lines.length cap))] w (Tells w (rightP x)) := by
  have k0 := Blk.new w 30 (opA x (.slice A x.lines.length cap))
  have hb := (Below.refl w.heap.size w).alloc (Nat.le_refl _) (.cells (opA x (.slice A x.lines.length cap)) 30)
  have HC := Lib.hid (And.intro (op_c0 x (.slice A x.lines.length cap)) (And.intro (op_c1 x (.slice A x.lines.length cap)) (And.intro (op_c12 x (.slice A x.lines.length cap) hx.dep8) (op_c13 x (.slice A x.lines.length cap) hx.dep8))))
  have X14 := Lib.hid (op_c14 x (.slice A x.lines.length cap) hx.dep8)
  have X15 := Lib.hid (op_c15 x (.slice A x.lines.length cap) hx.dep8)
  have X16 := Lib.hid (op_c16 x (.slice A x.lines.length cap) hx.dep8)
  have X17 := Lib.hid (op_c17 x (.slice A x.lines.length cap) hx.dep8)
  have X18 := Lib.hid (op_c18 x (.slice A x.lines.length cap) hx.dep8)
  have X19 := Lib.hid (op_c19 x (.slice A x.lines.length cap) hx.dep8)
  have X20 := Lib.hid (op_c20 x (.slice A x.lines.length cap) hx.dep8)
  have X21 := Lib.hid (op_c21 x (.slice A x.lines.length cap) hx.dep8)
  have X22 := Lib.hid (op_c22 x (.slice A x.lines.length cap) hx.dep8)
  have X23 := Lib.hid (op_c23 x (.slice A x.lines.length cap) hx.dep8)
  have X24 := Lib.hid (op_c24 x (.slice A x.lines.length cap) hx.dep8)
  have X26 := Lib.hid (op_c26 x (.slice A x.lines.length cap) hx.dep8)
  have X27 := Lib.hid (op_c27 x (.slice A x.lines.length cap) hx.dep8)
  have c14 := (k0.cell 14).trans (op_c14 x _ hx.dep8)
  have g0 := (Glob.later hg hb) x.kind hk
  have IX := fun W => ix85 hk W
  have HSX := Lib.hid (opA_size x (.slice A x.lines.length cap) hx.dep8)
  have CV := Lib.hid (fun W (r n : Nat) (hr : r < 256) (hn : n < 4294967296) => cov_any W x (.slice A x.lines.length cap) r n hx hr hn)
  have CL := Lib.hid (fun W (h : Below w.heap.size w W) => claims_any W x A cap hx (hL.later h))
  have QD := Lib.hid (fun r hr W => eql_dot x.cr x.cn x.dr x.dn hx.cr hx.cn hx.dr hx.dn r hr W)
  have HBD := Lib.hid (And.intro hx.cr (And.intro hx.cn (And.intro hx.er (And.intro hx.en (And.intro hx.ar (And.intro hx.an (And.intro hx.vr hx.vn)))))))
  have HR : Hid (rightP x ↔ (startP x ∧ (zb x 1 = true ∨ cov x x.er x.en) ∧ (zb x 4 = true ∨ cov x x.ar x.an) ∧ (zb x 8 = true ∨ cov x x.vr x.vn) ∧ (zb x 2 = true ∨ grantP x) ∧ (zb x 32 = true ∨ qtyP x) ∧ x.price ≤ 16777215 ∧ (zb x 64 = true ∨ linesP x))) := Lib.hid Iff.rfl
  have HS : Hid (startP x ↔ ((x.kind = 0 ∧ x.cr = x.dr ∧ x.cn = x.dn) ∨ (x.kind ≠ 0 ∧ cov x x.cr x.cn))) := Lib.hid Iff.rfl
  have RZ := Lib.hid (fun W g b is r k hr => rhas_z W g x b is r k hr)
  obtain ⟨h, hh⟩ : ∃ h : Int, (kindsF x.kind : Int) = h := ⟨_, rfl⟩
  rw [hh] at g0 RZ
  clear hh
  generalize opA x (.slice A x.lines.length cap) = X at *
  have K0 := Lib.hid k0
  have HB := Lib.hid hb
  clear k0 hb hx hg hk hL
  go_enter Tryd.func20, Tryd.ntmps20
  go_upto_region 3 with (fail)
  go_cut [5] from 6 to 106 (fun s5 wx => ∃ r : Bool, s5 = .bool r ∧ RtW w X h wx ∧ (r = true → startP x) ∧ (r = false → ¬ rightP x))
  case first =>
    obtain ⟨W1, hW1⟩ : ∃ W : World, W = (w.alloc (.cells X 30)).alloc (.cells #[.int .u8 h] 5) := ⟨_, rfl⟩
    have S : Hid (RtW w X h W1) := Lib.hid (by
      rw [hW1]
      obtain ⟨h1, h2, h3⟩ := two_new w X #[.int .u8 h] 30 5
      exact ⟨h1, h2, h3⟩)
    have HC14 := Lib.hid (show X[14]? = some (.int .u8 (x.kind : Int)) from X14.out)
    rw [← hW1]
    clear hW1 c14 g0 IX K0 HB
    have c14 := (S.out.k.cell 14).trans HC14.out
    have c0 := (S.out.k.cell 0).trans HC.out.1
    have c1 := (S.out.k.cell 1).trans HC.out.2.1
    have c12 := (S.out.k.cell 12).trans HC.out.2.2.1
    have c13 := (S.out.k.cell 13).trans HC.out.2.2.2
    by_cases hk0 : x.kind = 0
    · have e1 : ((x.kind : Int) == 0) = true := by rw [beq_iff_eq]; omega
      have f1 : (x.kind == 0) = true := by rw [beq_iff_eq]; exact hk0
      have g1 : ((x.kind : Int) != 0) = false := by simp [bne, e1]
      have g2 : (x.kind != 0) = false := by simp [bne, f1]
      by_cases heq : x.cr = x.dr ∧ x.cn = x.dn
      · have qe := fun W => QD.out true (by simp [heq]) W
        have HST := Lib.hid (HS.out.2 (.inl ⟨hk0, heq⟩))
        clear hk0 heq
        go_wp2_with fail
        go_meet
        exact ⟨true, rfl, S.out, fun _ => HST.out, fun h => by cases h⟩
      · have qe := fun W => QD.out false (by simp only [Bool.false_eq_true, false_iff]; exact heq) W
        have HN := Lib.hid (fun h => by
          rcases HS.out.1 (HR.out.1 h).1 with h2 | h2
          · exact heq h2.2
          · exact h2.1 hk0)
        clear hk0 heq
        go_wp2_with fail
        go_meet
        exact ⟨false, rfl, S.out, fun h => (by cases h), fun _ => HN.out⟩
    · have e1 : ((x.kind : Int) == 0) = false := by rw [beq_eq_false_iff_ne]; omega
      have f1 : (x.kind == 0) = false := by rw [beq_eq_false_iff_ne]; exact hk0
      have g1 : ((x.kind : Int) != 0) = true := by simp [bne, e1]
      have g2 : (x.kind != 0) = true := by simp [bne, f1]
      go_wp2_with (refine wpList_load_row_if_ (by rfl) 30 _ rfl w.heap.size rfl 30 X (0, 0) _ S.out.k Tryd.underlying30 rfl (by rw [HSX.out]; exact size122) ?_)
      refine (CV.out _ x.cr x.cn HBD.out.1 HBD.out.2.1).mono ?_
      rintro e w2 ⟨rfl, hb⟩
      have S := Lib.hid (S.out.below hb)
      clear hb c14 c0 c1 c12 c13
      by_cases hcv : cov x x.cr x.cn
      · rw [decide_eq_true hcv]
        have HST := Lib.hid (HS.out.2 (.inr ⟨hk0, hcv⟩))
        clear hk0 hcv
        go_wp2_with fail
        go_meet
        exact ⟨true, rfl, S.out, fun _ => HST.out, fun h => by cases h⟩
      · rw [decide_eq_false hcv]
        have HN := Lib.hid (fun h => by
          rcases HS.out.1 (HR.out.1 h).1 with h2 | h2
          · exact hk0 h2.1
          · exact hcv h2.2)
        clear hk0 hcv
        go_wp2_with fail
        go_meet
        exact ⟨false, rfl, S.out, fun h => (by cases h), fun _ => HN.out⟩
  case rest =>
    obtain ⟨r0, rfl, S0, hT, hF⟩ := hcut
    have S := Lib.hid S0
    have HT := Lib.hid hT
    have HF := Lib.hid hF
    clear S0 hT hF c14 g0 IX K0 HB
    go_upto_region 4 with (fail)
    refine lst_begin ?_
    simp only [List.append_eq, List.cons_append, List.nil_append]
    intro A hA
    have HA : Hid (RtA w X h 5 r0 A wc) := Lib.hid ⟨by rw [hA] <;> rfl, by rw [hA] <;> rfl, by rw [hA]; rfl, by rw [hA]; rfl, by rw [hA]; rfl, S.out⟩
    clear hA S
    refine cut_at 76 (fun A W => ∃ r : Bool, RtA w X h 2 r A W ∧ (r = true ↔ rightP x)) ?_ (fun C76 => ?_)
    · intro A0 W0 HH
      simp only [List.drop_succ_cons, List.drop_zero]
      obtain ⟨r, HA, hr⟩ := HH
      have hd := HA.df
      have hv := HA.ts
      have S := Lib.hid HA.wk
      have HRR := Lib.hid hr
      clear HA hr
      refine lst_nil ?_
      go_wp2_with fail
      refine bodyPost_ret (results_tmp rfl _ _ _) hd ?_
      exact ⟨r, congrArg Ending.returned hv, HRR.out, S.out.b⟩
    simp only [List.drop_succ_cons, List.drop_zero, List.drop_nil] at C76
    refine cut_at 70 (fun A W => ∃ r : Bool, RtA w X h 101 r A W ∧ (r = true → startP x ∧ (zb x 1 = true ∨ cov x x.er x.en) ∧ (zb x 4 = true ∨ cov x x.ar x.an) ∧ (zb x 8 = true ∨ cov x x.vr x.vn) ∧ (zb x 2 = true ∨ grantP x) ∧ (zb x 32 = true ∨ qtyP x) ∧ x.price ≤ 16777215) ∧ (r = false → ¬ rightP x)) ?_ (fun C70 => ?_)
    · intro A0 W0 HH
      simp only [List.drop_succ_cons, List.drop_zero]
      obtain ⟨r, HA, hT, hF⟩ := HH
      have h1 := HA.t1
      have h4 := HA.t4
      have S := Lib.hid HA.wk
      have hrep : Rep 107 A0 [] A0 := Rep.start HA.sz HA.df
      replace hrep := hrep.know HA.ts
      have HP := Lib.hid hT
      have HN := Lib.hid hF
      clear HA hT hF
      cases r
      case false =>
        refine abs_step (by rfl) hrep ?_
        clear hrep
        intro A1 hrep
        refine abs_step (by rfl) hrep ?_
        clear hrep
        intro A1 hrep
        refine abs_step (by rfl) hrep ?_
        clear hrep
        intro A1 hrep
        refine abs_step (by rfl) hrep ?_
        clear hrep
        intro A1 hrep
        refine abs_step (by rfl) hrep ?_
        clear hrep
        intro A1 hrep
        refine abs_step (by rfl) hrep ?_
        clear hrep
        intro A1 hrep
        exact C76 _ _ ⟨false, ⟨hrep.sz, hrep.df, (hrep.ev 1).trans h1, (hrep.ev 4).trans h4, hrep.ev 2, S.out⟩, ⟨fun h => (by cases h), fun h => absurd h (HN.out rfl)⟩⟩
      case true =>
        refine abs_step (by rfl) hrep ?_
        clear hrep
        intro A1 hrep
        refine abs_val (.agg X) rfl rfl rfl hrep (exec_load1 30 _ rfl ((hrep.ev 1).trans h1) (ld122 S.out.k HSX.out)) ?_
        clear hrep
        intro A1 hrep
        refine abs_call rfl rfl rfl hrep (exec_call0 rfl rfl (map1 (hrep.ev 103)) en47) ?_
        refine (CL.out _ S.out.b).mono ?_
        rintro _ wn ⟨rl, rfl, hrl, hb⟩
        have S := Lib.hid (S.out.below hb)
        clear hb
        refine ⟨_, rfl, ?_⟩
        clear hrep
        intro A1 hrep
        obtain ⟨r6, hr6⟩ : ∃ r, (zb x 64 || rl) = r := ⟨_, rfl⟩
        refine abs_call rfl rfl rfl hrep (exec_call rfl ((hrep.ev 102).trans h4) (map2 rfl (hrep.ev 104)) en46) ?_
        refine (RZ.out _ _ 64 _ r6 S.out.kh hr6).mono ?_
        rintro _ wn ⟨rfl, hb⟩
        have S := Lib.hid (S.out.below hb)
        clear hb
        refine ⟨_, rfl, ?_⟩
        clear hrep
        intro A1 hrep
        refine abs_step (by rfl) hrep ?_
        clear hrep
        intro A1 hrep
        refine abs_step (by rfl) hrep ?_
        clear hrep
        intro A1 hrep
        exact C76 _ _ ⟨r6, ⟨hrep.sz, hrep.df, (hrep.ev 1).trans h1, (hrep.ev 4).trans h4, hrep.ev 2, S.out⟩, ⟨fun h => HR.out.2 ⟨(HP.out rfl).1, (HP.out rfl).2.1, (HP.out rfl).2.2.1, (HP.out rfl).2.2.2.1, (HP.out rfl).2.2.2.2.1, (HP.out rfl).2.2.2.2.2.1, (HP.out rfl).2.2.2.2.2.2, or_via (by rw [hr6]; exact h) hrl⟩, fun h2 => by
          cases hq : r6 with
          | true => rfl
          | false => exact absurd (HR.out.1 h2).2.2.2.2.2.2.2 (or_vian (by rw [hr6]; exact hq) hrl)⟩⟩
    simp only [List.drop_succ_cons, List.drop_zero, List.drop_nil] at C70
    refine cut_at 65 (fun A W => ∃ r : Bool, RtA w X h 96 r A W ∧ (r = true → startP x ∧ (zb x 1 = true ∨ cov x x.er x.en) ∧ (zb x 4 = true ∨ cov x x.ar x.an) ∧ (zb x 8 = true ∨ cov x x.vr x.vn) ∧ (zb x 2 = true ∨ grantP x) ∧ (zb x 32 = true ∨ qtyP x)) ∧ (r = false → ¬ rightP x)) ?_ (fun C65 => ?_)
    · intro A0 W0 HH
      simp only [List.drop_succ_cons, List.drop_zero]
      obtain ⟨r, HA, hT, hF⟩ := HH
      have h1 := HA.t1
      have h4 := HA.t4
      have S := Lib.hid HA.wk
      have hrep : Rep 107 A0 [] A0 := Rep.start HA.sz HA.df
      replace hrep := hrep.know HA.ts
      have HP := Lib.hid hT
      have HN := Lib.hid hF
      clear HA hT hF
      cases r
      case false =>
        refine abs_step (by rfl) hrep ?_
        clear hrep
        intro A1 hrep
        refine abs_step (by rfl) hrep ?_
        clear hrep
        intro A1 hrep
        refine abs_step (by rfl) hrep ?_
        clear hrep
        intro A1 hrep
        refine abs_step (by rfl) hrep ?_
        clear hrep
        intro A1 hrep
        refine abs_step (by rfl) hrep ?_
        clear hrep
        intro A1 hrep
        exact C70 _ _ ⟨false, ⟨hrep.sz, hrep.df, (hrep.ev 1).trans h1, (hrep.ev 4).trans h4, hrep.ev 101, S.out⟩, (fun h => by cases h), fun _ => HN.out rfl⟩
      case true =>
        refine abs_val (.pointer (some ⟨w.heap.size, 27, none⟩)) rfl rfl rfl hrep (exec_addr 30 _ 15 rfl ((hrep.ev 1).trans h1) fa15) ?_
        clear hrep
        intro A1 hrep
        refine abs_val (.int .u32 (x.price : Int)) rfl rfl rfl hrep (exec_load1 22 _ rfl (hrep.ev 97) (ld22 ((S.out.k.cell 27).trans X27.out))) ?_
        clear hrep
        intro A1 hrep
        by_cases g : x.price ≤ 16777215
        case neg =>
          refine abs_val (.bool false) rfl rfl rfl hrep (exec_bin .leq 22 22 _ (.const (.int .u32 16777215)) rfl (hrep.ev 98) rfl (eqg_gt _ _ _ _ _ _ _ _) (le_int 22 .u32 _ _ _ Tryd.underlying22 (show decide ((x.price : Int) ≤ (16777215 : Int)) = false from decide_eq_false (by omega)) _)) ?_
          clear hrep
          intro A1 hrep
          refine abs_step (by rfl) hrep ?_
          clear hrep
          intro A1 hrep
          refine abs_step (by rfl) hrep ?_
          clear hrep
          intro A1 hrep
          exact C70 _ _ ⟨false, ⟨hrep.sz, hrep.df, (hrep.ev 1).trans h1, (hrep.ev 4).trans h4, hrep.ev 101, S.out⟩, (fun h => by cases h), fun _ h2 => g (HR.out.1 h2).2.2.2.2.2.2.1⟩
        refine abs_val (.bool true) rfl rfl rfl hrep (exec_bin .leq 22 22 _ (.const (.int .u32 16777215)) rfl (hrep.ev 98) rfl (eqg_gt _ _ _ _ _ _ _ _) (le_int 22 .u32 _ _ _ Tryd.underlying22 (show decide ((x.price : Int) ≤ (16777215 : Int)) = true from decide_eq_true (by omega)) _)) ?_
        clear hrep
        intro A1 hrep
        refine abs_step (by rfl) hrep ?_
        clear hrep
        intro A1 hrep
        refine abs_step (by rfl) hrep ?_
        clear hrep
        intro A1 hrep
        exact C70 _ _ ⟨true, ⟨hrep.sz, hrep.df, (hrep.ev 1).trans h1, (hrep.ev 4).trans h4, hrep.ev 101, S.out⟩, fun _ => ⟨(HP.out rfl).1, (HP.out rfl).2.1, (HP.out rfl).2.2.1, (HP.out rfl).2.2.2.1, (HP.out rfl).2.2.2.2.1, (HP.out rfl).2.2.2.2.2, g⟩, (fun h => by cases h)⟩
    simp only [List.drop_succ_cons, List.drop_zero, List.drop_nil] at C65
    refine cut_at 62 (fun A W => ∃ r : Bool, RtA w X h 84 true A W ∧ A.eval (.tmp 85) = .func (.func 46) #[] #[.pointer (some ⟨w.heap.size + 1, 0, none⟩)] ∧ A.eval (.tmp 93) = .bool r ∧ (r = true ↔ qtyP x) ∧ startP x ∧ (zb x 1 = true ∨ cov x x.er x.en) ∧ (zb x 4 = true ∨ cov x x.ar x.an) ∧ (zb x 8 = true ∨ cov x x.vr x.vn) ∧ (zb x 2 = true ∨ grantP x)) ?_ (fun C62 => ?_)
    · intro A0 W0 HH
      simp only [List.drop_succ_cons, List.drop_zero]
      obtain ⟨r, HA, hc, hs, hI, hp⟩ := HH
      have h1 := HA.t1
      have h4 := HA.t4
      have S := Lib.hid HA.wk
      have hrep : Rep 107 A0 [] A0 := Rep.start HA.sz HA.df
      replace hrep := hrep.know HA.ts
      replace hrep := hrep.know hc
      replace hrep := hrep.know hs
      have HI := Lib.hid hI
      have HP := Lib.hid hp
      clear HA hc hs hI hp
      obtain ⟨r1, hr1⟩ : ∃ r1, (zb x 32 || r) = r1 := ⟨_, rfl⟩
      refine abs_call rfl rfl rfl hrep (exec_call rfl (hrep.ev 85) (map2 rfl (hrep.ev 93)) en46) ?_
      refine (RZ.out _ _ 32 _ r1 S.out.kh hr1).mono ?_
      rintro _ wn ⟨rfl, hb⟩
      have S := Lib.hid (S.out.below hb)
      clear hb
      refine ⟨_, rfl, ?_⟩
      clear hrep
      intro A1 hrep
      refine abs_step (by rfl) hrep ?_
      clear hrep
      intro A1 hrep
      refine abs_step (by rfl) hrep ?_
      clear hrep
      intro A1 hrep
      exact C65 _ _ ⟨r1, ⟨hrep.sz, hrep.df, (hrep.ev 1).trans h1, (hrep.ev 4).trans h4, hrep.ev 96, S.out⟩, fun h => ⟨HP.out.1, HP.out.2.1, HP.out.2.2.1, HP.out.2.2.2.1, HP.out.2.2.2.2, or_via (by rw [hr1]; exact h) HI.out⟩, fun h h2 => or_vian (by rw [hr1]; exact h) HI.out (HR.out.1 h2).2.2.2.2.2.1⟩
    simp only [List.drop_succ_cons, List.drop_zero, List.drop_nil] at C62
    refine cut_at 53 (fun A W => ∃ r : Bool, RtA w X h 84 r A W ∧ (r = true → startP x ∧ (zb x 1 = true ∨ cov x x.er x.en) ∧ (zb x 4 = true ∨ cov x x.ar x.an) ∧ (zb x 8 = true ∨ cov x x.vr x.vn) ∧ (zb x 2 = true ∨ grantP x)) ∧ (r = false → ¬ rightP x)) ?_ (fun C53 => ?_)
    · intro A0 W0 HH
      simp only [List.drop_succ_cons, List.drop_zero]
      obtain ⟨r, HA, hT, hF⟩ := HH
      have h1 := HA.t1
      have h4 := HA.t4
      have S := Lib.hid HA.wk
      have hrep : Rep 107 A0 [] A0 := Rep.start HA.sz HA.df
      replace hrep := hrep.know HA.ts
      have HP := Lib.hid hT
      have HN := Lib.hid hF
      clear HA hT hF
      cases r
      case false =>
        refine abs_step (by rfl) hrep ?_
        clear hrep
        intro A1 hrep
        refine abs_step (by rfl) hrep ?_
        clear hrep
        intro A1 hrep
        refine abs_step (by rfl) hrep ?_
        clear hrep
        intro A1 hrep
        refine abs_step (by rfl) hrep ?_
        clear hrep
        intro A1 hrep
        refine abs_step (by rfl) hrep ?_
        clear hrep
        intro A1 hrep
        refine abs_step (by rfl) hrep ?_
        clear hrep
        intro A1 hrep
        refine abs_step (by rfl) hrep ?_
        clear hrep
        intro A1 hrep
        refine abs_step (by rfl) hrep ?_
        clear hrep
        intro A1 hrep
        refine abs_step (by rfl) hrep ?_
        clear hrep
        intro A1 hrep
        refine abs_step (by rfl) hrep ?_
        clear hrep
        intro A1 hrep
        refine abs_step (by rfl) hrep ?_
        clear hrep
        intro A1 hrep
        refine abs_step (by rfl) hrep ?_
        clear hrep
        intro A1 hrep
        exact C65 _ _ ⟨false, ⟨hrep.sz, hrep.df, (hrep.ev 1).trans h1, (hrep.ev 4).trans h4, hrep.ev 96, S.out⟩, (fun h => by cases h), fun _ => HN.out rfl⟩
      case true =>
        refine abs_step (by rfl) hrep ?_
        clear hrep
        intro A1 hrep
        refine abs_val (.pointer (some ⟨w.heap.size, 26, none⟩)) rfl rfl rfl hrep (exec_addr 30 _ 14 rfl ((hrep.ev 1).trans h1) fa14) ?_
        clear hrep
        intro A1 hrep
        refine abs_val (.int .u32 (x.qty : Int)) rfl rfl rfl hrep (exec_load1 22 _ rfl (hrep.ev 86) (ld22 ((S.out.k.cell 26).trans X26.out))) ?_
        clear hrep
        intro A1 hrep
        by_cases g0 : 1 ≤ x.qty
        case neg =>
          refine abs_val (.bool false) rfl rfl rfl hrep (exec_bin .gtr 22 22 _ (.const (.int .u32 0)) rfl (hrep.ev 87) rfl (eqg_gt _ _ _ _ _ _ _ _) (gt_int 22 .u32 _ _ _ Tryd.underlying22 (show decide ((0 : Int) < (x.qty : Int)) = false from decide_eq_false (by omega)) _)) ?_
          clear hrep
          intro A1 hrep
          refine abs_step (by rfl) hrep ?_
          clear hrep
          intro A1 hrep
          refine abs_step (by rfl) hrep ?_
          clear hrep
          intro A1 hrep
          refine abs_step (by rfl) hrep ?_
          clear hrep
          intro A1 hrep
          refine abs_step (by rfl) hrep ?_
          clear hrep
          intro A1 hrep
          refine abs_step (by rfl) hrep ?_
          clear hrep
          intro A1 hrep
          exact C62 _ _ ⟨false, ⟨hrep.sz, hrep.df, (hrep.ev 1).trans h1, (hrep.ev 4).trans h4, hrep.ev 84, S.out⟩, (hrep.ev 85).trans h4, hrep.ev 93, ⟨(fun h => by cases h), fun h => absurd h.1 g0⟩, HP.out rfl⟩
        refine abs_val (.bool true) rfl rfl rfl hrep (exec_bin .gtr 22 22 _ (.const (.int .u32 0)) rfl (hrep.ev 87) rfl (eqg_gt _ _ _ _ _ _ _ _) (gt_int 22 .u32 _ _ _ Tryd.underlying22 (show decide ((0 : Int) < (x.qty : Int)) = true from decide_eq_true (by omega)) _)) ?_
        clear hrep
        intro A1 hrep
        refine abs_step (by rfl) hrep ?_
        clear hrep
        intro A1 hrep
        refine abs_val (.pointer (some ⟨w.heap.size, 26, none⟩)) rfl rfl rfl hrep (exec_addr 30 _ 14 rfl ((hrep.ev 1).trans h1) fa14) ?_
        clear hrep
        intro A1 hrep
        refine abs_val (.int .u32 (x.qty : Int)) rfl rfl rfl hrep (exec_load1 22 _ rfl (hrep.ev 90) (ld22 ((S.out.k.cell 26).trans X26.out))) ?_
        clear hrep
        intro A1 hrep
        by_cases g1 : x.qty ≤ 65535
        case neg =>
          refine abs_val (.bool false) rfl rfl rfl hrep (exec_bin .leq 22 22 _ (.const (.int .u32 65535)) rfl (hrep.ev 91) rfl (eqg_gt _ _ _ _ _ _ _ _) (le_int 22 .u32 _ _ _ Tryd.underlying22 (show decide ((x.qty : Int) ≤ (65535 : Int)) = false from decide_eq_false (by omega)) _)) ?_
          clear hrep
          intro A1 hrep
          refine abs_step (by rfl) hrep ?_
          clear hrep
          intro A1 hrep
          exact C62 _ _ ⟨false, ⟨hrep.sz, hrep.df, (hrep.ev 1).trans h1, (hrep.ev 4).trans h4, hrep.ev 84, S.out⟩, (hrep.ev 85).trans h4, hrep.ev 93, ⟨(fun h => by cases h), fun h => absurd h.2 g1⟩, HP.out rfl⟩
        refine abs_val (.bool true) rfl rfl rfl hrep (exec_bin .leq 22 22 _ (.const (.int .u32 65535)) rfl (hrep.ev 91) rfl (eqg_gt _ _ _ _ _ _ _ _) (le_int 22 .u32 _ _ _ Tryd.underlying22 (show decide ((x.qty : Int) ≤ (65535 : Int)) = true from decide_eq_true (by omega)) _)) ?_
        clear hrep
        intro A1 hrep
        refine abs_step (by rfl) hrep ?_
        clear hrep
        intro A1 hrep
        exact C62 _ _ ⟨true, ⟨hrep.sz, hrep.df, (hrep.ev 1).trans h1, (hrep.ev 4).trans h4, hrep.ev 84, S.out⟩, (hrep.ev 85).trans h4, hrep.ev 93, ⟨fun _ => ⟨g0, g1⟩, fun _ => rfl⟩, HP.out rfl⟩
    simp only [List.drop_succ_cons, List.drop_zero, List.drop_nil] at C53
    refine cut_at 50 (fun A W => ∃ r : Bool, RtA w X h 57 true A W ∧ A.eval (.tmp 58) = .func (.func 46) #[] #[.pointer (some ⟨w.heap.size + 1, 0, none⟩)] ∧ A.eval (.tmp 81) = .bool r ∧ (r = true ↔ grantP x) ∧ startP x ∧ (zb x 1 = true ∨ cov x x.er x.en) ∧ (zb x 4 = true ∨ cov x x.ar x.an) ∧ (zb x 8 = true ∨ cov x x.vr x.vn)) ?_ (fun C50 => ?_)
    · intro A0 W0 HH
      simp only [List.drop_succ_cons, List.drop_zero]
      obtain ⟨r, HA, hc, hs, hI, hp⟩ := HH
      have h1 := HA.t1
      have h4 := HA.t4
      have S := Lib.hid HA.wk
      have hrep : Rep 107 A0 [] A0 := Rep.start HA.sz HA.df
      replace hrep := hrep.know HA.ts
      replace hrep := hrep.know hc
      replace hrep := hrep.know hs
      have HI := Lib.hid hI
      have HP := Lib.hid hp
      clear HA hc hs hI hp
      obtain ⟨r1, hr1⟩ : ∃ r1, (zb x 2 || r) = r1 := ⟨_, rfl⟩
      refine abs_call rfl rfl rfl hrep (exec_call rfl (hrep.ev 58) (map2 rfl (hrep.ev 81)) en46) ?_
      refine (RZ.out _ _ 2 _ r1 S.out.kh hr1).mono ?_
      rintro _ wn ⟨rfl, hb⟩
      have S := Lib.hid (S.out.below hb)
      clear hb
      refine ⟨_, rfl, ?_⟩
      clear hrep
      intro A1 hrep
      refine abs_step (by rfl) hrep ?_
      clear hrep
      intro A1 hrep
      refine abs_step (by rfl) hrep ?_
      clear hrep
      intro A1 hrep
      exact C53 _ _ ⟨r1, ⟨hrep.sz, hrep.df, (hrep.ev 1).trans h1, (hrep.ev 4).trans h4, hrep.ev 84, S.out⟩, fun h => ⟨HP.out.1, HP.out.2.1, HP.out.2.2.1, HP.out.2.2.2, or_via (by rw [hr1]; exact h) HI.out⟩, fun h h2 => or_vian (by rw [hr1]; exact h) HI.out (HR.out.1 h2).2.2.2.2.1⟩
    simp only [List.drop_succ_cons, List.drop_zero, List.drop_nil] at C50
    refine cut_at 26 (fun A W => ∃ r : Bool, RtA w X h 57 r A W ∧ (r = true → startP x ∧ (zb x 1 = true ∨ cov x x.er x.en) ∧ (zb x 4 = true ∨ cov x x.ar x.an) ∧ (zb x 8 = true ∨ cov x x.vr x.vn)) ∧ (r = false → ¬ rightP x)) ?_ (fun C26 => ?_)
    · intro A0 W0 HH
      simp only [List.drop_succ_cons, List.drop_zero]
      obtain ⟨r, HA, hT, hF⟩ := HH
      have h1 := HA.t1
      have h4 := HA.t4
      have S := Lib.hid HA.wk
      have hrep : Rep 107 A0 [] A0 := Rep.start HA.sz HA.df
      replace hrep := hrep.know HA.ts
      have HP := Lib.hid hT
      have HN := Lib.hid hF
      clear HA hT hF
      cases r
      case false =>
        refine abs_step (by rfl) hrep ?_
        clear hrep
        intro A1 hrep
        refine abs_step (by rfl) hrep ?_
        clear hrep
        intro A1 hrep
        refine abs_step (by rfl) hrep ?_
        clear hrep
        intro A1 hrep
        refine abs_step (by rfl) hrep ?_
        clear hrep
        intro A1 hrep
        refine abs_step (by rfl) hrep ?_
        clear hrep
        intro A1 hrep
        refine abs_step (by rfl) hrep ?_
        clear hrep
        intro A1 hrep
        refine abs_step (by rfl) hrep ?_
        clear hrep
        intro A1 hrep
        refine abs_step (by rfl) hrep ?_
        clear hrep
        intro A1 hrep
        refine abs_step (by rfl) hrep ?_
        clear hrep
        intro A1 hrep
        refine abs_step (by rfl) hrep ?_
        clear hrep
        intro A1 hrep
        refine abs_step (by rfl) hrep ?_
        clear hrep
        intro A1 hrep
        refine abs_step (by rfl) hrep ?_
        clear hrep
        intro A1 hrep
        refine abs_step (by rfl) hrep ?_
        clear hrep
        intro A1 hrep
        refine abs_step (by rfl) hrep ?_
        clear hrep
        intro A1 hrep
        refine abs_step (by rfl) hrep ?_
        clear hrep
        intro A1 hrep
        refine abs_step (by rfl) hrep ?_
        clear hrep
        intro A1 hrep
        refine abs_step (by rfl) hrep ?_
        clear hrep
        intro A1 hrep
        refine abs_step (by rfl) hrep ?_
        clear hrep
        intro A1 hrep
        refine abs_step (by rfl) hrep ?_
        clear hrep
        intro A1 hrep
        refine abs_step (by rfl) hrep ?_
        clear hrep
        intro A1 hrep
        refine abs_step (by rfl) hrep ?_
        clear hrep
        intro A1 hrep
        refine abs_step (by rfl) hrep ?_
        clear hrep
        intro A1 hrep
        refine abs_step (by rfl) hrep ?_
        clear hrep
        intro A1 hrep
        refine abs_step (by rfl) hrep ?_
        clear hrep
        intro A1 hrep
        refine abs_step (by rfl) hrep ?_
        clear hrep
        intro A1 hrep
        refine abs_step (by rfl) hrep ?_
        clear hrep
        intro A1 hrep
        refine abs_step (by rfl) hrep ?_
        clear hrep
        intro A1 hrep
        exact C53 _ _ ⟨false, ⟨hrep.sz, hrep.df, (hrep.ev 1).trans h1, (hrep.ev 4).trans h4, hrep.ev 84, S.out⟩, (fun h => by cases h), fun _ => HN.out rfl⟩
      case true =>
        refine abs_step (by rfl) hrep ?_
        clear hrep
        intro A1 hrep
        refine abs_val (.pointer (some ⟨w.heap.size, 17, none⟩)) rfl rfl rfl hrep (exec_addr 30 _ 7 rfl ((hrep.ev 1).trans h1) fa7) ?_
        clear hrep
        intro A1 hrep
        refine abs_val (.int .u32 (x.dest : Int)) rfl rfl rfl hrep (exec_load1 22 _ rfl (hrep.ev 59) (ld22 ((S.out.k.cell 17).trans X17.out))) ?_
        clear hrep
        intro A1 hrep
        by_cases g0 : 1 ≤ x.dest
        case neg =>
          refine abs_val (.bool false) rfl rfl rfl hrep (exec_bin .gtr 22 22 _ (.const (.int .u32 0)) rfl (hrep.ev 60) rfl (eqg_gt _ _ _ _ _ _ _ _) (gt_int 22 .u32 _ _ _ Tryd.underlying22 (show decide ((0 : Int) < (x.dest : Int)) = false from decide_eq_false (by omega)) _)) ?_
          clear hrep
          intro A1 hrep
          refine abs_step (by rfl) hrep ?_
          clear hrep
          intro A1 hrep
          refine abs_step (by rfl) hrep ?_
          clear hrep
          intro A1 hrep
          refine abs_step (by rfl) hrep ?_
          clear hrep
          intro A1 hrep
          refine abs_step (by rfl) hrep ?_
          clear hrep
          intro A1 hrep
          refine abs_step (by rfl) hrep ?_
          clear hrep
          intro A1 hrep
          refine abs_step (by rfl) hrep ?_
          clear hrep
          intro A1 hrep
          refine abs_step (by rfl) hrep ?_
          clear hrep
          intro A1 hrep
          refine abs_step (by rfl) hrep ?_
          clear hrep
          intro A1 hrep
          refine abs_step (by rfl) hrep ?_
          clear hrep
          intro A1 hrep
          refine abs_step (by rfl) hrep ?_
          clear hrep
          intro A1 hrep
          refine abs_step (by rfl) hrep ?_
          clear hrep
          intro A1 hrep
          refine abs_step (by rfl) hrep ?_
          clear hrep
          intro A1 hrep
          refine abs_step (by rfl) hrep ?_
          clear hrep
          intro A1 hrep
          refine abs_step (by rfl) hrep ?_
          clear hrep
          intro A1 hrep
          refine abs_step (by rfl) hrep ?_
          clear hrep
          intro A1 hrep
          refine abs_step (by rfl) hrep ?_
          clear hrep
          intro A1 hrep
          refine abs_step (by rfl) hrep ?_
          clear hrep
          intro A1 hrep
          refine abs_step (by rfl) hrep ?_
          clear hrep
          intro A1 hrep
          refine abs_step (by rfl) hrep ?_
          clear hrep
          intro A1 hrep
          refine abs_step (by rfl) hrep ?_
          clear hrep
          intro A1 hrep
          exact C50 _ _ ⟨false, ⟨hrep.sz, hrep.df, (hrep.ev 1).trans h1, (hrep.ev 4).trans h4, hrep.ev 57, S.out⟩, (hrep.ev 58).trans h4, hrep.ev 81, ⟨(fun h => by cases h), fun h => absurd h.1 g0⟩, HP.out rfl⟩
        refine abs_val (.bool true) rfl rfl rfl hrep (exec_bin .gtr 22 22 _ (.const (.int .u32 0)) rfl (hrep.ev 60) rfl (eqg_gt _ _ _ _ _ _ _ _) (gt_int 22 .u32 _ _ _ Tryd.underlying22 (show decide ((0 : Int) < (x.dest : Int)) = true from decide_eq_true (by omega)) _)) ?_
        clear hrep
        intro A1 hrep
        refine abs_step (by rfl) hrep ?_
        clear hrep
        intro A1 hrep
        refine abs_val (.pointer (some ⟨w.heap.size, 18, none⟩)) rfl rfl rfl hrep (exec_addr 30 _ 8 rfl ((hrep.ev 1).trans h1) fa8) ?_
        clear hrep
        intro A1 hrep
        refine abs_val (.int .u8 (x.roles : Int)) rfl rfl rfl hrep (exec_load1 5 _ rfl (hrep.ev 63) (ld5 ((S.out.k.cell 18).trans X18.out))) ?_
        clear hrep
        intro A1 hrep
        by_cases g1 : 1 ≤ x.roles
        case neg =>
          refine abs_val (.bool false) rfl rfl rfl hrep (exec_bin .gtr 5 5 _ (.const (.int .u8 0)) rfl (hrep.ev 64) rfl (eqg_gt _ _ _ _ _ _ _ _) (gt_int 5 .u8 _ _ _ Tryd.underlying5 (show decide ((0 : Int) < (x.roles : Int)) = false from decide_eq_false (by omega)) _)) ?_
          clear hrep
          intro A1 hrep
          refine abs_step (by rfl) hrep ?_
          clear hrep
          intro A1 hrep
          refine abs_step (by rfl) hrep ?_
          clear hrep
          intro A1 hrep
          refine abs_step (by rfl) hrep ?_
          clear hrep
          intro A1 hrep
          refine abs_step (by rfl) hrep ?_
          clear hrep
          intro A1 hrep
          refine abs_step (by rfl) hrep ?_
          clear hrep
          intro A1 hrep
          refine abs_step (by rfl) hrep ?_
          clear hrep
          intro A1 hrep
          refine abs_step (by rfl) hrep ?_
          clear hrep
          intro A1 hrep
          refine abs_step (by rfl) hrep ?_
          clear hrep
          intro A1 hrep
          refine abs_step (by rfl) hrep ?_
          clear hrep
          intro A1 hrep
          refine abs_step (by rfl) hrep ?_
          clear hrep
          intro A1 hrep
          refine abs_step (by rfl) hrep ?_
          clear hrep
          intro A1 hrep
          refine abs_step (by rfl) hrep ?_
          clear hrep
          intro A1 hrep
          refine abs_step (by rfl) hrep ?_
          clear hrep
          intro A1 hrep
          refine abs_step (by rfl) hrep ?_
          clear hrep
          intro A1 hrep
          refine abs_step (by rfl) hrep ?_
          clear hrep
          intro A1 hrep
          refine abs_step (by rfl) hrep ?_
          clear hrep
          intro A1 hrep
          exact C50 _ _ ⟨false, ⟨hrep.sz, hrep.df, (hrep.ev 1).trans h1, (hrep.ev 4).trans h4, hrep.ev 57, S.out⟩, (hrep.ev 58).trans h4, hrep.ev 81, ⟨(fun h => by cases h), fun h => absurd h.2.1 g1⟩, HP.out rfl⟩
        refine abs_val (.bool true) rfl rfl rfl hrep (exec_bin .gtr 5 5 _ (.const (.int .u8 0)) rfl (hrep.ev 64) rfl (eqg_gt _ _ _ _ _ _ _ _) (gt_int 5 .u8 _ _ _ Tryd.underlying5 (show decide ((0 : Int) < (x.roles : Int)) = true from decide_eq_true (by omega)) _)) ?_
        clear hrep
        intro A1 hrep
        refine abs_step (by rfl) hrep ?_
        clear hrep
        intro A1 hrep
        refine abs_step (by rfl) hrep ?_
        clear hrep
        intro A1 hrep
        refine abs_val (.pointer (some ⟨w.heap.size, 18, none⟩)) rfl rfl rfl hrep (exec_addr 30 _ 8 rfl ((hrep.ev 1).trans h1) fa8) ?_
        clear hrep
        intro A1 hrep
        refine abs_val (.int .u8 (x.roles : Int)) rfl rfl rfl hrep (exec_load1 5 _ rfl (hrep.ev 68) (ld5 ((S.out.k.cell 18).trans X18.out))) ?_
        clear hrep
        intro A1 hrep
        by_cases g2 : x.roles ≤ 7
        case neg =>
          refine abs_val (.bool false) rfl rfl rfl hrep (exec_bin .leq 5 5 _ (.const (.int .u8 7)) rfl (hrep.ev 69) rfl (eqg_gt _ _ _ _ _ _ _ _) (le_int 5 .u8 _ _ _ Tryd.underlying5 (show decide ((x.roles : Int) ≤ (7 : Int)) = false from decide_eq_false (by omega)) _)) ?_
          clear hrep
          intro A1 hrep
          refine abs_step (by rfl) hrep ?_
          clear hrep
          intro A1 hrep
          refine abs_step (by rfl) hrep ?_
          clear hrep
          intro A1 hrep
          refine abs_step (by rfl) hrep ?_
          clear hrep
          intro A1 hrep
          refine abs_step (by rfl) hrep ?_
          clear hrep
          intro A1 hrep
          refine abs_step (by rfl) hrep ?_
          clear hrep
          intro A1 hrep
          refine abs_step (by rfl) hrep ?_
          clear hrep
          intro A1 hrep
          refine abs_step (by rfl) hrep ?_
          clear hrep
          intro A1 hrep
          refine abs_step (by rfl) hrep ?_
          clear hrep
          intro A1 hrep
          refine abs_step (by rfl) hrep ?_
          clear hrep
          intro A1 hrep
          refine abs_step (by rfl) hrep ?_
          clear hrep
          intro A1 hrep
          refine abs_step (by rfl) hrep ?_
          clear hrep
          intro A1 hrep
          exact C50 _ _ ⟨false, ⟨hrep.sz, hrep.df, (hrep.ev 1).trans h1, (hrep.ev 4).trans h4, hrep.ev 57, S.out⟩, (hrep.ev 58).trans h4, hrep.ev 81, ⟨(fun h => by cases h), fun h => absurd h.2.2.1 g2⟩, HP.out rfl⟩
        refine abs_val (.bool true) rfl rfl rfl hrep (exec_bin .leq 5 5 _ (.const (.int .u8 7)) rfl (hrep.ev 69) rfl (eqg_gt _ _ _ _ _ _ _ _) (le_int 5 .u8 _ _ _ Tryd.underlying5 (show decide ((x.roles : Int) ≤ (7 : Int)) = true from decide_eq_true (by omega)) _)) ?_
        clear hrep
        intro A1 hrep
        refine abs_step (by rfl) hrep ?_
        clear hrep
        intro A1 hrep
        refine abs_step (by rfl) hrep ?_
        clear hrep
        intro A1 hrep
        refine abs_val (.pointer (some ⟨w.heap.size, 19, none⟩)) rfl rfl rfl hrep (exec_addr 30 _ 9 rfl ((hrep.ev 1).trans h1) fa9) ?_
        clear hrep
        intro A1 hrep
        refine abs_val (.int .u8 (x.depth : Int)) rfl rfl rfl hrep (exec_load1 5 _ rfl (hrep.ev 73) (ld5 ((S.out.k.cell 19).trans X19.out))) ?_
        clear hrep
        intro A1 hrep
        by_cases g3 : x.depth ≤ 7
        case neg =>
          refine abs_val (.bool false) rfl rfl rfl hrep (exec_bin .lss 5 5 _ (.const (.int .u8 8)) rfl (hrep.ev 74) rfl (eqg_gt _ _ _ _ _ _ _ _) (lt_int 5 .u8 _ _ _ Tryd.underlying5 (show decide ((x.depth : Int) < (8 : Int)) = false from decide_eq_false (by omega)) _)) ?_
          clear hrep
          intro A1 hrep
          refine abs_step (by rfl) hrep ?_
          clear hrep
          intro A1 hrep
          refine abs_step (by rfl) hrep ?_
          clear hrep
          intro A1 hrep
          refine abs_step (by rfl) hrep ?_
          clear hrep
          intro A1 hrep
          refine abs_step (by rfl) hrep ?_
          clear hrep
          intro A1 hrep
          refine abs_step (by rfl) hrep ?_
          clear hrep
          intro A1 hrep
          refine abs_step (by rfl) hrep ?_
          clear hrep
          intro A1 hrep
          exact C50 _ _ ⟨false, ⟨hrep.sz, hrep.df, (hrep.ev 1).trans h1, (hrep.ev 4).trans h4, hrep.ev 57, S.out⟩, (hrep.ev 58).trans h4, hrep.ev 81, ⟨(fun h => by cases h), fun h => absurd h.2.2.2.1 g3⟩, HP.out rfl⟩
        refine abs_val (.bool true) rfl rfl rfl hrep (exec_bin .lss 5 5 _ (.const (.int .u8 8)) rfl (hrep.ev 74) rfl (eqg_gt _ _ _ _ _ _ _ _) (lt_int 5 .u8 _ _ _ Tryd.underlying5 (show decide ((x.depth : Int) < (8 : Int)) = true from decide_eq_true (by omega)) _)) ?_
        clear hrep
        intro A1 hrep
        refine abs_step (by rfl) hrep ?_
        clear hrep
        intro A1 hrep
        refine abs_step (by rfl) hrep ?_
        clear hrep
        intro A1 hrep
        refine abs_val (.pointer (some ⟨w.heap.size, 20, none⟩)) rfl rfl rfl hrep (exec_addr 30 _ 10 rfl ((hrep.ev 1).trans h1) fa10) ?_
        clear hrep
        intro A1 hrep
        refine abs_val (.int .u64 (x.cap : Int)) rfl rfl rfl hrep (exec_load1 27 _ rfl (hrep.ev 78) (ld80 ((S.out.k.cell 20).trans X20.out))) ?_
        clear hrep
        intro A1 hrep
        by_cases g4 : x.cap ≤ 1099511627776
        case neg =>
          refine abs_val (.bool false) rfl rfl rfl hrep (exec_bin .leq 27 27 _ (.const (.int .u64 1099511627776)) rfl (hrep.ev 79) rfl (eqg_gt _ _ _ _ _ _ _ _) (le_int 27 .u64 _ _ _ Tryd.underlying27 (show decide ((x.cap : Int) ≤ (1099511627776 : Int)) = false from decide_eq_false (by omega)) _)) ?_
          clear hrep
          intro A1 hrep
          refine abs_step (by rfl) hrep ?_
          clear hrep
          intro A1 hrep
          exact C50 _ _ ⟨false, ⟨hrep.sz, hrep.df, (hrep.ev 1).trans h1, (hrep.ev 4).trans h4, hrep.ev 57, S.out⟩, (hrep.ev 58).trans h4, hrep.ev 81, ⟨(fun h => by cases h), fun h => absurd h.2.2.2.2 g4⟩, HP.out rfl⟩
        refine abs_val (.bool true) rfl rfl rfl hrep (exec_bin .leq 27 27 _ (.const (.int .u64 1099511627776)) rfl (hrep.ev 79) rfl (eqg_gt _ _ _ _ _ _ _ _) (le_int 27 .u64 _ _ _ Tryd.underlying27 (show decide ((x.cap : Int) ≤ (1099511627776 : Int)) = true from decide_eq_true (by omega)) _)) ?_
        clear hrep
        intro A1 hrep
        refine abs_step (by rfl) hrep ?_
        clear hrep
        intro A1 hrep
        exact C50 _ _ ⟨true, ⟨hrep.sz, hrep.df, (hrep.ev 1).trans h1, (hrep.ev 4).trans h4, hrep.ev 57, S.out⟩, (hrep.ev 58).trans h4, hrep.ev 81, ⟨fun _ => ⟨g0, g1, g2, g3, g4⟩, fun _ => rfl⟩, HP.out rfl⟩
    simp only [List.drop_succ_cons, List.drop_zero, List.drop_nil] at C26
    refine cut_at 18 (fun A W => ∃ r : Bool, RtA w X h 49 r A W ∧ (r = true → startP x ∧ (zb x 1 = true ∨ cov x x.er x.en) ∧ (zb x 4 = true ∨ cov x x.ar x.an)) ∧ (r = false → ¬ rightP x)) ?_ (fun C18 => ?_)
    · intro A0 W0 HH
      simp only [List.drop_succ_cons, List.drop_zero]
      obtain ⟨r, HA, hT, hF⟩ := HH
      have h1 := HA.t1
      have h4 := HA.t4
      have S := Lib.hid HA.wk
      have hrep : Rep 107 A0 [] A0 := Rep.start HA.sz HA.df
      replace hrep := hrep.know HA.ts
      have HP := Lib.hid hT
      have HN := Lib.hid hF
      clear HA hT hF
      cases r
      case false =>
        refine abs_step (by rfl) hrep ?_
        clear hrep
        intro A1 hrep
        refine abs_step (by rfl) hrep ?_
        clear hrep
        intro A1 hrep
        refine abs_step (by rfl) hrep ?_
        clear hrep
        intro A1 hrep
        refine abs_step (by rfl) hrep ?_
        clear hrep
        intro A1 hrep
        refine abs_step (by rfl) hrep ?_
        clear hrep
        intro A1 hrep
        refine abs_step (by rfl) hrep ?_
        clear hrep
        intro A1 hrep
        refine abs_step (by rfl) hrep ?_
        clear hrep
        intro A1 hrep
        refine abs_step (by rfl) hrep ?_
        clear hrep
        intro A1 hrep
        exact C26 _ _ ⟨false, ⟨hrep.sz, hrep.df, (hrep.ev 1).trans h1, (hrep.ev 4).trans h4, hrep.ev 57, S.out⟩, (fun h => by cases h), fun _ => HN.out rfl⟩
      case true =>
        refine abs_step (by rfl) hrep ?_
        clear hrep
        intro A1 hrep
        refine abs_val (.agg X) rfl rfl rfl hrep (exec_load1 30 _ rfl ((hrep.ev 1).trans h1) (ld122 S.out.k HSX.out)) ?_
        clear hrep
        intro A1 hrep
        refine abs_val (.pointer (some ⟨w.heap.size, 23, none⟩)) rfl rfl rfl hrep (exec_addr 30 _ 12 rfl ((hrep.ev 1).trans h1) fa12) ?_
        clear hrep
        intro A1 hrep
        refine abs_val (.agg #[.int .u8 (x.vr : Int), .int .u32 (x.vn : Int)]) rfl rfl rfl hrep (exec_load1 24 _ rfl (hrep.ev 52) (ld82 (o := 23) ((S.out.k.cell 23).trans X23.out) ((S.out.k.cell 24).trans X24.out))) ?_
        clear hrep
        intro A1 hrep
        refine abs_call rfl rfl rfl hrep (exec_call0 rfl rfl (map2 (hrep.ev 51) (hrep.ev 53)) en9) ?_
        refine (CV.out _ x.vr x.vn HBD.out.2.2.2.2.2.2.1 HBD.out.2.2.2.2.2.2.2).mono ?_
        rintro _ wn ⟨rfl, hb⟩
        have S := Lib.hid (S.out.below hb)
        clear hb
        refine ⟨_, rfl, ?_⟩
        clear hrep
        intro A1 hrep
        obtain ⟨r1, hr1⟩ : ∃ r, (zb x 8 || decide (cov x x.vr x.vn)) = r := ⟨_, rfl⟩
        refine abs_call rfl rfl rfl hrep (exec_call rfl ((hrep.ev 50).trans h4) (map2 rfl (hrep.ev 54)) en46) ?_
        refine (RZ.out _ _ 8 _ r1 S.out.kh hr1).mono ?_
        rintro _ wn ⟨rfl, hb⟩
        have S := Lib.hid (S.out.below hb)
        clear hb
        refine ⟨_, rfl, ?_⟩
        clear hrep
        intro A1 hrep
        refine abs_step (by rfl) hrep ?_
        clear hrep
        intro A1 hrep
        refine abs_step (by rfl) hrep ?_
        clear hrep
        intro A1 hrep
        exact C26 _ _ ⟨r1, ⟨hrep.sz, hrep.df, (hrep.ev 1).trans h1, (hrep.ev 4).trans h4, hrep.ev 57, S.out⟩, fun h => ⟨(HP.out rfl).1, (HP.out rfl).2.1, (HP.out rfl).2.2, or_yes (by rw [hr1]; exact h)⟩, fun h h2 => or_no (by rw [hr1]; exact h) (HR.out.1 h2).2.2.2.1⟩
    simp only [List.drop_succ_cons, List.drop_zero, List.drop_nil] at C18
    refine cut_at 10 (fun A W => ∃ r : Bool, RtA w X h 41 r A W ∧ (r = true → startP x ∧ (zb x 1 = true ∨ cov x x.er x.en)) ∧ (r = false → ¬ rightP x)) ?_ (fun C10 => ?_)
    · intro A0 W0 HH
      simp only [List.drop_succ_cons, List.drop_zero]
      obtain ⟨r, HA, hT, hF⟩ := HH
      have h1 := HA.t1
      have h4 := HA.t4
      have S := Lib.hid HA.wk
      have hrep : Rep 107 A0 [] A0 := Rep.start HA.sz HA.df
      replace hrep := hrep.know HA.ts
      have HP := Lib.hid hT
      have HN := Lib.hid hF
      clear HA hT hF
      cases r
      case false =>
        refine abs_step (by rfl) hrep ?_
        clear hrep
        intro A1 hrep
        refine abs_step (by rfl) hrep ?_
        clear hrep
        intro A1 hrep
        refine abs_step (by rfl) hrep ?_
        clear hrep
        intro A1 hrep
        refine abs_step (by rfl) hrep ?_
        clear hrep
        intro A1 hrep
        refine abs_step (by rfl) hrep ?_
        clear hrep
        intro A1 hrep
        refine abs_step (by rfl) hrep ?_
        clear hrep
        intro A1 hrep
        refine abs_step (by rfl) hrep ?_
        clear hrep
        intro A1 hrep
        refine abs_step (by rfl) hrep ?_
        clear hrep
        intro A1 hrep
        exact C18 _ _ ⟨false, ⟨hrep.sz, hrep.df, (hrep.ev 1).trans h1, (hrep.ev 4).trans h4, hrep.ev 49, S.out⟩, (fun h => by cases h), fun _ => HN.out rfl⟩
      case true =>
        refine abs_step (by rfl) hrep ?_
        clear hrep
        intro A1 hrep
        refine abs_val (.agg X) rfl rfl rfl hrep (exec_load1 30 _ rfl ((hrep.ev 1).trans h1) (ld122 S.out.k HSX.out)) ?_
        clear hrep
        intro A1 hrep
        refine abs_val (.pointer (some ⟨w.heap.size, 21, none⟩)) rfl rfl rfl hrep (exec_addr 30 _ 11 rfl ((hrep.ev 1).trans h1) fa11) ?_
        clear hrep
        intro A1 hrep
        refine abs_val (.agg #[.int .u8 (x.ar : Int), .int .u32 (x.an : Int)]) rfl rfl rfl hrep (exec_load1 24 _ rfl (hrep.ev 44) (ld82 (o := 21) ((S.out.k.cell 21).trans X21.out) ((S.out.k.cell 22).trans X22.out))) ?_
        clear hrep
        intro A1 hrep
        refine abs_call rfl rfl rfl hrep (exec_call0 rfl rfl (map2 (hrep.ev 43) (hrep.ev 45)) en9) ?_
        refine (CV.out _ x.ar x.an HBD.out.2.2.2.2.1 HBD.out.2.2.2.2.2.1).mono ?_
        rintro _ wn ⟨rfl, hb⟩
        have S := Lib.hid (S.out.below hb)
        clear hb
        refine ⟨_, rfl, ?_⟩
        clear hrep
        intro A1 hrep
        obtain ⟨r1, hr1⟩ : ∃ r, (zb x 4 || decide (cov x x.ar x.an)) = r := ⟨_, rfl⟩
        refine abs_call rfl rfl rfl hrep (exec_call rfl ((hrep.ev 42).trans h4) (map2 rfl (hrep.ev 46)) en46) ?_
        refine (RZ.out _ _ 4 _ r1 S.out.kh hr1).mono ?_
        rintro _ wn ⟨rfl, hb⟩
        have S := Lib.hid (S.out.below hb)
        clear hb
        refine ⟨_, rfl, ?_⟩
        clear hrep
        intro A1 hrep
        refine abs_step (by rfl) hrep ?_
        clear hrep
        intro A1 hrep
        refine abs_step (by rfl) hrep ?_
        clear hrep
        intro A1 hrep
        exact C18 _ _ ⟨r1, ⟨hrep.sz, hrep.df, (hrep.ev 1).trans h1, (hrep.ev 4).trans h4, hrep.ev 49, S.out⟩, fun h => ⟨(HP.out rfl).1, (HP.out rfl).2, or_yes (by rw [hr1]; exact h)⟩, fun h h2 => or_no (by rw [hr1]; exact h) (HR.out.1 h2).2.2.1⟩
    simp only [List.drop_succ_cons, List.drop_zero, List.drop_nil] at C10
    have h1 := HA.out.t1
    have h4 := HA.out.t4
    have S := Lib.hid HA.out.wk
    have hrep : Rep 107 A [] A := Rep.start HA.out.sz HA.out.df
    replace hrep := hrep.know HA.out.ts
    have HP := HT
    have HN := HF
    clear HA
    refine abs_step (by rfl) hrep ?_
    clear hrep
    intro A1 hrep
    refine abs_step (by rfl) hrep ?_
    clear hrep
    intro A1 hrep
    cases r0
    case false =>
      refine abs_step (by rfl) hrep ?_
      clear hrep
      intro A1 hrep
      refine abs_step (by rfl) hrep ?_
      clear hrep
      intro A1 hrep
      refine abs_step (by rfl) hrep ?_
      clear hrep
      intro A1 hrep
      refine abs_step (by rfl) hrep ?_
      clear hrep
      intro A1 hrep
      refine abs_step (by rfl) hrep ?_
      clear hrep
      intro A1 hrep
      refine abs_step (by rfl) hrep ?_
      clear hrep
      intro A1 hrep
      refine abs_step (by rfl) hrep ?_
      clear hrep
      intro A1 hrep
      refine abs_step (by rfl) hrep ?_
      clear hrep
      intro A1 hrep
      exact C10 _ _ ⟨false, ⟨hrep.sz, hrep.df, (hrep.ev 1).trans h1, (hrep.ev 4).trans h4, hrep.ev 41, S.out⟩, (fun h => by cases h), fun _ => HN.out rfl⟩
    case true =>
      refine abs_step (by rfl) hrep ?_
      clear hrep
      intro A1 hrep
      refine abs_val (.agg X) rfl rfl rfl hrep (exec_load1 30 _ rfl ((hrep.ev 1).trans h1) (ld122 S.out.k HSX.out)) ?_
      clear hrep
      intro A1 hrep
      refine abs_val (.pointer (some ⟨w.heap.size, 15, none⟩)) rfl rfl rfl hrep (exec_addr 30 _ 6 rfl ((hrep.ev 1).trans h1) fa6) ?_
      clear hrep
      intro A1 hrep
      refine abs_val (.agg #[.int .u8 (x.er : Int), .int .u32 (x.en : Int)]) rfl rfl rfl hrep (exec_load1 24 _ rfl (hrep.ev 36) (ld82 (o := 15) ((S.out.k.cell 15).trans X15.out) ((S.out.k.cell 16).trans X16.out))) ?_
      clear hrep
      intro A1 hrep
      refine abs_call rfl rfl rfl hrep (exec_call0 rfl rfl (map2 (hrep.ev 35) (hrep.ev 37)) en9) ?_
      refine (CV.out _ x.er x.en HBD.out.2.2.1 HBD.out.2.2.2.1).mono ?_
      rintro _ wn ⟨rfl, hb⟩
      have S := Lib.hid (S.out.below hb)
      clear hb
      refine ⟨_, rfl, ?_⟩
      clear hrep
      intro A1 hrep
      obtain ⟨r1, hr1⟩ : ∃ r, (zb x 1 || decide (cov x x.er x.en)) = r := ⟨_, rfl⟩
      refine abs_call rfl rfl rfl hrep (exec_call rfl ((hrep.ev 34).trans h4) (map2 rfl (hrep.ev 38)) en46) ?_
      refine (RZ.out _ _ 1 _ r1 S.out.kh hr1).mono ?_
      rintro _ wn ⟨rfl, hb⟩
      have S := Lib.hid (S.out.below hb)
      clear hb
      refine ⟨_, rfl, ?_⟩
      clear hrep
      intro A1 hrep
      refine abs_step (by rfl) hrep ?_
      clear hrep
      intro A1 hrep
      refine abs_step (by rfl) hrep ?_
      clear hrep
      intro A1 hrep
      exact C10 _ _ ⟨r1, ⟨hrep.sz, hrep.df, (hrep.ev 1).trans h1, (hrep.ev 4).trans h4, hrep.ev 41, S.out⟩, fun h => ⟨HP.out rfl, or_yes (by rw [hr1]; exact h)⟩, fun h h2 => or_no (by rw [hr1]; exact h) (HR.out.1 h2).2.1⟩
end Go.Proofs.YtfojjklohbiffaaDoor
