/- Operations' forms: is what a kind does not have zero?: the walk of the document's zero. -/
import Derived.Test.YtfojjklohbiffaaDoorChD
import Derived.Test.YtfojjklohbiffaaDoorSameD
import Derived.Test.YtfojjklohbiffaaDoorAbs
namespace Go.Proofs.YtfojjklohbiffaaDoor
open Go.RowKit Tran Tran.Wire
set_option linter.unusedVariables false
set_option linter.unusedSimpArgs false
theorem lit82 {g : Nat} {a b : Value} {W : World} (k : Blk W g 24 #[a, b]) : (loadVar 24 ⟨g, 0, none⟩).run Tryd.prog W = .ok (.agg #[a, b]) W := ld82 (o := 0) (k.cell 0) (k.cell 1)
theorem dot_built : Tryd.prog.built 24 [] = some #[.int .u8 0, .int .u32 0] := by kernel_rfl
theorem dot_zero : ((Tryd.prog.info? 24).bind (·.zero)) = some (.agg #[.int .u8 0, .int .u32 0]) := by kernel_rfl
theorem en23 (args : Array Value) (W : World) : (callFunc 23 args).run Tryd.prog W = .ok (.enter 23 args) W := enters_of Tryd.func23 (by kernel_rfl) rfl args W
theorem exec_len28 {o : Oper} {a : Act} {w : World} {x : Operand} (ho : o.op = .call { callee := .builtin .len, args := #[x], argTypes := #[28] }) {A : Option Addr} {n c : Nat} (hx : a.eval x = .slice A n c) : (execOp a.eval o).run Tryd.prog w = .ok (.value (.int .i64 (n : Int))) w := by
  have hl : (Builtin.len_ #[28] o.type #[.slice A n c]).run Tryd.prog w = .ok (.int .i64 (n : Int)) w := by go_simp
  simp [execOp, ho, resolve, invoke, builtin, hx, hl, Result.andThen]
theorem eqg_int (t t2 : TypeId) (x y : Operand) (k : IntKind) (a b : Int) (w : World) : (eqGuard .eql t x y (.int k a) (.int k b)).run Tryd.prog w = .ok () w := by
  unfold eqGuard
  go_simp
theorem eq_u32 (a b : Int) (r : Bool) (h : (a == b) = r) (w : World) : (binOp .eql 22 (.int .u32 a) (.int .u32 b)).run Tryd.prog w = .ok (.bool r) w := by
  subst h
  go_simp
theorem eq_u8 (a b : Int) (r : Bool) (h : (a == b) = r) (w : World) : (binOp .eql 5 (.int .u8 a) (.int .u8 b)).run Tryd.prog w = .ok (.bool r) w := by
  subst h
  go_simp
theorem eq_u64 (a b : Int) (r : Bool) (h : (a == b) = r) (w : World) : (binOp .eql 27 (.int .u64 a) (.int .u64 b)).run Tryd.prog w = .ok (.bool r) w := by
  subst h
  go_simp
theorem eq_i64 (a b : Int) (r : Bool) (h : (a == b) = r) (w : World) : (binOp .eql 3 (.int .i64 a) (.int .i64 b)).run Tryd.prog w = .ok (.bool r) w := by
  subst h
  go_simp
theorem bare_iff (x : NOp) : bareN x = x ↔ ((hasF x.kind).contains 99 = false → x.er = 0 ∧ x.en = 0) ∧ ((hasF x.kind).contains 116 = false → x.dest = 0 ∧ x.roles = 0 ∧ x.depth = 0 ∧ x.cap = 0) ∧ ((hasF x.kind).contains 97 = false → x.ar = 0 ∧ x.an = 0) ∧
    ((hasF x.kind).contains 118 = false → x.vr = 0 ∧ x.vn = 0) ∧ ((hasF x.kind).contains 105 = false → x.item = 0) ∧ ((hasF x.kind).contains 113 = false → x.qty = 0) ∧ ((hasF x.kind).contains 101 = false → x.price = 0) ∧ ((hasF x.kind).contains 108 = false → x.lines = []) := by
  obtain ⟨dr, dn, dep, time, who, cr, cn, kind, er, en, to_, roles, depth, cap, ar, an, vr, vn, item, qty, price, lines⟩ := x
  simp only [bareN, NOp.mk.injEq, true_and]
  generalize (hasF kind).contains 99 = b1
  generalize (hasF kind).contains 116 = b2
  generalize (hasF kind).contains 97 = b3
  generalize (hasF kind).contains 118 = b4
  generalize (hasF kind).contains 105 = b5
  generalize (hasF kind).contains 113 = b6
  generalize (hasF kind).contains 101 = b7
  generalize (hasF kind).contains 108 = b8
  have E : ∀ (b : Bool) (n : Nat), ((if b = true then n else 0) = n) ↔ (b = false → n = 0) := fun b n => by cases b <;> simp [eq_comm]
  have L : ∀ (b : Bool) (n : List NClaim), ((if b = true then n else []) = n) ↔ (b = false → n = []) := fun b n => by cases b <;> simp [eq_comm]
  simp only [E, L]
  constructor
  · rintro ⟨h1, h2, h3, h4, h5, h6, h7, h8, h9, h10, h11, h12, h13, h14⟩
    exact ⟨fun e => ⟨h1 e, h2 e⟩, fun e => ⟨h3 e, h4 e, h5 e, h6 e⟩, fun e => ⟨h7 e, h8 e⟩, fun e => ⟨h9 e, h10 e⟩, h11, h12, h13, h14⟩
  · rintro ⟨h1, h2, h3, h4, h5, h6, h7, h8⟩
    exact ⟨fun e => (h1 e).1, fun e => (h1 e).2, fun e => (h2 e).1, fun e => (h2 e).2.1, fun e => (h2 e).2.2.1, fun e => (h2 e).2.2.2, fun e => (h3 e).1, fun e => (h3 e).2, fun e => (h4 e).1, fun e => (h4 e).2, h5, h6, h7, h8⟩
/-- the worlds within zero -/
structure ZrW (w0 : World) (X : Array Value) (gz : Nat) (W : World) : Prop where
  k : Blk W w0.heap.size 30 X
  z : Blk W gz 24 #[.int .u8 0, .int .u32 0]
  b : Below w0.heap.size w0 W
theorem ZrW.below {w0 W W' : World} {X : Array Value} {gz : Nat} (h : ZrW w0 X gz W) (hb : Below W.heap.size W W') : ZrW w0 X gz W' := ⟨h.k.below hb h.k.lt, h.z.below hb h.z.lt, h.b.trans (hb.mono h.b.size)⟩
set_option maxRecDepth 100000 in
set_option maxHeartbeats 16000000 in
theorem zero_0 (w : World) (x : NOp) (A : Option Addr) (cap : Nat) (hx : x.ok) (hk : x.kind = 0) : Calls Tryd.prog 21 #[.agg (opA x (.slice A x.lines.length cap))] w (Tells w (bareN x = x)) := by
  have HZ : Hid (bareN x = x ↔ (x.er = 0 ∧ x.en = 0) ∧ x.dest = 0 ∧ x.roles = 0 ∧ x.depth = 0 ∧ x.cap = 0 ∧ (x.ar = 0 ∧ x.an = 0) ∧ (x.vr = 0 ∧ x.vn = 0) ∧ x.item = 0 ∧ x.qty = 0 ∧ x.price = 0 ∧ x.lines = []) := Lib.hid (by
    rw [bare_iff, hk]
    exact ⟨fun h => ⟨h.1 rfl, (h.2.1 rfl).1, (h.2.1 rfl).2.1, (h.2.1 rfl).2.2.1, (h.2.1 rfl).2.2.2, h.2.2.1 rfl, h.2.2.2.1 rfl, h.2.2.2.2.1 rfl, h.2.2.2.2.2.1 rfl, h.2.2.2.2.2.2.1 rfl, h.2.2.2.2.2.2.2 rfl⟩, fun h => ⟨fun _ => h.1, fun _ => ⟨h.2.1, h.2.2.1, h.2.2.2.1, h.2.2.2.2.1⟩, fun _ => h.2.2.2.2.2.1, fun _ => h.2.2.2.2.2.2.1, fun _ => h.2.2.2.2.2.2.2.1, fun _ => h.2.2.2.2.2.2.2.2.1, fun _ => h.2.2.2.2.2.2.2.2.2.1, fun _ => h.2.2.2.2.2.2.2.2.2.2⟩⟩)
  have k0 := Blk.new w 30 (opA x (.slice A x.lines.length cap))
  have hb := (Below.refl w.heap.size w).alloc (Nat.le_refl _) (.cells (opA x (.slice A x.lines.length cap)) 30)
  have c14 := (k0.cell 14).trans (op_c14 x _ hx.dep8)
  rw [hk] at c14
  have X15 := Lib.hid (op_c15 x (.slice A x.lines.length cap) hx.dep8)
  have X16 := Lib.hid (op_c16 x (.slice A x.lines.length cap) hx.dep8)
  have Qc := Lib.hid (fun r hr W => eql_dot x.er x.en 0 0 hx.er hx.en (by omega) (by omega) r hr W)
  have X17 := Lib.hid (op_c17 x (.slice A x.lines.length cap) hx.dep8)
  have X18 := Lib.hid (op_c18 x (.slice A x.lines.length cap) hx.dep8)
  have X19 := Lib.hid (op_c19 x (.slice A x.lines.length cap) hx.dep8)
  have X20 := Lib.hid (op_c20 x (.slice A x.lines.length cap) hx.dep8)
  have X21 := Lib.hid (op_c21 x (.slice A x.lines.length cap) hx.dep8)
  have X22 := Lib.hid (op_c22 x (.slice A x.lines.length cap) hx.dep8)
  have Qa := Lib.hid (fun r hr W => eql_dot x.ar x.an 0 0 hx.ar hx.an (by omega) (by omega) r hr W)
  have X23 := Lib.hid (op_c23 x (.slice A x.lines.length cap) hx.dep8)
  have X24 := Lib.hid (op_c24 x (.slice A x.lines.length cap) hx.dep8)
  have Qv := Lib.hid (fun r hr W => eql_dot x.vr x.vn 0 0 hx.vr hx.vn (by omega) (by omega) r hr W)
  have X25 := Lib.hid (op_c25 x (.slice A x.lines.length cap) hx.dep8)
  have X26 := Lib.hid (op_c26 x (.slice A x.lines.length cap) hx.dep8)
  have X27 := Lib.hid (op_c27 x (.slice A x.lines.length cap) hx.dep8)
  have X28 := Lib.hid (op_c28 x (.slice A x.lines.length cap) hx.dep8)
  have HA := Lib.hid (has_any (w.alloc (.cells (opA x (.slice A x.lines.length cap)) 30)) 0 (by omega))
  have K0 := Lib.hid k0
  have HB := Lib.hid hb
  have NO : Hid (∀ (e : Ending) (w' : World), ¬ bareN x = x → e = .returned (.bool false) → Below w.heap.size w w' → Tells w (bareN x = x) e w') := Lib.hid (fun e w' h1 h2 h3 => ⟨false, h2, by simp [h1], h3⟩)
  generalize hX : opA x (.slice A x.lines.length cap) = X at *
  have HLN : Hid (x.lines = [] ↔ x.lines.length = 0) := Lib.hid List.length_eq_zero_iff.symm
  clear hX k0 hb hx hk
  go_enter Tryd.func21, Tryd.ntmps21
  go_wp2_with fail
  refine HA.out.mono ?_
  rintro e w1 ⟨rfl, h1⟩
  have K1 := Lib.hid (K0.out.below h1 K0.out.lt)
  have B1 := Lib.hid (HB.out.trans (h1.mono HB.out.size))
  obtain ⟨t1, t3, tb⟩ := one_set w1 #[.int .u8 0, .int .u32 0] #[.int .u8 0, .int .u32 0] 24
  have T1 := Lib.hid t1
  have S : Hid (ZrW w X w1.heap.size _) := Lib.hid ⟨K1.out.below tb K1.out.lt, t3, B1.out.trans (tb.mono B1.out.size)⟩
  clear h1 c14 t1 t3 tb K0 HB K1 B1 HA
  rw [show hasF 0 = [] from rfl]
  go_upto_region 3 with (refine wpList_store_row rfl 24 _ _ rfl w1.heap.size #[.int .u8 0, .int .u32 0] rfl rfl 24 _ T1.out zdot_size rfl zdot_one ?_)
  refine lst_begin ?_
  intro A0 hA
  have h1 : A0.eval (.tmp 1) = .pointer (some ⟨w.heap.size, 0, none⟩) := by rw [hA]; rfl
  have h3 : A0.eval (.tmp 3) = .string ⟨([] : List UInt8).toArray⟩ := by rw [hA]; rfl
  have h4 : A0.eval (.tmp 4) = .pointer (some ⟨w1.heap.size, 0, none⟩) := by rw [hA]; rfl
  have hrep : Rep 110 A0 [] A0 := Rep.start (by rw [hA] <;> rfl) (by rw [hA] <;> rfl)
  clear hA
  generalize ((w1.alloc (.cells #[Value.int .u8 0, .int .u32 0] 24)).setRow w1.heap.size #[.int .u8 0, .int .u32 0]) = wc at *
  generalize w1.heap.size = gz at *
  clear T1
  repeat (refine abs_step (by rfl) hrep ?_; clear hrep; intro A1 hrep)
  refine abs_call rfl rfl rfl hrep (exec_call0 rfl rfl (map2 (hrep.ev 9 |>.trans h3) rfl) en23) ?_
  refine (in_any _ [] 99 (by simp)).mono ?_
  rintro _ wn ⟨rfl, hb⟩
  have S := Lib.hid (S.out.below hb)
  clear hb
  refine ⟨_, rfl, ?_⟩
  rw [show ([] : List UInt8).contains 99 = false from rfl]
  clear hrep
  intro A1 hrep
  repeat (refine abs_step (by rfl) hrep ?_; clear hrep; intro A1 hrep)
  refine abs_val (.pointer (some ⟨w.heap.size, 15, none⟩)) rfl rfl rfl hrep (exec_addr 30 _ 6 rfl ((hrep.ev 1).trans h1) fa6) ?_
  clear hrep
  intro A1 hrep
  refine abs_val (.agg #[.int .u8 (x.er : Int), .int .u32 (x.en : Int)]) rfl rfl rfl hrep (exec_load1 24 _ rfl (hrep.ev 12) (ld82 (o := 15) ((S.out.k.cell 15).trans X15.out) ((S.out.k.cell 16).trans X16.out))) ?_
  clear hrep
  intro A1 hrep
  refine abs_val (.agg #[.int .u8 0, .int .u32 0]) rfl rfl rfl hrep (exec_load1 24 _ rfl ((hrep.ev 4).trans h4) (lit82 S.out.z)) ?_
  clear hrep
  intro A1 hrep
  by_cases hf : x.er = 0 ∧ x.en = 0
  case neg =>
    have HN := Lib.hid (fun h => hf (HZ.out.1 h).1)
    refine abs_val (.bool false) rfl rfl rfl hrep (exec_bin .eql 24 24 _ _ rfl (hrep.ev 13) (hrep.ev 14) (eqg_agg _ _ _ _ _ _ _ eqt82) (Qc.out false (by simp [hf]) _)) ?_
    clear hrep
    intro A1 hrep
    repeat (refine abs_step (by rfl) hrep ?_; clear hrep; intro A1 hrep)
    refine lst_nil ?_
    have hd := hrep.df
    have hv := hrep.ev 2
    clear hrep
    go_wp2_with fail
    refine bodyPost_ret (results_tmp rfl _ _ _) hd ?_
    exact NO.out _ _ HN.out (congrArg Ending.returned hv) S.out.b
  refine abs_val (.bool true) rfl rfl rfl hrep (exec_bin .eql 24 24 _ _ rfl (hrep.ev 13) (hrep.ev 14) (eqg_agg _ _ _ _ _ _ _ eqt82) (Qc.out true (by simp [hf]) _)) ?_
  clear hrep
  intro A1 hrep
  have Fc := Lib.hid hf
  clear hf
  repeat (refine abs_step (by rfl) hrep ?_; clear hrep; intro A1 hrep)
  refine abs_call rfl rfl rfl hrep (exec_call0 rfl rfl (map2 (hrep.ev 18 |>.trans h3) rfl) en23) ?_
  refine (in_any _ [] 116 (by simp)).mono ?_
  rintro _ wn ⟨rfl, hb⟩
  have S := Lib.hid (S.out.below hb)
  clear hb
  refine ⟨_, rfl, ?_⟩
  rw [show ([] : List UInt8).contains 116 = false from rfl]
  clear hrep
  intro A1 hrep
  repeat (refine abs_step (by rfl) hrep ?_; clear hrep; intro A1 hrep)
  refine abs_val (.pointer (some ⟨w.heap.size, 17, none⟩)) rfl rfl rfl hrep (exec_addr 30 _ 7 rfl ((hrep.ev 1).trans h1) fa7) ?_
  clear hrep
  intro A1 hrep
  refine abs_val (.int .u32 (x.dest : Int)) rfl rfl rfl hrep (exec_load1 22 _ rfl (hrep.ev 21) (ld22 ((S.out.k.cell 17).trans X17.out))) ?_
  clear hrep
  intro A1 hrep
  by_cases hf : x.dest = 0
  case neg =>
    have HN := Lib.hid (fun h => hf (HZ.out.1 h).2.1)
    have e9 : ((x.dest : Int) == 0) = false := by rw [beq_eq_false_iff_ne]; omega
    refine abs_val (.bool false) rfl rfl rfl hrep (exec_bin .eql 22 22 _ (.const (.int .u32 0)) rfl (hrep.ev 22) rfl (eqgi) (eq_u32 _ _ _ e9 _)) ?_
    clear hrep
    intro A1 hrep
    repeat (refine abs_step (by rfl) hrep ?_; clear hrep; intro A1 hrep)
    refine lst_nil ?_
    have hd := hrep.df
    have hv := hrep.ev 2
    clear hrep
    go_wp2_with fail
    refine bodyPost_ret (results_tmp rfl _ _ _) hd ?_
    exact NO.out _ _ HN.out (congrArg Ending.returned hv) S.out.b
  have e9 : ((x.dest : Int) == 0) = true := by rw [beq_iff_eq]; omega
  refine abs_val (.bool true) rfl rfl rfl hrep (exec_bin .eql 22 22 _ (.const (.int .u32 0)) rfl (hrep.ev 22) rfl (eqgi) (eq_u32 _ _ _ e9 _)) ?_
  clear hrep
  intro A1 hrep
  have Ft := Lib.hid hf
  clear hf
  repeat (refine abs_step (by rfl) hrep ?_; clear hrep; intro A1 hrep)
  refine abs_call rfl rfl rfl hrep (exec_call0 rfl rfl (map2 (hrep.ev 27 |>.trans h3) rfl) en23) ?_
  refine (in_any _ [] 114 (by simp)).mono ?_
  rintro _ wn ⟨rfl, hb⟩
  have S := Lib.hid (S.out.below hb)
  clear hb
  refine ⟨_, rfl, ?_⟩
  rw [show ([] : List UInt8).contains 114 = false from rfl]
  clear hrep
  intro A1 hrep
  repeat (refine abs_step (by rfl) hrep ?_; clear hrep; intro A1 hrep)
  refine abs_val (.pointer (some ⟨w.heap.size, 18, none⟩)) rfl rfl rfl hrep (exec_addr 30 _ 8 rfl ((hrep.ev 1).trans h1) fa8) ?_
  clear hrep
  intro A1 hrep
  refine abs_val (.int .u8 (x.roles : Int)) rfl rfl rfl hrep (exec_load1 5 _ rfl (hrep.ev 30) (ld5 ((S.out.k.cell 18).trans X18.out))) ?_
  clear hrep
  intro A1 hrep
  by_cases hf : x.roles = 0
  case neg =>
    have HN := Lib.hid (fun h => hf (HZ.out.1 h).2.2.1)
    have e9 : ((x.roles : Int) == 0) = false := by rw [beq_eq_false_iff_ne]; omega
    refine abs_val (.bool false) rfl rfl rfl hrep (exec_bin .eql 5 5 _ (.const (.int .u8 0)) rfl (hrep.ev 31) rfl (eqgi) (eq_u8 _ _ _ e9 _)) ?_
    clear hrep
    intro A1 hrep
    repeat (refine abs_step (by rfl) hrep ?_; clear hrep; intro A1 hrep)
    refine lst_nil ?_
    have hd := hrep.df
    have hv := hrep.ev 2
    clear hrep
    go_wp2_with fail
    refine bodyPost_ret (results_tmp rfl _ _ _) hd ?_
    exact NO.out _ _ HN.out (congrArg Ending.returned hv) S.out.b
  have e9 : ((x.roles : Int) == 0) = true := by rw [beq_iff_eq]; omega
  refine abs_val (.bool true) rfl rfl rfl hrep (exec_bin .eql 5 5 _ (.const (.int .u8 0)) rfl (hrep.ev 31) rfl (eqgi) (eq_u8 _ _ _ e9 _)) ?_
  clear hrep
  intro A1 hrep
  have Fr := Lib.hid hf
  clear hf
  repeat (refine abs_step (by rfl) hrep ?_; clear hrep; intro A1 hrep)
  refine abs_call rfl rfl rfl hrep (exec_call0 rfl rfl (map2 (hrep.ev 36 |>.trans h3) rfl) en23) ?_
  refine (in_any _ [] 100 (by simp)).mono ?_
  rintro _ wn ⟨rfl, hb⟩
  have S := Lib.hid (S.out.below hb)
  clear hb
  refine ⟨_, rfl, ?_⟩
  rw [show ([] : List UInt8).contains 100 = false from rfl]
  clear hrep
  intro A1 hrep
  repeat (refine abs_step (by rfl) hrep ?_; clear hrep; intro A1 hrep)
  refine abs_val (.pointer (some ⟨w.heap.size, 19, none⟩)) rfl rfl rfl hrep (exec_addr 30 _ 9 rfl ((hrep.ev 1).trans h1) fa9) ?_
  clear hrep
  intro A1 hrep
  refine abs_val (.int .u8 (x.depth : Int)) rfl rfl rfl hrep (exec_load1 5 _ rfl (hrep.ev 39) (ld5 ((S.out.k.cell 19).trans X19.out))) ?_
  clear hrep
  intro A1 hrep
  by_cases hf : x.depth = 0
  case neg =>
    have HN := Lib.hid (fun h => hf (HZ.out.1 h).2.2.2.1)
    have e9 : ((x.depth : Int) == 0) = false := by rw [beq_eq_false_iff_ne]; omega
    refine abs_val (.bool false) rfl rfl rfl hrep (exec_bin .eql 5 5 _ (.const (.int .u8 0)) rfl (hrep.ev 40) rfl (eqgi) (eq_u8 _ _ _ e9 _)) ?_
    clear hrep
    intro A1 hrep
    repeat (refine abs_step (by rfl) hrep ?_; clear hrep; intro A1 hrep)
    refine lst_nil ?_
    have hd := hrep.df
    have hv := hrep.ev 2
    clear hrep
    go_wp2_with fail
    refine bodyPost_ret (results_tmp rfl _ _ _) hd ?_
    exact NO.out _ _ HN.out (congrArg Ending.returned hv) S.out.b
  have e9 : ((x.depth : Int) == 0) = true := by rw [beq_iff_eq]; omega
  refine abs_val (.bool true) rfl rfl rfl hrep (exec_bin .eql 5 5 _ (.const (.int .u8 0)) rfl (hrep.ev 40) rfl (eqgi) (eq_u8 _ _ _ e9 _)) ?_
  clear hrep
  intro A1 hrep
  have Fd := Lib.hid hf
  clear hf
  repeat (refine abs_step (by rfl) hrep ?_; clear hrep; intro A1 hrep)
  refine abs_call rfl rfl rfl hrep (exec_call0 rfl rfl (map2 (hrep.ev 45 |>.trans h3) rfl) en23) ?_
  refine (in_any _ [] 112 (by simp)).mono ?_
  rintro _ wn ⟨rfl, hb⟩
  have S := Lib.hid (S.out.below hb)
  clear hb
  refine ⟨_, rfl, ?_⟩
  rw [show ([] : List UInt8).contains 112 = false from rfl]
  clear hrep
  intro A1 hrep
  repeat (refine abs_step (by rfl) hrep ?_; clear hrep; intro A1 hrep)
  refine abs_val (.pointer (some ⟨w.heap.size, 20, none⟩)) rfl rfl rfl hrep (exec_addr 30 _ 10 rfl ((hrep.ev 1).trans h1) fa10) ?_
  clear hrep
  intro A1 hrep
  refine abs_val (.int .u64 (x.cap : Int)) rfl rfl rfl hrep (exec_load1 27 _ rfl (hrep.ev 48) (ld80 ((S.out.k.cell 20).trans X20.out))) ?_
  clear hrep
  intro A1 hrep
  by_cases hf : x.cap = 0
  case neg =>
    have HN := Lib.hid (fun h => hf (HZ.out.1 h).2.2.2.2.1)
    have e9 : ((x.cap : Int) == 0) = false := by rw [beq_eq_false_iff_ne]; omega
    refine abs_val (.bool false) rfl rfl rfl hrep (exec_bin .eql 27 27 _ (.const (.int .u64 0)) rfl (hrep.ev 49) rfl (eqgi) (eq_u64 _ _ _ e9 _)) ?_
    clear hrep
    intro A1 hrep
    repeat (refine abs_step (by rfl) hrep ?_; clear hrep; intro A1 hrep)
    refine lst_nil ?_
    have hd := hrep.df
    have hv := hrep.ev 2
    clear hrep
    go_wp2_with fail
    refine bodyPost_ret (results_tmp rfl _ _ _) hd ?_
    exact NO.out _ _ HN.out (congrArg Ending.returned hv) S.out.b
  have e9 : ((x.cap : Int) == 0) = true := by rw [beq_iff_eq]; omega
  refine abs_val (.bool true) rfl rfl rfl hrep (exec_bin .eql 27 27 _ (.const (.int .u64 0)) rfl (hrep.ev 49) rfl (eqgi) (eq_u64 _ _ _ e9 _)) ?_
  clear hrep
  intro A1 hrep
  have Fp := Lib.hid hf
  clear hf
  repeat (refine abs_step (by rfl) hrep ?_; clear hrep; intro A1 hrep)
  refine abs_call rfl rfl rfl hrep (exec_call0 rfl rfl (map2 (hrep.ev 54 |>.trans h3) rfl) en23) ?_
  refine (in_any _ [] 97 (by simp)).mono ?_
  rintro _ wn ⟨rfl, hb⟩
  have S := Lib.hid (S.out.below hb)
  clear hb
  refine ⟨_, rfl, ?_⟩
  rw [show ([] : List UInt8).contains 97 = false from rfl]
  clear hrep
  intro A1 hrep
  repeat (refine abs_step (by rfl) hrep ?_; clear hrep; intro A1 hrep)
  refine abs_val (.pointer (some ⟨w.heap.size, 21, none⟩)) rfl rfl rfl hrep (exec_addr 30 _ 11 rfl ((hrep.ev 1).trans h1) fa11) ?_
  clear hrep
  intro A1 hrep
  refine abs_val (.agg #[.int .u8 (x.ar : Int), .int .u32 (x.an : Int)]) rfl rfl rfl hrep (exec_load1 24 _ rfl (hrep.ev 57) (ld82 (o := 21) ((S.out.k.cell 21).trans X21.out) ((S.out.k.cell 22).trans X22.out))) ?_
  clear hrep
  intro A1 hrep
  refine abs_val (.agg #[.int .u8 0, .int .u32 0]) rfl rfl rfl hrep (exec_load1 24 _ rfl ((hrep.ev 4).trans h4) (lit82 S.out.z)) ?_
  clear hrep
  intro A1 hrep
  by_cases hf : x.ar = 0 ∧ x.an = 0
  case neg =>
    have HN := Lib.hid (fun h => hf (HZ.out.1 h).2.2.2.2.2.1)
    refine abs_val (.bool false) rfl rfl rfl hrep (exec_bin .eql 24 24 _ _ rfl (hrep.ev 58) (hrep.ev 59) (eqg_agg _ _ _ _ _ _ _ eqt82) (Qa.out false (by simp [hf]) _)) ?_
    clear hrep
    intro A1 hrep
    repeat (refine abs_step (by rfl) hrep ?_; clear hrep; intro A1 hrep)
    refine lst_nil ?_
    have hd := hrep.df
    have hv := hrep.ev 2
    clear hrep
    go_wp2_with fail
    refine bodyPost_ret (results_tmp rfl _ _ _) hd ?_
    exact NO.out _ _ HN.out (congrArg Ending.returned hv) S.out.b
  refine abs_val (.bool true) rfl rfl rfl hrep (exec_bin .eql 24 24 _ _ rfl (hrep.ev 58) (hrep.ev 59) (eqg_agg _ _ _ _ _ _ _ eqt82) (Qa.out true (by simp [hf]) _)) ?_
  clear hrep
  intro A1 hrep
  have Fa := Lib.hid hf
  clear hf
  repeat (refine abs_step (by rfl) hrep ?_; clear hrep; intro A1 hrep)
  refine abs_call rfl rfl rfl hrep (exec_call0 rfl rfl (map2 (hrep.ev 64 |>.trans h3) rfl) en23) ?_
  refine (in_any _ [] 118 (by simp)).mono ?_
  rintro _ wn ⟨rfl, hb⟩
  have S := Lib.hid (S.out.below hb)
  clear hb
  refine ⟨_, rfl, ?_⟩
  rw [show ([] : List UInt8).contains 118 = false from rfl]
  clear hrep
  intro A1 hrep
  repeat (refine abs_step (by rfl) hrep ?_; clear hrep; intro A1 hrep)
  refine abs_val (.pointer (some ⟨w.heap.size, 23, none⟩)) rfl rfl rfl hrep (exec_addr 30 _ 12 rfl ((hrep.ev 1).trans h1) fa12) ?_
  clear hrep
  intro A1 hrep
  refine abs_val (.agg #[.int .u8 (x.vr : Int), .int .u32 (x.vn : Int)]) rfl rfl rfl hrep (exec_load1 24 _ rfl (hrep.ev 67) (ld82 (o := 23) ((S.out.k.cell 23).trans X23.out) ((S.out.k.cell 24).trans X24.out))) ?_
  clear hrep
  intro A1 hrep
  refine abs_val (.agg #[.int .u8 0, .int .u32 0]) rfl rfl rfl hrep (exec_load1 24 _ rfl ((hrep.ev 4).trans h4) (lit82 S.out.z)) ?_
  clear hrep
  intro A1 hrep
  by_cases hf : x.vr = 0 ∧ x.vn = 0
  case neg =>
    have HN := Lib.hid (fun h => hf (HZ.out.1 h).2.2.2.2.2.2.1)
    refine abs_val (.bool false) rfl rfl rfl hrep (exec_bin .eql 24 24 _ _ rfl (hrep.ev 68) (hrep.ev 69) (eqg_agg _ _ _ _ _ _ _ eqt82) (Qv.out false (by simp [hf]) _)) ?_
    clear hrep
    intro A1 hrep
    repeat (refine abs_step (by rfl) hrep ?_; clear hrep; intro A1 hrep)
    refine lst_nil ?_
    have hd := hrep.df
    have hv := hrep.ev 2
    clear hrep
    go_wp2_with fail
    refine bodyPost_ret (results_tmp rfl _ _ _) hd ?_
    exact NO.out _ _ HN.out (congrArg Ending.returned hv) S.out.b
  refine abs_val (.bool true) rfl rfl rfl hrep (exec_bin .eql 24 24 _ _ rfl (hrep.ev 68) (hrep.ev 69) (eqg_agg _ _ _ _ _ _ _ eqt82) (Qv.out true (by simp [hf]) _)) ?_
  clear hrep
  intro A1 hrep
  have Fv := Lib.hid hf
  clear hf
  repeat (refine abs_step (by rfl) hrep ?_; clear hrep; intro A1 hrep)
  refine abs_call rfl rfl rfl hrep (exec_call0 rfl rfl (map2 (hrep.ev 74 |>.trans h3) rfl) en23) ?_
  refine (in_any _ [] 105 (by simp)).mono ?_
  rintro _ wn ⟨rfl, hb⟩
  have S := Lib.hid (S.out.below hb)
  clear hb
  refine ⟨_, rfl, ?_⟩
  rw [show ([] : List UInt8).contains 105 = false from rfl]
  clear hrep
  intro A1 hrep
  repeat (refine abs_step (by rfl) hrep ?_; clear hrep; intro A1 hrep)
  refine abs_val (.pointer (some ⟨w.heap.size, 25, none⟩)) rfl rfl rfl hrep (exec_addr 30 _ 13 rfl ((hrep.ev 1).trans h1) fa13) ?_
  clear hrep
  intro A1 hrep
  refine abs_val (.int .u32 (x.item : Int)) rfl rfl rfl hrep (exec_load1 22 _ rfl (hrep.ev 77) (ld22 ((S.out.k.cell 25).trans X25.out))) ?_
  clear hrep
  intro A1 hrep
  by_cases hf : x.item = 0
  case neg =>
    have HN := Lib.hid (fun h => hf (HZ.out.1 h).2.2.2.2.2.2.2.1)
    have e9 : ((x.item : Int) == 0) = false := by rw [beq_eq_false_iff_ne]; omega
    refine abs_val (.bool false) rfl rfl rfl hrep (exec_bin .eql 22 22 _ (.const (.int .u32 0)) rfl (hrep.ev 78) rfl (eqgi) (eq_u32 _ _ _ e9 _)) ?_
    clear hrep
    intro A1 hrep
    repeat (refine abs_step (by rfl) hrep ?_; clear hrep; intro A1 hrep)
    refine lst_nil ?_
    have hd := hrep.df
    have hv := hrep.ev 2
    clear hrep
    go_wp2_with fail
    refine bodyPost_ret (results_tmp rfl _ _ _) hd ?_
    exact NO.out _ _ HN.out (congrArg Ending.returned hv) S.out.b
  have e9 : ((x.item : Int) == 0) = true := by rw [beq_iff_eq]; omega
  refine abs_val (.bool true) rfl rfl rfl hrep (exec_bin .eql 22 22 _ (.const (.int .u32 0)) rfl (hrep.ev 78) rfl (eqgi) (eq_u32 _ _ _ e9 _)) ?_
  clear hrep
  intro A1 hrep
  have Fi := Lib.hid hf
  clear hf
  repeat (refine abs_step (by rfl) hrep ?_; clear hrep; intro A1 hrep)
  refine abs_call rfl rfl rfl hrep (exec_call0 rfl rfl (map2 (hrep.ev 83 |>.trans h3) rfl) en23) ?_
  refine (in_any _ [] 113 (by simp)).mono ?_
  rintro _ wn ⟨rfl, hb⟩
  have S := Lib.hid (S.out.below hb)
  clear hb
  refine ⟨_, rfl, ?_⟩
  rw [show ([] : List UInt8).contains 113 = false from rfl]
  clear hrep
  intro A1 hrep
  repeat (refine abs_step (by rfl) hrep ?_; clear hrep; intro A1 hrep)
  refine abs_val (.pointer (some ⟨w.heap.size, 26, none⟩)) rfl rfl rfl hrep (exec_addr 30 _ 14 rfl ((hrep.ev 1).trans h1) fa14) ?_
  clear hrep
  intro A1 hrep
  refine abs_val (.int .u32 (x.qty : Int)) rfl rfl rfl hrep (exec_load1 22 _ rfl (hrep.ev 86) (ld22 ((S.out.k.cell 26).trans X26.out))) ?_
  clear hrep
  intro A1 hrep
  by_cases hf : x.qty = 0
  case neg =>
    have HN := Lib.hid (fun h => hf (HZ.out.1 h).2.2.2.2.2.2.2.2.1)
    have e9 : ((x.qty : Int) == 0) = false := by rw [beq_eq_false_iff_ne]; omega
    refine abs_val (.bool false) rfl rfl rfl hrep (exec_bin .eql 22 22 _ (.const (.int .u32 0)) rfl (hrep.ev 87) rfl (eqgi) (eq_u32 _ _ _ e9 _)) ?_
    clear hrep
    intro A1 hrep
    repeat (refine abs_step (by rfl) hrep ?_; clear hrep; intro A1 hrep)
    refine lst_nil ?_
    have hd := hrep.df
    have hv := hrep.ev 2
    clear hrep
    go_wp2_with fail
    refine bodyPost_ret (results_tmp rfl _ _ _) hd ?_
    exact NO.out _ _ HN.out (congrArg Ending.returned hv) S.out.b
  have e9 : ((x.qty : Int) == 0) = true := by rw [beq_iff_eq]; omega
  refine abs_val (.bool true) rfl rfl rfl hrep (exec_bin .eql 22 22 _ (.const (.int .u32 0)) rfl (hrep.ev 87) rfl (eqgi) (eq_u32 _ _ _ e9 _)) ?_
  clear hrep
  intro A1 hrep
  have Fq := Lib.hid hf
  clear hf
  repeat (refine abs_step (by rfl) hrep ?_; clear hrep; intro A1 hrep)
  refine abs_call rfl rfl rfl hrep (exec_call0 rfl rfl (map2 (hrep.ev 92 |>.trans h3) rfl) en23) ?_
  refine (in_any _ [] 101 (by simp)).mono ?_
  rintro _ wn ⟨rfl, hb⟩
  have S := Lib.hid (S.out.below hb)
  clear hb
  refine ⟨_, rfl, ?_⟩
  rw [show ([] : List UInt8).contains 101 = false from rfl]
  clear hrep
  intro A1 hrep
  repeat (refine abs_step (by rfl) hrep ?_; clear hrep; intro A1 hrep)
  refine abs_val (.pointer (some ⟨w.heap.size, 27, none⟩)) rfl rfl rfl hrep (exec_addr 30 _ 15 rfl ((hrep.ev 1).trans h1) fa15) ?_
  clear hrep
  intro A1 hrep
  refine abs_val (.int .u32 (x.price : Int)) rfl rfl rfl hrep (exec_load1 22 _ rfl (hrep.ev 95) (ld22 ((S.out.k.cell 27).trans X27.out))) ?_
  clear hrep
  intro A1 hrep
  by_cases hf : x.price = 0
  case neg =>
    have HN := Lib.hid (fun h => hf (HZ.out.1 h).2.2.2.2.2.2.2.2.2.1)
    have e9 : ((x.price : Int) == 0) = false := by rw [beq_eq_false_iff_ne]; omega
    refine abs_val (.bool false) rfl rfl rfl hrep (exec_bin .eql 22 22 _ (.const (.int .u32 0)) rfl (hrep.ev 96) rfl (eqgi) (eq_u32 _ _ _ e9 _)) ?_
    clear hrep
    intro A1 hrep
    repeat (refine abs_step (by rfl) hrep ?_; clear hrep; intro A1 hrep)
    refine lst_nil ?_
    have hd := hrep.df
    have hv := hrep.ev 2
    clear hrep
    go_wp2_with fail
    refine bodyPost_ret (results_tmp rfl _ _ _) hd ?_
    exact NO.out _ _ HN.out (congrArg Ending.returned hv) S.out.b
  have e9 : ((x.price : Int) == 0) = true := by rw [beq_iff_eq]; omega
  refine abs_val (.bool true) rfl rfl rfl hrep (exec_bin .eql 22 22 _ (.const (.int .u32 0)) rfl (hrep.ev 96) rfl (eqgi) (eq_u32 _ _ _ e9 _)) ?_
  clear hrep
  intro A1 hrep
  have Fe := Lib.hid hf
  clear hf
  repeat (refine abs_step (by rfl) hrep ?_; clear hrep; intro A1 hrep)
  refine abs_call rfl rfl rfl hrep (exec_call0 rfl rfl (map2 (hrep.ev 101 |>.trans h3) rfl) en23) ?_
  refine (in_any _ [] 108 (by simp)).mono ?_
  rintro _ wn ⟨rfl, hb⟩
  have S := Lib.hid (S.out.below hb)
  clear hb
  refine ⟨_, rfl, ?_⟩
  rw [show ([] : List UInt8).contains 108 = false from rfl]
  clear hrep
  intro A1 hrep
  repeat (refine abs_step (by rfl) hrep ?_; clear hrep; intro A1 hrep)
  refine abs_val (.pointer (some ⟨w.heap.size, 28, none⟩)) rfl rfl rfl hrep (exec_addr 30 _ 16 rfl ((hrep.ev 1).trans h1) fa16) ?_
  clear hrep
  intro A1 hrep
  refine abs_val (.slice A x.lines.length cap) rfl rfl rfl hrep (exec_load1 28 _ rfl (hrep.ev 104) (ld120 ((S.out.k.cell 28).trans X28.out))) ?_
  clear hrep
  intro A1 hrep
  refine abs_val (.int .i64 (x.lines.length : Int)) rfl rfl rfl hrep (exec_len28 rfl (hrep.ev 105)) ?_
  clear hrep
  intro A1 hrep
  by_cases hf : x.lines = []
  case neg =>
    have HN := Lib.hid (fun h => hf (HZ.out.1 h).2.2.2.2.2.2.2.2.2.2)
    have e9 : ((x.lines.length : Int) == 0) = false := by rw [beq_eq_false_iff_ne]; have := mt HLN.out.2 hf; omega
    refine abs_val (.bool false) rfl rfl rfl hrep (exec_bin .eql 3 3 _ (.const (.int .i64 0)) rfl (hrep.ev 106) rfl (eqgi) (eq_i64 _ _ _ e9 _)) ?_
    clear hrep
    intro A1 hrep
    repeat (refine abs_step (by rfl) hrep ?_; clear hrep; intro A1 hrep)
    refine lst_nil ?_
    have hd := hrep.df
    have hv := hrep.ev 2
    clear hrep
    go_wp2_with fail
    refine bodyPost_ret (results_tmp rfl _ _ _) hd ?_
    exact NO.out _ _ HN.out (congrArg Ending.returned hv) S.out.b
  have e9 : ((x.lines.length : Int) == 0) = true := by rw [beq_iff_eq]; have := HLN.out.1 hf; omega
  refine abs_val (.bool true) rfl rfl rfl hrep (exec_bin .eql 3 3 _ (.const (.int .i64 0)) rfl (hrep.ev 106) rfl (eqgi) (eq_i64 _ _ _ e9 _)) ?_
  clear hrep
  intro A1 hrep
  have Fl := Lib.hid hf
  clear hf
  repeat (refine abs_step (by rfl) hrep ?_; clear hrep; intro A1 hrep)
  refine lst_nil ?_
  have hd := hrep.df
  have hv := hrep.ev 2
  clear hrep
  go_wp2_with fail
  refine bodyPost_ret (results_tmp rfl _ _ _) hd ?_
  exact ⟨true, congrArg Ending.returned hv, by simp only [true_iff]; exact HZ.out.2 ⟨Fc.out, Ft.out, Fr.out, Fd.out, Fp.out, Fa.out, Fv.out, Fi.out, Fq.out, Fe.out, Fl.out⟩, S.out.b⟩
set_option maxRecDepth 100000 in
set_option maxHeartbeats 16000000 in
theorem zero_1 (w : World) (x : NOp) (A : Option Addr) (cap : Nat) (hx : x.ok) (hk : x.kind = 1) : Calls Tryd.prog 21 #[.agg (opA x (.slice A x.lines.length cap))] w (Tells w (bareN x = x)) := by
  have HZ : Hid (bareN x = x ↔ (x.ar = 0 ∧ x.an = 0) ∧ (x.vr = 0 ∧ x.vn = 0) ∧ x.item = 0 ∧ x.qty = 0 ∧ x.price = 0 ∧ x.lines = []) := Lib.hid (by
    rw [bare_iff, hk]
    exact ⟨fun h => ⟨h.2.2.1 rfl, h.2.2.2.1 rfl, h.2.2.2.2.1 rfl, h.2.2.2.2.2.1 rfl, h.2.2.2.2.2.2.1 rfl, h.2.2.2.2.2.2.2 rfl⟩, fun h => ⟨fun e => absurd e (by decide), fun e => absurd e (by decide), fun _ => h.1, fun _ => h.2.1, fun _ => h.2.2.1, fun _ => h.2.2.2.1, fun _ => h.2.2.2.2.1, fun _ => h.2.2.2.2.2⟩⟩)
  have k0 := Blk.new w 30 (opA x (.slice A x.lines.length cap))
  have hb := (Below.refl w.heap.size w).alloc (Nat.le_refl _) (.cells (opA x (.slice A x.lines.length cap)) 30)
  have c14 := (k0.cell 14).trans (op_c14 x _ hx.dep8)
  rw [hk] at c14
  have X21 := Lib.hid (op_c21 x (.slice A x.lines.length cap) hx.dep8)
  have X22 := Lib.hid (op_c22 x (.slice A x.lines.length cap) hx.dep8)
  have Qa := Lib.hid (fun r hr W => eql_dot x.ar x.an 0 0 hx.ar hx.an (by omega) (by omega) r hr W)
  have X23 := Lib.hid (op_c23 x (.slice A x.lines.length cap) hx.dep8)
  have X24 := Lib.hid (op_c24 x (.slice A x.lines.length cap) hx.dep8)
  have Qv := Lib.hid (fun r hr W => eql_dot x.vr x.vn 0 0 hx.vr hx.vn (by omega) (by omega) r hr W)
  have X25 := Lib.hid (op_c25 x (.slice A x.lines.length cap) hx.dep8)
  have X26 := Lib.hid (op_c26 x (.slice A x.lines.length cap) hx.dep8)
  have X27 := Lib.hid (op_c27 x (.slice A x.lines.length cap) hx.dep8)
  have X28 := Lib.hid (op_c28 x (.slice A x.lines.length cap) hx.dep8)
  have HA := Lib.hid (has_any (w.alloc (.cells (opA x (.slice A x.lines.length cap)) 30)) 1 (by omega))
  have K0 := Lib.hid k0
  have HB := Lib.hid hb
  have NO : Hid (∀ (e : Ending) (w' : World), ¬ bareN x = x → e = .returned (.bool false) → Below w.heap.size w w' → Tells w (bareN x = x) e w') := Lib.hid (fun e w' h1 h2 h3 => ⟨false, h2, by simp [h1], h3⟩)
  generalize hX : opA x (.slice A x.lines.length cap) = X at *
  have HLN : Hid (x.lines = [] ↔ x.lines.length = 0) := Lib.hid List.length_eq_zero_iff.symm
  clear hX k0 hb hx hk
  go_enter Tryd.func21, Tryd.ntmps21
  go_wp2_with fail
  refine HA.out.mono ?_
  rintro e w1 ⟨rfl, h1⟩
  have K1 := Lib.hid (K0.out.below h1 K0.out.lt)
  have B1 := Lib.hid (HB.out.trans (h1.mono HB.out.size))
  obtain ⟨t1, t3, tb⟩ := one_set w1 #[.int .u8 0, .int .u32 0] #[.int .u8 0, .int .u32 0] 24
  have T1 := Lib.hid t1
  have S : Hid (ZrW w X w1.heap.size _) := Lib.hid ⟨K1.out.below tb K1.out.lt, t3, B1.out.trans (tb.mono B1.out.size)⟩
  clear h1 c14 t1 t3 tb K0 HB K1 B1 HA
  rw [show hasF 1 = [99, 116, 114, 100, 112] from rfl]
  go_upto_region 3 with (refine wpList_store_row rfl 24 _ _ rfl w1.heap.size #[.int .u8 0, .int .u32 0] rfl rfl 24 _ T1.out zdot_size rfl zdot_one ?_)
  refine lst_begin ?_
  intro A0 hA
  have h1 : A0.eval (.tmp 1) = .pointer (some ⟨w.heap.size, 0, none⟩) := by rw [hA]; rfl
  have h3 : A0.eval (.tmp 3) = .string ⟨([99, 116, 114, 100, 112] : List UInt8).toArray⟩ := by rw [hA]; rfl
  have h4 : A0.eval (.tmp 4) = .pointer (some ⟨w1.heap.size, 0, none⟩) := by rw [hA]; rfl
  have hrep : Rep 110 A0 [] A0 := Rep.start (by rw [hA] <;> rfl) (by rw [hA] <;> rfl)
  clear hA
  generalize ((w1.alloc (.cells #[Value.int .u8 0, .int .u32 0] 24)).setRow w1.heap.size #[.int .u8 0, .int .u32 0]) = wc at *
  generalize w1.heap.size = gz at *
  clear T1
  repeat (refine abs_step (by rfl) hrep ?_; clear hrep; intro A1 hrep)
  refine abs_call rfl rfl rfl hrep (exec_call0 rfl rfl (map2 (hrep.ev 9 |>.trans h3) rfl) en23) ?_
  refine (in_any _ [99, 116, 114, 100, 112] 99 (by simp)).mono ?_
  rintro _ wn ⟨rfl, hb⟩
  have S := Lib.hid (S.out.below hb)
  clear hb
  refine ⟨_, rfl, ?_⟩
  rw [show ([99, 116, 114, 100, 112] : List UInt8).contains 99 = true from rfl]
  clear hrep
  intro A1 hrep
  repeat (refine abs_step (by rfl) hrep ?_; clear hrep; intro A1 hrep)
  refine abs_call rfl rfl rfl hrep (exec_call0 rfl rfl (map2 (hrep.ev 18 |>.trans h3) rfl) en23) ?_
  refine (in_any _ [99, 116, 114, 100, 112] 116 (by simp)).mono ?_
  rintro _ wn ⟨rfl, hb⟩
  have S := Lib.hid (S.out.below hb)
  clear hb
  refine ⟨_, rfl, ?_⟩
  rw [show ([99, 116, 114, 100, 112] : List UInt8).contains 116 = true from rfl]
  clear hrep
  intro A1 hrep
  repeat (refine abs_step (by rfl) hrep ?_; clear hrep; intro A1 hrep)
  refine abs_call rfl rfl rfl hrep (exec_call0 rfl rfl (map2 (hrep.ev 27 |>.trans h3) rfl) en23) ?_
  refine (in_any _ [99, 116, 114, 100, 112] 114 (by simp)).mono ?_
  rintro _ wn ⟨rfl, hb⟩
  have S := Lib.hid (S.out.below hb)
  clear hb
  refine ⟨_, rfl, ?_⟩
  rw [show ([99, 116, 114, 100, 112] : List UInt8).contains 114 = true from rfl]
  clear hrep
  intro A1 hrep
  repeat (refine abs_step (by rfl) hrep ?_; clear hrep; intro A1 hrep)
  refine abs_call rfl rfl rfl hrep (exec_call0 rfl rfl (map2 (hrep.ev 36 |>.trans h3) rfl) en23) ?_
  refine (in_any _ [99, 116, 114, 100, 112] 100 (by simp)).mono ?_
  rintro _ wn ⟨rfl, hb⟩
  have S := Lib.hid (S.out.below hb)
  clear hb
  refine ⟨_, rfl, ?_⟩
  rw [show ([99, 116, 114, 100, 112] : List UInt8).contains 100 = true from rfl]
  clear hrep
  intro A1 hrep
  repeat (refine abs_step (by rfl) hrep ?_; clear hrep; intro A1 hrep)
  refine abs_call rfl rfl rfl hrep (exec_call0 rfl rfl (map2 (hrep.ev 45 |>.trans h3) rfl) en23) ?_
  refine (in_any _ [99, 116, 114, 100, 112] 112 (by simp)).mono ?_
  rintro _ wn ⟨rfl, hb⟩
  have S := Lib.hid (S.out.below hb)
  clear hb
  refine ⟨_, rfl, ?_⟩
  rw [show ([99, 116, 114, 100, 112] : List UInt8).contains 112 = true from rfl]
  clear hrep
  intro A1 hrep
  repeat (refine abs_step (by rfl) hrep ?_; clear hrep; intro A1 hrep)
  refine abs_call rfl rfl rfl hrep (exec_call0 rfl rfl (map2 (hrep.ev 54 |>.trans h3) rfl) en23) ?_
  refine (in_any _ [99, 116, 114, 100, 112] 97 (by simp)).mono ?_
  rintro _ wn ⟨rfl, hb⟩
  have S := Lib.hid (S.out.below hb)
  clear hb
  refine ⟨_, rfl, ?_⟩
  rw [show ([99, 116, 114, 100, 112] : List UInt8).contains 97 = false from rfl]
  clear hrep
  intro A1 hrep
  repeat (refine abs_step (by rfl) hrep ?_; clear hrep; intro A1 hrep)
  refine abs_val (.pointer (some ⟨w.heap.size, 21, none⟩)) rfl rfl rfl hrep (exec_addr 30 _ 11 rfl ((hrep.ev 1).trans h1) fa11) ?_
  clear hrep
  intro A1 hrep
  refine abs_val (.agg #[.int .u8 (x.ar : Int), .int .u32 (x.an : Int)]) rfl rfl rfl hrep (exec_load1 24 _ rfl (hrep.ev 57) (ld82 (o := 21) ((S.out.k.cell 21).trans X21.out) ((S.out.k.cell 22).trans X22.out))) ?_
  clear hrep
  intro A1 hrep
  refine abs_val (.agg #[.int .u8 0, .int .u32 0]) rfl rfl rfl hrep (exec_load1 24 _ rfl ((hrep.ev 4).trans h4) (lit82 S.out.z)) ?_
  clear hrep
  intro A1 hrep
  by_cases hf : x.ar = 0 ∧ x.an = 0
  case neg =>
    have HN := Lib.hid (fun h => hf (HZ.out.1 h).1)
    refine abs_val (.bool false) rfl rfl rfl hrep (exec_bin .eql 24 24 _ _ rfl (hrep.ev 58) (hrep.ev 59) (eqg_agg _ _ _ _ _ _ _ eqt82) (Qa.out false (by simp [hf]) _)) ?_
    clear hrep
    intro A1 hrep
    repeat (refine abs_step (by rfl) hrep ?_; clear hrep; intro A1 hrep)
    refine lst_nil ?_
    have hd := hrep.df
    have hv := hrep.ev 2
    clear hrep
    go_wp2_with fail
    refine bodyPost_ret (results_tmp rfl _ _ _) hd ?_
    exact NO.out _ _ HN.out (congrArg Ending.returned hv) S.out.b
  refine abs_val (.bool true) rfl rfl rfl hrep (exec_bin .eql 24 24 _ _ rfl (hrep.ev 58) (hrep.ev 59) (eqg_agg _ _ _ _ _ _ _ eqt82) (Qa.out true (by simp [hf]) _)) ?_
  clear hrep
  intro A1 hrep
  have Fa := Lib.hid hf
  clear hf
  repeat (refine abs_step (by rfl) hrep ?_; clear hrep; intro A1 hrep)
  refine abs_call rfl rfl rfl hrep (exec_call0 rfl rfl (map2 (hrep.ev 64 |>.trans h3) rfl) en23) ?_
  refine (in_any _ [99, 116, 114, 100, 112] 118 (by simp)).mono ?_
  rintro _ wn ⟨rfl, hb⟩
  have S := Lib.hid (S.out.below hb)
  clear hb
  refine ⟨_, rfl, ?_⟩
  rw [show ([99, 116, 114, 100, 112] : List UInt8).contains 118 = false from rfl]
  clear hrep
  intro A1 hrep
  repeat (refine abs_step (by rfl) hrep ?_; clear hrep; intro A1 hrep)
  refine abs_val (.pointer (some ⟨w.heap.size, 23, none⟩)) rfl rfl rfl hrep (exec_addr 30 _ 12 rfl ((hrep.ev 1).trans h1) fa12) ?_
  clear hrep
  intro A1 hrep
  refine abs_val (.agg #[.int .u8 (x.vr : Int), .int .u32 (x.vn : Int)]) rfl rfl rfl hrep (exec_load1 24 _ rfl (hrep.ev 67) (ld82 (o := 23) ((S.out.k.cell 23).trans X23.out) ((S.out.k.cell 24).trans X24.out))) ?_
  clear hrep
  intro A1 hrep
  refine abs_val (.agg #[.int .u8 0, .int .u32 0]) rfl rfl rfl hrep (exec_load1 24 _ rfl ((hrep.ev 4).trans h4) (lit82 S.out.z)) ?_
  clear hrep
  intro A1 hrep
  by_cases hf : x.vr = 0 ∧ x.vn = 0
  case neg =>
    have HN := Lib.hid (fun h => hf (HZ.out.1 h).2.1)
    refine abs_val (.bool false) rfl rfl rfl hrep (exec_bin .eql 24 24 _ _ rfl (hrep.ev 68) (hrep.ev 69) (eqg_agg _ _ _ _ _ _ _ eqt82) (Qv.out false (by simp [hf]) _)) ?_
    clear hrep
    intro A1 hrep
    repeat (refine abs_step (by rfl) hrep ?_; clear hrep; intro A1 hrep)
    refine lst_nil ?_
    have hd := hrep.df
    have hv := hrep.ev 2
    clear hrep
    go_wp2_with fail
    refine bodyPost_ret (results_tmp rfl _ _ _) hd ?_
    exact NO.out _ _ HN.out (congrArg Ending.returned hv) S.out.b
  refine abs_val (.bool true) rfl rfl rfl hrep (exec_bin .eql 24 24 _ _ rfl (hrep.ev 68) (hrep.ev 69) (eqg_agg _ _ _ _ _ _ _ eqt82) (Qv.out true (by simp [hf]) _)) ?_
  clear hrep
  intro A1 hrep
  have Fv := Lib.hid hf
  clear hf
  repeat (refine abs_step (by rfl) hrep ?_; clear hrep; intro A1 hrep)
  refine abs_call rfl rfl rfl hrep (exec_call0 rfl rfl (map2 (hrep.ev 74 |>.trans h3) rfl) en23) ?_
  refine (in_any _ [99, 116, 114, 100, 112] 105 (by simp)).mono ?_
  rintro _ wn ⟨rfl, hb⟩
  have S := Lib.hid (S.out.below hb)
  clear hb
  refine ⟨_, rfl, ?_⟩
  rw [show ([99, 116, 114, 100, 112] : List UInt8).contains 105 = false from rfl]
  clear hrep
  intro A1 hrep
  repeat (refine abs_step (by rfl) hrep ?_; clear hrep; intro A1 hrep)
  refine abs_val (.pointer (some ⟨w.heap.size, 25, none⟩)) rfl rfl rfl hrep (exec_addr 30 _ 13 rfl ((hrep.ev 1).trans h1) fa13) ?_
  clear hrep
  intro A1 hrep
  refine abs_val (.int .u32 (x.item : Int)) rfl rfl rfl hrep (exec_load1 22 _ rfl (hrep.ev 77) (ld22 ((S.out.k.cell 25).trans X25.out))) ?_
  clear hrep
  intro A1 hrep
  by_cases hf : x.item = 0
  case neg =>
    have HN := Lib.hid (fun h => hf (HZ.out.1 h).2.2.1)
    have e9 : ((x.item : Int) == 0) = false := by rw [beq_eq_false_iff_ne]; omega
    refine abs_val (.bool false) rfl rfl rfl hrep (exec_bin .eql 22 22 _ (.const (.int .u32 0)) rfl (hrep.ev 78) rfl (eqgi) (eq_u32 _ _ _ e9 _)) ?_
    clear hrep
    intro A1 hrep
    repeat (refine abs_step (by rfl) hrep ?_; clear hrep; intro A1 hrep)
    refine lst_nil ?_
    have hd := hrep.df
    have hv := hrep.ev 2
    clear hrep
    go_wp2_with fail
    refine bodyPost_ret (results_tmp rfl _ _ _) hd ?_
    exact NO.out _ _ HN.out (congrArg Ending.returned hv) S.out.b
  have e9 : ((x.item : Int) == 0) = true := by rw [beq_iff_eq]; omega
  refine abs_val (.bool true) rfl rfl rfl hrep (exec_bin .eql 22 22 _ (.const (.int .u32 0)) rfl (hrep.ev 78) rfl (eqgi) (eq_u32 _ _ _ e9 _)) ?_
  clear hrep
  intro A1 hrep
  have Fi := Lib.hid hf
  clear hf
  repeat (refine abs_step (by rfl) hrep ?_; clear hrep; intro A1 hrep)
  refine abs_call rfl rfl rfl hrep (exec_call0 rfl rfl (map2 (hrep.ev 83 |>.trans h3) rfl) en23) ?_
  refine (in_any _ [99, 116, 114, 100, 112] 113 (by simp)).mono ?_
  rintro _ wn ⟨rfl, hb⟩
  have S := Lib.hid (S.out.below hb)
  clear hb
  refine ⟨_, rfl, ?_⟩
  rw [show ([99, 116, 114, 100, 112] : List UInt8).contains 113 = false from rfl]
  clear hrep
  intro A1 hrep
  repeat (refine abs_step (by rfl) hrep ?_; clear hrep; intro A1 hrep)
  refine abs_val (.pointer (some ⟨w.heap.size, 26, none⟩)) rfl rfl rfl hrep (exec_addr 30 _ 14 rfl ((hrep.ev 1).trans h1) fa14) ?_
  clear hrep
  intro A1 hrep
  refine abs_val (.int .u32 (x.qty : Int)) rfl rfl rfl hrep (exec_load1 22 _ rfl (hrep.ev 86) (ld22 ((S.out.k.cell 26).trans X26.out))) ?_
  clear hrep
  intro A1 hrep
  by_cases hf : x.qty = 0
  case neg =>
    have HN := Lib.hid (fun h => hf (HZ.out.1 h).2.2.2.1)
    have e9 : ((x.qty : Int) == 0) = false := by rw [beq_eq_false_iff_ne]; omega
    refine abs_val (.bool false) rfl rfl rfl hrep (exec_bin .eql 22 22 _ (.const (.int .u32 0)) rfl (hrep.ev 87) rfl (eqgi) (eq_u32 _ _ _ e9 _)) ?_
    clear hrep
    intro A1 hrep
    repeat (refine abs_step (by rfl) hrep ?_; clear hrep; intro A1 hrep)
    refine lst_nil ?_
    have hd := hrep.df
    have hv := hrep.ev 2
    clear hrep
    go_wp2_with fail
    refine bodyPost_ret (results_tmp rfl _ _ _) hd ?_
    exact NO.out _ _ HN.out (congrArg Ending.returned hv) S.out.b
  have e9 : ((x.qty : Int) == 0) = true := by rw [beq_iff_eq]; omega
  refine abs_val (.bool true) rfl rfl rfl hrep (exec_bin .eql 22 22 _ (.const (.int .u32 0)) rfl (hrep.ev 87) rfl (eqgi) (eq_u32 _ _ _ e9 _)) ?_
  clear hrep
  intro A1 hrep
  have Fq := Lib.hid hf
  clear hf
  repeat (refine abs_step (by rfl) hrep ?_; clear hrep; intro A1 hrep)
  refine abs_call rfl rfl rfl hrep (exec_call0 rfl rfl (map2 (hrep.ev 92 |>.trans h3) rfl) en23) ?_
  refine (in_any _ [99, 116, 114, 100, 112] 101 (by simp)).mono ?_
  rintro _ wn ⟨rfl, hb⟩
  have S := Lib.hid (S.out.below hb)
  clear hb
  refine ⟨_, rfl, ?_⟩
  rw [show ([99, 116, 114, 100, 112] : List UInt8).contains 101 = false from rfl]
  clear hrep
  intro A1 hrep
  repeat (refine abs_step (by rfl) hrep ?_; clear hrep; intro A1 hrep)
  refine abs_val (.pointer (some ⟨w.heap.size, 27, none⟩)) rfl rfl rfl hrep (exec_addr 30 _ 15 rfl ((hrep.ev 1).trans h1) fa15) ?_
  clear hrep
  intro A1 hrep
  refine abs_val (.int .u32 (x.price : Int)) rfl rfl rfl hrep (exec_load1 22 _ rfl (hrep.ev 95) (ld22 ((S.out.k.cell 27).trans X27.out))) ?_
  clear hrep
  intro A1 hrep
  by_cases hf : x.price = 0
  case neg =>
    have HN := Lib.hid (fun h => hf (HZ.out.1 h).2.2.2.2.1)
    have e9 : ((x.price : Int) == 0) = false := by rw [beq_eq_false_iff_ne]; omega
    refine abs_val (.bool false) rfl rfl rfl hrep (exec_bin .eql 22 22 _ (.const (.int .u32 0)) rfl (hrep.ev 96) rfl (eqgi) (eq_u32 _ _ _ e9 _)) ?_
    clear hrep
    intro A1 hrep
    repeat (refine abs_step (by rfl) hrep ?_; clear hrep; intro A1 hrep)
    refine lst_nil ?_
    have hd := hrep.df
    have hv := hrep.ev 2
    clear hrep
    go_wp2_with fail
    refine bodyPost_ret (results_tmp rfl _ _ _) hd ?_
    exact NO.out _ _ HN.out (congrArg Ending.returned hv) S.out.b
  have e9 : ((x.price : Int) == 0) = true := by rw [beq_iff_eq]; omega
  refine abs_val (.bool true) rfl rfl rfl hrep (exec_bin .eql 22 22 _ (.const (.int .u32 0)) rfl (hrep.ev 96) rfl (eqgi) (eq_u32 _ _ _ e9 _)) ?_
  clear hrep
  intro A1 hrep
  have Fe := Lib.hid hf
  clear hf
  repeat (refine abs_step (by rfl) hrep ?_; clear hrep; intro A1 hrep)
  refine abs_call rfl rfl rfl hrep (exec_call0 rfl rfl (map2 (hrep.ev 101 |>.trans h3) rfl) en23) ?_
  refine (in_any _ [99, 116, 114, 100, 112] 108 (by simp)).mono ?_
  rintro _ wn ⟨rfl, hb⟩
  have S := Lib.hid (S.out.below hb)
  clear hb
  refine ⟨_, rfl, ?_⟩
  rw [show ([99, 116, 114, 100, 112] : List UInt8).contains 108 = false from rfl]
  clear hrep
  intro A1 hrep
  repeat (refine abs_step (by rfl) hrep ?_; clear hrep; intro A1 hrep)
  refine abs_val (.pointer (some ⟨w.heap.size, 28, none⟩)) rfl rfl rfl hrep (exec_addr 30 _ 16 rfl ((hrep.ev 1).trans h1) fa16) ?_
  clear hrep
  intro A1 hrep
  refine abs_val (.slice A x.lines.length cap) rfl rfl rfl hrep (exec_load1 28 _ rfl (hrep.ev 104) (ld120 ((S.out.k.cell 28).trans X28.out))) ?_
  clear hrep
  intro A1 hrep
  refine abs_val (.int .i64 (x.lines.length : Int)) rfl rfl rfl hrep (exec_len28 rfl (hrep.ev 105)) ?_
  clear hrep
  intro A1 hrep
  by_cases hf : x.lines = []
  case neg =>
    have HN := Lib.hid (fun h => hf (HZ.out.1 h).2.2.2.2.2)
    have e9 : ((x.lines.length : Int) == 0) = false := by rw [beq_eq_false_iff_ne]; have := mt HLN.out.2 hf; omega
    refine abs_val (.bool false) rfl rfl rfl hrep (exec_bin .eql 3 3 _ (.const (.int .i64 0)) rfl (hrep.ev 106) rfl (eqgi) (eq_i64 _ _ _ e9 _)) ?_
    clear hrep
    intro A1 hrep
    repeat (refine abs_step (by rfl) hrep ?_; clear hrep; intro A1 hrep)
    refine lst_nil ?_
    have hd := hrep.df
    have hv := hrep.ev 2
    clear hrep
    go_wp2_with fail
    refine bodyPost_ret (results_tmp rfl _ _ _) hd ?_
    exact NO.out _ _ HN.out (congrArg Ending.returned hv) S.out.b
  have e9 : ((x.lines.length : Int) == 0) = true := by rw [beq_iff_eq]; have := HLN.out.1 hf; omega
  refine abs_val (.bool true) rfl rfl rfl hrep (exec_bin .eql 3 3 _ (.const (.int .i64 0)) rfl (hrep.ev 106) rfl (eqgi) (eq_i64 _ _ _ e9 _)) ?_
  clear hrep
  intro A1 hrep
  have Fl := Lib.hid hf
  clear hf
  repeat (refine abs_step (by rfl) hrep ?_; clear hrep; intro A1 hrep)
  refine lst_nil ?_
  have hd := hrep.df
  have hv := hrep.ev 2
  clear hrep
  go_wp2_with fail
  refine bodyPost_ret (results_tmp rfl _ _ _) hd ?_
  exact ⟨true, congrArg Ending.returned hv, by simp only [true_iff]; exact HZ.out.2 ⟨Fa.out, Fv.out, Fi.out, Fq.out, Fe.out, Fl.out⟩, S.out.b⟩
set_option maxRecDepth 100000 in
set_option maxHeartbeats 16000000 in
theorem zero_2 (w : World) (x : NOp) (A : Option Addr) (cap : Nat) (hx : x.ok) (hk : x.kind = 2) : Calls Tryd.prog 21 #[.agg (opA x (.slice A x.lines.length cap))] w (Tells w (bareN x = x)) := by
  have HZ : Hid (bareN x = x ↔ x.dest = 0 ∧ x.roles = 0 ∧ x.depth = 0 ∧ x.cap = 0 ∧ (x.vr = 0 ∧ x.vn = 0) ∧ x.item = 0 ∧ x.qty = 0 ∧ x.price = 0 ∧ x.lines = []) := Lib.hid (by
    rw [bare_iff, hk]
    exact ⟨fun h => ⟨(h.2.1 rfl).1, (h.2.1 rfl).2.1, (h.2.1 rfl).2.2.1, (h.2.1 rfl).2.2.2, h.2.2.2.1 rfl, h.2.2.2.2.1 rfl, h.2.2.2.2.2.1 rfl, h.2.2.2.2.2.2.1 rfl, h.2.2.2.2.2.2.2 rfl⟩, fun h => ⟨fun e => absurd e (by decide), fun _ => ⟨h.1, h.2.1, h.2.2.1, h.2.2.2.1⟩, fun e => absurd e (by decide), fun _ => h.2.2.2.2.1, fun _ => h.2.2.2.2.2.1, fun _ => h.2.2.2.2.2.2.1, fun _ => h.2.2.2.2.2.2.2.1, fun _ => h.2.2.2.2.2.2.2.2⟩⟩)
  have k0 := Blk.new w 30 (opA x (.slice A x.lines.length cap))
  have hb := (Below.refl w.heap.size w).alloc (Nat.le_refl _) (.cells (opA x (.slice A x.lines.length cap)) 30)
  have c14 := (k0.cell 14).trans (op_c14 x _ hx.dep8)
  rw [hk] at c14
  have X17 := Lib.hid (op_c17 x (.slice A x.lines.length cap) hx.dep8)
  have X18 := Lib.hid (op_c18 x (.slice A x.lines.length cap) hx.dep8)
  have X19 := Lib.hid (op_c19 x (.slice A x.lines.length cap) hx.dep8)
  have X20 := Lib.hid (op_c20 x (.slice A x.lines.length cap) hx.dep8)
  have X23 := Lib.hid (op_c23 x (.slice A x.lines.length cap) hx.dep8)
  have X24 := Lib.hid (op_c24 x (.slice A x.lines.length cap) hx.dep8)
  have Qv := Lib.hid (fun r hr W => eql_dot x.vr x.vn 0 0 hx.vr hx.vn (by omega) (by omega) r hr W)
  have X25 := Lib.hid (op_c25 x (.slice A x.lines.length cap) hx.dep8)
  have X26 := Lib.hid (op_c26 x (.slice A x.lines.length cap) hx.dep8)
  have X27 := Lib.hid (op_c27 x (.slice A x.lines.length cap) hx.dep8)
  have X28 := Lib.hid (op_c28 x (.slice A x.lines.length cap) hx.dep8)
  have HA := Lib.hid (has_any (w.alloc (.cells (opA x (.slice A x.lines.length cap)) 30)) 2 (by omega))
  have K0 := Lib.hid k0
  have HB := Lib.hid hb
  have NO : Hid (∀ (e : Ending) (w' : World), ¬ bareN x = x → e = .returned (.bool false) → Below w.heap.size w w' → Tells w (bareN x = x) e w') := Lib.hid (fun e w' h1 h2 h3 => ⟨false, h2, by simp [h1], h3⟩)
  generalize hX : opA x (.slice A x.lines.length cap) = X at *
  have HLN : Hid (x.lines = [] ↔ x.lines.length = 0) := Lib.hid List.length_eq_zero_iff.symm
  clear hX k0 hb hx hk
  go_enter Tryd.func21, Tryd.ntmps21
  go_wp2_with fail
  refine HA.out.mono ?_
  rintro e w1 ⟨rfl, h1⟩
  have K1 := Lib.hid (K0.out.below h1 K0.out.lt)
  have B1 := Lib.hid (HB.out.trans (h1.mono HB.out.size))
  obtain ⟨t1, t3, tb⟩ := one_set w1 #[.int .u8 0, .int .u32 0] #[.int .u8 0, .int .u32 0] 24
  have T1 := Lib.hid t1
  have S : Hid (ZrW w X w1.heap.size _) := Lib.hid ⟨K1.out.below tb K1.out.lt, t3, B1.out.trans (tb.mono B1.out.size)⟩
  clear h1 c14 t1 t3 tb K0 HB K1 B1 HA
  rw [show hasF 2 = [99, 97] from rfl]
  go_upto_region 3 with (refine wpList_store_row rfl 24 _ _ rfl w1.heap.size #[.int .u8 0, .int .u32 0] rfl rfl 24 _ T1.out zdot_size rfl zdot_one ?_)
  refine lst_begin ?_
  intro A0 hA
  have h1 : A0.eval (.tmp 1) = .pointer (some ⟨w.heap.size, 0, none⟩) := by rw [hA]; rfl
  have h3 : A0.eval (.tmp 3) = .string ⟨([99, 97] : List UInt8).toArray⟩ := by rw [hA]; rfl
  have h4 : A0.eval (.tmp 4) = .pointer (some ⟨w1.heap.size, 0, none⟩) := by rw [hA]; rfl
  have hrep : Rep 110 A0 [] A0 := Rep.start (by rw [hA] <;> rfl) (by rw [hA] <;> rfl)
  clear hA
  generalize ((w1.alloc (.cells #[Value.int .u8 0, .int .u32 0] 24)).setRow w1.heap.size #[.int .u8 0, .int .u32 0]) = wc at *
  generalize w1.heap.size = gz at *
  clear T1
  repeat (refine abs_step (by rfl) hrep ?_; clear hrep; intro A1 hrep)
  refine abs_call rfl rfl rfl hrep (exec_call0 rfl rfl (map2 (hrep.ev 9 |>.trans h3) rfl) en23) ?_
  refine (in_any _ [99, 97] 99 (by simp)).mono ?_
  rintro _ wn ⟨rfl, hb⟩
  have S := Lib.hid (S.out.below hb)
  clear hb
  refine ⟨_, rfl, ?_⟩
  rw [show ([99, 97] : List UInt8).contains 99 = true from rfl]
  clear hrep
  intro A1 hrep
  repeat (refine abs_step (by rfl) hrep ?_; clear hrep; intro A1 hrep)
  refine abs_call rfl rfl rfl hrep (exec_call0 rfl rfl (map2 (hrep.ev 18 |>.trans h3) rfl) en23) ?_
  refine (in_any _ [99, 97] 116 (by simp)).mono ?_
  rintro _ wn ⟨rfl, hb⟩
  have S := Lib.hid (S.out.below hb)
  clear hb
  refine ⟨_, rfl, ?_⟩
  rw [show ([99, 97] : List UInt8).contains 116 = false from rfl]
  clear hrep
  intro A1 hrep
  repeat (refine abs_step (by rfl) hrep ?_; clear hrep; intro A1 hrep)
  refine abs_val (.pointer (some ⟨w.heap.size, 17, none⟩)) rfl rfl rfl hrep (exec_addr 30 _ 7 rfl ((hrep.ev 1).trans h1) fa7) ?_
  clear hrep
  intro A1 hrep
  refine abs_val (.int .u32 (x.dest : Int)) rfl rfl rfl hrep (exec_load1 22 _ rfl (hrep.ev 21) (ld22 ((S.out.k.cell 17).trans X17.out))) ?_
  clear hrep
  intro A1 hrep
  by_cases hf : x.dest = 0
  case neg =>
    have HN := Lib.hid (fun h => hf (HZ.out.1 h).1)
    have e9 : ((x.dest : Int) == 0) = false := by rw [beq_eq_false_iff_ne]; omega
    refine abs_val (.bool false) rfl rfl rfl hrep (exec_bin .eql 22 22 _ (.const (.int .u32 0)) rfl (hrep.ev 22) rfl (eqgi) (eq_u32 _ _ _ e9 _)) ?_
    clear hrep
    intro A1 hrep
    repeat (refine abs_step (by rfl) hrep ?_; clear hrep; intro A1 hrep)
    refine lst_nil ?_
    have hd := hrep.df
    have hv := hrep.ev 2
    clear hrep
    go_wp2_with fail
    refine bodyPost_ret (results_tmp rfl _ _ _) hd ?_
    exact NO.out _ _ HN.out (congrArg Ending.returned hv) S.out.b
  have e9 : ((x.dest : Int) == 0) = true := by rw [beq_iff_eq]; omega
  refine abs_val (.bool true) rfl rfl rfl hrep (exec_bin .eql 22 22 _ (.const (.int .u32 0)) rfl (hrep.ev 22) rfl (eqgi) (eq_u32 _ _ _ e9 _)) ?_
  clear hrep
  intro A1 hrep
  have Ft := Lib.hid hf
  clear hf
  repeat (refine abs_step (by rfl) hrep ?_; clear hrep; intro A1 hrep)
  refine abs_call rfl rfl rfl hrep (exec_call0 rfl rfl (map2 (hrep.ev 27 |>.trans h3) rfl) en23) ?_
  refine (in_any _ [99, 97] 114 (by simp)).mono ?_
  rintro _ wn ⟨rfl, hb⟩
  have S := Lib.hid (S.out.below hb)
  clear hb
  refine ⟨_, rfl, ?_⟩
  rw [show ([99, 97] : List UInt8).contains 114 = false from rfl]
  clear hrep
  intro A1 hrep
  repeat (refine abs_step (by rfl) hrep ?_; clear hrep; intro A1 hrep)
  refine abs_val (.pointer (some ⟨w.heap.size, 18, none⟩)) rfl rfl rfl hrep (exec_addr 30 _ 8 rfl ((hrep.ev 1).trans h1) fa8) ?_
  clear hrep
  intro A1 hrep
  refine abs_val (.int .u8 (x.roles : Int)) rfl rfl rfl hrep (exec_load1 5 _ rfl (hrep.ev 30) (ld5 ((S.out.k.cell 18).trans X18.out))) ?_
  clear hrep
  intro A1 hrep
  by_cases hf : x.roles = 0
  case neg =>
    have HN := Lib.hid (fun h => hf (HZ.out.1 h).2.1)
    have e9 : ((x.roles : Int) == 0) = false := by rw [beq_eq_false_iff_ne]; omega
    refine abs_val (.bool false) rfl rfl rfl hrep (exec_bin .eql 5 5 _ (.const (.int .u8 0)) rfl (hrep.ev 31) rfl (eqgi) (eq_u8 _ _ _ e9 _)) ?_
    clear hrep
    intro A1 hrep
    repeat (refine abs_step (by rfl) hrep ?_; clear hrep; intro A1 hrep)
    refine lst_nil ?_
    have hd := hrep.df
    have hv := hrep.ev 2
    clear hrep
    go_wp2_with fail
    refine bodyPost_ret (results_tmp rfl _ _ _) hd ?_
    exact NO.out _ _ HN.out (congrArg Ending.returned hv) S.out.b
  have e9 : ((x.roles : Int) == 0) = true := by rw [beq_iff_eq]; omega
  refine abs_val (.bool true) rfl rfl rfl hrep (exec_bin .eql 5 5 _ (.const (.int .u8 0)) rfl (hrep.ev 31) rfl (eqgi) (eq_u8 _ _ _ e9 _)) ?_
  clear hrep
  intro A1 hrep
  have Fr := Lib.hid hf
  clear hf
  repeat (refine abs_step (by rfl) hrep ?_; clear hrep; intro A1 hrep)
  refine abs_call rfl rfl rfl hrep (exec_call0 rfl rfl (map2 (hrep.ev 36 |>.trans h3) rfl) en23) ?_
  refine (in_any _ [99, 97] 100 (by simp)).mono ?_
  rintro _ wn ⟨rfl, hb⟩
  have S := Lib.hid (S.out.below hb)
  clear hb
  refine ⟨_, rfl, ?_⟩
  rw [show ([99, 97] : List UInt8).contains 100 = false from rfl]
  clear hrep
  intro A1 hrep
  repeat (refine abs_step (by rfl) hrep ?_; clear hrep; intro A1 hrep)
  refine abs_val (.pointer (some ⟨w.heap.size, 19, none⟩)) rfl rfl rfl hrep (exec_addr 30 _ 9 rfl ((hrep.ev 1).trans h1) fa9) ?_
  clear hrep
  intro A1 hrep
  refine abs_val (.int .u8 (x.depth : Int)) rfl rfl rfl hrep (exec_load1 5 _ rfl (hrep.ev 39) (ld5 ((S.out.k.cell 19).trans X19.out))) ?_
  clear hrep
  intro A1 hrep
  by_cases hf : x.depth = 0
  case neg =>
    have HN := Lib.hid (fun h => hf (HZ.out.1 h).2.2.1)
    have e9 : ((x.depth : Int) == 0) = false := by rw [beq_eq_false_iff_ne]; omega
    refine abs_val (.bool false) rfl rfl rfl hrep (exec_bin .eql 5 5 _ (.const (.int .u8 0)) rfl (hrep.ev 40) rfl (eqgi) (eq_u8 _ _ _ e9 _)) ?_
    clear hrep
    intro A1 hrep
    repeat (refine abs_step (by rfl) hrep ?_; clear hrep; intro A1 hrep)
    refine lst_nil ?_
    have hd := hrep.df
    have hv := hrep.ev 2
    clear hrep
    go_wp2_with fail
    refine bodyPost_ret (results_tmp rfl _ _ _) hd ?_
    exact NO.out _ _ HN.out (congrArg Ending.returned hv) S.out.b
  have e9 : ((x.depth : Int) == 0) = true := by rw [beq_iff_eq]; omega
  refine abs_val (.bool true) rfl rfl rfl hrep (exec_bin .eql 5 5 _ (.const (.int .u8 0)) rfl (hrep.ev 40) rfl (eqgi) (eq_u8 _ _ _ e9 _)) ?_
  clear hrep
  intro A1 hrep
  have Fd := Lib.hid hf
  clear hf
  repeat (refine abs_step (by rfl) hrep ?_; clear hrep; intro A1 hrep)
  refine abs_call rfl rfl rfl hrep (exec_call0 rfl rfl (map2 (hrep.ev 45 |>.trans h3) rfl) en23) ?_
  refine (in_any _ [99, 97] 112 (by simp)).mono ?_
  rintro _ wn ⟨rfl, hb⟩
  have S := Lib.hid (S.out.below hb)
  clear hb
  refine ⟨_, rfl, ?_⟩
  rw [show ([99, 97] : List UInt8).contains 112 = false from rfl]
  clear hrep
  intro A1 hrep
  repeat (refine abs_step (by rfl) hrep ?_; clear hrep; intro A1 hrep)
  refine abs_val (.pointer (some ⟨w.heap.size, 20, none⟩)) rfl rfl rfl hrep (exec_addr 30 _ 10 rfl ((hrep.ev 1).trans h1) fa10) ?_
  clear hrep
  intro A1 hrep
  refine abs_val (.int .u64 (x.cap : Int)) rfl rfl rfl hrep (exec_load1 27 _ rfl (hrep.ev 48) (ld80 ((S.out.k.cell 20).trans X20.out))) ?_
  clear hrep
  intro A1 hrep
  by_cases hf : x.cap = 0
  case neg =>
    have HN := Lib.hid (fun h => hf (HZ.out.1 h).2.2.2.1)
    have e9 : ((x.cap : Int) == 0) = false := by rw [beq_eq_false_iff_ne]; omega
    refine abs_val (.bool false) rfl rfl rfl hrep (exec_bin .eql 27 27 _ (.const (.int .u64 0)) rfl (hrep.ev 49) rfl (eqgi) (eq_u64 _ _ _ e9 _)) ?_
    clear hrep
    intro A1 hrep
    repeat (refine abs_step (by rfl) hrep ?_; clear hrep; intro A1 hrep)
    refine lst_nil ?_
    have hd := hrep.df
    have hv := hrep.ev 2
    clear hrep
    go_wp2_with fail
    refine bodyPost_ret (results_tmp rfl _ _ _) hd ?_
    exact NO.out _ _ HN.out (congrArg Ending.returned hv) S.out.b
  have e9 : ((x.cap : Int) == 0) = true := by rw [beq_iff_eq]; omega
  refine abs_val (.bool true) rfl rfl rfl hrep (exec_bin .eql 27 27 _ (.const (.int .u64 0)) rfl (hrep.ev 49) rfl (eqgi) (eq_u64 _ _ _ e9 _)) ?_
  clear hrep
  intro A1 hrep
  have Fp := Lib.hid hf
  clear hf
  repeat (refine abs_step (by rfl) hrep ?_; clear hrep; intro A1 hrep)
  refine abs_call rfl rfl rfl hrep (exec_call0 rfl rfl (map2 (hrep.ev 54 |>.trans h3) rfl) en23) ?_
  refine (in_any _ [99, 97] 97 (by simp)).mono ?_
  rintro _ wn ⟨rfl, hb⟩
  have S := Lib.hid (S.out.below hb)
  clear hb
  refine ⟨_, rfl, ?_⟩
  rw [show ([99, 97] : List UInt8).contains 97 = true from rfl]
  clear hrep
  intro A1 hrep
  repeat (refine abs_step (by rfl) hrep ?_; clear hrep; intro A1 hrep)
  refine abs_call rfl rfl rfl hrep (exec_call0 rfl rfl (map2 (hrep.ev 64 |>.trans h3) rfl) en23) ?_
  refine (in_any _ [99, 97] 118 (by simp)).mono ?_
  rintro _ wn ⟨rfl, hb⟩
  have S := Lib.hid (S.out.below hb)
  clear hb
  refine ⟨_, rfl, ?_⟩
  rw [show ([99, 97] : List UInt8).contains 118 = false from rfl]
  clear hrep
  intro A1 hrep
  repeat (refine abs_step (by rfl) hrep ?_; clear hrep; intro A1 hrep)
  refine abs_val (.pointer (some ⟨w.heap.size, 23, none⟩)) rfl rfl rfl hrep (exec_addr 30 _ 12 rfl ((hrep.ev 1).trans h1) fa12) ?_
  clear hrep
  intro A1 hrep
  refine abs_val (.agg #[.int .u8 (x.vr : Int), .int .u32 (x.vn : Int)]) rfl rfl rfl hrep (exec_load1 24 _ rfl (hrep.ev 67) (ld82 (o := 23) ((S.out.k.cell 23).trans X23.out) ((S.out.k.cell 24).trans X24.out))) ?_
  clear hrep
  intro A1 hrep
  refine abs_val (.agg #[.int .u8 0, .int .u32 0]) rfl rfl rfl hrep (exec_load1 24 _ rfl ((hrep.ev 4).trans h4) (lit82 S.out.z)) ?_
  clear hrep
  intro A1 hrep
  by_cases hf : x.vr = 0 ∧ x.vn = 0
  case neg =>
    have HN := Lib.hid (fun h => hf (HZ.out.1 h).2.2.2.2.1)
    refine abs_val (.bool false) rfl rfl rfl hrep (exec_bin .eql 24 24 _ _ rfl (hrep.ev 68) (hrep.ev 69) (eqg_agg _ _ _ _ _ _ _ eqt82) (Qv.out false (by simp [hf]) _)) ?_
    clear hrep
    intro A1 hrep
    repeat (refine abs_step (by rfl) hrep ?_; clear hrep; intro A1 hrep)
    refine lst_nil ?_
    have hd := hrep.df
    have hv := hrep.ev 2
    clear hrep
    go_wp2_with fail
    refine bodyPost_ret (results_tmp rfl _ _ _) hd ?_
    exact NO.out _ _ HN.out (congrArg Ending.returned hv) S.out.b
  refine abs_val (.bool true) rfl rfl rfl hrep (exec_bin .eql 24 24 _ _ rfl (hrep.ev 68) (hrep.ev 69) (eqg_agg _ _ _ _ _ _ _ eqt82) (Qv.out true (by simp [hf]) _)) ?_
  clear hrep
  intro A1 hrep
  have Fv := Lib.hid hf
  clear hf
  repeat (refine abs_step (by rfl) hrep ?_; clear hrep; intro A1 hrep)
  refine abs_call rfl rfl rfl hrep (exec_call0 rfl rfl (map2 (hrep.ev 74 |>.trans h3) rfl) en23) ?_
  refine (in_any _ [99, 97] 105 (by simp)).mono ?_
  rintro _ wn ⟨rfl, hb⟩
  have S := Lib.hid (S.out.below hb)
  clear hb
  refine ⟨_, rfl, ?_⟩
  rw [show ([99, 97] : List UInt8).contains 105 = false from rfl]
  clear hrep
  intro A1 hrep
  repeat (refine abs_step (by rfl) hrep ?_; clear hrep; intro A1 hrep)
  refine abs_val (.pointer (some ⟨w.heap.size, 25, none⟩)) rfl rfl rfl hrep (exec_addr 30 _ 13 rfl ((hrep.ev 1).trans h1) fa13) ?_
  clear hrep
  intro A1 hrep
  refine abs_val (.int .u32 (x.item : Int)) rfl rfl rfl hrep (exec_load1 22 _ rfl (hrep.ev 77) (ld22 ((S.out.k.cell 25).trans X25.out))) ?_
  clear hrep
  intro A1 hrep
  by_cases hf : x.item = 0
  case neg =>
    have HN := Lib.hid (fun h => hf (HZ.out.1 h).2.2.2.2.2.1)
    have e9 : ((x.item : Int) == 0) = false := by rw [beq_eq_false_iff_ne]; omega
    refine abs_val (.bool false) rfl rfl rfl hrep (exec_bin .eql 22 22 _ (.const (.int .u32 0)) rfl (hrep.ev 78) rfl (eqgi) (eq_u32 _ _ _ e9 _)) ?_
    clear hrep
    intro A1 hrep
    repeat (refine abs_step (by rfl) hrep ?_; clear hrep; intro A1 hrep)
    refine lst_nil ?_
    have hd := hrep.df
    have hv := hrep.ev 2
    clear hrep
    go_wp2_with fail
    refine bodyPost_ret (results_tmp rfl _ _ _) hd ?_
    exact NO.out _ _ HN.out (congrArg Ending.returned hv) S.out.b
  have e9 : ((x.item : Int) == 0) = true := by rw [beq_iff_eq]; omega
  refine abs_val (.bool true) rfl rfl rfl hrep (exec_bin .eql 22 22 _ (.const (.int .u32 0)) rfl (hrep.ev 78) rfl (eqgi) (eq_u32 _ _ _ e9 _)) ?_
  clear hrep
  intro A1 hrep
  have Fi := Lib.hid hf
  clear hf
  repeat (refine abs_step (by rfl) hrep ?_; clear hrep; intro A1 hrep)
  refine abs_call rfl rfl rfl hrep (exec_call0 rfl rfl (map2 (hrep.ev 83 |>.trans h3) rfl) en23) ?_
  refine (in_any _ [99, 97] 113 (by simp)).mono ?_
  rintro _ wn ⟨rfl, hb⟩
  have S := Lib.hid (S.out.below hb)
  clear hb
  refine ⟨_, rfl, ?_⟩
  rw [show ([99, 97] : List UInt8).contains 113 = false from rfl]
  clear hrep
  intro A1 hrep
  repeat (refine abs_step (by rfl) hrep ?_; clear hrep; intro A1 hrep)
  refine abs_val (.pointer (some ⟨w.heap.size, 26, none⟩)) rfl rfl rfl hrep (exec_addr 30 _ 14 rfl ((hrep.ev 1).trans h1) fa14) ?_
  clear hrep
  intro A1 hrep
  refine abs_val (.int .u32 (x.qty : Int)) rfl rfl rfl hrep (exec_load1 22 _ rfl (hrep.ev 86) (ld22 ((S.out.k.cell 26).trans X26.out))) ?_
  clear hrep
  intro A1 hrep
  by_cases hf : x.qty = 0
  case neg =>
    have HN := Lib.hid (fun h => hf (HZ.out.1 h).2.2.2.2.2.2.1)
    have e9 : ((x.qty : Int) == 0) = false := by rw [beq_eq_false_iff_ne]; omega
    refine abs_val (.bool false) rfl rfl rfl hrep (exec_bin .eql 22 22 _ (.const (.int .u32 0)) rfl (hrep.ev 87) rfl (eqgi) (eq_u32 _ _ _ e9 _)) ?_
    clear hrep
    intro A1 hrep
    repeat (refine abs_step (by rfl) hrep ?_; clear hrep; intro A1 hrep)
    refine lst_nil ?_
    have hd := hrep.df
    have hv := hrep.ev 2
    clear hrep
    go_wp2_with fail
    refine bodyPost_ret (results_tmp rfl _ _ _) hd ?_
    exact NO.out _ _ HN.out (congrArg Ending.returned hv) S.out.b
  have e9 : ((x.qty : Int) == 0) = true := by rw [beq_iff_eq]; omega
  refine abs_val (.bool true) rfl rfl rfl hrep (exec_bin .eql 22 22 _ (.const (.int .u32 0)) rfl (hrep.ev 87) rfl (eqgi) (eq_u32 _ _ _ e9 _)) ?_
  clear hrep
  intro A1 hrep
  have Fq := Lib.hid hf
  clear hf
  repeat (refine abs_step (by rfl) hrep ?_; clear hrep; intro A1 hrep)
  refine abs_call rfl rfl rfl hrep (exec_call0 rfl rfl (map2 (hrep.ev 92 |>.trans h3) rfl) en23) ?_
  refine (in_any _ [99, 97] 101 (by simp)).mono ?_
  rintro _ wn ⟨rfl, hb⟩
  have S := Lib.hid (S.out.below hb)
  clear hb
  refine ⟨_, rfl, ?_⟩
  rw [show ([99, 97] : List UInt8).contains 101 = false from rfl]
  clear hrep
  intro A1 hrep
  repeat (refine abs_step (by rfl) hrep ?_; clear hrep; intro A1 hrep)
  refine abs_val (.pointer (some ⟨w.heap.size, 27, none⟩)) rfl rfl rfl hrep (exec_addr 30 _ 15 rfl ((hrep.ev 1).trans h1) fa15) ?_
  clear hrep
  intro A1 hrep
  refine abs_val (.int .u32 (x.price : Int)) rfl rfl rfl hrep (exec_load1 22 _ rfl (hrep.ev 95) (ld22 ((S.out.k.cell 27).trans X27.out))) ?_
  clear hrep
  intro A1 hrep
  by_cases hf : x.price = 0
  case neg =>
    have HN := Lib.hid (fun h => hf (HZ.out.1 h).2.2.2.2.2.2.2.1)
    have e9 : ((x.price : Int) == 0) = false := by rw [beq_eq_false_iff_ne]; omega
    refine abs_val (.bool false) rfl rfl rfl hrep (exec_bin .eql 22 22 _ (.const (.int .u32 0)) rfl (hrep.ev 96) rfl (eqgi) (eq_u32 _ _ _ e9 _)) ?_
    clear hrep
    intro A1 hrep
    repeat (refine abs_step (by rfl) hrep ?_; clear hrep; intro A1 hrep)
    refine lst_nil ?_
    have hd := hrep.df
    have hv := hrep.ev 2
    clear hrep
    go_wp2_with fail
    refine bodyPost_ret (results_tmp rfl _ _ _) hd ?_
    exact NO.out _ _ HN.out (congrArg Ending.returned hv) S.out.b
  have e9 : ((x.price : Int) == 0) = true := by rw [beq_iff_eq]; omega
  refine abs_val (.bool true) rfl rfl rfl hrep (exec_bin .eql 22 22 _ (.const (.int .u32 0)) rfl (hrep.ev 96) rfl (eqgi) (eq_u32 _ _ _ e9 _)) ?_
  clear hrep
  intro A1 hrep
  have Fe := Lib.hid hf
  clear hf
  repeat (refine abs_step (by rfl) hrep ?_; clear hrep; intro A1 hrep)
  refine abs_call rfl rfl rfl hrep (exec_call0 rfl rfl (map2 (hrep.ev 101 |>.trans h3) rfl) en23) ?_
  refine (in_any _ [99, 97] 108 (by simp)).mono ?_
  rintro _ wn ⟨rfl, hb⟩
  have S := Lib.hid (S.out.below hb)
  clear hb
  refine ⟨_, rfl, ?_⟩
  rw [show ([99, 97] : List UInt8).contains 108 = false from rfl]
  clear hrep
  intro A1 hrep
  repeat (refine abs_step (by rfl) hrep ?_; clear hrep; intro A1 hrep)
  refine abs_val (.pointer (some ⟨w.heap.size, 28, none⟩)) rfl rfl rfl hrep (exec_addr 30 _ 16 rfl ((hrep.ev 1).trans h1) fa16) ?_
  clear hrep
  intro A1 hrep
  refine abs_val (.slice A x.lines.length cap) rfl rfl rfl hrep (exec_load1 28 _ rfl (hrep.ev 104) (ld120 ((S.out.k.cell 28).trans X28.out))) ?_
  clear hrep
  intro A1 hrep
  refine abs_val (.int .i64 (x.lines.length : Int)) rfl rfl rfl hrep (exec_len28 rfl (hrep.ev 105)) ?_
  clear hrep
  intro A1 hrep
  by_cases hf : x.lines = []
  case neg =>
    have HN := Lib.hid (fun h => hf (HZ.out.1 h).2.2.2.2.2.2.2.2)
    have e9 : ((x.lines.length : Int) == 0) = false := by rw [beq_eq_false_iff_ne]; have := mt HLN.out.2 hf; omega
    refine abs_val (.bool false) rfl rfl rfl hrep (exec_bin .eql 3 3 _ (.const (.int .i64 0)) rfl (hrep.ev 106) rfl (eqgi) (eq_i64 _ _ _ e9 _)) ?_
    clear hrep
    intro A1 hrep
    repeat (refine abs_step (by rfl) hrep ?_; clear hrep; intro A1 hrep)
    refine lst_nil ?_
    have hd := hrep.df
    have hv := hrep.ev 2
    clear hrep
    go_wp2_with fail
    refine bodyPost_ret (results_tmp rfl _ _ _) hd ?_
    exact NO.out _ _ HN.out (congrArg Ending.returned hv) S.out.b
  have e9 : ((x.lines.length : Int) == 0) = true := by rw [beq_iff_eq]; have := HLN.out.1 hf; omega
  refine abs_val (.bool true) rfl rfl rfl hrep (exec_bin .eql 3 3 _ (.const (.int .i64 0)) rfl (hrep.ev 106) rfl (eqgi) (eq_i64 _ _ _ e9 _)) ?_
  clear hrep
  intro A1 hrep
  have Fl := Lib.hid hf
  clear hf
  repeat (refine abs_step (by rfl) hrep ?_; clear hrep; intro A1 hrep)
  refine lst_nil ?_
  have hd := hrep.df
  have hv := hrep.ev 2
  clear hrep
  go_wp2_with fail
  refine bodyPost_ret (results_tmp rfl _ _ _) hd ?_
  exact ⟨true, congrArg Ending.returned hv, by simp only [true_iff]; exact HZ.out.2 ⟨Ft.out, Fr.out, Fd.out, Fp.out, Fv.out, Fi.out, Fq.out, Fe.out, Fl.out⟩, S.out.b⟩
set_option maxRecDepth 100000 in
set_option maxHeartbeats 16000000 in
theorem zero_3 (w : World) (x : NOp) (A : Option Addr) (cap : Nat) (hx : x.ok) (hk : x.kind = 3) : Calls Tryd.prog 21 #[.agg (opA x (.slice A x.lines.length cap))] w (Tells w (bareN x = x)) := by
  have HZ : Hid (bareN x = x ↔ x.dest = 0 ∧ x.roles = 0 ∧ x.depth = 0 ∧ x.cap = 0 ∧ (x.ar = 0 ∧ x.an = 0) ∧ (x.vr = 0 ∧ x.vn = 0) ∧ x.lines = []) := Lib.hid (by
    rw [bare_iff, hk]
    exact ⟨fun h => ⟨(h.2.1 rfl).1, (h.2.1 rfl).2.1, (h.2.1 rfl).2.2.1, (h.2.1 rfl).2.2.2, h.2.2.1 rfl, h.2.2.2.1 rfl, h.2.2.2.2.2.2.2 rfl⟩, fun h => ⟨fun e => absurd e (by decide), fun _ => ⟨h.1, h.2.1, h.2.2.1, h.2.2.2.1⟩, fun _ => h.2.2.2.2.1, fun _ => h.2.2.2.2.2.1, fun e => absurd e (by decide), fun e => absurd e (by decide), fun e => absurd e (by decide), fun _ => h.2.2.2.2.2.2⟩⟩)
  have k0 := Blk.new w 30 (opA x (.slice A x.lines.length cap))
  have hb := (Below.refl w.heap.size w).alloc (Nat.le_refl _) (.cells (opA x (.slice A x.lines.length cap)) 30)
  have c14 := (k0.cell 14).trans (op_c14 x _ hx.dep8)
  rw [hk] at c14
  have X17 := Lib.hid (op_c17 x (.slice A x.lines.length cap) hx.dep8)
  have X18 := Lib.hid (op_c18 x (.slice A x.lines.length cap) hx.dep8)
  have X19 := Lib.hid (op_c19 x (.slice A x.lines.length cap) hx.dep8)
  have X20 := Lib.hid (op_c20 x (.slice A x.lines.length cap) hx.dep8)
  have X21 := Lib.hid (op_c21 x (.slice A x.lines.length cap) hx.dep8)
  have X22 := Lib.hid (op_c22 x (.slice A x.lines.length cap) hx.dep8)
  have Qa := Lib.hid (fun r hr W => eql_dot x.ar x.an 0 0 hx.ar hx.an (by omega) (by omega) r hr W)
  have X23 := Lib.hid (op_c23 x (.slice A x.lines.length cap) hx.dep8)
  have X24 := Lib.hid (op_c24 x (.slice A x.lines.length cap) hx.dep8)
  have Qv := Lib.hid (fun r hr W => eql_dot x.vr x.vn 0 0 hx.vr hx.vn (by omega) (by omega) r hr W)
  have X28 := Lib.hid (op_c28 x (.slice A x.lines.length cap) hx.dep8)
  have HA := Lib.hid (has_any (w.alloc (.cells (opA x (.slice A x.lines.length cap)) 30)) 3 (by omega))
  have K0 := Lib.hid k0
  have HB := Lib.hid hb
  have NO : Hid (∀ (e : Ending) (w' : World), ¬ bareN x = x → e = .returned (.bool false) → Below w.heap.size w w' → Tells w (bareN x = x) e w') := Lib.hid (fun e w' h1 h2 h3 => ⟨false, h2, by simp [h1], h3⟩)
  generalize hX : opA x (.slice A x.lines.length cap) = X at *
  have HLN : Hid (x.lines = [] ↔ x.lines.length = 0) := Lib.hid List.length_eq_zero_iff.symm
  clear hX k0 hb hx hk
  go_enter Tryd.func21, Tryd.ntmps21
  go_wp2_with fail
  refine HA.out.mono ?_
  rintro e w1 ⟨rfl, h1⟩
  have K1 := Lib.hid (K0.out.below h1 K0.out.lt)
  have B1 := Lib.hid (HB.out.trans (h1.mono HB.out.size))
  obtain ⟨t1, t3, tb⟩ := one_set w1 #[.int .u8 0, .int .u32 0] #[.int .u8 0, .int .u32 0] 24
  have T1 := Lib.hid t1
  have S : Hid (ZrW w X w1.heap.size _) := Lib.hid ⟨K1.out.below tb K1.out.lt, t3, B1.out.trans (tb.mono B1.out.size)⟩
  clear h1 c14 t1 t3 tb K0 HB K1 B1 HA
  rw [show hasF 3 = [99, 105, 113, 101] from rfl]
  go_upto_region 3 with (refine wpList_store_row rfl 24 _ _ rfl w1.heap.size #[.int .u8 0, .int .u32 0] rfl rfl 24 _ T1.out zdot_size rfl zdot_one ?_)
  refine lst_begin ?_
  intro A0 hA
  have h1 : A0.eval (.tmp 1) = .pointer (some ⟨w.heap.size, 0, none⟩) := by rw [hA]; rfl
  have h3 : A0.eval (.tmp 3) = .string ⟨([99, 105, 113, 101] : List UInt8).toArray⟩ := by rw [hA]; rfl
  have h4 : A0.eval (.tmp 4) = .pointer (some ⟨w1.heap.size, 0, none⟩) := by rw [hA]; rfl
  have hrep : Rep 110 A0 [] A0 := Rep.start (by rw [hA] <;> rfl) (by rw [hA] <;> rfl)
  clear hA
  generalize ((w1.alloc (.cells #[Value.int .u8 0, .int .u32 0] 24)).setRow w1.heap.size #[.int .u8 0, .int .u32 0]) = wc at *
  generalize w1.heap.size = gz at *
  clear T1
  repeat (refine abs_step (by rfl) hrep ?_; clear hrep; intro A1 hrep)
  refine abs_call rfl rfl rfl hrep (exec_call0 rfl rfl (map2 (hrep.ev 9 |>.trans h3) rfl) en23) ?_
  refine (in_any _ [99, 105, 113, 101] 99 (by simp)).mono ?_
  rintro _ wn ⟨rfl, hb⟩
  have S := Lib.hid (S.out.below hb)
  clear hb
  refine ⟨_, rfl, ?_⟩
  rw [show ([99, 105, 113, 101] : List UInt8).contains 99 = true from rfl]
  clear hrep
  intro A1 hrep
  repeat (refine abs_step (by rfl) hrep ?_; clear hrep; intro A1 hrep)
  refine abs_call rfl rfl rfl hrep (exec_call0 rfl rfl (map2 (hrep.ev 18 |>.trans h3) rfl) en23) ?_
  refine (in_any _ [99, 105, 113, 101] 116 (by simp)).mono ?_
  rintro _ wn ⟨rfl, hb⟩
  have S := Lib.hid (S.out.below hb)
  clear hb
  refine ⟨_, rfl, ?_⟩
  rw [show ([99, 105, 113, 101] : List UInt8).contains 116 = false from rfl]
  clear hrep
  intro A1 hrep
  repeat (refine abs_step (by rfl) hrep ?_; clear hrep; intro A1 hrep)
  refine abs_val (.pointer (some ⟨w.heap.size, 17, none⟩)) rfl rfl rfl hrep (exec_addr 30 _ 7 rfl ((hrep.ev 1).trans h1) fa7) ?_
  clear hrep
  intro A1 hrep
  refine abs_val (.int .u32 (x.dest : Int)) rfl rfl rfl hrep (exec_load1 22 _ rfl (hrep.ev 21) (ld22 ((S.out.k.cell 17).trans X17.out))) ?_
  clear hrep
  intro A1 hrep
  by_cases hf : x.dest = 0
  case neg =>
    have HN := Lib.hid (fun h => hf (HZ.out.1 h).1)
    have e9 : ((x.dest : Int) == 0) = false := by rw [beq_eq_false_iff_ne]; omega
    refine abs_val (.bool false) rfl rfl rfl hrep (exec_bin .eql 22 22 _ (.const (.int .u32 0)) rfl (hrep.ev 22) rfl (eqgi) (eq_u32 _ _ _ e9 _)) ?_
    clear hrep
    intro A1 hrep
    repeat (refine abs_step (by rfl) hrep ?_; clear hrep; intro A1 hrep)
    refine lst_nil ?_
    have hd := hrep.df
    have hv := hrep.ev 2
    clear hrep
    go_wp2_with fail
    refine bodyPost_ret (results_tmp rfl _ _ _) hd ?_
    exact NO.out _ _ HN.out (congrArg Ending.returned hv) S.out.b
  have e9 : ((x.dest : Int) == 0) = true := by rw [beq_iff_eq]; omega
  refine abs_val (.bool true) rfl rfl rfl hrep (exec_bin .eql 22 22 _ (.const (.int .u32 0)) rfl (hrep.ev 22) rfl (eqgi) (eq_u32 _ _ _ e9 _)) ?_
  clear hrep
  intro A1 hrep
  have Ft := Lib.hid hf
  clear hf
  repeat (refine abs_step (by rfl) hrep ?_; clear hrep; intro A1 hrep)
  refine abs_call rfl rfl rfl hrep (exec_call0 rfl rfl (map2 (hrep.ev 27 |>.trans h3) rfl) en23) ?_
  refine (in_any _ [99, 105, 113, 101] 114 (by simp)).mono ?_
  rintro _ wn ⟨rfl, hb⟩
  have S := Lib.hid (S.out.below hb)
  clear hb
  refine ⟨_, rfl, ?_⟩
  rw [show ([99, 105, 113, 101] : List UInt8).contains 114 = false from rfl]
  clear hrep
  intro A1 hrep
  repeat (refine abs_step (by rfl) hrep ?_; clear hrep; intro A1 hrep)
  refine abs_val (.pointer (some ⟨w.heap.size, 18, none⟩)) rfl rfl rfl hrep (exec_addr 30 _ 8 rfl ((hrep.ev 1).trans h1) fa8) ?_
  clear hrep
  intro A1 hrep
  refine abs_val (.int .u8 (x.roles : Int)) rfl rfl rfl hrep (exec_load1 5 _ rfl (hrep.ev 30) (ld5 ((S.out.k.cell 18).trans X18.out))) ?_
  clear hrep
  intro A1 hrep
  by_cases hf : x.roles = 0
  case neg =>
    have HN := Lib.hid (fun h => hf (HZ.out.1 h).2.1)
    have e9 : ((x.roles : Int) == 0) = false := by rw [beq_eq_false_iff_ne]; omega
    refine abs_val (.bool false) rfl rfl rfl hrep (exec_bin .eql 5 5 _ (.const (.int .u8 0)) rfl (hrep.ev 31) rfl (eqgi) (eq_u8 _ _ _ e9 _)) ?_
    clear hrep
    intro A1 hrep
    repeat (refine abs_step (by rfl) hrep ?_; clear hrep; intro A1 hrep)
    refine lst_nil ?_
    have hd := hrep.df
    have hv := hrep.ev 2
    clear hrep
    go_wp2_with fail
    refine bodyPost_ret (results_tmp rfl _ _ _) hd ?_
    exact NO.out _ _ HN.out (congrArg Ending.returned hv) S.out.b
  have e9 : ((x.roles : Int) == 0) = true := by rw [beq_iff_eq]; omega
  refine abs_val (.bool true) rfl rfl rfl hrep (exec_bin .eql 5 5 _ (.const (.int .u8 0)) rfl (hrep.ev 31) rfl (eqgi) (eq_u8 _ _ _ e9 _)) ?_
  clear hrep
  intro A1 hrep
  have Fr := Lib.hid hf
  clear hf
  repeat (refine abs_step (by rfl) hrep ?_; clear hrep; intro A1 hrep)
  refine abs_call rfl rfl rfl hrep (exec_call0 rfl rfl (map2 (hrep.ev 36 |>.trans h3) rfl) en23) ?_
  refine (in_any _ [99, 105, 113, 101] 100 (by simp)).mono ?_
  rintro _ wn ⟨rfl, hb⟩
  have S := Lib.hid (S.out.below hb)
  clear hb
  refine ⟨_, rfl, ?_⟩
  rw [show ([99, 105, 113, 101] : List UInt8).contains 100 = false from rfl]
  clear hrep
  intro A1 hrep
  repeat (refine abs_step (by rfl) hrep ?_; clear hrep; intro A1 hrep)
  refine abs_val (.pointer (some ⟨w.heap.size, 19, none⟩)) rfl rfl rfl hrep (exec_addr 30 _ 9 rfl ((hrep.ev 1).trans h1) fa9) ?_
  clear hrep
  intro A1 hrep
  refine abs_val (.int .u8 (x.depth : Int)) rfl rfl rfl hrep (exec_load1 5 _ rfl (hrep.ev 39) (ld5 ((S.out.k.cell 19).trans X19.out))) ?_
  clear hrep
  intro A1 hrep
  by_cases hf : x.depth = 0
  case neg =>
    have HN := Lib.hid (fun h => hf (HZ.out.1 h).2.2.1)
    have e9 : ((x.depth : Int) == 0) = false := by rw [beq_eq_false_iff_ne]; omega
    refine abs_val (.bool false) rfl rfl rfl hrep (exec_bin .eql 5 5 _ (.const (.int .u8 0)) rfl (hrep.ev 40) rfl (eqgi) (eq_u8 _ _ _ e9 _)) ?_
    clear hrep
    intro A1 hrep
    repeat (refine abs_step (by rfl) hrep ?_; clear hrep; intro A1 hrep)
    refine lst_nil ?_
    have hd := hrep.df
    have hv := hrep.ev 2
    clear hrep
    go_wp2_with fail
    refine bodyPost_ret (results_tmp rfl _ _ _) hd ?_
    exact NO.out _ _ HN.out (congrArg Ending.returned hv) S.out.b
  have e9 : ((x.depth : Int) == 0) = true := by rw [beq_iff_eq]; omega
  refine abs_val (.bool true) rfl rfl rfl hrep (exec_bin .eql 5 5 _ (.const (.int .u8 0)) rfl (hrep.ev 40) rfl (eqgi) (eq_u8 _ _ _ e9 _)) ?_
  clear hrep
  intro A1 hrep
  have Fd := Lib.hid hf
  clear hf
  repeat (refine abs_step (by rfl) hrep ?_; clear hrep; intro A1 hrep)
  refine abs_call rfl rfl rfl hrep (exec_call0 rfl rfl (map2 (hrep.ev 45 |>.trans h3) rfl) en23) ?_
  refine (in_any _ [99, 105, 113, 101] 112 (by simp)).mono ?_
  rintro _ wn ⟨rfl, hb⟩
  have S := Lib.hid (S.out.below hb)
  clear hb
  refine ⟨_, rfl, ?_⟩
  rw [show ([99, 105, 113, 101] : List UInt8).contains 112 = false from rfl]
  clear hrep
  intro A1 hrep
  repeat (refine abs_step (by rfl) hrep ?_; clear hrep; intro A1 hrep)
  refine abs_val (.pointer (some ⟨w.heap.size, 20, none⟩)) rfl rfl rfl hrep (exec_addr 30 _ 10 rfl ((hrep.ev 1).trans h1) fa10) ?_
  clear hrep
  intro A1 hrep
  refine abs_val (.int .u64 (x.cap : Int)) rfl rfl rfl hrep (exec_load1 27 _ rfl (hrep.ev 48) (ld80 ((S.out.k.cell 20).trans X20.out))) ?_
  clear hrep
  intro A1 hrep
  by_cases hf : x.cap = 0
  case neg =>
    have HN := Lib.hid (fun h => hf (HZ.out.1 h).2.2.2.1)
    have e9 : ((x.cap : Int) == 0) = false := by rw [beq_eq_false_iff_ne]; omega
    refine abs_val (.bool false) rfl rfl rfl hrep (exec_bin .eql 27 27 _ (.const (.int .u64 0)) rfl (hrep.ev 49) rfl (eqgi) (eq_u64 _ _ _ e9 _)) ?_
    clear hrep
    intro A1 hrep
    repeat (refine abs_step (by rfl) hrep ?_; clear hrep; intro A1 hrep)
    refine lst_nil ?_
    have hd := hrep.df
    have hv := hrep.ev 2
    clear hrep
    go_wp2_with fail
    refine bodyPost_ret (results_tmp rfl _ _ _) hd ?_
    exact NO.out _ _ HN.out (congrArg Ending.returned hv) S.out.b
  have e9 : ((x.cap : Int) == 0) = true := by rw [beq_iff_eq]; omega
  refine abs_val (.bool true) rfl rfl rfl hrep (exec_bin .eql 27 27 _ (.const (.int .u64 0)) rfl (hrep.ev 49) rfl (eqgi) (eq_u64 _ _ _ e9 _)) ?_
  clear hrep
  intro A1 hrep
  have Fp := Lib.hid hf
  clear hf
  repeat (refine abs_step (by rfl) hrep ?_; clear hrep; intro A1 hrep)
  refine abs_call rfl rfl rfl hrep (exec_call0 rfl rfl (map2 (hrep.ev 54 |>.trans h3) rfl) en23) ?_
  refine (in_any _ [99, 105, 113, 101] 97 (by simp)).mono ?_
  rintro _ wn ⟨rfl, hb⟩
  have S := Lib.hid (S.out.below hb)
  clear hb
  refine ⟨_, rfl, ?_⟩
  rw [show ([99, 105, 113, 101] : List UInt8).contains 97 = false from rfl]
  clear hrep
  intro A1 hrep
  repeat (refine abs_step (by rfl) hrep ?_; clear hrep; intro A1 hrep)
  refine abs_val (.pointer (some ⟨w.heap.size, 21, none⟩)) rfl rfl rfl hrep (exec_addr 30 _ 11 rfl ((hrep.ev 1).trans h1) fa11) ?_
  clear hrep
  intro A1 hrep
  refine abs_val (.agg #[.int .u8 (x.ar : Int), .int .u32 (x.an : Int)]) rfl rfl rfl hrep (exec_load1 24 _ rfl (hrep.ev 57) (ld82 (o := 21) ((S.out.k.cell 21).trans X21.out) ((S.out.k.cell 22).trans X22.out))) ?_
  clear hrep
  intro A1 hrep
  refine abs_val (.agg #[.int .u8 0, .int .u32 0]) rfl rfl rfl hrep (exec_load1 24 _ rfl ((hrep.ev 4).trans h4) (lit82 S.out.z)) ?_
  clear hrep
  intro A1 hrep
  by_cases hf : x.ar = 0 ∧ x.an = 0
  case neg =>
    have HN := Lib.hid (fun h => hf (HZ.out.1 h).2.2.2.2.1)
    refine abs_val (.bool false) rfl rfl rfl hrep (exec_bin .eql 24 24 _ _ rfl (hrep.ev 58) (hrep.ev 59) (eqg_agg _ _ _ _ _ _ _ eqt82) (Qa.out false (by simp [hf]) _)) ?_
    clear hrep
    intro A1 hrep
    repeat (refine abs_step (by rfl) hrep ?_; clear hrep; intro A1 hrep)
    refine lst_nil ?_
    have hd := hrep.df
    have hv := hrep.ev 2
    clear hrep
    go_wp2_with fail
    refine bodyPost_ret (results_tmp rfl _ _ _) hd ?_
    exact NO.out _ _ HN.out (congrArg Ending.returned hv) S.out.b
  refine abs_val (.bool true) rfl rfl rfl hrep (exec_bin .eql 24 24 _ _ rfl (hrep.ev 58) (hrep.ev 59) (eqg_agg _ _ _ _ _ _ _ eqt82) (Qa.out true (by simp [hf]) _)) ?_
  clear hrep
  intro A1 hrep
  have Fa := Lib.hid hf
  clear hf
  repeat (refine abs_step (by rfl) hrep ?_; clear hrep; intro A1 hrep)
  refine abs_call rfl rfl rfl hrep (exec_call0 rfl rfl (map2 (hrep.ev 64 |>.trans h3) rfl) en23) ?_
  refine (in_any _ [99, 105, 113, 101] 118 (by simp)).mono ?_
  rintro _ wn ⟨rfl, hb⟩
  have S := Lib.hid (S.out.below hb)
  clear hb
  refine ⟨_, rfl, ?_⟩
  rw [show ([99, 105, 113, 101] : List UInt8).contains 118 = false from rfl]
  clear hrep
  intro A1 hrep
  repeat (refine abs_step (by rfl) hrep ?_; clear hrep; intro A1 hrep)
  refine abs_val (.pointer (some ⟨w.heap.size, 23, none⟩)) rfl rfl rfl hrep (exec_addr 30 _ 12 rfl ((hrep.ev 1).trans h1) fa12) ?_
  clear hrep
  intro A1 hrep
  refine abs_val (.agg #[.int .u8 (x.vr : Int), .int .u32 (x.vn : Int)]) rfl rfl rfl hrep (exec_load1 24 _ rfl (hrep.ev 67) (ld82 (o := 23) ((S.out.k.cell 23).trans X23.out) ((S.out.k.cell 24).trans X24.out))) ?_
  clear hrep
  intro A1 hrep
  refine abs_val (.agg #[.int .u8 0, .int .u32 0]) rfl rfl rfl hrep (exec_load1 24 _ rfl ((hrep.ev 4).trans h4) (lit82 S.out.z)) ?_
  clear hrep
  intro A1 hrep
  by_cases hf : x.vr = 0 ∧ x.vn = 0
  case neg =>
    have HN := Lib.hid (fun h => hf (HZ.out.1 h).2.2.2.2.2.1)
    refine abs_val (.bool false) rfl rfl rfl hrep (exec_bin .eql 24 24 _ _ rfl (hrep.ev 68) (hrep.ev 69) (eqg_agg _ _ _ _ _ _ _ eqt82) (Qv.out false (by simp [hf]) _)) ?_
    clear hrep
    intro A1 hrep
    repeat (refine abs_step (by rfl) hrep ?_; clear hrep; intro A1 hrep)
    refine lst_nil ?_
    have hd := hrep.df
    have hv := hrep.ev 2
    clear hrep
    go_wp2_with fail
    refine bodyPost_ret (results_tmp rfl _ _ _) hd ?_
    exact NO.out _ _ HN.out (congrArg Ending.returned hv) S.out.b
  refine abs_val (.bool true) rfl rfl rfl hrep (exec_bin .eql 24 24 _ _ rfl (hrep.ev 68) (hrep.ev 69) (eqg_agg _ _ _ _ _ _ _ eqt82) (Qv.out true (by simp [hf]) _)) ?_
  clear hrep
  intro A1 hrep
  have Fv := Lib.hid hf
  clear hf
  repeat (refine abs_step (by rfl) hrep ?_; clear hrep; intro A1 hrep)
  refine abs_call rfl rfl rfl hrep (exec_call0 rfl rfl (map2 (hrep.ev 74 |>.trans h3) rfl) en23) ?_
  refine (in_any _ [99, 105, 113, 101] 105 (by simp)).mono ?_
  rintro _ wn ⟨rfl, hb⟩
  have S := Lib.hid (S.out.below hb)
  clear hb
  refine ⟨_, rfl, ?_⟩
  rw [show ([99, 105, 113, 101] : List UInt8).contains 105 = true from rfl]
  clear hrep
  intro A1 hrep
  repeat (refine abs_step (by rfl) hrep ?_; clear hrep; intro A1 hrep)
  refine abs_call rfl rfl rfl hrep (exec_call0 rfl rfl (map2 (hrep.ev 83 |>.trans h3) rfl) en23) ?_
  refine (in_any _ [99, 105, 113, 101] 113 (by simp)).mono ?_
  rintro _ wn ⟨rfl, hb⟩
  have S := Lib.hid (S.out.below hb)
  clear hb
  refine ⟨_, rfl, ?_⟩
  rw [show ([99, 105, 113, 101] : List UInt8).contains 113 = true from rfl]
  clear hrep
  intro A1 hrep
  repeat (refine abs_step (by rfl) hrep ?_; clear hrep; intro A1 hrep)
  refine abs_call rfl rfl rfl hrep (exec_call0 rfl rfl (map2 (hrep.ev 92 |>.trans h3) rfl) en23) ?_
  refine (in_any _ [99, 105, 113, 101] 101 (by simp)).mono ?_
  rintro _ wn ⟨rfl, hb⟩
  have S := Lib.hid (S.out.below hb)
  clear hb
  refine ⟨_, rfl, ?_⟩
  rw [show ([99, 105, 113, 101] : List UInt8).contains 101 = true from rfl]
  clear hrep
  intro A1 hrep
  repeat (refine abs_step (by rfl) hrep ?_; clear hrep; intro A1 hrep)
  refine abs_call rfl rfl rfl hrep (exec_call0 rfl rfl (map2 (hrep.ev 101 |>.trans h3) rfl) en23) ?_
  refine (in_any _ [99, 105, 113, 101] 108 (by simp)).mono ?_
  rintro _ wn ⟨rfl, hb⟩
  have S := Lib.hid (S.out.below hb)
  clear hb
  refine ⟨_, rfl, ?_⟩
  rw [show ([99, 105, 113, 101] : List UInt8).contains 108 = false from rfl]
  clear hrep
  intro A1 hrep
  repeat (refine abs_step (by rfl) hrep ?_; clear hrep; intro A1 hrep)
  refine abs_val (.pointer (some ⟨w.heap.size, 28, none⟩)) rfl rfl rfl hrep (exec_addr 30 _ 16 rfl ((hrep.ev 1).trans h1) fa16) ?_
  clear hrep
  intro A1 hrep
  refine abs_val (.slice A x.lines.length cap) rfl rfl rfl hrep (exec_load1 28 _ rfl (hrep.ev 104) (ld120 ((S.out.k.cell 28).trans X28.out))) ?_
  clear hrep
  intro A1 hrep
  refine abs_val (.int .i64 (x.lines.length : Int)) rfl rfl rfl hrep (exec_len28 rfl (hrep.ev 105)) ?_
  clear hrep
  intro A1 hrep
  by_cases hf : x.lines = []
  case neg =>
    have HN := Lib.hid (fun h => hf (HZ.out.1 h).2.2.2.2.2.2)
    have e9 : ((x.lines.length : Int) == 0) = false := by rw [beq_eq_false_iff_ne]; have := mt HLN.out.2 hf; omega
    refine abs_val (.bool false) rfl rfl rfl hrep (exec_bin .eql 3 3 _ (.const (.int .i64 0)) rfl (hrep.ev 106) rfl (eqgi) (eq_i64 _ _ _ e9 _)) ?_
    clear hrep
    intro A1 hrep
    repeat (refine abs_step (by rfl) hrep ?_; clear hrep; intro A1 hrep)
    refine lst_nil ?_
    have hd := hrep.df
    have hv := hrep.ev 2
    clear hrep
    go_wp2_with fail
    refine bodyPost_ret (results_tmp rfl _ _ _) hd ?_
    exact NO.out _ _ HN.out (congrArg Ending.returned hv) S.out.b
  have e9 : ((x.lines.length : Int) == 0) = true := by rw [beq_iff_eq]; have := HLN.out.1 hf; omega
  refine abs_val (.bool true) rfl rfl rfl hrep (exec_bin .eql 3 3 _ (.const (.int .i64 0)) rfl (hrep.ev 106) rfl (eqgi) (eq_i64 _ _ _ e9 _)) ?_
  clear hrep
  intro A1 hrep
  have Fl := Lib.hid hf
  clear hf
  repeat (refine abs_step (by rfl) hrep ?_; clear hrep; intro A1 hrep)
  refine lst_nil ?_
  have hd := hrep.df
  have hv := hrep.ev 2
  clear hrep
  go_wp2_with fail
  refine bodyPost_ret (results_tmp rfl _ _ _) hd ?_
  exact ⟨true, congrArg Ending.returned hv, by simp only [true_iff]; exact HZ.out.2 ⟨Ft.out, Fr.out, Fd.out, Fp.out, Fa.out, Fv.out, Fl.out⟩, S.out.b⟩
set_option maxRecDepth 100000 in
set_option maxHeartbeats 16000000 in
theorem zero_4 (w : World) (x : NOp) (A : Option Addr) (cap : Nat) (hx : x.ok) (hk : x.kind = 4) : Calls Tryd.prog 21 #[.agg (opA x (.slice A x.lines.length cap))] w (Tells w (bareN x = x)) := by
  have HZ : Hid (bareN x = x ↔ x.dest = 0 ∧ x.roles = 0 ∧ x.depth = 0 ∧ x.cap = 0 ∧ (x.vr = 0 ∧ x.vn = 0) ∧ x.item = 0 ∧ x.price = 0 ∧ x.lines = []) := Lib.hid (by
    rw [bare_iff, hk]
    exact ⟨fun h => ⟨(h.2.1 rfl).1, (h.2.1 rfl).2.1, (h.2.1 rfl).2.2.1, (h.2.1 rfl).2.2.2, h.2.2.2.1 rfl, h.2.2.2.2.1 rfl, h.2.2.2.2.2.2.1 rfl, h.2.2.2.2.2.2.2 rfl⟩, fun h => ⟨fun e => absurd e (by decide), fun _ => ⟨h.1, h.2.1, h.2.2.1, h.2.2.2.1⟩, fun e => absurd e (by decide), fun _ => h.2.2.2.2.1, fun _ => h.2.2.2.2.2.1, fun e => absurd e (by decide), fun _ => h.2.2.2.2.2.2.1, fun _ => h.2.2.2.2.2.2.2⟩⟩)
  have k0 := Blk.new w 30 (opA x (.slice A x.lines.length cap))
  have hb := (Below.refl w.heap.size w).alloc (Nat.le_refl _) (.cells (opA x (.slice A x.lines.length cap)) 30)
  have c14 := (k0.cell 14).trans (op_c14 x _ hx.dep8)
  rw [hk] at c14
  have X17 := Lib.hid (op_c17 x (.slice A x.lines.length cap) hx.dep8)
  have X18 := Lib.hid (op_c18 x (.slice A x.lines.length cap) hx.dep8)
  have X19 := Lib.hid (op_c19 x (.slice A x.lines.length cap) hx.dep8)
  have X20 := Lib.hid (op_c20 x (.slice A x.lines.length cap) hx.dep8)
  have X23 := Lib.hid (op_c23 x (.slice A x.lines.length cap) hx.dep8)
  have X24 := Lib.hid (op_c24 x (.slice A x.lines.length cap) hx.dep8)
  have Qv := Lib.hid (fun r hr W => eql_dot x.vr x.vn 0 0 hx.vr hx.vn (by omega) (by omega) r hr W)
  have X25 := Lib.hid (op_c25 x (.slice A x.lines.length cap) hx.dep8)
  have X27 := Lib.hid (op_c27 x (.slice A x.lines.length cap) hx.dep8)
  have X28 := Lib.hid (op_c28 x (.slice A x.lines.length cap) hx.dep8)
  have HA := Lib.hid (has_any (w.alloc (.cells (opA x (.slice A x.lines.length cap)) 30)) 4 (by omega))
  have K0 := Lib.hid k0
  have HB := Lib.hid hb
  have NO : Hid (∀ (e : Ending) (w' : World), ¬ bareN x = x → e = .returned (.bool false) → Below w.heap.size w w' → Tells w (bareN x = x) e w') := Lib.hid (fun e w' h1 h2 h3 => ⟨false, h2, by simp [h1], h3⟩)
  generalize hX : opA x (.slice A x.lines.length cap) = X at *
  have HLN : Hid (x.lines = [] ↔ x.lines.length = 0) := Lib.hid List.length_eq_zero_iff.symm
  clear hX k0 hb hx hk
  go_enter Tryd.func21, Tryd.ntmps21
  go_wp2_with fail
  refine HA.out.mono ?_
  rintro e w1 ⟨rfl, h1⟩
  have K1 := Lib.hid (K0.out.below h1 K0.out.lt)
  have B1 := Lib.hid (HB.out.trans (h1.mono HB.out.size))
  obtain ⟨t1, t3, tb⟩ := one_set w1 #[.int .u8 0, .int .u32 0] #[.int .u8 0, .int .u32 0] 24
  have T1 := Lib.hid t1
  have S : Hid (ZrW w X w1.heap.size _) := Lib.hid ⟨K1.out.below tb K1.out.lt, t3, B1.out.trans (tb.mono B1.out.size)⟩
  clear h1 c14 t1 t3 tb K0 HB K1 B1 HA
  rw [show hasF 4 = [99, 97, 113] from rfl]
  go_upto_region 3 with (refine wpList_store_row rfl 24 _ _ rfl w1.heap.size #[.int .u8 0, .int .u32 0] rfl rfl 24 _ T1.out zdot_size rfl zdot_one ?_)
  refine lst_begin ?_
  intro A0 hA
  have h1 : A0.eval (.tmp 1) = .pointer (some ⟨w.heap.size, 0, none⟩) := by rw [hA]; rfl
  have h3 : A0.eval (.tmp 3) = .string ⟨([99, 97, 113] : List UInt8).toArray⟩ := by rw [hA]; rfl
  have h4 : A0.eval (.tmp 4) = .pointer (some ⟨w1.heap.size, 0, none⟩) := by rw [hA]; rfl
  have hrep : Rep 110 A0 [] A0 := Rep.start (by rw [hA] <;> rfl) (by rw [hA] <;> rfl)
  clear hA
  generalize ((w1.alloc (.cells #[Value.int .u8 0, .int .u32 0] 24)).setRow w1.heap.size #[.int .u8 0, .int .u32 0]) = wc at *
  generalize w1.heap.size = gz at *
  clear T1
  repeat (refine abs_step (by rfl) hrep ?_; clear hrep; intro A1 hrep)
  refine abs_call rfl rfl rfl hrep (exec_call0 rfl rfl (map2 (hrep.ev 9 |>.trans h3) rfl) en23) ?_
  refine (in_any _ [99, 97, 113] 99 (by simp)).mono ?_
  rintro _ wn ⟨rfl, hb⟩
  have S := Lib.hid (S.out.below hb)
  clear hb
  refine ⟨_, rfl, ?_⟩
  rw [show ([99, 97, 113] : List UInt8).contains 99 = true from rfl]
  clear hrep
  intro A1 hrep
  repeat (refine abs_step (by rfl) hrep ?_; clear hrep; intro A1 hrep)
  refine abs_call rfl rfl rfl hrep (exec_call0 rfl rfl (map2 (hrep.ev 18 |>.trans h3) rfl) en23) ?_
  refine (in_any _ [99, 97, 113] 116 (by simp)).mono ?_
  rintro _ wn ⟨rfl, hb⟩
  have S := Lib.hid (S.out.below hb)
  clear hb
  refine ⟨_, rfl, ?_⟩
  rw [show ([99, 97, 113] : List UInt8).contains 116 = false from rfl]
  clear hrep
  intro A1 hrep
  repeat (refine abs_step (by rfl) hrep ?_; clear hrep; intro A1 hrep)
  refine abs_val (.pointer (some ⟨w.heap.size, 17, none⟩)) rfl rfl rfl hrep (exec_addr 30 _ 7 rfl ((hrep.ev 1).trans h1) fa7) ?_
  clear hrep
  intro A1 hrep
  refine abs_val (.int .u32 (x.dest : Int)) rfl rfl rfl hrep (exec_load1 22 _ rfl (hrep.ev 21) (ld22 ((S.out.k.cell 17).trans X17.out))) ?_
  clear hrep
  intro A1 hrep
  by_cases hf : x.dest = 0
  case neg =>
    have HN := Lib.hid (fun h => hf (HZ.out.1 h).1)
    have e9 : ((x.dest : Int) == 0) = false := by rw [beq_eq_false_iff_ne]; omega
    refine abs_val (.bool false) rfl rfl rfl hrep (exec_bin .eql 22 22 _ (.const (.int .u32 0)) rfl (hrep.ev 22) rfl (eqgi) (eq_u32 _ _ _ e9 _)) ?_
    clear hrep
    intro A1 hrep
    repeat (refine abs_step (by rfl) hrep ?_; clear hrep; intro A1 hrep)
    refine lst_nil ?_
    have hd := hrep.df
    have hv := hrep.ev 2
    clear hrep
    go_wp2_with fail
    refine bodyPost_ret (results_tmp rfl _ _ _) hd ?_
    exact NO.out _ _ HN.out (congrArg Ending.returned hv) S.out.b
  have e9 : ((x.dest : Int) == 0) = true := by rw [beq_iff_eq]; omega
  refine abs_val (.bool true) rfl rfl rfl hrep (exec_bin .eql 22 22 _ (.const (.int .u32 0)) rfl (hrep.ev 22) rfl (eqgi) (eq_u32 _ _ _ e9 _)) ?_
  clear hrep
  intro A1 hrep
  have Ft := Lib.hid hf
  clear hf
  repeat (refine abs_step (by rfl) hrep ?_; clear hrep; intro A1 hrep)
  refine abs_call rfl rfl rfl hrep (exec_call0 rfl rfl (map2 (hrep.ev 27 |>.trans h3) rfl) en23) ?_
  refine (in_any _ [99, 97, 113] 114 (by simp)).mono ?_
  rintro _ wn ⟨rfl, hb⟩
  have S := Lib.hid (S.out.below hb)
  clear hb
  refine ⟨_, rfl, ?_⟩
  rw [show ([99, 97, 113] : List UInt8).contains 114 = false from rfl]
  clear hrep
  intro A1 hrep
  repeat (refine abs_step (by rfl) hrep ?_; clear hrep; intro A1 hrep)
  refine abs_val (.pointer (some ⟨w.heap.size, 18, none⟩)) rfl rfl rfl hrep (exec_addr 30 _ 8 rfl ((hrep.ev 1).trans h1) fa8) ?_
  clear hrep
  intro A1 hrep
  refine abs_val (.int .u8 (x.roles : Int)) rfl rfl rfl hrep (exec_load1 5 _ rfl (hrep.ev 30) (ld5 ((S.out.k.cell 18).trans X18.out))) ?_
  clear hrep
  intro A1 hrep
  by_cases hf : x.roles = 0
  case neg =>
    have HN := Lib.hid (fun h => hf (HZ.out.1 h).2.1)
    have e9 : ((x.roles : Int) == 0) = false := by rw [beq_eq_false_iff_ne]; omega
    refine abs_val (.bool false) rfl rfl rfl hrep (exec_bin .eql 5 5 _ (.const (.int .u8 0)) rfl (hrep.ev 31) rfl (eqgi) (eq_u8 _ _ _ e9 _)) ?_
    clear hrep
    intro A1 hrep
    repeat (refine abs_step (by rfl) hrep ?_; clear hrep; intro A1 hrep)
    refine lst_nil ?_
    have hd := hrep.df
    have hv := hrep.ev 2
    clear hrep
    go_wp2_with fail
    refine bodyPost_ret (results_tmp rfl _ _ _) hd ?_
    exact NO.out _ _ HN.out (congrArg Ending.returned hv) S.out.b
  have e9 : ((x.roles : Int) == 0) = true := by rw [beq_iff_eq]; omega
  refine abs_val (.bool true) rfl rfl rfl hrep (exec_bin .eql 5 5 _ (.const (.int .u8 0)) rfl (hrep.ev 31) rfl (eqgi) (eq_u8 _ _ _ e9 _)) ?_
  clear hrep
  intro A1 hrep
  have Fr := Lib.hid hf
  clear hf
  repeat (refine abs_step (by rfl) hrep ?_; clear hrep; intro A1 hrep)
  refine abs_call rfl rfl rfl hrep (exec_call0 rfl rfl (map2 (hrep.ev 36 |>.trans h3) rfl) en23) ?_
  refine (in_any _ [99, 97, 113] 100 (by simp)).mono ?_
  rintro _ wn ⟨rfl, hb⟩
  have S := Lib.hid (S.out.below hb)
  clear hb
  refine ⟨_, rfl, ?_⟩
  rw [show ([99, 97, 113] : List UInt8).contains 100 = false from rfl]
  clear hrep
  intro A1 hrep
  repeat (refine abs_step (by rfl) hrep ?_; clear hrep; intro A1 hrep)
  refine abs_val (.pointer (some ⟨w.heap.size, 19, none⟩)) rfl rfl rfl hrep (exec_addr 30 _ 9 rfl ((hrep.ev 1).trans h1) fa9) ?_
  clear hrep
  intro A1 hrep
  refine abs_val (.int .u8 (x.depth : Int)) rfl rfl rfl hrep (exec_load1 5 _ rfl (hrep.ev 39) (ld5 ((S.out.k.cell 19).trans X19.out))) ?_
  clear hrep
  intro A1 hrep
  by_cases hf : x.depth = 0
  case neg =>
    have HN := Lib.hid (fun h => hf (HZ.out.1 h).2.2.1)
    have e9 : ((x.depth : Int) == 0) = false := by rw [beq_eq_false_iff_ne]; omega
    refine abs_val (.bool false) rfl rfl rfl hrep (exec_bin .eql 5 5 _ (.const (.int .u8 0)) rfl (hrep.ev 40) rfl (eqgi) (eq_u8 _ _ _ e9 _)) ?_
    clear hrep
    intro A1 hrep
    repeat (refine abs_step (by rfl) hrep ?_; clear hrep; intro A1 hrep)
    refine lst_nil ?_
    have hd := hrep.df
    have hv := hrep.ev 2
    clear hrep
    go_wp2_with fail
    refine bodyPost_ret (results_tmp rfl _ _ _) hd ?_
    exact NO.out _ _ HN.out (congrArg Ending.returned hv) S.out.b
  have e9 : ((x.depth : Int) == 0) = true := by rw [beq_iff_eq]; omega
  refine abs_val (.bool true) rfl rfl rfl hrep (exec_bin .eql 5 5 _ (.const (.int .u8 0)) rfl (hrep.ev 40) rfl (eqgi) (eq_u8 _ _ _ e9 _)) ?_
  clear hrep
  intro A1 hrep
  have Fd := Lib.hid hf
  clear hf
  repeat (refine abs_step (by rfl) hrep ?_; clear hrep; intro A1 hrep)
  refine abs_call rfl rfl rfl hrep (exec_call0 rfl rfl (map2 (hrep.ev 45 |>.trans h3) rfl) en23) ?_
  refine (in_any _ [99, 97, 113] 112 (by simp)).mono ?_
  rintro _ wn ⟨rfl, hb⟩
  have S := Lib.hid (S.out.below hb)
  clear hb
  refine ⟨_, rfl, ?_⟩
  rw [show ([99, 97, 113] : List UInt8).contains 112 = false from rfl]
  clear hrep
  intro A1 hrep
  repeat (refine abs_step (by rfl) hrep ?_; clear hrep; intro A1 hrep)
  refine abs_val (.pointer (some ⟨w.heap.size, 20, none⟩)) rfl rfl rfl hrep (exec_addr 30 _ 10 rfl ((hrep.ev 1).trans h1) fa10) ?_
  clear hrep
  intro A1 hrep
  refine abs_val (.int .u64 (x.cap : Int)) rfl rfl rfl hrep (exec_load1 27 _ rfl (hrep.ev 48) (ld80 ((S.out.k.cell 20).trans X20.out))) ?_
  clear hrep
  intro A1 hrep
  by_cases hf : x.cap = 0
  case neg =>
    have HN := Lib.hid (fun h => hf (HZ.out.1 h).2.2.2.1)
    have e9 : ((x.cap : Int) == 0) = false := by rw [beq_eq_false_iff_ne]; omega
    refine abs_val (.bool false) rfl rfl rfl hrep (exec_bin .eql 27 27 _ (.const (.int .u64 0)) rfl (hrep.ev 49) rfl (eqgi) (eq_u64 _ _ _ e9 _)) ?_
    clear hrep
    intro A1 hrep
    repeat (refine abs_step (by rfl) hrep ?_; clear hrep; intro A1 hrep)
    refine lst_nil ?_
    have hd := hrep.df
    have hv := hrep.ev 2
    clear hrep
    go_wp2_with fail
    refine bodyPost_ret (results_tmp rfl _ _ _) hd ?_
    exact NO.out _ _ HN.out (congrArg Ending.returned hv) S.out.b
  have e9 : ((x.cap : Int) == 0) = true := by rw [beq_iff_eq]; omega
  refine abs_val (.bool true) rfl rfl rfl hrep (exec_bin .eql 27 27 _ (.const (.int .u64 0)) rfl (hrep.ev 49) rfl (eqgi) (eq_u64 _ _ _ e9 _)) ?_
  clear hrep
  intro A1 hrep
  have Fp := Lib.hid hf
  clear hf
  repeat (refine abs_step (by rfl) hrep ?_; clear hrep; intro A1 hrep)
  refine abs_call rfl rfl rfl hrep (exec_call0 rfl rfl (map2 (hrep.ev 54 |>.trans h3) rfl) en23) ?_
  refine (in_any _ [99, 97, 113] 97 (by simp)).mono ?_
  rintro _ wn ⟨rfl, hb⟩
  have S := Lib.hid (S.out.below hb)
  clear hb
  refine ⟨_, rfl, ?_⟩
  rw [show ([99, 97, 113] : List UInt8).contains 97 = true from rfl]
  clear hrep
  intro A1 hrep
  repeat (refine abs_step (by rfl) hrep ?_; clear hrep; intro A1 hrep)
  refine abs_call rfl rfl rfl hrep (exec_call0 rfl rfl (map2 (hrep.ev 64 |>.trans h3) rfl) en23) ?_
  refine (in_any _ [99, 97, 113] 118 (by simp)).mono ?_
  rintro _ wn ⟨rfl, hb⟩
  have S := Lib.hid (S.out.below hb)
  clear hb
  refine ⟨_, rfl, ?_⟩
  rw [show ([99, 97, 113] : List UInt8).contains 118 = false from rfl]
  clear hrep
  intro A1 hrep
  repeat (refine abs_step (by rfl) hrep ?_; clear hrep; intro A1 hrep)
  refine abs_val (.pointer (some ⟨w.heap.size, 23, none⟩)) rfl rfl rfl hrep (exec_addr 30 _ 12 rfl ((hrep.ev 1).trans h1) fa12) ?_
  clear hrep
  intro A1 hrep
  refine abs_val (.agg #[.int .u8 (x.vr : Int), .int .u32 (x.vn : Int)]) rfl rfl rfl hrep (exec_load1 24 _ rfl (hrep.ev 67) (ld82 (o := 23) ((S.out.k.cell 23).trans X23.out) ((S.out.k.cell 24).trans X24.out))) ?_
  clear hrep
  intro A1 hrep
  refine abs_val (.agg #[.int .u8 0, .int .u32 0]) rfl rfl rfl hrep (exec_load1 24 _ rfl ((hrep.ev 4).trans h4) (lit82 S.out.z)) ?_
  clear hrep
  intro A1 hrep
  by_cases hf : x.vr = 0 ∧ x.vn = 0
  case neg =>
    have HN := Lib.hid (fun h => hf (HZ.out.1 h).2.2.2.2.1)
    refine abs_val (.bool false) rfl rfl rfl hrep (exec_bin .eql 24 24 _ _ rfl (hrep.ev 68) (hrep.ev 69) (eqg_agg _ _ _ _ _ _ _ eqt82) (Qv.out false (by simp [hf]) _)) ?_
    clear hrep
    intro A1 hrep
    repeat (refine abs_step (by rfl) hrep ?_; clear hrep; intro A1 hrep)
    refine lst_nil ?_
    have hd := hrep.df
    have hv := hrep.ev 2
    clear hrep
    go_wp2_with fail
    refine bodyPost_ret (results_tmp rfl _ _ _) hd ?_
    exact NO.out _ _ HN.out (congrArg Ending.returned hv) S.out.b
  refine abs_val (.bool true) rfl rfl rfl hrep (exec_bin .eql 24 24 _ _ rfl (hrep.ev 68) (hrep.ev 69) (eqg_agg _ _ _ _ _ _ _ eqt82) (Qv.out true (by simp [hf]) _)) ?_
  clear hrep
  intro A1 hrep
  have Fv := Lib.hid hf
  clear hf
  repeat (refine abs_step (by rfl) hrep ?_; clear hrep; intro A1 hrep)
  refine abs_call rfl rfl rfl hrep (exec_call0 rfl rfl (map2 (hrep.ev 74 |>.trans h3) rfl) en23) ?_
  refine (in_any _ [99, 97, 113] 105 (by simp)).mono ?_
  rintro _ wn ⟨rfl, hb⟩
  have S := Lib.hid (S.out.below hb)
  clear hb
  refine ⟨_, rfl, ?_⟩
  rw [show ([99, 97, 113] : List UInt8).contains 105 = false from rfl]
  clear hrep
  intro A1 hrep
  repeat (refine abs_step (by rfl) hrep ?_; clear hrep; intro A1 hrep)
  refine abs_val (.pointer (some ⟨w.heap.size, 25, none⟩)) rfl rfl rfl hrep (exec_addr 30 _ 13 rfl ((hrep.ev 1).trans h1) fa13) ?_
  clear hrep
  intro A1 hrep
  refine abs_val (.int .u32 (x.item : Int)) rfl rfl rfl hrep (exec_load1 22 _ rfl (hrep.ev 77) (ld22 ((S.out.k.cell 25).trans X25.out))) ?_
  clear hrep
  intro A1 hrep
  by_cases hf : x.item = 0
  case neg =>
    have HN := Lib.hid (fun h => hf (HZ.out.1 h).2.2.2.2.2.1)
    have e9 : ((x.item : Int) == 0) = false := by rw [beq_eq_false_iff_ne]; omega
    refine abs_val (.bool false) rfl rfl rfl hrep (exec_bin .eql 22 22 _ (.const (.int .u32 0)) rfl (hrep.ev 78) rfl (eqgi) (eq_u32 _ _ _ e9 _)) ?_
    clear hrep
    intro A1 hrep
    repeat (refine abs_step (by rfl) hrep ?_; clear hrep; intro A1 hrep)
    refine lst_nil ?_
    have hd := hrep.df
    have hv := hrep.ev 2
    clear hrep
    go_wp2_with fail
    refine bodyPost_ret (results_tmp rfl _ _ _) hd ?_
    exact NO.out _ _ HN.out (congrArg Ending.returned hv) S.out.b
  have e9 : ((x.item : Int) == 0) = true := by rw [beq_iff_eq]; omega
  refine abs_val (.bool true) rfl rfl rfl hrep (exec_bin .eql 22 22 _ (.const (.int .u32 0)) rfl (hrep.ev 78) rfl (eqgi) (eq_u32 _ _ _ e9 _)) ?_
  clear hrep
  intro A1 hrep
  have Fi := Lib.hid hf
  clear hf
  repeat (refine abs_step (by rfl) hrep ?_; clear hrep; intro A1 hrep)
  refine abs_call rfl rfl rfl hrep (exec_call0 rfl rfl (map2 (hrep.ev 83 |>.trans h3) rfl) en23) ?_
  refine (in_any _ [99, 97, 113] 113 (by simp)).mono ?_
  rintro _ wn ⟨rfl, hb⟩
  have S := Lib.hid (S.out.below hb)
  clear hb
  refine ⟨_, rfl, ?_⟩
  rw [show ([99, 97, 113] : List UInt8).contains 113 = true from rfl]
  clear hrep
  intro A1 hrep
  repeat (refine abs_step (by rfl) hrep ?_; clear hrep; intro A1 hrep)
  refine abs_call rfl rfl rfl hrep (exec_call0 rfl rfl (map2 (hrep.ev 92 |>.trans h3) rfl) en23) ?_
  refine (in_any _ [99, 97, 113] 101 (by simp)).mono ?_
  rintro _ wn ⟨rfl, hb⟩
  have S := Lib.hid (S.out.below hb)
  clear hb
  refine ⟨_, rfl, ?_⟩
  rw [show ([99, 97, 113] : List UInt8).contains 101 = false from rfl]
  clear hrep
  intro A1 hrep
  repeat (refine abs_step (by rfl) hrep ?_; clear hrep; intro A1 hrep)
  refine abs_val (.pointer (some ⟨w.heap.size, 27, none⟩)) rfl rfl rfl hrep (exec_addr 30 _ 15 rfl ((hrep.ev 1).trans h1) fa15) ?_
  clear hrep
  intro A1 hrep
  refine abs_val (.int .u32 (x.price : Int)) rfl rfl rfl hrep (exec_load1 22 _ rfl (hrep.ev 95) (ld22 ((S.out.k.cell 27).trans X27.out))) ?_
  clear hrep
  intro A1 hrep
  by_cases hf : x.price = 0
  case neg =>
    have HN := Lib.hid (fun h => hf (HZ.out.1 h).2.2.2.2.2.2.1)
    have e9 : ((x.price : Int) == 0) = false := by rw [beq_eq_false_iff_ne]; omega
    refine abs_val (.bool false) rfl rfl rfl hrep (exec_bin .eql 22 22 _ (.const (.int .u32 0)) rfl (hrep.ev 96) rfl (eqgi) (eq_u32 _ _ _ e9 _)) ?_
    clear hrep
    intro A1 hrep
    repeat (refine abs_step (by rfl) hrep ?_; clear hrep; intro A1 hrep)
    refine lst_nil ?_
    have hd := hrep.df
    have hv := hrep.ev 2
    clear hrep
    go_wp2_with fail
    refine bodyPost_ret (results_tmp rfl _ _ _) hd ?_
    exact NO.out _ _ HN.out (congrArg Ending.returned hv) S.out.b
  have e9 : ((x.price : Int) == 0) = true := by rw [beq_iff_eq]; omega
  refine abs_val (.bool true) rfl rfl rfl hrep (exec_bin .eql 22 22 _ (.const (.int .u32 0)) rfl (hrep.ev 96) rfl (eqgi) (eq_u32 _ _ _ e9 _)) ?_
  clear hrep
  intro A1 hrep
  have Fe := Lib.hid hf
  clear hf
  repeat (refine abs_step (by rfl) hrep ?_; clear hrep; intro A1 hrep)
  refine abs_call rfl rfl rfl hrep (exec_call0 rfl rfl (map2 (hrep.ev 101 |>.trans h3) rfl) en23) ?_
  refine (in_any _ [99, 97, 113] 108 (by simp)).mono ?_
  rintro _ wn ⟨rfl, hb⟩
  have S := Lib.hid (S.out.below hb)
  clear hb
  refine ⟨_, rfl, ?_⟩
  rw [show ([99, 97, 113] : List UInt8).contains 108 = false from rfl]
  clear hrep
  intro A1 hrep
  repeat (refine abs_step (by rfl) hrep ?_; clear hrep; intro A1 hrep)
  refine abs_val (.pointer (some ⟨w.heap.size, 28, none⟩)) rfl rfl rfl hrep (exec_addr 30 _ 16 rfl ((hrep.ev 1).trans h1) fa16) ?_
  clear hrep
  intro A1 hrep
  refine abs_val (.slice A x.lines.length cap) rfl rfl rfl hrep (exec_load1 28 _ rfl (hrep.ev 104) (ld120 ((S.out.k.cell 28).trans X28.out))) ?_
  clear hrep
  intro A1 hrep
  refine abs_val (.int .i64 (x.lines.length : Int)) rfl rfl rfl hrep (exec_len28 rfl (hrep.ev 105)) ?_
  clear hrep
  intro A1 hrep
  by_cases hf : x.lines = []
  case neg =>
    have HN := Lib.hid (fun h => hf (HZ.out.1 h).2.2.2.2.2.2.2)
    have e9 : ((x.lines.length : Int) == 0) = false := by rw [beq_eq_false_iff_ne]; have := mt HLN.out.2 hf; omega
    refine abs_val (.bool false) rfl rfl rfl hrep (exec_bin .eql 3 3 _ (.const (.int .i64 0)) rfl (hrep.ev 106) rfl (eqgi) (eq_i64 _ _ _ e9 _)) ?_
    clear hrep
    intro A1 hrep
    repeat (refine abs_step (by rfl) hrep ?_; clear hrep; intro A1 hrep)
    refine lst_nil ?_
    have hd := hrep.df
    have hv := hrep.ev 2
    clear hrep
    go_wp2_with fail
    refine bodyPost_ret (results_tmp rfl _ _ _) hd ?_
    exact NO.out _ _ HN.out (congrArg Ending.returned hv) S.out.b
  have e9 : ((x.lines.length : Int) == 0) = true := by rw [beq_iff_eq]; have := HLN.out.1 hf; omega
  refine abs_val (.bool true) rfl rfl rfl hrep (exec_bin .eql 3 3 _ (.const (.int .i64 0)) rfl (hrep.ev 106) rfl (eqgi) (eq_i64 _ _ _ e9 _)) ?_
  clear hrep
  intro A1 hrep
  have Fl := Lib.hid hf
  clear hf
  repeat (refine abs_step (by rfl) hrep ?_; clear hrep; intro A1 hrep)
  refine lst_nil ?_
  have hd := hrep.df
  have hv := hrep.ev 2
  clear hrep
  go_wp2_with fail
  refine bodyPost_ret (results_tmp rfl _ _ _) hd ?_
  exact ⟨true, congrArg Ending.returned hv, by simp only [true_iff]; exact HZ.out.2 ⟨Ft.out, Fr.out, Fd.out, Fp.out, Fv.out, Fi.out, Fe.out, Fl.out⟩, S.out.b⟩
set_option maxRecDepth 100000 in
set_option maxHeartbeats 16000000 in
theorem zero_5 (w : World) (x : NOp) (A : Option Addr) (cap : Nat) (hx : x.ok) (hk : x.kind = 5) : Calls Tryd.prog 21 #[.agg (opA x (.slice A x.lines.length cap))] w (Tells w (bareN x = x)) := by
  have HZ : Hid (bareN x = x ↔ x.dest = 0 ∧ x.roles = 0 ∧ x.depth = 0 ∧ x.cap = 0 ∧ (x.vr = 0 ∧ x.vn = 0) ∧ x.item = 0 ∧ x.qty = 0 ∧ x.price = 0 ∧ x.lines = []) := Lib.hid (by
    rw [bare_iff, hk]
    exact ⟨fun h => ⟨(h.2.1 rfl).1, (h.2.1 rfl).2.1, (h.2.1 rfl).2.2.1, (h.2.1 rfl).2.2.2, h.2.2.2.1 rfl, h.2.2.2.2.1 rfl, h.2.2.2.2.2.1 rfl, h.2.2.2.2.2.2.1 rfl, h.2.2.2.2.2.2.2 rfl⟩, fun h => ⟨fun e => absurd e (by decide), fun _ => ⟨h.1, h.2.1, h.2.2.1, h.2.2.2.1⟩, fun e => absurd e (by decide), fun _ => h.2.2.2.2.1, fun _ => h.2.2.2.2.2.1, fun _ => h.2.2.2.2.2.2.1, fun _ => h.2.2.2.2.2.2.2.1, fun _ => h.2.2.2.2.2.2.2.2⟩⟩)
  have k0 := Blk.new w 30 (opA x (.slice A x.lines.length cap))
  have hb := (Below.refl w.heap.size w).alloc (Nat.le_refl _) (.cells (opA x (.slice A x.lines.length cap)) 30)
  have c14 := (k0.cell 14).trans (op_c14 x _ hx.dep8)
  rw [hk] at c14
  have X17 := Lib.hid (op_c17 x (.slice A x.lines.length cap) hx.dep8)
  have X18 := Lib.hid (op_c18 x (.slice A x.lines.length cap) hx.dep8)
  have X19 := Lib.hid (op_c19 x (.slice A x.lines.length cap) hx.dep8)
  have X20 := Lib.hid (op_c20 x (.slice A x.lines.length cap) hx.dep8)
  have X23 := Lib.hid (op_c23 x (.slice A x.lines.length cap) hx.dep8)
  have X24 := Lib.hid (op_c24 x (.slice A x.lines.length cap) hx.dep8)
  have Qv := Lib.hid (fun r hr W => eql_dot x.vr x.vn 0 0 hx.vr hx.vn (by omega) (by omega) r hr W)
  have X25 := Lib.hid (op_c25 x (.slice A x.lines.length cap) hx.dep8)
  have X26 := Lib.hid (op_c26 x (.slice A x.lines.length cap) hx.dep8)
  have X27 := Lib.hid (op_c27 x (.slice A x.lines.length cap) hx.dep8)
  have X28 := Lib.hid (op_c28 x (.slice A x.lines.length cap) hx.dep8)
  have HA := Lib.hid (has_any (w.alloc (.cells (opA x (.slice A x.lines.length cap)) 30)) 5 (by omega))
  have K0 := Lib.hid k0
  have HB := Lib.hid hb
  have NO : Hid (∀ (e : Ending) (w' : World), ¬ bareN x = x → e = .returned (.bool false) → Below w.heap.size w w' → Tells w (bareN x = x) e w') := Lib.hid (fun e w' h1 h2 h3 => ⟨false, h2, by simp [h1], h3⟩)
  generalize hX : opA x (.slice A x.lines.length cap) = X at *
  have HLN : Hid (x.lines = [] ↔ x.lines.length = 0) := Lib.hid List.length_eq_zero_iff.symm
  clear hX k0 hb hx hk
  go_enter Tryd.func21, Tryd.ntmps21
  go_wp2_with fail
  refine HA.out.mono ?_
  rintro e w1 ⟨rfl, h1⟩
  have K1 := Lib.hid (K0.out.below h1 K0.out.lt)
  have B1 := Lib.hid (HB.out.trans (h1.mono HB.out.size))
  obtain ⟨t1, t3, tb⟩ := one_set w1 #[.int .u8 0, .int .u32 0] #[.int .u8 0, .int .u32 0] 24
  have T1 := Lib.hid t1
  have S : Hid (ZrW w X w1.heap.size _) := Lib.hid ⟨K1.out.below tb K1.out.lt, t3, B1.out.trans (tb.mono B1.out.size)⟩
  clear h1 c14 t1 t3 tb K0 HB K1 B1 HA
  rw [show hasF 5 = [99, 97] from rfl]
  go_upto_region 3 with (refine wpList_store_row rfl 24 _ _ rfl w1.heap.size #[.int .u8 0, .int .u32 0] rfl rfl 24 _ T1.out zdot_size rfl zdot_one ?_)
  refine lst_begin ?_
  intro A0 hA
  have h1 : A0.eval (.tmp 1) = .pointer (some ⟨w.heap.size, 0, none⟩) := by rw [hA]; rfl
  have h3 : A0.eval (.tmp 3) = .string ⟨([99, 97] : List UInt8).toArray⟩ := by rw [hA]; rfl
  have h4 : A0.eval (.tmp 4) = .pointer (some ⟨w1.heap.size, 0, none⟩) := by rw [hA]; rfl
  have hrep : Rep 110 A0 [] A0 := Rep.start (by rw [hA] <;> rfl) (by rw [hA] <;> rfl)
  clear hA
  generalize ((w1.alloc (.cells #[Value.int .u8 0, .int .u32 0] 24)).setRow w1.heap.size #[.int .u8 0, .int .u32 0]) = wc at *
  generalize w1.heap.size = gz at *
  clear T1
  repeat (refine abs_step (by rfl) hrep ?_; clear hrep; intro A1 hrep)
  refine abs_call rfl rfl rfl hrep (exec_call0 rfl rfl (map2 (hrep.ev 9 |>.trans h3) rfl) en23) ?_
  refine (in_any _ [99, 97] 99 (by simp)).mono ?_
  rintro _ wn ⟨rfl, hb⟩
  have S := Lib.hid (S.out.below hb)
  clear hb
  refine ⟨_, rfl, ?_⟩
  rw [show ([99, 97] : List UInt8).contains 99 = true from rfl]
  clear hrep
  intro A1 hrep
  repeat (refine abs_step (by rfl) hrep ?_; clear hrep; intro A1 hrep)
  refine abs_call rfl rfl rfl hrep (exec_call0 rfl rfl (map2 (hrep.ev 18 |>.trans h3) rfl) en23) ?_
  refine (in_any _ [99, 97] 116 (by simp)).mono ?_
  rintro _ wn ⟨rfl, hb⟩
  have S := Lib.hid (S.out.below hb)
  clear hb
  refine ⟨_, rfl, ?_⟩
  rw [show ([99, 97] : List UInt8).contains 116 = false from rfl]
  clear hrep
  intro A1 hrep
  repeat (refine abs_step (by rfl) hrep ?_; clear hrep; intro A1 hrep)
  refine abs_val (.pointer (some ⟨w.heap.size, 17, none⟩)) rfl rfl rfl hrep (exec_addr 30 _ 7 rfl ((hrep.ev 1).trans h1) fa7) ?_
  clear hrep
  intro A1 hrep
  refine abs_val (.int .u32 (x.dest : Int)) rfl rfl rfl hrep (exec_load1 22 _ rfl (hrep.ev 21) (ld22 ((S.out.k.cell 17).trans X17.out))) ?_
  clear hrep
  intro A1 hrep
  by_cases hf : x.dest = 0
  case neg =>
    have HN := Lib.hid (fun h => hf (HZ.out.1 h).1)
    have e9 : ((x.dest : Int) == 0) = false := by rw [beq_eq_false_iff_ne]; omega
    refine abs_val (.bool false) rfl rfl rfl hrep (exec_bin .eql 22 22 _ (.const (.int .u32 0)) rfl (hrep.ev 22) rfl (eqgi) (eq_u32 _ _ _ e9 _)) ?_
    clear hrep
    intro A1 hrep
    repeat (refine abs_step (by rfl) hrep ?_; clear hrep; intro A1 hrep)
    refine lst_nil ?_
    have hd := hrep.df
    have hv := hrep.ev 2
    clear hrep
    go_wp2_with fail
    refine bodyPost_ret (results_tmp rfl _ _ _) hd ?_
    exact NO.out _ _ HN.out (congrArg Ending.returned hv) S.out.b
  have e9 : ((x.dest : Int) == 0) = true := by rw [beq_iff_eq]; omega
  refine abs_val (.bool true) rfl rfl rfl hrep (exec_bin .eql 22 22 _ (.const (.int .u32 0)) rfl (hrep.ev 22) rfl (eqgi) (eq_u32 _ _ _ e9 _)) ?_
  clear hrep
  intro A1 hrep
  have Ft := Lib.hid hf
  clear hf
  repeat (refine abs_step (by rfl) hrep ?_; clear hrep; intro A1 hrep)
  refine abs_call rfl rfl rfl hrep (exec_call0 rfl rfl (map2 (hrep.ev 27 |>.trans h3) rfl) en23) ?_
  refine (in_any _ [99, 97] 114 (by simp)).mono ?_
  rintro _ wn ⟨rfl, hb⟩
  have S := Lib.hid (S.out.below hb)
  clear hb
  refine ⟨_, rfl, ?_⟩
  rw [show ([99, 97] : List UInt8).contains 114 = false from rfl]
  clear hrep
  intro A1 hrep
  repeat (refine abs_step (by rfl) hrep ?_; clear hrep; intro A1 hrep)
  refine abs_val (.pointer (some ⟨w.heap.size, 18, none⟩)) rfl rfl rfl hrep (exec_addr 30 _ 8 rfl ((hrep.ev 1).trans h1) fa8) ?_
  clear hrep
  intro A1 hrep
  refine abs_val (.int .u8 (x.roles : Int)) rfl rfl rfl hrep (exec_load1 5 _ rfl (hrep.ev 30) (ld5 ((S.out.k.cell 18).trans X18.out))) ?_
  clear hrep
  intro A1 hrep
  by_cases hf : x.roles = 0
  case neg =>
    have HN := Lib.hid (fun h => hf (HZ.out.1 h).2.1)
    have e9 : ((x.roles : Int) == 0) = false := by rw [beq_eq_false_iff_ne]; omega
    refine abs_val (.bool false) rfl rfl rfl hrep (exec_bin .eql 5 5 _ (.const (.int .u8 0)) rfl (hrep.ev 31) rfl (eqgi) (eq_u8 _ _ _ e9 _)) ?_
    clear hrep
    intro A1 hrep
    repeat (refine abs_step (by rfl) hrep ?_; clear hrep; intro A1 hrep)
    refine lst_nil ?_
    have hd := hrep.df
    have hv := hrep.ev 2
    clear hrep
    go_wp2_with fail
    refine bodyPost_ret (results_tmp rfl _ _ _) hd ?_
    exact NO.out _ _ HN.out (congrArg Ending.returned hv) S.out.b
  have e9 : ((x.roles : Int) == 0) = true := by rw [beq_iff_eq]; omega
  refine abs_val (.bool true) rfl rfl rfl hrep (exec_bin .eql 5 5 _ (.const (.int .u8 0)) rfl (hrep.ev 31) rfl (eqgi) (eq_u8 _ _ _ e9 _)) ?_
  clear hrep
  intro A1 hrep
  have Fr := Lib.hid hf
  clear hf
  repeat (refine abs_step (by rfl) hrep ?_; clear hrep; intro A1 hrep)
  refine abs_call rfl rfl rfl hrep (exec_call0 rfl rfl (map2 (hrep.ev 36 |>.trans h3) rfl) en23) ?_
  refine (in_any _ [99, 97] 100 (by simp)).mono ?_
  rintro _ wn ⟨rfl, hb⟩
  have S := Lib.hid (S.out.below hb)
  clear hb
  refine ⟨_, rfl, ?_⟩
  rw [show ([99, 97] : List UInt8).contains 100 = false from rfl]
  clear hrep
  intro A1 hrep
  repeat (refine abs_step (by rfl) hrep ?_; clear hrep; intro A1 hrep)
  refine abs_val (.pointer (some ⟨w.heap.size, 19, none⟩)) rfl rfl rfl hrep (exec_addr 30 _ 9 rfl ((hrep.ev 1).trans h1) fa9) ?_
  clear hrep
  intro A1 hrep
  refine abs_val (.int .u8 (x.depth : Int)) rfl rfl rfl hrep (exec_load1 5 _ rfl (hrep.ev 39) (ld5 ((S.out.k.cell 19).trans X19.out))) ?_
  clear hrep
  intro A1 hrep
  by_cases hf : x.depth = 0
  case neg =>
    have HN := Lib.hid (fun h => hf (HZ.out.1 h).2.2.1)
    have e9 : ((x.depth : Int) == 0) = false := by rw [beq_eq_false_iff_ne]; omega
    refine abs_val (.bool false) rfl rfl rfl hrep (exec_bin .eql 5 5 _ (.const (.int .u8 0)) rfl (hrep.ev 40) rfl (eqgi) (eq_u8 _ _ _ e9 _)) ?_
    clear hrep
    intro A1 hrep
    repeat (refine abs_step (by rfl) hrep ?_; clear hrep; intro A1 hrep)
    refine lst_nil ?_
    have hd := hrep.df
    have hv := hrep.ev 2
    clear hrep
    go_wp2_with fail
    refine bodyPost_ret (results_tmp rfl _ _ _) hd ?_
    exact NO.out _ _ HN.out (congrArg Ending.returned hv) S.out.b
  have e9 : ((x.depth : Int) == 0) = true := by rw [beq_iff_eq]; omega
  refine abs_val (.bool true) rfl rfl rfl hrep (exec_bin .eql 5 5 _ (.const (.int .u8 0)) rfl (hrep.ev 40) rfl (eqgi) (eq_u8 _ _ _ e9 _)) ?_
  clear hrep
  intro A1 hrep
  have Fd := Lib.hid hf
  clear hf
  repeat (refine abs_step (by rfl) hrep ?_; clear hrep; intro A1 hrep)
  refine abs_call rfl rfl rfl hrep (exec_call0 rfl rfl (map2 (hrep.ev 45 |>.trans h3) rfl) en23) ?_
  refine (in_any _ [99, 97] 112 (by simp)).mono ?_
  rintro _ wn ⟨rfl, hb⟩
  have S := Lib.hid (S.out.below hb)
  clear hb
  refine ⟨_, rfl, ?_⟩
  rw [show ([99, 97] : List UInt8).contains 112 = false from rfl]
  clear hrep
  intro A1 hrep
  repeat (refine abs_step (by rfl) hrep ?_; clear hrep; intro A1 hrep)
  refine abs_val (.pointer (some ⟨w.heap.size, 20, none⟩)) rfl rfl rfl hrep (exec_addr 30 _ 10 rfl ((hrep.ev 1).trans h1) fa10) ?_
  clear hrep
  intro A1 hrep
  refine abs_val (.int .u64 (x.cap : Int)) rfl rfl rfl hrep (exec_load1 27 _ rfl (hrep.ev 48) (ld80 ((S.out.k.cell 20).trans X20.out))) ?_
  clear hrep
  intro A1 hrep
  by_cases hf : x.cap = 0
  case neg =>
    have HN := Lib.hid (fun h => hf (HZ.out.1 h).2.2.2.1)
    have e9 : ((x.cap : Int) == 0) = false := by rw [beq_eq_false_iff_ne]; omega
    refine abs_val (.bool false) rfl rfl rfl hrep (exec_bin .eql 27 27 _ (.const (.int .u64 0)) rfl (hrep.ev 49) rfl (eqgi) (eq_u64 _ _ _ e9 _)) ?_
    clear hrep
    intro A1 hrep
    repeat (refine abs_step (by rfl) hrep ?_; clear hrep; intro A1 hrep)
    refine lst_nil ?_
    have hd := hrep.df
    have hv := hrep.ev 2
    clear hrep
    go_wp2_with fail
    refine bodyPost_ret (results_tmp rfl _ _ _) hd ?_
    exact NO.out _ _ HN.out (congrArg Ending.returned hv) S.out.b
  have e9 : ((x.cap : Int) == 0) = true := by rw [beq_iff_eq]; omega
  refine abs_val (.bool true) rfl rfl rfl hrep (exec_bin .eql 27 27 _ (.const (.int .u64 0)) rfl (hrep.ev 49) rfl (eqgi) (eq_u64 _ _ _ e9 _)) ?_
  clear hrep
  intro A1 hrep
  have Fp := Lib.hid hf
  clear hf
  repeat (refine abs_step (by rfl) hrep ?_; clear hrep; intro A1 hrep)
  refine abs_call rfl rfl rfl hrep (exec_call0 rfl rfl (map2 (hrep.ev 54 |>.trans h3) rfl) en23) ?_
  refine (in_any _ [99, 97] 97 (by simp)).mono ?_
  rintro _ wn ⟨rfl, hb⟩
  have S := Lib.hid (S.out.below hb)
  clear hb
  refine ⟨_, rfl, ?_⟩
  rw [show ([99, 97] : List UInt8).contains 97 = true from rfl]
  clear hrep
  intro A1 hrep
  repeat (refine abs_step (by rfl) hrep ?_; clear hrep; intro A1 hrep)
  refine abs_call rfl rfl rfl hrep (exec_call0 rfl rfl (map2 (hrep.ev 64 |>.trans h3) rfl) en23) ?_
  refine (in_any _ [99, 97] 118 (by simp)).mono ?_
  rintro _ wn ⟨rfl, hb⟩
  have S := Lib.hid (S.out.below hb)
  clear hb
  refine ⟨_, rfl, ?_⟩
  rw [show ([99, 97] : List UInt8).contains 118 = false from rfl]
  clear hrep
  intro A1 hrep
  repeat (refine abs_step (by rfl) hrep ?_; clear hrep; intro A1 hrep)
  refine abs_val (.pointer (some ⟨w.heap.size, 23, none⟩)) rfl rfl rfl hrep (exec_addr 30 _ 12 rfl ((hrep.ev 1).trans h1) fa12) ?_
  clear hrep
  intro A1 hrep
  refine abs_val (.agg #[.int .u8 (x.vr : Int), .int .u32 (x.vn : Int)]) rfl rfl rfl hrep (exec_load1 24 _ rfl (hrep.ev 67) (ld82 (o := 23) ((S.out.k.cell 23).trans X23.out) ((S.out.k.cell 24).trans X24.out))) ?_
  clear hrep
  intro A1 hrep
  refine abs_val (.agg #[.int .u8 0, .int .u32 0]) rfl rfl rfl hrep (exec_load1 24 _ rfl ((hrep.ev 4).trans h4) (lit82 S.out.z)) ?_
  clear hrep
  intro A1 hrep
  by_cases hf : x.vr = 0 ∧ x.vn = 0
  case neg =>
    have HN := Lib.hid (fun h => hf (HZ.out.1 h).2.2.2.2.1)
    refine abs_val (.bool false) rfl rfl rfl hrep (exec_bin .eql 24 24 _ _ rfl (hrep.ev 68) (hrep.ev 69) (eqg_agg _ _ _ _ _ _ _ eqt82) (Qv.out false (by simp [hf]) _)) ?_
    clear hrep
    intro A1 hrep
    repeat (refine abs_step (by rfl) hrep ?_; clear hrep; intro A1 hrep)
    refine lst_nil ?_
    have hd := hrep.df
    have hv := hrep.ev 2
    clear hrep
    go_wp2_with fail
    refine bodyPost_ret (results_tmp rfl _ _ _) hd ?_
    exact NO.out _ _ HN.out (congrArg Ending.returned hv) S.out.b
  refine abs_val (.bool true) rfl rfl rfl hrep (exec_bin .eql 24 24 _ _ rfl (hrep.ev 68) (hrep.ev 69) (eqg_agg _ _ _ _ _ _ _ eqt82) (Qv.out true (by simp [hf]) _)) ?_
  clear hrep
  intro A1 hrep
  have Fv := Lib.hid hf
  clear hf
  repeat (refine abs_step (by rfl) hrep ?_; clear hrep; intro A1 hrep)
  refine abs_call rfl rfl rfl hrep (exec_call0 rfl rfl (map2 (hrep.ev 74 |>.trans h3) rfl) en23) ?_
  refine (in_any _ [99, 97] 105 (by simp)).mono ?_
  rintro _ wn ⟨rfl, hb⟩
  have S := Lib.hid (S.out.below hb)
  clear hb
  refine ⟨_, rfl, ?_⟩
  rw [show ([99, 97] : List UInt8).contains 105 = false from rfl]
  clear hrep
  intro A1 hrep
  repeat (refine abs_step (by rfl) hrep ?_; clear hrep; intro A1 hrep)
  refine abs_val (.pointer (some ⟨w.heap.size, 25, none⟩)) rfl rfl rfl hrep (exec_addr 30 _ 13 rfl ((hrep.ev 1).trans h1) fa13) ?_
  clear hrep
  intro A1 hrep
  refine abs_val (.int .u32 (x.item : Int)) rfl rfl rfl hrep (exec_load1 22 _ rfl (hrep.ev 77) (ld22 ((S.out.k.cell 25).trans X25.out))) ?_
  clear hrep
  intro A1 hrep
  by_cases hf : x.item = 0
  case neg =>
    have HN := Lib.hid (fun h => hf (HZ.out.1 h).2.2.2.2.2.1)
    have e9 : ((x.item : Int) == 0) = false := by rw [beq_eq_false_iff_ne]; omega
    refine abs_val (.bool false) rfl rfl rfl hrep (exec_bin .eql 22 22 _ (.const (.int .u32 0)) rfl (hrep.ev 78) rfl (eqgi) (eq_u32 _ _ _ e9 _)) ?_
    clear hrep
    intro A1 hrep
    repeat (refine abs_step (by rfl) hrep ?_; clear hrep; intro A1 hrep)
    refine lst_nil ?_
    have hd := hrep.df
    have hv := hrep.ev 2
    clear hrep
    go_wp2_with fail
    refine bodyPost_ret (results_tmp rfl _ _ _) hd ?_
    exact NO.out _ _ HN.out (congrArg Ending.returned hv) S.out.b
  have e9 : ((x.item : Int) == 0) = true := by rw [beq_iff_eq]; omega
  refine abs_val (.bool true) rfl rfl rfl hrep (exec_bin .eql 22 22 _ (.const (.int .u32 0)) rfl (hrep.ev 78) rfl (eqgi) (eq_u32 _ _ _ e9 _)) ?_
  clear hrep
  intro A1 hrep
  have Fi := Lib.hid hf
  clear hf
  repeat (refine abs_step (by rfl) hrep ?_; clear hrep; intro A1 hrep)
  refine abs_call rfl rfl rfl hrep (exec_call0 rfl rfl (map2 (hrep.ev 83 |>.trans h3) rfl) en23) ?_
  refine (in_any _ [99, 97] 113 (by simp)).mono ?_
  rintro _ wn ⟨rfl, hb⟩
  have S := Lib.hid (S.out.below hb)
  clear hb
  refine ⟨_, rfl, ?_⟩
  rw [show ([99, 97] : List UInt8).contains 113 = false from rfl]
  clear hrep
  intro A1 hrep
  repeat (refine abs_step (by rfl) hrep ?_; clear hrep; intro A1 hrep)
  refine abs_val (.pointer (some ⟨w.heap.size, 26, none⟩)) rfl rfl rfl hrep (exec_addr 30 _ 14 rfl ((hrep.ev 1).trans h1) fa14) ?_
  clear hrep
  intro A1 hrep
  refine abs_val (.int .u32 (x.qty : Int)) rfl rfl rfl hrep (exec_load1 22 _ rfl (hrep.ev 86) (ld22 ((S.out.k.cell 26).trans X26.out))) ?_
  clear hrep
  intro A1 hrep
  by_cases hf : x.qty = 0
  case neg =>
    have HN := Lib.hid (fun h => hf (HZ.out.1 h).2.2.2.2.2.2.1)
    have e9 : ((x.qty : Int) == 0) = false := by rw [beq_eq_false_iff_ne]; omega
    refine abs_val (.bool false) rfl rfl rfl hrep (exec_bin .eql 22 22 _ (.const (.int .u32 0)) rfl (hrep.ev 87) rfl (eqgi) (eq_u32 _ _ _ e9 _)) ?_
    clear hrep
    intro A1 hrep
    repeat (refine abs_step (by rfl) hrep ?_; clear hrep; intro A1 hrep)
    refine lst_nil ?_
    have hd := hrep.df
    have hv := hrep.ev 2
    clear hrep
    go_wp2_with fail
    refine bodyPost_ret (results_tmp rfl _ _ _) hd ?_
    exact NO.out _ _ HN.out (congrArg Ending.returned hv) S.out.b
  have e9 : ((x.qty : Int) == 0) = true := by rw [beq_iff_eq]; omega
  refine abs_val (.bool true) rfl rfl rfl hrep (exec_bin .eql 22 22 _ (.const (.int .u32 0)) rfl (hrep.ev 87) rfl (eqgi) (eq_u32 _ _ _ e9 _)) ?_
  clear hrep
  intro A1 hrep
  have Fq := Lib.hid hf
  clear hf
  repeat (refine abs_step (by rfl) hrep ?_; clear hrep; intro A1 hrep)
  refine abs_call rfl rfl rfl hrep (exec_call0 rfl rfl (map2 (hrep.ev 92 |>.trans h3) rfl) en23) ?_
  refine (in_any _ [99, 97] 101 (by simp)).mono ?_
  rintro _ wn ⟨rfl, hb⟩
  have S := Lib.hid (S.out.below hb)
  clear hb
  refine ⟨_, rfl, ?_⟩
  rw [show ([99, 97] : List UInt8).contains 101 = false from rfl]
  clear hrep
  intro A1 hrep
  repeat (refine abs_step (by rfl) hrep ?_; clear hrep; intro A1 hrep)
  refine abs_val (.pointer (some ⟨w.heap.size, 27, none⟩)) rfl rfl rfl hrep (exec_addr 30 _ 15 rfl ((hrep.ev 1).trans h1) fa15) ?_
  clear hrep
  intro A1 hrep
  refine abs_val (.int .u32 (x.price : Int)) rfl rfl rfl hrep (exec_load1 22 _ rfl (hrep.ev 95) (ld22 ((S.out.k.cell 27).trans X27.out))) ?_
  clear hrep
  intro A1 hrep
  by_cases hf : x.price = 0
  case neg =>
    have HN := Lib.hid (fun h => hf (HZ.out.1 h).2.2.2.2.2.2.2.1)
    have e9 : ((x.price : Int) == 0) = false := by rw [beq_eq_false_iff_ne]; omega
    refine abs_val (.bool false) rfl rfl rfl hrep (exec_bin .eql 22 22 _ (.const (.int .u32 0)) rfl (hrep.ev 96) rfl (eqgi) (eq_u32 _ _ _ e9 _)) ?_
    clear hrep
    intro A1 hrep
    repeat (refine abs_step (by rfl) hrep ?_; clear hrep; intro A1 hrep)
    refine lst_nil ?_
    have hd := hrep.df
    have hv := hrep.ev 2
    clear hrep
    go_wp2_with fail
    refine bodyPost_ret (results_tmp rfl _ _ _) hd ?_
    exact NO.out _ _ HN.out (congrArg Ending.returned hv) S.out.b
  have e9 : ((x.price : Int) == 0) = true := by rw [beq_iff_eq]; omega
  refine abs_val (.bool true) rfl rfl rfl hrep (exec_bin .eql 22 22 _ (.const (.int .u32 0)) rfl (hrep.ev 96) rfl (eqgi) (eq_u32 _ _ _ e9 _)) ?_
  clear hrep
  intro A1 hrep
  have Fe := Lib.hid hf
  clear hf
  repeat (refine abs_step (by rfl) hrep ?_; clear hrep; intro A1 hrep)
  refine abs_call rfl rfl rfl hrep (exec_call0 rfl rfl (map2 (hrep.ev 101 |>.trans h3) rfl) en23) ?_
  refine (in_any _ [99, 97] 108 (by simp)).mono ?_
  rintro _ wn ⟨rfl, hb⟩
  have S := Lib.hid (S.out.below hb)
  clear hb
  refine ⟨_, rfl, ?_⟩
  rw [show ([99, 97] : List UInt8).contains 108 = false from rfl]
  clear hrep
  intro A1 hrep
  repeat (refine abs_step (by rfl) hrep ?_; clear hrep; intro A1 hrep)
  refine abs_val (.pointer (some ⟨w.heap.size, 28, none⟩)) rfl rfl rfl hrep (exec_addr 30 _ 16 rfl ((hrep.ev 1).trans h1) fa16) ?_
  clear hrep
  intro A1 hrep
  refine abs_val (.slice A x.lines.length cap) rfl rfl rfl hrep (exec_load1 28 _ rfl (hrep.ev 104) (ld120 ((S.out.k.cell 28).trans X28.out))) ?_
  clear hrep
  intro A1 hrep
  refine abs_val (.int .i64 (x.lines.length : Int)) rfl rfl rfl hrep (exec_len28 rfl (hrep.ev 105)) ?_
  clear hrep
  intro A1 hrep
  by_cases hf : x.lines = []
  case neg =>
    have HN := Lib.hid (fun h => hf (HZ.out.1 h).2.2.2.2.2.2.2.2)
    have e9 : ((x.lines.length : Int) == 0) = false := by rw [beq_eq_false_iff_ne]; have := mt HLN.out.2 hf; omega
    refine abs_val (.bool false) rfl rfl rfl hrep (exec_bin .eql 3 3 _ (.const (.int .i64 0)) rfl (hrep.ev 106) rfl (eqgi) (eq_i64 _ _ _ e9 _)) ?_
    clear hrep
    intro A1 hrep
    repeat (refine abs_step (by rfl) hrep ?_; clear hrep; intro A1 hrep)
    refine lst_nil ?_
    have hd := hrep.df
    have hv := hrep.ev 2
    clear hrep
    go_wp2_with fail
    refine bodyPost_ret (results_tmp rfl _ _ _) hd ?_
    exact NO.out _ _ HN.out (congrArg Ending.returned hv) S.out.b
  have e9 : ((x.lines.length : Int) == 0) = true := by rw [beq_iff_eq]; have := HLN.out.1 hf; omega
  refine abs_val (.bool true) rfl rfl rfl hrep (exec_bin .eql 3 3 _ (.const (.int .i64 0)) rfl (hrep.ev 106) rfl (eqgi) (eq_i64 _ _ _ e9 _)) ?_
  clear hrep
  intro A1 hrep
  have Fl := Lib.hid hf
  clear hf
  repeat (refine abs_step (by rfl) hrep ?_; clear hrep; intro A1 hrep)
  refine lst_nil ?_
  have hd := hrep.df
  have hv := hrep.ev 2
  clear hrep
  go_wp2_with fail
  refine bodyPost_ret (results_tmp rfl _ _ _) hd ?_
  exact ⟨true, congrArg Ending.returned hv, by simp only [true_iff]; exact HZ.out.2 ⟨Ft.out, Fr.out, Fd.out, Fp.out, Fv.out, Fi.out, Fq.out, Fe.out, Fl.out⟩, S.out.b⟩
set_option maxRecDepth 100000 in
set_option maxHeartbeats 16000000 in
theorem zero_6 (w : World) (x : NOp) (A : Option Addr) (cap : Nat) (hx : x.ok) (hk : x.kind = 6) : Calls Tryd.prog 21 #[.agg (opA x (.slice A x.lines.length cap))] w (Tells w (bareN x = x)) := by
  have HZ : Hid (bareN x = x ↔ x.dest = 0 ∧ x.roles = 0 ∧ x.depth = 0 ∧ x.cap = 0 ∧ x.item = 0 ∧ x.qty = 0 ∧ x.price = 0 ∧ x.lines = []) := Lib.hid (by
    rw [bare_iff, hk]
    exact ⟨fun h => ⟨(h.2.1 rfl).1, (h.2.1 rfl).2.1, (h.2.1 rfl).2.2.1, (h.2.1 rfl).2.2.2, h.2.2.2.2.1 rfl, h.2.2.2.2.2.1 rfl, h.2.2.2.2.2.2.1 rfl, h.2.2.2.2.2.2.2 rfl⟩, fun h => ⟨fun e => absurd e (by decide), fun _ => ⟨h.1, h.2.1, h.2.2.1, h.2.2.2.1⟩, fun e => absurd e (by decide), fun e => absurd e (by decide), fun _ => h.2.2.2.2.1, fun _ => h.2.2.2.2.2.1, fun _ => h.2.2.2.2.2.2.1, fun _ => h.2.2.2.2.2.2.2⟩⟩)
  have k0 := Blk.new w 30 (opA x (.slice A x.lines.length cap))
  have hb := (Below.refl w.heap.size w).alloc (Nat.le_refl _) (.cells (opA x (.slice A x.lines.length cap)) 30)
  have c14 := (k0.cell 14).trans (op_c14 x _ hx.dep8)
  rw [hk] at c14
  have X17 := Lib.hid (op_c17 x (.slice A x.lines.length cap) hx.dep8)
  have X18 := Lib.hid (op_c18 x (.slice A x.lines.length cap) hx.dep8)
  have X19 := Lib.hid (op_c19 x (.slice A x.lines.length cap) hx.dep8)
  have X20 := Lib.hid (op_c20 x (.slice A x.lines.length cap) hx.dep8)
  have X25 := Lib.hid (op_c25 x (.slice A x.lines.length cap) hx.dep8)
  have X26 := Lib.hid (op_c26 x (.slice A x.lines.length cap) hx.dep8)
  have X27 := Lib.hid (op_c27 x (.slice A x.lines.length cap) hx.dep8)
  have X28 := Lib.hid (op_c28 x (.slice A x.lines.length cap) hx.dep8)
  have HA := Lib.hid (has_any (w.alloc (.cells (opA x (.slice A x.lines.length cap)) 30)) 6 (by omega))
  have K0 := Lib.hid k0
  have HB := Lib.hid hb
  have NO : Hid (∀ (e : Ending) (w' : World), ¬ bareN x = x → e = .returned (.bool false) → Below w.heap.size w w' → Tells w (bareN x = x) e w') := Lib.hid (fun e w' h1 h2 h3 => ⟨false, h2, by simp [h1], h3⟩)
  generalize hX : opA x (.slice A x.lines.length cap) = X at *
  have HLN : Hid (x.lines = [] ↔ x.lines.length = 0) := Lib.hid List.length_eq_zero_iff.symm
  clear hX k0 hb hx hk
  go_enter Tryd.func21, Tryd.ntmps21
  go_wp2_with fail
  refine HA.out.mono ?_
  rintro e w1 ⟨rfl, h1⟩
  have K1 := Lib.hid (K0.out.below h1 K0.out.lt)
  have B1 := Lib.hid (HB.out.trans (h1.mono HB.out.size))
  obtain ⟨t1, t3, tb⟩ := one_set w1 #[.int .u8 0, .int .u32 0] #[.int .u8 0, .int .u32 0] 24
  have T1 := Lib.hid t1
  have S : Hid (ZrW w X w1.heap.size _) := Lib.hid ⟨K1.out.below tb K1.out.lt, t3, B1.out.trans (tb.mono B1.out.size)⟩
  clear h1 c14 t1 t3 tb K0 HB K1 B1 HA
  rw [show hasF 6 = [99, 97, 118] from rfl]
  go_upto_region 3 with (refine wpList_store_row rfl 24 _ _ rfl w1.heap.size #[.int .u8 0, .int .u32 0] rfl rfl 24 _ T1.out zdot_size rfl zdot_one ?_)
  refine lst_begin ?_
  intro A0 hA
  have h1 : A0.eval (.tmp 1) = .pointer (some ⟨w.heap.size, 0, none⟩) := by rw [hA]; rfl
  have h3 : A0.eval (.tmp 3) = .string ⟨([99, 97, 118] : List UInt8).toArray⟩ := by rw [hA]; rfl
  have h4 : A0.eval (.tmp 4) = .pointer (some ⟨w1.heap.size, 0, none⟩) := by rw [hA]; rfl
  have hrep : Rep 110 A0 [] A0 := Rep.start (by rw [hA] <;> rfl) (by rw [hA] <;> rfl)
  clear hA
  generalize ((w1.alloc (.cells #[Value.int .u8 0, .int .u32 0] 24)).setRow w1.heap.size #[.int .u8 0, .int .u32 0]) = wc at *
  generalize w1.heap.size = gz at *
  clear T1
  repeat (refine abs_step (by rfl) hrep ?_; clear hrep; intro A1 hrep)
  refine abs_call rfl rfl rfl hrep (exec_call0 rfl rfl (map2 (hrep.ev 9 |>.trans h3) rfl) en23) ?_
  refine (in_any _ [99, 97, 118] 99 (by simp)).mono ?_
  rintro _ wn ⟨rfl, hb⟩
  have S := Lib.hid (S.out.below hb)
  clear hb
  refine ⟨_, rfl, ?_⟩
  rw [show ([99, 97, 118] : List UInt8).contains 99 = true from rfl]
  clear hrep
  intro A1 hrep
  repeat (refine abs_step (by rfl) hrep ?_; clear hrep; intro A1 hrep)
  refine abs_call rfl rfl rfl hrep (exec_call0 rfl rfl (map2 (hrep.ev 18 |>.trans h3) rfl) en23) ?_
  refine (in_any _ [99, 97, 118] 116 (by simp)).mono ?_
  rintro _ wn ⟨rfl, hb⟩
  have S := Lib.hid (S.out.below hb)
  clear hb
  refine ⟨_, rfl, ?_⟩
  rw [show ([99, 97, 118] : List UInt8).contains 116 = false from rfl]
  clear hrep
  intro A1 hrep
  repeat (refine abs_step (by rfl) hrep ?_; clear hrep; intro A1 hrep)
  refine abs_val (.pointer (some ⟨w.heap.size, 17, none⟩)) rfl rfl rfl hrep (exec_addr 30 _ 7 rfl ((hrep.ev 1).trans h1) fa7) ?_
  clear hrep
  intro A1 hrep
  refine abs_val (.int .u32 (x.dest : Int)) rfl rfl rfl hrep (exec_load1 22 _ rfl (hrep.ev 21) (ld22 ((S.out.k.cell 17).trans X17.out))) ?_
  clear hrep
  intro A1 hrep
  by_cases hf : x.dest = 0
  case neg =>
    have HN := Lib.hid (fun h => hf (HZ.out.1 h).1)
    have e9 : ((x.dest : Int) == 0) = false := by rw [beq_eq_false_iff_ne]; omega
    refine abs_val (.bool false) rfl rfl rfl hrep (exec_bin .eql 22 22 _ (.const (.int .u32 0)) rfl (hrep.ev 22) rfl (eqgi) (eq_u32 _ _ _ e9 _)) ?_
    clear hrep
    intro A1 hrep
    repeat (refine abs_step (by rfl) hrep ?_; clear hrep; intro A1 hrep)
    refine lst_nil ?_
    have hd := hrep.df
    have hv := hrep.ev 2
    clear hrep
    go_wp2_with fail
    refine bodyPost_ret (results_tmp rfl _ _ _) hd ?_
    exact NO.out _ _ HN.out (congrArg Ending.returned hv) S.out.b
  have e9 : ((x.dest : Int) == 0) = true := by rw [beq_iff_eq]; omega
  refine abs_val (.bool true) rfl rfl rfl hrep (exec_bin .eql 22 22 _ (.const (.int .u32 0)) rfl (hrep.ev 22) rfl (eqgi) (eq_u32 _ _ _ e9 _)) ?_
  clear hrep
  intro A1 hrep
  have Ft := Lib.hid hf
  clear hf
  repeat (refine abs_step (by rfl) hrep ?_; clear hrep; intro A1 hrep)
  refine abs_call rfl rfl rfl hrep (exec_call0 rfl rfl (map2 (hrep.ev 27 |>.trans h3) rfl) en23) ?_
  refine (in_any _ [99, 97, 118] 114 (by simp)).mono ?_
  rintro _ wn ⟨rfl, hb⟩
  have S := Lib.hid (S.out.below hb)
  clear hb
  refine ⟨_, rfl, ?_⟩
  rw [show ([99, 97, 118] : List UInt8).contains 114 = false from rfl]
  clear hrep
  intro A1 hrep
  repeat (refine abs_step (by rfl) hrep ?_; clear hrep; intro A1 hrep)
  refine abs_val (.pointer (some ⟨w.heap.size, 18, none⟩)) rfl rfl rfl hrep (exec_addr 30 _ 8 rfl ((hrep.ev 1).trans h1) fa8) ?_
  clear hrep
  intro A1 hrep
  refine abs_val (.int .u8 (x.roles : Int)) rfl rfl rfl hrep (exec_load1 5 _ rfl (hrep.ev 30) (ld5 ((S.out.k.cell 18).trans X18.out))) ?_
  clear hrep
  intro A1 hrep
  by_cases hf : x.roles = 0
  case neg =>
    have HN := Lib.hid (fun h => hf (HZ.out.1 h).2.1)
    have e9 : ((x.roles : Int) == 0) = false := by rw [beq_eq_false_iff_ne]; omega
    refine abs_val (.bool false) rfl rfl rfl hrep (exec_bin .eql 5 5 _ (.const (.int .u8 0)) rfl (hrep.ev 31) rfl (eqgi) (eq_u8 _ _ _ e9 _)) ?_
    clear hrep
    intro A1 hrep
    repeat (refine abs_step (by rfl) hrep ?_; clear hrep; intro A1 hrep)
    refine lst_nil ?_
    have hd := hrep.df
    have hv := hrep.ev 2
    clear hrep
    go_wp2_with fail
    refine bodyPost_ret (results_tmp rfl _ _ _) hd ?_
    exact NO.out _ _ HN.out (congrArg Ending.returned hv) S.out.b
  have e9 : ((x.roles : Int) == 0) = true := by rw [beq_iff_eq]; omega
  refine abs_val (.bool true) rfl rfl rfl hrep (exec_bin .eql 5 5 _ (.const (.int .u8 0)) rfl (hrep.ev 31) rfl (eqgi) (eq_u8 _ _ _ e9 _)) ?_
  clear hrep
  intro A1 hrep
  have Fr := Lib.hid hf
  clear hf
  repeat (refine abs_step (by rfl) hrep ?_; clear hrep; intro A1 hrep)
  refine abs_call rfl rfl rfl hrep (exec_call0 rfl rfl (map2 (hrep.ev 36 |>.trans h3) rfl) en23) ?_
  refine (in_any _ [99, 97, 118] 100 (by simp)).mono ?_
  rintro _ wn ⟨rfl, hb⟩
  have S := Lib.hid (S.out.below hb)
  clear hb
  refine ⟨_, rfl, ?_⟩
  rw [show ([99, 97, 118] : List UInt8).contains 100 = false from rfl]
  clear hrep
  intro A1 hrep
  repeat (refine abs_step (by rfl) hrep ?_; clear hrep; intro A1 hrep)
  refine abs_val (.pointer (some ⟨w.heap.size, 19, none⟩)) rfl rfl rfl hrep (exec_addr 30 _ 9 rfl ((hrep.ev 1).trans h1) fa9) ?_
  clear hrep
  intro A1 hrep
  refine abs_val (.int .u8 (x.depth : Int)) rfl rfl rfl hrep (exec_load1 5 _ rfl (hrep.ev 39) (ld5 ((S.out.k.cell 19).trans X19.out))) ?_
  clear hrep
  intro A1 hrep
  by_cases hf : x.depth = 0
  case neg =>
    have HN := Lib.hid (fun h => hf (HZ.out.1 h).2.2.1)
    have e9 : ((x.depth : Int) == 0) = false := by rw [beq_eq_false_iff_ne]; omega
    refine abs_val (.bool false) rfl rfl rfl hrep (exec_bin .eql 5 5 _ (.const (.int .u8 0)) rfl (hrep.ev 40) rfl (eqgi) (eq_u8 _ _ _ e9 _)) ?_
    clear hrep
    intro A1 hrep
    repeat (refine abs_step (by rfl) hrep ?_; clear hrep; intro A1 hrep)
    refine lst_nil ?_
    have hd := hrep.df
    have hv := hrep.ev 2
    clear hrep
    go_wp2_with fail
    refine bodyPost_ret (results_tmp rfl _ _ _) hd ?_
    exact NO.out _ _ HN.out (congrArg Ending.returned hv) S.out.b
  have e9 : ((x.depth : Int) == 0) = true := by rw [beq_iff_eq]; omega
  refine abs_val (.bool true) rfl rfl rfl hrep (exec_bin .eql 5 5 _ (.const (.int .u8 0)) rfl (hrep.ev 40) rfl (eqgi) (eq_u8 _ _ _ e9 _)) ?_
  clear hrep
  intro A1 hrep
  have Fd := Lib.hid hf
  clear hf
  repeat (refine abs_step (by rfl) hrep ?_; clear hrep; intro A1 hrep)
  refine abs_call rfl rfl rfl hrep (exec_call0 rfl rfl (map2 (hrep.ev 45 |>.trans h3) rfl) en23) ?_
  refine (in_any _ [99, 97, 118] 112 (by simp)).mono ?_
  rintro _ wn ⟨rfl, hb⟩
  have S := Lib.hid (S.out.below hb)
  clear hb
  refine ⟨_, rfl, ?_⟩
  rw [show ([99, 97, 118] : List UInt8).contains 112 = false from rfl]
  clear hrep
  intro A1 hrep
  repeat (refine abs_step (by rfl) hrep ?_; clear hrep; intro A1 hrep)
  refine abs_val (.pointer (some ⟨w.heap.size, 20, none⟩)) rfl rfl rfl hrep (exec_addr 30 _ 10 rfl ((hrep.ev 1).trans h1) fa10) ?_
  clear hrep
  intro A1 hrep
  refine abs_val (.int .u64 (x.cap : Int)) rfl rfl rfl hrep (exec_load1 27 _ rfl (hrep.ev 48) (ld80 ((S.out.k.cell 20).trans X20.out))) ?_
  clear hrep
  intro A1 hrep
  by_cases hf : x.cap = 0
  case neg =>
    have HN := Lib.hid (fun h => hf (HZ.out.1 h).2.2.2.1)
    have e9 : ((x.cap : Int) == 0) = false := by rw [beq_eq_false_iff_ne]; omega
    refine abs_val (.bool false) rfl rfl rfl hrep (exec_bin .eql 27 27 _ (.const (.int .u64 0)) rfl (hrep.ev 49) rfl (eqgi) (eq_u64 _ _ _ e9 _)) ?_
    clear hrep
    intro A1 hrep
    repeat (refine abs_step (by rfl) hrep ?_; clear hrep; intro A1 hrep)
    refine lst_nil ?_
    have hd := hrep.df
    have hv := hrep.ev 2
    clear hrep
    go_wp2_with fail
    refine bodyPost_ret (results_tmp rfl _ _ _) hd ?_
    exact NO.out _ _ HN.out (congrArg Ending.returned hv) S.out.b
  have e9 : ((x.cap : Int) == 0) = true := by rw [beq_iff_eq]; omega
  refine abs_val (.bool true) rfl rfl rfl hrep (exec_bin .eql 27 27 _ (.const (.int .u64 0)) rfl (hrep.ev 49) rfl (eqgi) (eq_u64 _ _ _ e9 _)) ?_
  clear hrep
  intro A1 hrep
  have Fp := Lib.hid hf
  clear hf
  repeat (refine abs_step (by rfl) hrep ?_; clear hrep; intro A1 hrep)
  refine abs_call rfl rfl rfl hrep (exec_call0 rfl rfl (map2 (hrep.ev 54 |>.trans h3) rfl) en23) ?_
  refine (in_any _ [99, 97, 118] 97 (by simp)).mono ?_
  rintro _ wn ⟨rfl, hb⟩
  have S := Lib.hid (S.out.below hb)
  clear hb
  refine ⟨_, rfl, ?_⟩
  rw [show ([99, 97, 118] : List UInt8).contains 97 = true from rfl]
  clear hrep
  intro A1 hrep
  repeat (refine abs_step (by rfl) hrep ?_; clear hrep; intro A1 hrep)
  refine abs_call rfl rfl rfl hrep (exec_call0 rfl rfl (map2 (hrep.ev 64 |>.trans h3) rfl) en23) ?_
  refine (in_any _ [99, 97, 118] 118 (by simp)).mono ?_
  rintro _ wn ⟨rfl, hb⟩
  have S := Lib.hid (S.out.below hb)
  clear hb
  refine ⟨_, rfl, ?_⟩
  rw [show ([99, 97, 118] : List UInt8).contains 118 = true from rfl]
  clear hrep
  intro A1 hrep
  repeat (refine abs_step (by rfl) hrep ?_; clear hrep; intro A1 hrep)
  refine abs_call rfl rfl rfl hrep (exec_call0 rfl rfl (map2 (hrep.ev 74 |>.trans h3) rfl) en23) ?_
  refine (in_any _ [99, 97, 118] 105 (by simp)).mono ?_
  rintro _ wn ⟨rfl, hb⟩
  have S := Lib.hid (S.out.below hb)
  clear hb
  refine ⟨_, rfl, ?_⟩
  rw [show ([99, 97, 118] : List UInt8).contains 105 = false from rfl]
  clear hrep
  intro A1 hrep
  repeat (refine abs_step (by rfl) hrep ?_; clear hrep; intro A1 hrep)
  refine abs_val (.pointer (some ⟨w.heap.size, 25, none⟩)) rfl rfl rfl hrep (exec_addr 30 _ 13 rfl ((hrep.ev 1).trans h1) fa13) ?_
  clear hrep
  intro A1 hrep
  refine abs_val (.int .u32 (x.item : Int)) rfl rfl rfl hrep (exec_load1 22 _ rfl (hrep.ev 77) (ld22 ((S.out.k.cell 25).trans X25.out))) ?_
  clear hrep
  intro A1 hrep
  by_cases hf : x.item = 0
  case neg =>
    have HN := Lib.hid (fun h => hf (HZ.out.1 h).2.2.2.2.1)
    have e9 : ((x.item : Int) == 0) = false := by rw [beq_eq_false_iff_ne]; omega
    refine abs_val (.bool false) rfl rfl rfl hrep (exec_bin .eql 22 22 _ (.const (.int .u32 0)) rfl (hrep.ev 78) rfl (eqgi) (eq_u32 _ _ _ e9 _)) ?_
    clear hrep
    intro A1 hrep
    repeat (refine abs_step (by rfl) hrep ?_; clear hrep; intro A1 hrep)
    refine lst_nil ?_
    have hd := hrep.df
    have hv := hrep.ev 2
    clear hrep
    go_wp2_with fail
    refine bodyPost_ret (results_tmp rfl _ _ _) hd ?_
    exact NO.out _ _ HN.out (congrArg Ending.returned hv) S.out.b
  have e9 : ((x.item : Int) == 0) = true := by rw [beq_iff_eq]; omega
  refine abs_val (.bool true) rfl rfl rfl hrep (exec_bin .eql 22 22 _ (.const (.int .u32 0)) rfl (hrep.ev 78) rfl (eqgi) (eq_u32 _ _ _ e9 _)) ?_
  clear hrep
  intro A1 hrep
  have Fi := Lib.hid hf
  clear hf
  repeat (refine abs_step (by rfl) hrep ?_; clear hrep; intro A1 hrep)
  refine abs_call rfl rfl rfl hrep (exec_call0 rfl rfl (map2 (hrep.ev 83 |>.trans h3) rfl) en23) ?_
  refine (in_any _ [99, 97, 118] 113 (by simp)).mono ?_
  rintro _ wn ⟨rfl, hb⟩
  have S := Lib.hid (S.out.below hb)
  clear hb
  refine ⟨_, rfl, ?_⟩
  rw [show ([99, 97, 118] : List UInt8).contains 113 = false from rfl]
  clear hrep
  intro A1 hrep
  repeat (refine abs_step (by rfl) hrep ?_; clear hrep; intro A1 hrep)
  refine abs_val (.pointer (some ⟨w.heap.size, 26, none⟩)) rfl rfl rfl hrep (exec_addr 30 _ 14 rfl ((hrep.ev 1).trans h1) fa14) ?_
  clear hrep
  intro A1 hrep
  refine abs_val (.int .u32 (x.qty : Int)) rfl rfl rfl hrep (exec_load1 22 _ rfl (hrep.ev 86) (ld22 ((S.out.k.cell 26).trans X26.out))) ?_
  clear hrep
  intro A1 hrep
  by_cases hf : x.qty = 0
  case neg =>
    have HN := Lib.hid (fun h => hf (HZ.out.1 h).2.2.2.2.2.1)
    have e9 : ((x.qty : Int) == 0) = false := by rw [beq_eq_false_iff_ne]; omega
    refine abs_val (.bool false) rfl rfl rfl hrep (exec_bin .eql 22 22 _ (.const (.int .u32 0)) rfl (hrep.ev 87) rfl (eqgi) (eq_u32 _ _ _ e9 _)) ?_
    clear hrep
    intro A1 hrep
    repeat (refine abs_step (by rfl) hrep ?_; clear hrep; intro A1 hrep)
    refine lst_nil ?_
    have hd := hrep.df
    have hv := hrep.ev 2
    clear hrep
    go_wp2_with fail
    refine bodyPost_ret (results_tmp rfl _ _ _) hd ?_
    exact NO.out _ _ HN.out (congrArg Ending.returned hv) S.out.b
  have e9 : ((x.qty : Int) == 0) = true := by rw [beq_iff_eq]; omega
  refine abs_val (.bool true) rfl rfl rfl hrep (exec_bin .eql 22 22 _ (.const (.int .u32 0)) rfl (hrep.ev 87) rfl (eqgi) (eq_u32 _ _ _ e9 _)) ?_
  clear hrep
  intro A1 hrep
  have Fq := Lib.hid hf
  clear hf
  repeat (refine abs_step (by rfl) hrep ?_; clear hrep; intro A1 hrep)
  refine abs_call rfl rfl rfl hrep (exec_call0 rfl rfl (map2 (hrep.ev 92 |>.trans h3) rfl) en23) ?_
  refine (in_any _ [99, 97, 118] 101 (by simp)).mono ?_
  rintro _ wn ⟨rfl, hb⟩
  have S := Lib.hid (S.out.below hb)
  clear hb
  refine ⟨_, rfl, ?_⟩
  rw [show ([99, 97, 118] : List UInt8).contains 101 = false from rfl]
  clear hrep
  intro A1 hrep
  repeat (refine abs_step (by rfl) hrep ?_; clear hrep; intro A1 hrep)
  refine abs_val (.pointer (some ⟨w.heap.size, 27, none⟩)) rfl rfl rfl hrep (exec_addr 30 _ 15 rfl ((hrep.ev 1).trans h1) fa15) ?_
  clear hrep
  intro A1 hrep
  refine abs_val (.int .u32 (x.price : Int)) rfl rfl rfl hrep (exec_load1 22 _ rfl (hrep.ev 95) (ld22 ((S.out.k.cell 27).trans X27.out))) ?_
  clear hrep
  intro A1 hrep
  by_cases hf : x.price = 0
  case neg =>
    have HN := Lib.hid (fun h => hf (HZ.out.1 h).2.2.2.2.2.2.1)
    have e9 : ((x.price : Int) == 0) = false := by rw [beq_eq_false_iff_ne]; omega
    refine abs_val (.bool false) rfl rfl rfl hrep (exec_bin .eql 22 22 _ (.const (.int .u32 0)) rfl (hrep.ev 96) rfl (eqgi) (eq_u32 _ _ _ e9 _)) ?_
    clear hrep
    intro A1 hrep
    repeat (refine abs_step (by rfl) hrep ?_; clear hrep; intro A1 hrep)
    refine lst_nil ?_
    have hd := hrep.df
    have hv := hrep.ev 2
    clear hrep
    go_wp2_with fail
    refine bodyPost_ret (results_tmp rfl _ _ _) hd ?_
    exact NO.out _ _ HN.out (congrArg Ending.returned hv) S.out.b
  have e9 : ((x.price : Int) == 0) = true := by rw [beq_iff_eq]; omega
  refine abs_val (.bool true) rfl rfl rfl hrep (exec_bin .eql 22 22 _ (.const (.int .u32 0)) rfl (hrep.ev 96) rfl (eqgi) (eq_u32 _ _ _ e9 _)) ?_
  clear hrep
  intro A1 hrep
  have Fe := Lib.hid hf
  clear hf
  repeat (refine abs_step (by rfl) hrep ?_; clear hrep; intro A1 hrep)
  refine abs_call rfl rfl rfl hrep (exec_call0 rfl rfl (map2 (hrep.ev 101 |>.trans h3) rfl) en23) ?_
  refine (in_any _ [99, 97, 118] 108 (by simp)).mono ?_
  rintro _ wn ⟨rfl, hb⟩
  have S := Lib.hid (S.out.below hb)
  clear hb
  refine ⟨_, rfl, ?_⟩
  rw [show ([99, 97, 118] : List UInt8).contains 108 = false from rfl]
  clear hrep
  intro A1 hrep
  repeat (refine abs_step (by rfl) hrep ?_; clear hrep; intro A1 hrep)
  refine abs_val (.pointer (some ⟨w.heap.size, 28, none⟩)) rfl rfl rfl hrep (exec_addr 30 _ 16 rfl ((hrep.ev 1).trans h1) fa16) ?_
  clear hrep
  intro A1 hrep
  refine abs_val (.slice A x.lines.length cap) rfl rfl rfl hrep (exec_load1 28 _ rfl (hrep.ev 104) (ld120 ((S.out.k.cell 28).trans X28.out))) ?_
  clear hrep
  intro A1 hrep
  refine abs_val (.int .i64 (x.lines.length : Int)) rfl rfl rfl hrep (exec_len28 rfl (hrep.ev 105)) ?_
  clear hrep
  intro A1 hrep
  by_cases hf : x.lines = []
  case neg =>
    have HN := Lib.hid (fun h => hf (HZ.out.1 h).2.2.2.2.2.2.2)
    have e9 : ((x.lines.length : Int) == 0) = false := by rw [beq_eq_false_iff_ne]; have := mt HLN.out.2 hf; omega
    refine abs_val (.bool false) rfl rfl rfl hrep (exec_bin .eql 3 3 _ (.const (.int .i64 0)) rfl (hrep.ev 106) rfl (eqgi) (eq_i64 _ _ _ e9 _)) ?_
    clear hrep
    intro A1 hrep
    repeat (refine abs_step (by rfl) hrep ?_; clear hrep; intro A1 hrep)
    refine lst_nil ?_
    have hd := hrep.df
    have hv := hrep.ev 2
    clear hrep
    go_wp2_with fail
    refine bodyPost_ret (results_tmp rfl _ _ _) hd ?_
    exact NO.out _ _ HN.out (congrArg Ending.returned hv) S.out.b
  have e9 : ((x.lines.length : Int) == 0) = true := by rw [beq_iff_eq]; have := HLN.out.1 hf; omega
  refine abs_val (.bool true) rfl rfl rfl hrep (exec_bin .eql 3 3 _ (.const (.int .i64 0)) rfl (hrep.ev 106) rfl (eqgi) (eq_i64 _ _ _ e9 _)) ?_
  clear hrep
  intro A1 hrep
  have Fl := Lib.hid hf
  clear hf
  repeat (refine abs_step (by rfl) hrep ?_; clear hrep; intro A1 hrep)
  refine lst_nil ?_
  have hd := hrep.df
  have hv := hrep.ev 2
  clear hrep
  go_wp2_with fail
  refine bodyPost_ret (results_tmp rfl _ _ _) hd ?_
  exact ⟨true, congrArg Ending.returned hv, by simp only [true_iff]; exact HZ.out.2 ⟨Ft.out, Fr.out, Fd.out, Fp.out, Fi.out, Fq.out, Fe.out, Fl.out⟩, S.out.b⟩
set_option maxRecDepth 100000 in
set_option maxHeartbeats 16000000 in
theorem zero_7 (w : World) (x : NOp) (A : Option Addr) (cap : Nat) (hx : x.ok) (hk : x.kind = 7) : Calls Tryd.prog 21 #[.agg (opA x (.slice A x.lines.length cap))] w (Tells w (bareN x = x)) := by
  have HZ : Hid (bareN x = x ↔ x.dest = 0 ∧ x.roles = 0 ∧ x.depth = 0 ∧ x.cap = 0 ∧ x.item = 0 ∧ x.qty = 0 ∧ x.price = 0 ∧ x.lines = []) := Lib.hid (by
    rw [bare_iff, hk]
    exact ⟨fun h => ⟨(h.2.1 rfl).1, (h.2.1 rfl).2.1, (h.2.1 rfl).2.2.1, (h.2.1 rfl).2.2.2, h.2.2.2.2.1 rfl, h.2.2.2.2.2.1 rfl, h.2.2.2.2.2.2.1 rfl, h.2.2.2.2.2.2.2 rfl⟩, fun h => ⟨fun e => absurd e (by decide), fun _ => ⟨h.1, h.2.1, h.2.2.1, h.2.2.2.1⟩, fun e => absurd e (by decide), fun e => absurd e (by decide), fun _ => h.2.2.2.2.1, fun _ => h.2.2.2.2.2.1, fun _ => h.2.2.2.2.2.2.1, fun _ => h.2.2.2.2.2.2.2⟩⟩)
  have k0 := Blk.new w 30 (opA x (.slice A x.lines.length cap))
  have hb := (Below.refl w.heap.size w).alloc (Nat.le_refl _) (.cells (opA x (.slice A x.lines.length cap)) 30)
  have c14 := (k0.cell 14).trans (op_c14 x _ hx.dep8)
  rw [hk] at c14
  have X17 := Lib.hid (op_c17 x (.slice A x.lines.length cap) hx.dep8)
  have X18 := Lib.hid (op_c18 x (.slice A x.lines.length cap) hx.dep8)
  have X19 := Lib.hid (op_c19 x (.slice A x.lines.length cap) hx.dep8)
  have X20 := Lib.hid (op_c20 x (.slice A x.lines.length cap) hx.dep8)
  have X25 := Lib.hid (op_c25 x (.slice A x.lines.length cap) hx.dep8)
  have X26 := Lib.hid (op_c26 x (.slice A x.lines.length cap) hx.dep8)
  have X27 := Lib.hid (op_c27 x (.slice A x.lines.length cap) hx.dep8)
  have X28 := Lib.hid (op_c28 x (.slice A x.lines.length cap) hx.dep8)
  have HA := Lib.hid (has_any (w.alloc (.cells (opA x (.slice A x.lines.length cap)) 30)) 7 (by omega))
  have K0 := Lib.hid k0
  have HB := Lib.hid hb
  have NO : Hid (∀ (e : Ending) (w' : World), ¬ bareN x = x → e = .returned (.bool false) → Below w.heap.size w w' → Tells w (bareN x = x) e w') := Lib.hid (fun e w' h1 h2 h3 => ⟨false, h2, by simp [h1], h3⟩)
  generalize hX : opA x (.slice A x.lines.length cap) = X at *
  have HLN : Hid (x.lines = [] ↔ x.lines.length = 0) := Lib.hid List.length_eq_zero_iff.symm
  clear hX k0 hb hx hk
  go_enter Tryd.func21, Tryd.ntmps21
  go_wp2_with fail
  refine HA.out.mono ?_
  rintro e w1 ⟨rfl, h1⟩
  have K1 := Lib.hid (K0.out.below h1 K0.out.lt)
  have B1 := Lib.hid (HB.out.trans (h1.mono HB.out.size))
  obtain ⟨t1, t3, tb⟩ := one_set w1 #[.int .u8 0, .int .u32 0] #[.int .u8 0, .int .u32 0] 24
  have T1 := Lib.hid t1
  have S : Hid (ZrW w X w1.heap.size _) := Lib.hid ⟨K1.out.below tb K1.out.lt, t3, B1.out.trans (tb.mono B1.out.size)⟩
  clear h1 c14 t1 t3 tb K0 HB K1 B1 HA
  rw [show hasF 7 = [99, 97, 118] from rfl]
  go_upto_region 3 with (refine wpList_store_row rfl 24 _ _ rfl w1.heap.size #[.int .u8 0, .int .u32 0] rfl rfl 24 _ T1.out zdot_size rfl zdot_one ?_)
  refine lst_begin ?_
  intro A0 hA
  have h1 : A0.eval (.tmp 1) = .pointer (some ⟨w.heap.size, 0, none⟩) := by rw [hA]; rfl
  have h3 : A0.eval (.tmp 3) = .string ⟨([99, 97, 118] : List UInt8).toArray⟩ := by rw [hA]; rfl
  have h4 : A0.eval (.tmp 4) = .pointer (some ⟨w1.heap.size, 0, none⟩) := by rw [hA]; rfl
  have hrep : Rep 110 A0 [] A0 := Rep.start (by rw [hA] <;> rfl) (by rw [hA] <;> rfl)
  clear hA
  generalize ((w1.alloc (.cells #[Value.int .u8 0, .int .u32 0] 24)).setRow w1.heap.size #[.int .u8 0, .int .u32 0]) = wc at *
  generalize w1.heap.size = gz at *
  clear T1
  repeat (refine abs_step (by rfl) hrep ?_; clear hrep; intro A1 hrep)
  refine abs_call rfl rfl rfl hrep (exec_call0 rfl rfl (map2 (hrep.ev 9 |>.trans h3) rfl) en23) ?_
  refine (in_any _ [99, 97, 118] 99 (by simp)).mono ?_
  rintro _ wn ⟨rfl, hb⟩
  have S := Lib.hid (S.out.below hb)
  clear hb
  refine ⟨_, rfl, ?_⟩
  rw [show ([99, 97, 118] : List UInt8).contains 99 = true from rfl]
  clear hrep
  intro A1 hrep
  repeat (refine abs_step (by rfl) hrep ?_; clear hrep; intro A1 hrep)
  refine abs_call rfl rfl rfl hrep (exec_call0 rfl rfl (map2 (hrep.ev 18 |>.trans h3) rfl) en23) ?_
  refine (in_any _ [99, 97, 118] 116 (by simp)).mono ?_
  rintro _ wn ⟨rfl, hb⟩
  have S := Lib.hid (S.out.below hb)
  clear hb
  refine ⟨_, rfl, ?_⟩
  rw [show ([99, 97, 118] : List UInt8).contains 116 = false from rfl]
  clear hrep
  intro A1 hrep
  repeat (refine abs_step (by rfl) hrep ?_; clear hrep; intro A1 hrep)
  refine abs_val (.pointer (some ⟨w.heap.size, 17, none⟩)) rfl rfl rfl hrep (exec_addr 30 _ 7 rfl ((hrep.ev 1).trans h1) fa7) ?_
  clear hrep
  intro A1 hrep
  refine abs_val (.int .u32 (x.dest : Int)) rfl rfl rfl hrep (exec_load1 22 _ rfl (hrep.ev 21) (ld22 ((S.out.k.cell 17).trans X17.out))) ?_
  clear hrep
  intro A1 hrep
  by_cases hf : x.dest = 0
  case neg =>
    have HN := Lib.hid (fun h => hf (HZ.out.1 h).1)
    have e9 : ((x.dest : Int) == 0) = false := by rw [beq_eq_false_iff_ne]; omega
    refine abs_val (.bool false) rfl rfl rfl hrep (exec_bin .eql 22 22 _ (.const (.int .u32 0)) rfl (hrep.ev 22) rfl (eqgi) (eq_u32 _ _ _ e9 _)) ?_
    clear hrep
    intro A1 hrep
    repeat (refine abs_step (by rfl) hrep ?_; clear hrep; intro A1 hrep)
    refine lst_nil ?_
    have hd := hrep.df
    have hv := hrep.ev 2
    clear hrep
    go_wp2_with fail
    refine bodyPost_ret (results_tmp rfl _ _ _) hd ?_
    exact NO.out _ _ HN.out (congrArg Ending.returned hv) S.out.b
  have e9 : ((x.dest : Int) == 0) = true := by rw [beq_iff_eq]; omega
  refine abs_val (.bool true) rfl rfl rfl hrep (exec_bin .eql 22 22 _ (.const (.int .u32 0)) rfl (hrep.ev 22) rfl (eqgi) (eq_u32 _ _ _ e9 _)) ?_
  clear hrep
  intro A1 hrep
  have Ft := Lib.hid hf
  clear hf
  repeat (refine abs_step (by rfl) hrep ?_; clear hrep; intro A1 hrep)
  refine abs_call rfl rfl rfl hrep (exec_call0 rfl rfl (map2 (hrep.ev 27 |>.trans h3) rfl) en23) ?_
  refine (in_any _ [99, 97, 118] 114 (by simp)).mono ?_
  rintro _ wn ⟨rfl, hb⟩
  have S := Lib.hid (S.out.below hb)
  clear hb
  refine ⟨_, rfl, ?_⟩
  rw [show ([99, 97, 118] : List UInt8).contains 114 = false from rfl]
  clear hrep
  intro A1 hrep
  repeat (refine abs_step (by rfl) hrep ?_; clear hrep; intro A1 hrep)
  refine abs_val (.pointer (some ⟨w.heap.size, 18, none⟩)) rfl rfl rfl hrep (exec_addr 30 _ 8 rfl ((hrep.ev 1).trans h1) fa8) ?_
  clear hrep
  intro A1 hrep
  refine abs_val (.int .u8 (x.roles : Int)) rfl rfl rfl hrep (exec_load1 5 _ rfl (hrep.ev 30) (ld5 ((S.out.k.cell 18).trans X18.out))) ?_
  clear hrep
  intro A1 hrep
  by_cases hf : x.roles = 0
  case neg =>
    have HN := Lib.hid (fun h => hf (HZ.out.1 h).2.1)
    have e9 : ((x.roles : Int) == 0) = false := by rw [beq_eq_false_iff_ne]; omega
    refine abs_val (.bool false) rfl rfl rfl hrep (exec_bin .eql 5 5 _ (.const (.int .u8 0)) rfl (hrep.ev 31) rfl (eqgi) (eq_u8 _ _ _ e9 _)) ?_
    clear hrep
    intro A1 hrep
    repeat (refine abs_step (by rfl) hrep ?_; clear hrep; intro A1 hrep)
    refine lst_nil ?_
    have hd := hrep.df
    have hv := hrep.ev 2
    clear hrep
    go_wp2_with fail
    refine bodyPost_ret (results_tmp rfl _ _ _) hd ?_
    exact NO.out _ _ HN.out (congrArg Ending.returned hv) S.out.b
  have e9 : ((x.roles : Int) == 0) = true := by rw [beq_iff_eq]; omega
  refine abs_val (.bool true) rfl rfl rfl hrep (exec_bin .eql 5 5 _ (.const (.int .u8 0)) rfl (hrep.ev 31) rfl (eqgi) (eq_u8 _ _ _ e9 _)) ?_
  clear hrep
  intro A1 hrep
  have Fr := Lib.hid hf
  clear hf
  repeat (refine abs_step (by rfl) hrep ?_; clear hrep; intro A1 hrep)
  refine abs_call rfl rfl rfl hrep (exec_call0 rfl rfl (map2 (hrep.ev 36 |>.trans h3) rfl) en23) ?_
  refine (in_any _ [99, 97, 118] 100 (by simp)).mono ?_
  rintro _ wn ⟨rfl, hb⟩
  have S := Lib.hid (S.out.below hb)
  clear hb
  refine ⟨_, rfl, ?_⟩
  rw [show ([99, 97, 118] : List UInt8).contains 100 = false from rfl]
  clear hrep
  intro A1 hrep
  repeat (refine abs_step (by rfl) hrep ?_; clear hrep; intro A1 hrep)
  refine abs_val (.pointer (some ⟨w.heap.size, 19, none⟩)) rfl rfl rfl hrep (exec_addr 30 _ 9 rfl ((hrep.ev 1).trans h1) fa9) ?_
  clear hrep
  intro A1 hrep
  refine abs_val (.int .u8 (x.depth : Int)) rfl rfl rfl hrep (exec_load1 5 _ rfl (hrep.ev 39) (ld5 ((S.out.k.cell 19).trans X19.out))) ?_
  clear hrep
  intro A1 hrep
  by_cases hf : x.depth = 0
  case neg =>
    have HN := Lib.hid (fun h => hf (HZ.out.1 h).2.2.1)
    have e9 : ((x.depth : Int) == 0) = false := by rw [beq_eq_false_iff_ne]; omega
    refine abs_val (.bool false) rfl rfl rfl hrep (exec_bin .eql 5 5 _ (.const (.int .u8 0)) rfl (hrep.ev 40) rfl (eqgi) (eq_u8 _ _ _ e9 _)) ?_
    clear hrep
    intro A1 hrep
    repeat (refine abs_step (by rfl) hrep ?_; clear hrep; intro A1 hrep)
    refine lst_nil ?_
    have hd := hrep.df
    have hv := hrep.ev 2
    clear hrep
    go_wp2_with fail
    refine bodyPost_ret (results_tmp rfl _ _ _) hd ?_
    exact NO.out _ _ HN.out (congrArg Ending.returned hv) S.out.b
  have e9 : ((x.depth : Int) == 0) = true := by rw [beq_iff_eq]; omega
  refine abs_val (.bool true) rfl rfl rfl hrep (exec_bin .eql 5 5 _ (.const (.int .u8 0)) rfl (hrep.ev 40) rfl (eqgi) (eq_u8 _ _ _ e9 _)) ?_
  clear hrep
  intro A1 hrep
  have Fd := Lib.hid hf
  clear hf
  repeat (refine abs_step (by rfl) hrep ?_; clear hrep; intro A1 hrep)
  refine abs_call rfl rfl rfl hrep (exec_call0 rfl rfl (map2 (hrep.ev 45 |>.trans h3) rfl) en23) ?_
  refine (in_any _ [99, 97, 118] 112 (by simp)).mono ?_
  rintro _ wn ⟨rfl, hb⟩
  have S := Lib.hid (S.out.below hb)
  clear hb
  refine ⟨_, rfl, ?_⟩
  rw [show ([99, 97, 118] : List UInt8).contains 112 = false from rfl]
  clear hrep
  intro A1 hrep
  repeat (refine abs_step (by rfl) hrep ?_; clear hrep; intro A1 hrep)
  refine abs_val (.pointer (some ⟨w.heap.size, 20, none⟩)) rfl rfl rfl hrep (exec_addr 30 _ 10 rfl ((hrep.ev 1).trans h1) fa10) ?_
  clear hrep
  intro A1 hrep
  refine abs_val (.int .u64 (x.cap : Int)) rfl rfl rfl hrep (exec_load1 27 _ rfl (hrep.ev 48) (ld80 ((S.out.k.cell 20).trans X20.out))) ?_
  clear hrep
  intro A1 hrep
  by_cases hf : x.cap = 0
  case neg =>
    have HN := Lib.hid (fun h => hf (HZ.out.1 h).2.2.2.1)
    have e9 : ((x.cap : Int) == 0) = false := by rw [beq_eq_false_iff_ne]; omega
    refine abs_val (.bool false) rfl rfl rfl hrep (exec_bin .eql 27 27 _ (.const (.int .u64 0)) rfl (hrep.ev 49) rfl (eqgi) (eq_u64 _ _ _ e9 _)) ?_
    clear hrep
    intro A1 hrep
    repeat (refine abs_step (by rfl) hrep ?_; clear hrep; intro A1 hrep)
    refine lst_nil ?_
    have hd := hrep.df
    have hv := hrep.ev 2
    clear hrep
    go_wp2_with fail
    refine bodyPost_ret (results_tmp rfl _ _ _) hd ?_
    exact NO.out _ _ HN.out (congrArg Ending.returned hv) S.out.b
  have e9 : ((x.cap : Int) == 0) = true := by rw [beq_iff_eq]; omega
  refine abs_val (.bool true) rfl rfl rfl hrep (exec_bin .eql 27 27 _ (.const (.int .u64 0)) rfl (hrep.ev 49) rfl (eqgi) (eq_u64 _ _ _ e9 _)) ?_
  clear hrep
  intro A1 hrep
  have Fp := Lib.hid hf
  clear hf
  repeat (refine abs_step (by rfl) hrep ?_; clear hrep; intro A1 hrep)
  refine abs_call rfl rfl rfl hrep (exec_call0 rfl rfl (map2 (hrep.ev 54 |>.trans h3) rfl) en23) ?_
  refine (in_any _ [99, 97, 118] 97 (by simp)).mono ?_
  rintro _ wn ⟨rfl, hb⟩
  have S := Lib.hid (S.out.below hb)
  clear hb
  refine ⟨_, rfl, ?_⟩
  rw [show ([99, 97, 118] : List UInt8).contains 97 = true from rfl]
  clear hrep
  intro A1 hrep
  repeat (refine abs_step (by rfl) hrep ?_; clear hrep; intro A1 hrep)
  refine abs_call rfl rfl rfl hrep (exec_call0 rfl rfl (map2 (hrep.ev 64 |>.trans h3) rfl) en23) ?_
  refine (in_any _ [99, 97, 118] 118 (by simp)).mono ?_
  rintro _ wn ⟨rfl, hb⟩
  have S := Lib.hid (S.out.below hb)
  clear hb
  refine ⟨_, rfl, ?_⟩
  rw [show ([99, 97, 118] : List UInt8).contains 118 = true from rfl]
  clear hrep
  intro A1 hrep
  repeat (refine abs_step (by rfl) hrep ?_; clear hrep; intro A1 hrep)
  refine abs_call rfl rfl rfl hrep (exec_call0 rfl rfl (map2 (hrep.ev 74 |>.trans h3) rfl) en23) ?_
  refine (in_any _ [99, 97, 118] 105 (by simp)).mono ?_
  rintro _ wn ⟨rfl, hb⟩
  have S := Lib.hid (S.out.below hb)
  clear hb
  refine ⟨_, rfl, ?_⟩
  rw [show ([99, 97, 118] : List UInt8).contains 105 = false from rfl]
  clear hrep
  intro A1 hrep
  repeat (refine abs_step (by rfl) hrep ?_; clear hrep; intro A1 hrep)
  refine abs_val (.pointer (some ⟨w.heap.size, 25, none⟩)) rfl rfl rfl hrep (exec_addr 30 _ 13 rfl ((hrep.ev 1).trans h1) fa13) ?_
  clear hrep
  intro A1 hrep
  refine abs_val (.int .u32 (x.item : Int)) rfl rfl rfl hrep (exec_load1 22 _ rfl (hrep.ev 77) (ld22 ((S.out.k.cell 25).trans X25.out))) ?_
  clear hrep
  intro A1 hrep
  by_cases hf : x.item = 0
  case neg =>
    have HN := Lib.hid (fun h => hf (HZ.out.1 h).2.2.2.2.1)
    have e9 : ((x.item : Int) == 0) = false := by rw [beq_eq_false_iff_ne]; omega
    refine abs_val (.bool false) rfl rfl rfl hrep (exec_bin .eql 22 22 _ (.const (.int .u32 0)) rfl (hrep.ev 78) rfl (eqgi) (eq_u32 _ _ _ e9 _)) ?_
    clear hrep
    intro A1 hrep
    repeat (refine abs_step (by rfl) hrep ?_; clear hrep; intro A1 hrep)
    refine lst_nil ?_
    have hd := hrep.df
    have hv := hrep.ev 2
    clear hrep
    go_wp2_with fail
    refine bodyPost_ret (results_tmp rfl _ _ _) hd ?_
    exact NO.out _ _ HN.out (congrArg Ending.returned hv) S.out.b
  have e9 : ((x.item : Int) == 0) = true := by rw [beq_iff_eq]; omega
  refine abs_val (.bool true) rfl rfl rfl hrep (exec_bin .eql 22 22 _ (.const (.int .u32 0)) rfl (hrep.ev 78) rfl (eqgi) (eq_u32 _ _ _ e9 _)) ?_
  clear hrep
  intro A1 hrep
  have Fi := Lib.hid hf
  clear hf
  repeat (refine abs_step (by rfl) hrep ?_; clear hrep; intro A1 hrep)
  refine abs_call rfl rfl rfl hrep (exec_call0 rfl rfl (map2 (hrep.ev 83 |>.trans h3) rfl) en23) ?_
  refine (in_any _ [99, 97, 118] 113 (by simp)).mono ?_
  rintro _ wn ⟨rfl, hb⟩
  have S := Lib.hid (S.out.below hb)
  clear hb
  refine ⟨_, rfl, ?_⟩
  rw [show ([99, 97, 118] : List UInt8).contains 113 = false from rfl]
  clear hrep
  intro A1 hrep
  repeat (refine abs_step (by rfl) hrep ?_; clear hrep; intro A1 hrep)
  refine abs_val (.pointer (some ⟨w.heap.size, 26, none⟩)) rfl rfl rfl hrep (exec_addr 30 _ 14 rfl ((hrep.ev 1).trans h1) fa14) ?_
  clear hrep
  intro A1 hrep
  refine abs_val (.int .u32 (x.qty : Int)) rfl rfl rfl hrep (exec_load1 22 _ rfl (hrep.ev 86) (ld22 ((S.out.k.cell 26).trans X26.out))) ?_
  clear hrep
  intro A1 hrep
  by_cases hf : x.qty = 0
  case neg =>
    have HN := Lib.hid (fun h => hf (HZ.out.1 h).2.2.2.2.2.1)
    have e9 : ((x.qty : Int) == 0) = false := by rw [beq_eq_false_iff_ne]; omega
    refine abs_val (.bool false) rfl rfl rfl hrep (exec_bin .eql 22 22 _ (.const (.int .u32 0)) rfl (hrep.ev 87) rfl (eqgi) (eq_u32 _ _ _ e9 _)) ?_
    clear hrep
    intro A1 hrep
    repeat (refine abs_step (by rfl) hrep ?_; clear hrep; intro A1 hrep)
    refine lst_nil ?_
    have hd := hrep.df
    have hv := hrep.ev 2
    clear hrep
    go_wp2_with fail
    refine bodyPost_ret (results_tmp rfl _ _ _) hd ?_
    exact NO.out _ _ HN.out (congrArg Ending.returned hv) S.out.b
  have e9 : ((x.qty : Int) == 0) = true := by rw [beq_iff_eq]; omega
  refine abs_val (.bool true) rfl rfl rfl hrep (exec_bin .eql 22 22 _ (.const (.int .u32 0)) rfl (hrep.ev 87) rfl (eqgi) (eq_u32 _ _ _ e9 _)) ?_
  clear hrep
  intro A1 hrep
  have Fq := Lib.hid hf
  clear hf
  repeat (refine abs_step (by rfl) hrep ?_; clear hrep; intro A1 hrep)
  refine abs_call rfl rfl rfl hrep (exec_call0 rfl rfl (map2 (hrep.ev 92 |>.trans h3) rfl) en23) ?_
  refine (in_any _ [99, 97, 118] 101 (by simp)).mono ?_
  rintro _ wn ⟨rfl, hb⟩
  have S := Lib.hid (S.out.below hb)
  clear hb
  refine ⟨_, rfl, ?_⟩
  rw [show ([99, 97, 118] : List UInt8).contains 101 = false from rfl]
  clear hrep
  intro A1 hrep
  repeat (refine abs_step (by rfl) hrep ?_; clear hrep; intro A1 hrep)
  refine abs_val (.pointer (some ⟨w.heap.size, 27, none⟩)) rfl rfl rfl hrep (exec_addr 30 _ 15 rfl ((hrep.ev 1).trans h1) fa15) ?_
  clear hrep
  intro A1 hrep
  refine abs_val (.int .u32 (x.price : Int)) rfl rfl rfl hrep (exec_load1 22 _ rfl (hrep.ev 95) (ld22 ((S.out.k.cell 27).trans X27.out))) ?_
  clear hrep
  intro A1 hrep
  by_cases hf : x.price = 0
  case neg =>
    have HN := Lib.hid (fun h => hf (HZ.out.1 h).2.2.2.2.2.2.1)
    have e9 : ((x.price : Int) == 0) = false := by rw [beq_eq_false_iff_ne]; omega
    refine abs_val (.bool false) rfl rfl rfl hrep (exec_bin .eql 22 22 _ (.const (.int .u32 0)) rfl (hrep.ev 96) rfl (eqgi) (eq_u32 _ _ _ e9 _)) ?_
    clear hrep
    intro A1 hrep
    repeat (refine abs_step (by rfl) hrep ?_; clear hrep; intro A1 hrep)
    refine lst_nil ?_
    have hd := hrep.df
    have hv := hrep.ev 2
    clear hrep
    go_wp2_with fail
    refine bodyPost_ret (results_tmp rfl _ _ _) hd ?_
    exact NO.out _ _ HN.out (congrArg Ending.returned hv) S.out.b
  have e9 : ((x.price : Int) == 0) = true := by rw [beq_iff_eq]; omega
  refine abs_val (.bool true) rfl rfl rfl hrep (exec_bin .eql 22 22 _ (.const (.int .u32 0)) rfl (hrep.ev 96) rfl (eqgi) (eq_u32 _ _ _ e9 _)) ?_
  clear hrep
  intro A1 hrep
  have Fe := Lib.hid hf
  clear hf
  repeat (refine abs_step (by rfl) hrep ?_; clear hrep; intro A1 hrep)
  refine abs_call rfl rfl rfl hrep (exec_call0 rfl rfl (map2 (hrep.ev 101 |>.trans h3) rfl) en23) ?_
  refine (in_any _ [99, 97, 118] 108 (by simp)).mono ?_
  rintro _ wn ⟨rfl, hb⟩
  have S := Lib.hid (S.out.below hb)
  clear hb
  refine ⟨_, rfl, ?_⟩
  rw [show ([99, 97, 118] : List UInt8).contains 108 = false from rfl]
  clear hrep
  intro A1 hrep
  repeat (refine abs_step (by rfl) hrep ?_; clear hrep; intro A1 hrep)
  refine abs_val (.pointer (some ⟨w.heap.size, 28, none⟩)) rfl rfl rfl hrep (exec_addr 30 _ 16 rfl ((hrep.ev 1).trans h1) fa16) ?_
  clear hrep
  intro A1 hrep
  refine abs_val (.slice A x.lines.length cap) rfl rfl rfl hrep (exec_load1 28 _ rfl (hrep.ev 104) (ld120 ((S.out.k.cell 28).trans X28.out))) ?_
  clear hrep
  intro A1 hrep
  refine abs_val (.int .i64 (x.lines.length : Int)) rfl rfl rfl hrep (exec_len28 rfl (hrep.ev 105)) ?_
  clear hrep
  intro A1 hrep
  by_cases hf : x.lines = []
  case neg =>
    have HN := Lib.hid (fun h => hf (HZ.out.1 h).2.2.2.2.2.2.2)
    have e9 : ((x.lines.length : Int) == 0) = false := by rw [beq_eq_false_iff_ne]; have := mt HLN.out.2 hf; omega
    refine abs_val (.bool false) rfl rfl rfl hrep (exec_bin .eql 3 3 _ (.const (.int .i64 0)) rfl (hrep.ev 106) rfl (eqgi) (eq_i64 _ _ _ e9 _)) ?_
    clear hrep
    intro A1 hrep
    repeat (refine abs_step (by rfl) hrep ?_; clear hrep; intro A1 hrep)
    refine lst_nil ?_
    have hd := hrep.df
    have hv := hrep.ev 2
    clear hrep
    go_wp2_with fail
    refine bodyPost_ret (results_tmp rfl _ _ _) hd ?_
    exact NO.out _ _ HN.out (congrArg Ending.returned hv) S.out.b
  have e9 : ((x.lines.length : Int) == 0) = true := by rw [beq_iff_eq]; have := HLN.out.1 hf; omega
  refine abs_val (.bool true) rfl rfl rfl hrep (exec_bin .eql 3 3 _ (.const (.int .i64 0)) rfl (hrep.ev 106) rfl (eqgi) (eq_i64 _ _ _ e9 _)) ?_
  clear hrep
  intro A1 hrep
  have Fl := Lib.hid hf
  clear hf
  repeat (refine abs_step (by rfl) hrep ?_; clear hrep; intro A1 hrep)
  refine lst_nil ?_
  have hd := hrep.df
  have hv := hrep.ev 2
  clear hrep
  go_wp2_with fail
  refine bodyPost_ret (results_tmp rfl _ _ _) hd ?_
  exact ⟨true, congrArg Ending.returned hv, by simp only [true_iff]; exact HZ.out.2 ⟨Ft.out, Fr.out, Fd.out, Fp.out, Fi.out, Fq.out, Fe.out, Fl.out⟩, S.out.b⟩
set_option maxRecDepth 100000 in
set_option maxHeartbeats 16000000 in
theorem zero_8 (w : World) (x : NOp) (A : Option Addr) (cap : Nat) (hx : x.ok) (hk : x.kind = 8) : Calls Tryd.prog 21 #[.agg (opA x (.slice A x.lines.length cap))] w (Tells w (bareN x = x)) := by
  have HZ : Hid (bareN x = x ↔ x.dest = 0 ∧ x.roles = 0 ∧ x.depth = 0 ∧ x.cap = 0 ∧ (x.ar = 0 ∧ x.an = 0) ∧ (x.vr = 0 ∧ x.vn = 0) ∧ x.item = 0 ∧ x.qty = 0 ∧ x.price = 0) := Lib.hid (by
    rw [bare_iff, hk]
    exact ⟨fun h => ⟨(h.2.1 rfl).1, (h.2.1 rfl).2.1, (h.2.1 rfl).2.2.1, (h.2.1 rfl).2.2.2, h.2.2.1 rfl, h.2.2.2.1 rfl, h.2.2.2.2.1 rfl, h.2.2.2.2.2.1 rfl, h.2.2.2.2.2.2.1 rfl⟩, fun h => ⟨fun e => absurd e (by decide), fun _ => ⟨h.1, h.2.1, h.2.2.1, h.2.2.2.1⟩, fun _ => h.2.2.2.2.1, fun _ => h.2.2.2.2.2.1, fun _ => h.2.2.2.2.2.2.1, fun _ => h.2.2.2.2.2.2.2.1, fun _ => h.2.2.2.2.2.2.2.2, fun e => absurd e (by decide)⟩⟩)
  have k0 := Blk.new w 30 (opA x (.slice A x.lines.length cap))
  have hb := (Below.refl w.heap.size w).alloc (Nat.le_refl _) (.cells (opA x (.slice A x.lines.length cap)) 30)
  have c14 := (k0.cell 14).trans (op_c14 x _ hx.dep8)
  rw [hk] at c14
  have X17 := Lib.hid (op_c17 x (.slice A x.lines.length cap) hx.dep8)
  have X18 := Lib.hid (op_c18 x (.slice A x.lines.length cap) hx.dep8)
  have X19 := Lib.hid (op_c19 x (.slice A x.lines.length cap) hx.dep8)
  have X20 := Lib.hid (op_c20 x (.slice A x.lines.length cap) hx.dep8)
  have X21 := Lib.hid (op_c21 x (.slice A x.lines.length cap) hx.dep8)
  have X22 := Lib.hid (op_c22 x (.slice A x.lines.length cap) hx.dep8)
  have Qa := Lib.hid (fun r hr W => eql_dot x.ar x.an 0 0 hx.ar hx.an (by omega) (by omega) r hr W)
  have X23 := Lib.hid (op_c23 x (.slice A x.lines.length cap) hx.dep8)
  have X24 := Lib.hid (op_c24 x (.slice A x.lines.length cap) hx.dep8)
  have Qv := Lib.hid (fun r hr W => eql_dot x.vr x.vn 0 0 hx.vr hx.vn (by omega) (by omega) r hr W)
  have X25 := Lib.hid (op_c25 x (.slice A x.lines.length cap) hx.dep8)
  have X26 := Lib.hid (op_c26 x (.slice A x.lines.length cap) hx.dep8)
  have X27 := Lib.hid (op_c27 x (.slice A x.lines.length cap) hx.dep8)
  have HA := Lib.hid (has_any (w.alloc (.cells (opA x (.slice A x.lines.length cap)) 30)) 8 (by omega))
  have K0 := Lib.hid k0
  have HB := Lib.hid hb
  have NO : Hid (∀ (e : Ending) (w' : World), ¬ bareN x = x → e = .returned (.bool false) → Below w.heap.size w w' → Tells w (bareN x = x) e w') := Lib.hid (fun e w' h1 h2 h3 => ⟨false, h2, by simp [h1], h3⟩)
  generalize hX : opA x (.slice A x.lines.length cap) = X at *
  have HLN : Hid (x.lines = [] ↔ x.lines.length = 0) := Lib.hid List.length_eq_zero_iff.symm
  clear hX k0 hb hx hk
  go_enter Tryd.func21, Tryd.ntmps21
  go_wp2_with fail
  refine HA.out.mono ?_
  rintro e w1 ⟨rfl, h1⟩
  have K1 := Lib.hid (K0.out.below h1 K0.out.lt)
  have B1 := Lib.hid (HB.out.trans (h1.mono HB.out.size))
  obtain ⟨t1, t3, tb⟩ := one_set w1 #[.int .u8 0, .int .u32 0] #[.int .u8 0, .int .u32 0] 24
  have T1 := Lib.hid t1
  have S : Hid (ZrW w X w1.heap.size _) := Lib.hid ⟨K1.out.below tb K1.out.lt, t3, B1.out.trans (tb.mono B1.out.size)⟩
  clear h1 c14 t1 t3 tb K0 HB K1 B1 HA
  rw [show hasF 8 = [99, 108] from rfl]
  go_upto_region 3 with (refine wpList_store_row rfl 24 _ _ rfl w1.heap.size #[.int .u8 0, .int .u32 0] rfl rfl 24 _ T1.out zdot_size rfl zdot_one ?_)
  refine lst_begin ?_
  intro A0 hA
  have h1 : A0.eval (.tmp 1) = .pointer (some ⟨w.heap.size, 0, none⟩) := by rw [hA]; rfl
  have h3 : A0.eval (.tmp 3) = .string ⟨([99, 108] : List UInt8).toArray⟩ := by rw [hA]; rfl
  have h4 : A0.eval (.tmp 4) = .pointer (some ⟨w1.heap.size, 0, none⟩) := by rw [hA]; rfl
  have hrep : Rep 110 A0 [] A0 := Rep.start (by rw [hA] <;> rfl) (by rw [hA] <;> rfl)
  clear hA
  generalize ((w1.alloc (.cells #[Value.int .u8 0, .int .u32 0] 24)).setRow w1.heap.size #[.int .u8 0, .int .u32 0]) = wc at *
  generalize w1.heap.size = gz at *
  clear T1
  repeat (refine abs_step (by rfl) hrep ?_; clear hrep; intro A1 hrep)
  refine abs_call rfl rfl rfl hrep (exec_call0 rfl rfl (map2 (hrep.ev 9 |>.trans h3) rfl) en23) ?_
  refine (in_any _ [99, 108] 99 (by simp)).mono ?_
  rintro _ wn ⟨rfl, hb⟩
  have S := Lib.hid (S.out.below hb)
  clear hb
  refine ⟨_, rfl, ?_⟩
  rw [show ([99, 108] : List UInt8).contains 99 = true from rfl]
  clear hrep
  intro A1 hrep
  repeat (refine abs_step (by rfl) hrep ?_; clear hrep; intro A1 hrep)
  refine abs_call rfl rfl rfl hrep (exec_call0 rfl rfl (map2 (hrep.ev 18 |>.trans h3) rfl) en23) ?_
  refine (in_any _ [99, 108] 116 (by simp)).mono ?_
  rintro _ wn ⟨rfl, hb⟩
  have S := Lib.hid (S.out.below hb)
  clear hb
  refine ⟨_, rfl, ?_⟩
  rw [show ([99, 108] : List UInt8).contains 116 = false from rfl]
  clear hrep
  intro A1 hrep
  repeat (refine abs_step (by rfl) hrep ?_; clear hrep; intro A1 hrep)
  refine abs_val (.pointer (some ⟨w.heap.size, 17, none⟩)) rfl rfl rfl hrep (exec_addr 30 _ 7 rfl ((hrep.ev 1).trans h1) fa7) ?_
  clear hrep
  intro A1 hrep
  refine abs_val (.int .u32 (x.dest : Int)) rfl rfl rfl hrep (exec_load1 22 _ rfl (hrep.ev 21) (ld22 ((S.out.k.cell 17).trans X17.out))) ?_
  clear hrep
  intro A1 hrep
  by_cases hf : x.dest = 0
  case neg =>
    have HN := Lib.hid (fun h => hf (HZ.out.1 h).1)
    have e9 : ((x.dest : Int) == 0) = false := by rw [beq_eq_false_iff_ne]; omega
    refine abs_val (.bool false) rfl rfl rfl hrep (exec_bin .eql 22 22 _ (.const (.int .u32 0)) rfl (hrep.ev 22) rfl (eqgi) (eq_u32 _ _ _ e9 _)) ?_
    clear hrep
    intro A1 hrep
    repeat (refine abs_step (by rfl) hrep ?_; clear hrep; intro A1 hrep)
    refine lst_nil ?_
    have hd := hrep.df
    have hv := hrep.ev 2
    clear hrep
    go_wp2_with fail
    refine bodyPost_ret (results_tmp rfl _ _ _) hd ?_
    exact NO.out _ _ HN.out (congrArg Ending.returned hv) S.out.b
  have e9 : ((x.dest : Int) == 0) = true := by rw [beq_iff_eq]; omega
  refine abs_val (.bool true) rfl rfl rfl hrep (exec_bin .eql 22 22 _ (.const (.int .u32 0)) rfl (hrep.ev 22) rfl (eqgi) (eq_u32 _ _ _ e9 _)) ?_
  clear hrep
  intro A1 hrep
  have Ft := Lib.hid hf
  clear hf
  repeat (refine abs_step (by rfl) hrep ?_; clear hrep; intro A1 hrep)
  refine abs_call rfl rfl rfl hrep (exec_call0 rfl rfl (map2 (hrep.ev 27 |>.trans h3) rfl) en23) ?_
  refine (in_any _ [99, 108] 114 (by simp)).mono ?_
  rintro _ wn ⟨rfl, hb⟩
  have S := Lib.hid (S.out.below hb)
  clear hb
  refine ⟨_, rfl, ?_⟩
  rw [show ([99, 108] : List UInt8).contains 114 = false from rfl]
  clear hrep
  intro A1 hrep
  repeat (refine abs_step (by rfl) hrep ?_; clear hrep; intro A1 hrep)
  refine abs_val (.pointer (some ⟨w.heap.size, 18, none⟩)) rfl rfl rfl hrep (exec_addr 30 _ 8 rfl ((hrep.ev 1).trans h1) fa8) ?_
  clear hrep
  intro A1 hrep
  refine abs_val (.int .u8 (x.roles : Int)) rfl rfl rfl hrep (exec_load1 5 _ rfl (hrep.ev 30) (ld5 ((S.out.k.cell 18).trans X18.out))) ?_
  clear hrep
  intro A1 hrep
  by_cases hf : x.roles = 0
  case neg =>
    have HN := Lib.hid (fun h => hf (HZ.out.1 h).2.1)
    have e9 : ((x.roles : Int) == 0) = false := by rw [beq_eq_false_iff_ne]; omega
    refine abs_val (.bool false) rfl rfl rfl hrep (exec_bin .eql 5 5 _ (.const (.int .u8 0)) rfl (hrep.ev 31) rfl (eqgi) (eq_u8 _ _ _ e9 _)) ?_
    clear hrep
    intro A1 hrep
    repeat (refine abs_step (by rfl) hrep ?_; clear hrep; intro A1 hrep)
    refine lst_nil ?_
    have hd := hrep.df
    have hv := hrep.ev 2
    clear hrep
    go_wp2_with fail
    refine bodyPost_ret (results_tmp rfl _ _ _) hd ?_
    exact NO.out _ _ HN.out (congrArg Ending.returned hv) S.out.b
  have e9 : ((x.roles : Int) == 0) = true := by rw [beq_iff_eq]; omega
  refine abs_val (.bool true) rfl rfl rfl hrep (exec_bin .eql 5 5 _ (.const (.int .u8 0)) rfl (hrep.ev 31) rfl (eqgi) (eq_u8 _ _ _ e9 _)) ?_
  clear hrep
  intro A1 hrep
  have Fr := Lib.hid hf
  clear hf
  repeat (refine abs_step (by rfl) hrep ?_; clear hrep; intro A1 hrep)
  refine abs_call rfl rfl rfl hrep (exec_call0 rfl rfl (map2 (hrep.ev 36 |>.trans h3) rfl) en23) ?_
  refine (in_any _ [99, 108] 100 (by simp)).mono ?_
  rintro _ wn ⟨rfl, hb⟩
  have S := Lib.hid (S.out.below hb)
  clear hb
  refine ⟨_, rfl, ?_⟩
  rw [show ([99, 108] : List UInt8).contains 100 = false from rfl]
  clear hrep
  intro A1 hrep
  repeat (refine abs_step (by rfl) hrep ?_; clear hrep; intro A1 hrep)
  refine abs_val (.pointer (some ⟨w.heap.size, 19, none⟩)) rfl rfl rfl hrep (exec_addr 30 _ 9 rfl ((hrep.ev 1).trans h1) fa9) ?_
  clear hrep
  intro A1 hrep
  refine abs_val (.int .u8 (x.depth : Int)) rfl rfl rfl hrep (exec_load1 5 _ rfl (hrep.ev 39) (ld5 ((S.out.k.cell 19).trans X19.out))) ?_
  clear hrep
  intro A1 hrep
  by_cases hf : x.depth = 0
  case neg =>
    have HN := Lib.hid (fun h => hf (HZ.out.1 h).2.2.1)
    have e9 : ((x.depth : Int) == 0) = false := by rw [beq_eq_false_iff_ne]; omega
    refine abs_val (.bool false) rfl rfl rfl hrep (exec_bin .eql 5 5 _ (.const (.int .u8 0)) rfl (hrep.ev 40) rfl (eqgi) (eq_u8 _ _ _ e9 _)) ?_
    clear hrep
    intro A1 hrep
    repeat (refine abs_step (by rfl) hrep ?_; clear hrep; intro A1 hrep)
    refine lst_nil ?_
    have hd := hrep.df
    have hv := hrep.ev 2
    clear hrep
    go_wp2_with fail
    refine bodyPost_ret (results_tmp rfl _ _ _) hd ?_
    exact NO.out _ _ HN.out (congrArg Ending.returned hv) S.out.b
  have e9 : ((x.depth : Int) == 0) = true := by rw [beq_iff_eq]; omega
  refine abs_val (.bool true) rfl rfl rfl hrep (exec_bin .eql 5 5 _ (.const (.int .u8 0)) rfl (hrep.ev 40) rfl (eqgi) (eq_u8 _ _ _ e9 _)) ?_
  clear hrep
  intro A1 hrep
  have Fd := Lib.hid hf
  clear hf
  repeat (refine abs_step (by rfl) hrep ?_; clear hrep; intro A1 hrep)
  refine abs_call rfl rfl rfl hrep (exec_call0 rfl rfl (map2 (hrep.ev 45 |>.trans h3) rfl) en23) ?_
  refine (in_any _ [99, 108] 112 (by simp)).mono ?_
  rintro _ wn ⟨rfl, hb⟩
  have S := Lib.hid (S.out.below hb)
  clear hb
  refine ⟨_, rfl, ?_⟩
  rw [show ([99, 108] : List UInt8).contains 112 = false from rfl]
  clear hrep
  intro A1 hrep
  repeat (refine abs_step (by rfl) hrep ?_; clear hrep; intro A1 hrep)
  refine abs_val (.pointer (some ⟨w.heap.size, 20, none⟩)) rfl rfl rfl hrep (exec_addr 30 _ 10 rfl ((hrep.ev 1).trans h1) fa10) ?_
  clear hrep
  intro A1 hrep
  refine abs_val (.int .u64 (x.cap : Int)) rfl rfl rfl hrep (exec_load1 27 _ rfl (hrep.ev 48) (ld80 ((S.out.k.cell 20).trans X20.out))) ?_
  clear hrep
  intro A1 hrep
  by_cases hf : x.cap = 0
  case neg =>
    have HN := Lib.hid (fun h => hf (HZ.out.1 h).2.2.2.1)
    have e9 : ((x.cap : Int) == 0) = false := by rw [beq_eq_false_iff_ne]; omega
    refine abs_val (.bool false) rfl rfl rfl hrep (exec_bin .eql 27 27 _ (.const (.int .u64 0)) rfl (hrep.ev 49) rfl (eqgi) (eq_u64 _ _ _ e9 _)) ?_
    clear hrep
    intro A1 hrep
    repeat (refine abs_step (by rfl) hrep ?_; clear hrep; intro A1 hrep)
    refine lst_nil ?_
    have hd := hrep.df
    have hv := hrep.ev 2
    clear hrep
    go_wp2_with fail
    refine bodyPost_ret (results_tmp rfl _ _ _) hd ?_
    exact NO.out _ _ HN.out (congrArg Ending.returned hv) S.out.b
  have e9 : ((x.cap : Int) == 0) = true := by rw [beq_iff_eq]; omega
  refine abs_val (.bool true) rfl rfl rfl hrep (exec_bin .eql 27 27 _ (.const (.int .u64 0)) rfl (hrep.ev 49) rfl (eqgi) (eq_u64 _ _ _ e9 _)) ?_
  clear hrep
  intro A1 hrep
  have Fp := Lib.hid hf
  clear hf
  repeat (refine abs_step (by rfl) hrep ?_; clear hrep; intro A1 hrep)
  refine abs_call rfl rfl rfl hrep (exec_call0 rfl rfl (map2 (hrep.ev 54 |>.trans h3) rfl) en23) ?_
  refine (in_any _ [99, 108] 97 (by simp)).mono ?_
  rintro _ wn ⟨rfl, hb⟩
  have S := Lib.hid (S.out.below hb)
  clear hb
  refine ⟨_, rfl, ?_⟩
  rw [show ([99, 108] : List UInt8).contains 97 = false from rfl]
  clear hrep
  intro A1 hrep
  repeat (refine abs_step (by rfl) hrep ?_; clear hrep; intro A1 hrep)
  refine abs_val (.pointer (some ⟨w.heap.size, 21, none⟩)) rfl rfl rfl hrep (exec_addr 30 _ 11 rfl ((hrep.ev 1).trans h1) fa11) ?_
  clear hrep
  intro A1 hrep
  refine abs_val (.agg #[.int .u8 (x.ar : Int), .int .u32 (x.an : Int)]) rfl rfl rfl hrep (exec_load1 24 _ rfl (hrep.ev 57) (ld82 (o := 21) ((S.out.k.cell 21).trans X21.out) ((S.out.k.cell 22).trans X22.out))) ?_
  clear hrep
  intro A1 hrep
  refine abs_val (.agg #[.int .u8 0, .int .u32 0]) rfl rfl rfl hrep (exec_load1 24 _ rfl ((hrep.ev 4).trans h4) (lit82 S.out.z)) ?_
  clear hrep
  intro A1 hrep
  by_cases hf : x.ar = 0 ∧ x.an = 0
  case neg =>
    have HN := Lib.hid (fun h => hf (HZ.out.1 h).2.2.2.2.1)
    refine abs_val (.bool false) rfl rfl rfl hrep (exec_bin .eql 24 24 _ _ rfl (hrep.ev 58) (hrep.ev 59) (eqg_agg _ _ _ _ _ _ _ eqt82) (Qa.out false (by simp [hf]) _)) ?_
    clear hrep
    intro A1 hrep
    repeat (refine abs_step (by rfl) hrep ?_; clear hrep; intro A1 hrep)
    refine lst_nil ?_
    have hd := hrep.df
    have hv := hrep.ev 2
    clear hrep
    go_wp2_with fail
    refine bodyPost_ret (results_tmp rfl _ _ _) hd ?_
    exact NO.out _ _ HN.out (congrArg Ending.returned hv) S.out.b
  refine abs_val (.bool true) rfl rfl rfl hrep (exec_bin .eql 24 24 _ _ rfl (hrep.ev 58) (hrep.ev 59) (eqg_agg _ _ _ _ _ _ _ eqt82) (Qa.out true (by simp [hf]) _)) ?_
  clear hrep
  intro A1 hrep
  have Fa := Lib.hid hf
  clear hf
  repeat (refine abs_step (by rfl) hrep ?_; clear hrep; intro A1 hrep)
  refine abs_call rfl rfl rfl hrep (exec_call0 rfl rfl (map2 (hrep.ev 64 |>.trans h3) rfl) en23) ?_
  refine (in_any _ [99, 108] 118 (by simp)).mono ?_
  rintro _ wn ⟨rfl, hb⟩
  have S := Lib.hid (S.out.below hb)
  clear hb
  refine ⟨_, rfl, ?_⟩
  rw [show ([99, 108] : List UInt8).contains 118 = false from rfl]
  clear hrep
  intro A1 hrep
  repeat (refine abs_step (by rfl) hrep ?_; clear hrep; intro A1 hrep)
  refine abs_val (.pointer (some ⟨w.heap.size, 23, none⟩)) rfl rfl rfl hrep (exec_addr 30 _ 12 rfl ((hrep.ev 1).trans h1) fa12) ?_
  clear hrep
  intro A1 hrep
  refine abs_val (.agg #[.int .u8 (x.vr : Int), .int .u32 (x.vn : Int)]) rfl rfl rfl hrep (exec_load1 24 _ rfl (hrep.ev 67) (ld82 (o := 23) ((S.out.k.cell 23).trans X23.out) ((S.out.k.cell 24).trans X24.out))) ?_
  clear hrep
  intro A1 hrep
  refine abs_val (.agg #[.int .u8 0, .int .u32 0]) rfl rfl rfl hrep (exec_load1 24 _ rfl ((hrep.ev 4).trans h4) (lit82 S.out.z)) ?_
  clear hrep
  intro A1 hrep
  by_cases hf : x.vr = 0 ∧ x.vn = 0
  case neg =>
    have HN := Lib.hid (fun h => hf (HZ.out.1 h).2.2.2.2.2.1)
    refine abs_val (.bool false) rfl rfl rfl hrep (exec_bin .eql 24 24 _ _ rfl (hrep.ev 68) (hrep.ev 69) (eqg_agg _ _ _ _ _ _ _ eqt82) (Qv.out false (by simp [hf]) _)) ?_
    clear hrep
    intro A1 hrep
    repeat (refine abs_step (by rfl) hrep ?_; clear hrep; intro A1 hrep)
    refine lst_nil ?_
    have hd := hrep.df
    have hv := hrep.ev 2
    clear hrep
    go_wp2_with fail
    refine bodyPost_ret (results_tmp rfl _ _ _) hd ?_
    exact NO.out _ _ HN.out (congrArg Ending.returned hv) S.out.b
  refine abs_val (.bool true) rfl rfl rfl hrep (exec_bin .eql 24 24 _ _ rfl (hrep.ev 68) (hrep.ev 69) (eqg_agg _ _ _ _ _ _ _ eqt82) (Qv.out true (by simp [hf]) _)) ?_
  clear hrep
  intro A1 hrep
  have Fv := Lib.hid hf
  clear hf
  repeat (refine abs_step (by rfl) hrep ?_; clear hrep; intro A1 hrep)
  refine abs_call rfl rfl rfl hrep (exec_call0 rfl rfl (map2 (hrep.ev 74 |>.trans h3) rfl) en23) ?_
  refine (in_any _ [99, 108] 105 (by simp)).mono ?_
  rintro _ wn ⟨rfl, hb⟩
  have S := Lib.hid (S.out.below hb)
  clear hb
  refine ⟨_, rfl, ?_⟩
  rw [show ([99, 108] : List UInt8).contains 105 = false from rfl]
  clear hrep
  intro A1 hrep
  repeat (refine abs_step (by rfl) hrep ?_; clear hrep; intro A1 hrep)
  refine abs_val (.pointer (some ⟨w.heap.size, 25, none⟩)) rfl rfl rfl hrep (exec_addr 30 _ 13 rfl ((hrep.ev 1).trans h1) fa13) ?_
  clear hrep
  intro A1 hrep
  refine abs_val (.int .u32 (x.item : Int)) rfl rfl rfl hrep (exec_load1 22 _ rfl (hrep.ev 77) (ld22 ((S.out.k.cell 25).trans X25.out))) ?_
  clear hrep
  intro A1 hrep
  by_cases hf : x.item = 0
  case neg =>
    have HN := Lib.hid (fun h => hf (HZ.out.1 h).2.2.2.2.2.2.1)
    have e9 : ((x.item : Int) == 0) = false := by rw [beq_eq_false_iff_ne]; omega
    refine abs_val (.bool false) rfl rfl rfl hrep (exec_bin .eql 22 22 _ (.const (.int .u32 0)) rfl (hrep.ev 78) rfl (eqgi) (eq_u32 _ _ _ e9 _)) ?_
    clear hrep
    intro A1 hrep
    repeat (refine abs_step (by rfl) hrep ?_; clear hrep; intro A1 hrep)
    refine lst_nil ?_
    have hd := hrep.df
    have hv := hrep.ev 2
    clear hrep
    go_wp2_with fail
    refine bodyPost_ret (results_tmp rfl _ _ _) hd ?_
    exact NO.out _ _ HN.out (congrArg Ending.returned hv) S.out.b
  have e9 : ((x.item : Int) == 0) = true := by rw [beq_iff_eq]; omega
  refine abs_val (.bool true) rfl rfl rfl hrep (exec_bin .eql 22 22 _ (.const (.int .u32 0)) rfl (hrep.ev 78) rfl (eqgi) (eq_u32 _ _ _ e9 _)) ?_
  clear hrep
  intro A1 hrep
  have Fi := Lib.hid hf
  clear hf
  repeat (refine abs_step (by rfl) hrep ?_; clear hrep; intro A1 hrep)
  refine abs_call rfl rfl rfl hrep (exec_call0 rfl rfl (map2 (hrep.ev 83 |>.trans h3) rfl) en23) ?_
  refine (in_any _ [99, 108] 113 (by simp)).mono ?_
  rintro _ wn ⟨rfl, hb⟩
  have S := Lib.hid (S.out.below hb)
  clear hb
  refine ⟨_, rfl, ?_⟩
  rw [show ([99, 108] : List UInt8).contains 113 = false from rfl]
  clear hrep
  intro A1 hrep
  repeat (refine abs_step (by rfl) hrep ?_; clear hrep; intro A1 hrep)
  refine abs_val (.pointer (some ⟨w.heap.size, 26, none⟩)) rfl rfl rfl hrep (exec_addr 30 _ 14 rfl ((hrep.ev 1).trans h1) fa14) ?_
  clear hrep
  intro A1 hrep
  refine abs_val (.int .u32 (x.qty : Int)) rfl rfl rfl hrep (exec_load1 22 _ rfl (hrep.ev 86) (ld22 ((S.out.k.cell 26).trans X26.out))) ?_
  clear hrep
  intro A1 hrep
  by_cases hf : x.qty = 0
  case neg =>
    have HN := Lib.hid (fun h => hf (HZ.out.1 h).2.2.2.2.2.2.2.1)
    have e9 : ((x.qty : Int) == 0) = false := by rw [beq_eq_false_iff_ne]; omega
    refine abs_val (.bool false) rfl rfl rfl hrep (exec_bin .eql 22 22 _ (.const (.int .u32 0)) rfl (hrep.ev 87) rfl (eqgi) (eq_u32 _ _ _ e9 _)) ?_
    clear hrep
    intro A1 hrep
    repeat (refine abs_step (by rfl) hrep ?_; clear hrep; intro A1 hrep)
    refine lst_nil ?_
    have hd := hrep.df
    have hv := hrep.ev 2
    clear hrep
    go_wp2_with fail
    refine bodyPost_ret (results_tmp rfl _ _ _) hd ?_
    exact NO.out _ _ HN.out (congrArg Ending.returned hv) S.out.b
  have e9 : ((x.qty : Int) == 0) = true := by rw [beq_iff_eq]; omega
  refine abs_val (.bool true) rfl rfl rfl hrep (exec_bin .eql 22 22 _ (.const (.int .u32 0)) rfl (hrep.ev 87) rfl (eqgi) (eq_u32 _ _ _ e9 _)) ?_
  clear hrep
  intro A1 hrep
  have Fq := Lib.hid hf
  clear hf
  repeat (refine abs_step (by rfl) hrep ?_; clear hrep; intro A1 hrep)
  refine abs_call rfl rfl rfl hrep (exec_call0 rfl rfl (map2 (hrep.ev 92 |>.trans h3) rfl) en23) ?_
  refine (in_any _ [99, 108] 101 (by simp)).mono ?_
  rintro _ wn ⟨rfl, hb⟩
  have S := Lib.hid (S.out.below hb)
  clear hb
  refine ⟨_, rfl, ?_⟩
  rw [show ([99, 108] : List UInt8).contains 101 = false from rfl]
  clear hrep
  intro A1 hrep
  repeat (refine abs_step (by rfl) hrep ?_; clear hrep; intro A1 hrep)
  refine abs_val (.pointer (some ⟨w.heap.size, 27, none⟩)) rfl rfl rfl hrep (exec_addr 30 _ 15 rfl ((hrep.ev 1).trans h1) fa15) ?_
  clear hrep
  intro A1 hrep
  refine abs_val (.int .u32 (x.price : Int)) rfl rfl rfl hrep (exec_load1 22 _ rfl (hrep.ev 95) (ld22 ((S.out.k.cell 27).trans X27.out))) ?_
  clear hrep
  intro A1 hrep
  by_cases hf : x.price = 0
  case neg =>
    have HN := Lib.hid (fun h => hf (HZ.out.1 h).2.2.2.2.2.2.2.2)
    have e9 : ((x.price : Int) == 0) = false := by rw [beq_eq_false_iff_ne]; omega
    refine abs_val (.bool false) rfl rfl rfl hrep (exec_bin .eql 22 22 _ (.const (.int .u32 0)) rfl (hrep.ev 96) rfl (eqgi) (eq_u32 _ _ _ e9 _)) ?_
    clear hrep
    intro A1 hrep
    repeat (refine abs_step (by rfl) hrep ?_; clear hrep; intro A1 hrep)
    refine lst_nil ?_
    have hd := hrep.df
    have hv := hrep.ev 2
    clear hrep
    go_wp2_with fail
    refine bodyPost_ret (results_tmp rfl _ _ _) hd ?_
    exact NO.out _ _ HN.out (congrArg Ending.returned hv) S.out.b
  have e9 : ((x.price : Int) == 0) = true := by rw [beq_iff_eq]; omega
  refine abs_val (.bool true) rfl rfl rfl hrep (exec_bin .eql 22 22 _ (.const (.int .u32 0)) rfl (hrep.ev 96) rfl (eqgi) (eq_u32 _ _ _ e9 _)) ?_
  clear hrep
  intro A1 hrep
  have Fe := Lib.hid hf
  clear hf
  repeat (refine abs_step (by rfl) hrep ?_; clear hrep; intro A1 hrep)
  refine abs_call rfl rfl rfl hrep (exec_call0 rfl rfl (map2 (hrep.ev 101 |>.trans h3) rfl) en23) ?_
  refine (in_any _ [99, 108] 108 (by simp)).mono ?_
  rintro _ wn ⟨rfl, hb⟩
  have S := Lib.hid (S.out.below hb)
  clear hb
  refine ⟨_, rfl, ?_⟩
  rw [show ([99, 108] : List UInt8).contains 108 = true from rfl]
  clear hrep
  intro A1 hrep
  repeat (refine abs_step (by rfl) hrep ?_; clear hrep; intro A1 hrep)
  refine lst_nil ?_
  have hd := hrep.df
  have hv := hrep.ev 2
  clear hrep
  go_wp2_with fail
  refine bodyPost_ret (results_tmp rfl _ _ _) hd ?_
  exact ⟨true, congrArg Ending.returned hv, by simp only [true_iff]; exact HZ.out.2 ⟨Ft.out, Fr.out, Fd.out, Fp.out, Fa.out, Fv.out, Fi.out, Fq.out, Fe.out⟩, S.out.b⟩
theorem zero_any (w : World) (x : NOp) (A : Option Addr) (cap : Nat) (hx : x.ok) (hk : x.kind ≤ 8) : Calls Tryd.prog 21 #[.agg (opA x (.slice A x.lines.length cap))] w (Tells w (bareN x = x)) := by
  obtain h | h | h | h | h | h | h | h | h : x.kind = 0 ∨ x.kind = 1 ∨ x.kind = 2 ∨ x.kind = 3 ∨ x.kind = 4 ∨ x.kind = 5 ∨ x.kind = 6 ∨ x.kind = 7 ∨ x.kind = 8 := by omega
  · exact zero_0 w x A cap hx h
  · exact zero_1 w x A cap hx h
  · exact zero_2 w x A cap hx h
  · exact zero_3 w x A cap hx h
  · exact zero_4 w x A cap hx h
  · exact zero_5 w x A cap hx h
  · exact zero_6 w x A cap hx h
  · exact zero_7 w x A cap hx h
  · exact zero_8 w x A cap hx h
end Go.Proofs.YtfojjklohbiffaaDoor
