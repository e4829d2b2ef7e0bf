/- Operations compared: op.of, slices.Equal, op.Same; the document's Same. -/
import Derived.Test.YtfojjklohbiffaaDoorSameA
import Derived.Test.YtfojjklohbiffaaDoorOpC
import Derived.Test.YtfojjklohbiffaaDoorOpD
import Derived.Test.YtfojjklohbiffaaDoorOpG
import Derived.Test.YtfojjklohbiffaaDoorQui
import Derived.Test.YtfojjklohbiffaaDoorFld
import Derived.Deep.CutRange
import Derived.Test.YtfojjklohbiffaaDoorFld
namespace Go.Proofs.YtfojjklohbiffaaDoor
open Go.RowKit Tran
set_option linter.unusedVariables false
set_option linter.unusedSimpArgs false
def z28 : Array Value := plainA zeroO
theorem z28_eq : z28 = #[.int .u8 0, .int .u32 0, .int .u32 0, .int .u32 0, .int .u32 0, .int .u32 0, .int .u32 0, .int .u32 0, .int .u32 0, .int .u32 0, .int .u64 0, .int .u32 0, .int .u8 0, .int .u32 0, .int .u8 0, .int .u8 0, .int .u32 0, .int .u32 0, .int .u8 0, .int .u8 0, .int .u64 0, .int .u8 0, .int .u32 0, .int .u8 0, .int .u32 0, .int .u32 0, .int .u32 0, .int .u32 0] := rfl
theorem z28_size : z28.size = 28 := rfl
theorem wpList_build_to {P : Program} {ops : Array Oper} {rest : List Oper} {o : Oper} {a : Act} {w : World} {Q : Exit → Act → World → Prop} (hgd : o.guard = none) (t : TypeId) (parts : Array (Nat × Operand)) (ho : o.op = .build t parts) (cells : Array Value)
    (hc : P.built t (parts.map fun (i, x) => (i, a.eval x)).toList = some cells) (h : wpList P ops Q rest (a.put o.dst (.agg cells)) w) : wpList P ops Q (o :: rest) a w := by
  refine wpList_plain hgd fun K hK => ?_
  unfold Oper.wp execOp
  simp only [ho, Sem.run_bind, run_build w t _ cells hc, Result.andThen_ok]
  exact hK _ _ h
set_option maxRecDepth 100000 in
set_option maxHeartbeats 8000000 in
theorem of_any (w : World) (x : NOp) (lv : Value) (h8 : x.dep.length = 8) : Calls Tryd.prog 43 #[.agg (opA x lv)] w fun e w' => e = .returned (.agg (plainA x)) ∧ Below w.heap.size w w' := by
  have k0 := (Blk.new w 30 (opA x lv)).alloc (.cells z28 77)
  have kn := Blk.new (w.alloc (.cells (opA x lv) 30)) 77 z28
  rw [World.size_alloc] at kn
  have hb := (((Below.refl w.heap.size w).alloc (Nat.le_refl _) (.cells (opA x lv) 30)).alloc (by simp) (.cells z28 77))
  have c0 := (k0.cell 0).trans (op_c0 x _)
  have c1 := (k0.cell 1).trans (op_c1 x _)
  have c10 := (k0.cell 10).trans (op_c10 x _ h8)
  have c11 := (k0.cell 11).trans (op_c11 x _ h8)
  have c12 := (k0.cell 12).trans (op_c12 x _ h8)
  have c13 := (k0.cell 13).trans (op_c13 x _ h8)
  have c14 := (k0.cell 14).trans (op_c14 x _ h8)
  have c15 := (k0.cell 15).trans (op_c15 x _ h8)
  have c16 := (k0.cell 16).trans (op_c16 x _ h8)
  have c17 := (k0.cell 17).trans (op_c17 x _ h8)
  have c18 := (k0.cell 18).trans (op_c18 x _ h8)
  have c19 := (k0.cell 19).trans (op_c19 x _ h8)
  have c20 := (k0.cell 20).trans (op_c20 x _ h8)
  have c21 := (k0.cell 21).trans (op_c21 x _ h8)
  have c22 := (k0.cell 22).trans (op_c22 x _ h8)
  have c23 := (k0.cell 23).trans (op_c23 x _ h8)
  have c24 := (k0.cell 24).trans (op_c24 x _ h8)
  have c25 := (k0.cell 25).trans (op_c25 x _ h8)
  have c26 := (k0.cell 26).trans (op_c26 x _ h8)
  have c27 := (k0.cell 27).trans (op_c27 x _ h8)
  have HP := Lib.hid (plainA_size x h8)
  have HC := Lib.hid (fun j u (hj : (vecA x.dep)[j]? = some u) => (k0.cell (2 + j)).trans (op_c2 x _ j u (by simpa [vecA] using hj)))
  have KN := Lib.hid kn
  have HB := Lib.hid hb
  obtain ⟨PA, hPA⟩ : ∃ PA, plainA x = PA := ⟨_, rfl⟩
  have H1 := Lib.hid (plainA_one x)
  rw [hPA] at H1 HP ⊢
  have HPA := Lib.hid hPA
  obtain ⟨OA, hOA⟩ : ∃ OA, opA x lv = OA := ⟨_, rfl⟩
  rw [hOA] at c0 c1 c10 c11 c12 c13 c14 c15 c16 c17 c18 c19 c20 c21 c22 c23 c24 c25 c26 c27 KN HC HB ⊢
  clear k0 kn hb hPA hOA
  obtain ⟨dr, dn, dep, time, who, cr, cn, kind, er, en, tO, roles, depth, cap, ar, an, vr, vn, item, qty, price, lines⟩ := x
  obtain ⟨a, b, c, d, e, f, g, i, rfl⟩ := dep8 h8
  simp only at c0 c1 c10 c11 c12 c13 c14 c15 c16 c17 c18 c19 c20 c21 c22 c23 c24 c25 c26 c27

  have HL : vecA [a, b, c, d, e, f, g, i] = #[.int .u32 (a : Int), .int .u32 (b : Int), .int .u32 (c : Int), .int .u32 (d : Int), .int .u32 (e : Int), .int .u32 (f : Int), .int .u32 (g : Int), .int .u32 (i : Int)] := rfl
  rw [HL] at HC
  clear h8 HL
  rw [z28_eq] at c0 c1 c10 c11 c12 c13 c14 c15 c16 c17 c18 c19 c20 c21 c22 c23 c24 c25 c26 c27 KN HC HB
  go_enter Tryd.func43, Tryd.ntmps43
  go_upto_region 1 with (fail)
  refine lst_begin ?_
  intro A hA
  have h1 : A.eval (.tmp 1) = .pointer (some ⟨w.heap.size, 0, none⟩) := by rw [hA]; rfl
  have h2 : A.eval (.tmp 2) = .pointer (some ⟨w.heap.size + 1, 0, none⟩) := by rw [hA]; rfl
  have hsz : A.tmps.size = 36 := by rw [hA]; rfl
  have hA := Lib.hid hA
  refine lst_val (some 3) (v := .pointer (some ⟨w.heap.size, 0, none⟩)) rfl rfl (exec_addr 30 _ 0 rfl h1 (fa0)) ?_
  refine lst_val (some 4) (v := .agg #[.int .u8 (dr : Int), .int .u32 (dn : Int)]) rfl rfl (exec_load1 24 _ rfl (ev_eq (by (try simp only [Act.size_put]); rw [hsz]; decide)) (ld82 c0 c1)) ?_
  refine lst_val (some 5) (v := .pointer (some ⟨w.heap.size, 2, none⟩)) rfl rfl (exec_addr 30 _ 1 rfl (ev_ne (by rfl) (ev_ne (by rfl) h1)) (fa1)) ?_
  refine lst_val (some 6) (v := .agg #[.int .u32 (a : Int), .int .u32 (b : Int), .int .u32 (c : Int), .int .u32 (d : Int), .int .u32 (e : Int), .int .u32 (f : Int), .int .u32 (g : Int), .int .u32 (i : Int)]) rfl rfl (exec_load1 26 _ rfl (ev_eq (by (try simp only [Act.size_put]); rw [hsz]; decide)) (ld54 [a, b, c, d, e, f, g, i] rfl (fun j u hj => HC.out j u (by simpa [vecA] using hj)))) ?_
  refine lst_val (some 7) (v := .pointer (some ⟨w.heap.size, 10, none⟩)) rfl rfl (exec_addr 30 _ 2 rfl (ev_ne (by rfl) (ev_ne (by rfl) (ev_ne (by rfl) (ev_ne (by rfl) h1)))) (fa2)) ?_
  refine lst_val (some 8) (v := .int .u64 (time : Int)) rfl rfl (exec_load1 27 _ rfl (ev_eq (by (try simp only [Act.size_put]); rw [hsz]; decide)) (ld80 c10)) ?_
  refine lst_val (some 9) (v := .pointer (some ⟨w.heap.size, 11, none⟩)) rfl rfl (exec_addr 30 _ 3 rfl (ev_ne (by rfl) (ev_ne (by rfl) (ev_ne (by rfl) (ev_ne (by rfl) (ev_ne (by rfl) (ev_ne (by rfl) h1)))))) (fa3)) ?_
  refine lst_val (some 10) (v := .int .u32 (who : Int)) rfl rfl (exec_load1 22 _ rfl (ev_eq (by (try simp only [Act.size_put]); rw [hsz]; decide)) (ld22 c11)) ?_
  refine lst_val (some 11) (v := .pointer (some ⟨w.heap.size, 12, none⟩)) rfl rfl (exec_addr 30 _ 4 rfl (ev_ne (by rfl) (ev_ne (by rfl) (ev_ne (by rfl) (ev_ne (by rfl) (ev_ne (by rfl) (ev_ne (by rfl) (ev_ne (by rfl) (ev_ne (by rfl) h1)))))))) (fa4)) ?_
  refine lst_val (some 12) (v := .agg #[.int .u8 (cr : Int), .int .u32 (cn : Int)]) rfl rfl (exec_load1 24 _ rfl (ev_eq (by (try simp only [Act.size_put]); rw [hsz]; decide)) (ld82 c12 c13)) ?_
  refine lst_val (some 13) (v := .pointer (some ⟨w.heap.size, 14, none⟩)) rfl rfl (exec_addr 30 _ 5 rfl (ev_ne (by rfl) (ev_ne (by rfl) (ev_ne (by rfl) (ev_ne (by rfl) (ev_ne (by rfl) (ev_ne (by rfl) (ev_ne (by rfl) (ev_ne (by rfl) (ev_ne (by rfl) (ev_ne (by rfl) h1)))))))))) (fa5)) ?_
  refine lst_val (some 14) (v := .int .u8 (kind : Int)) rfl rfl (exec_load1 5 _ rfl (ev_eq (by (try simp only [Act.size_put]); rw [hsz]; decide)) (ld5 c14)) ?_
  refine lst_val (some 15) (v := .pointer (some ⟨w.heap.size, 15, none⟩)) rfl rfl (exec_addr 30 _ 6 rfl (ev_ne (by rfl) (ev_ne (by rfl) (ev_ne (by rfl) (ev_ne (by rfl) (ev_ne (by rfl) (ev_ne (by rfl) (ev_ne (by rfl) (ev_ne (by rfl) (ev_ne (by rfl) (ev_ne (by rfl) (ev_ne (by rfl) (ev_ne (by rfl) h1)))))))))))) (fa6)) ?_
  refine lst_val (some 16) (v := .agg #[.int .u8 (er : Int), .int .u32 (en : Int)]) rfl rfl (exec_load1 24 _ rfl (ev_eq (by (try simp only [Act.size_put]); rw [hsz]; decide)) (ld82 c15 c16)) ?_
  refine lst_val (some 17) (v := .pointer (some ⟨w.heap.size, 17, none⟩)) rfl rfl (exec_addr 30 _ 7 rfl (ev_ne (by rfl) (ev_ne (by rfl) (ev_ne (by rfl) (ev_ne (by rfl) (ev_ne (by rfl) (ev_ne (by rfl) (ev_ne (by rfl) (ev_ne (by rfl) (ev_ne (by rfl) (ev_ne (by rfl) (ev_ne (by rfl) (ev_ne (by rfl) (ev_ne (by rfl) (ev_ne (by rfl) h1)))))))))))))) (fa7)) ?_
  refine lst_val (some 18) (v := .int .u32 (tO : Int)) rfl rfl (exec_load1 22 _ rfl (ev_eq (by (try simp only [Act.size_put]); rw [hsz]; decide)) (ld22 c17)) ?_
  refine lst_val (some 19) (v := .pointer (some ⟨w.heap.size, 18, none⟩)) rfl rfl (exec_addr 30 _ 8 rfl (ev_ne (by rfl) (ev_ne (by rfl) (ev_ne (by rfl) (ev_ne (by rfl) (ev_ne (by rfl) (ev_ne (by rfl) (ev_ne (by rfl) (ev_ne (by rfl) (ev_ne (by rfl) (ev_ne (by rfl) (ev_ne (by rfl) (ev_ne (by rfl) (ev_ne (by rfl) (ev_ne (by rfl) (ev_ne (by rfl) (ev_ne (by rfl) h1)))))))))))))))) (fa8)) ?_
  refine lst_val (some 20) (v := .int .u8 (roles : Int)) rfl rfl (exec_load1 5 _ rfl (ev_eq (by (try simp only [Act.size_put]); rw [hsz]; decide)) (ld5 c18)) ?_
  refine lst_val (some 21) (v := .pointer (some ⟨w.heap.size, 19, none⟩)) rfl rfl (exec_addr 30 _ 9 rfl (ev_ne (by rfl) (ev_ne (by rfl) (ev_ne (by rfl) (ev_ne (by rfl) (ev_ne (by rfl) (ev_ne (by rfl) (ev_ne (by rfl) (ev_ne (by rfl) (ev_ne (by rfl) (ev_ne (by rfl) (ev_ne (by rfl) (ev_ne (by rfl) (ev_ne (by rfl) (ev_ne (by rfl) (ev_ne (by rfl) (ev_ne (by rfl) (ev_ne (by rfl) (ev_ne (by rfl) h1)))))))))))))))))) (fa9)) ?_
  refine lst_val (some 22) (v := .int .u8 (depth : Int)) rfl rfl (exec_load1 5 _ rfl (ev_eq (by (try simp only [Act.size_put]); rw [hsz]; decide)) (ld5 c19)) ?_
  refine lst_val (some 23) (v := .pointer (some ⟨w.heap.size, 20, none⟩)) rfl rfl (exec_addr 30 _ 10 rfl (ev_ne (by rfl) (ev_ne (by rfl) (ev_ne (by rfl) (ev_ne (by rfl) (ev_ne (by rfl) (ev_ne (by rfl) (ev_ne (by rfl) (ev_ne (by rfl) (ev_ne (by rfl) (ev_ne (by rfl) (ev_ne (by rfl) (ev_ne (by rfl) (ev_ne (by rfl) (ev_ne (by rfl) (ev_ne (by rfl) (ev_ne (by rfl) (ev_ne (by rfl) (ev_ne (by rfl) (ev_ne (by rfl) (ev_ne (by rfl) h1)))))))))))))))))))) (fa10)) ?_
  refine lst_val (some 24) (v := .int .u64 (cap : Int)) rfl rfl (exec_load1 27 _ rfl (ev_eq (by (try simp only [Act.size_put]); rw [hsz]; decide)) (ld80 c20)) ?_
  refine lst_val (some 25) (v := .pointer (some ⟨w.heap.size, 21, none⟩)) rfl rfl (exec_addr 30 _ 11 rfl (ev_ne (by rfl) (ev_ne (by rfl) (ev_ne (by rfl) (ev_ne (by rfl) (ev_ne (by rfl) (ev_ne (by rfl) (ev_ne (by rfl) (ev_ne (by rfl) (ev_ne (by rfl) (ev_ne (by rfl) (ev_ne (by rfl) (ev_ne (by rfl) (ev_ne (by rfl) (ev_ne (by rfl) (ev_ne (by rfl) (ev_ne (by rfl) (ev_ne (by rfl) (ev_ne (by rfl) (ev_ne (by rfl) (ev_ne (by rfl) (ev_ne (by rfl) (ev_ne (by rfl) h1)))))))))))))))))))))) (fa11)) ?_
  refine lst_val (some 26) (v := .agg #[.int .u8 (ar : Int), .int .u32 (an : Int)]) rfl rfl (exec_load1 24 _ rfl (ev_eq (by (try simp only [Act.size_put]); rw [hsz]; decide)) (ld82 c21 c22)) ?_
  refine lst_val (some 27) (v := .pointer (some ⟨w.heap.size, 23, none⟩)) rfl rfl (exec_addr 30 _ 12 rfl (ev_ne (by rfl) (ev_ne (by rfl) (ev_ne (by rfl) (ev_ne (by rfl) (ev_ne (by rfl) (ev_ne (by rfl) (ev_ne (by rfl) (ev_ne (by rfl) (ev_ne (by rfl) (ev_ne (by rfl) (ev_ne (by rfl) (ev_ne (by rfl) (ev_ne (by rfl) (ev_ne (by rfl) (ev_ne (by rfl) (ev_ne (by rfl) (ev_ne (by rfl) (ev_ne (by rfl) (ev_ne (by rfl) (ev_ne (by rfl) (ev_ne (by rfl) (ev_ne (by rfl) (ev_ne (by rfl) (ev_ne (by rfl) h1)))))))))))))))))))))))) (fa12)) ?_
  refine lst_val (some 28) (v := .agg #[.int .u8 (vr : Int), .int .u32 (vn : Int)]) rfl rfl (exec_load1 24 _ rfl (ev_eq (by (try simp only [Act.size_put]); rw [hsz]; decide)) (ld82 c23 c24)) ?_
  refine lst_val (some 29) (v := .pointer (some ⟨w.heap.size, 25, none⟩)) rfl rfl (exec_addr 30 _ 13 rfl (ev_ne (by rfl) (ev_ne (by rfl) (ev_ne (by rfl) (ev_ne (by rfl) (ev_ne (by rfl) (ev_ne (by rfl) (ev_ne (by rfl) (ev_ne (by rfl) (ev_ne (by rfl) (ev_ne (by rfl) (ev_ne (by rfl) (ev_ne (by rfl) (ev_ne (by rfl) (ev_ne (by rfl) (ev_ne (by rfl) (ev_ne (by rfl) (ev_ne (by rfl) (ev_ne (by rfl) (ev_ne (by rfl) (ev_ne (by rfl) (ev_ne (by rfl) (ev_ne (by rfl) (ev_ne (by rfl) (ev_ne (by rfl) (ev_ne (by rfl) (ev_ne (by rfl) h1)))))))))))))))))))))))))) (fa13)) ?_
  refine lst_val (some 30) (v := .int .u32 (item : Int)) rfl rfl (exec_load1 22 _ rfl (ev_eq (by (try simp only [Act.size_put]); rw [hsz]; decide)) (ld22 c25)) ?_
  refine lst_val (some 31) (v := .pointer (some ⟨w.heap.size, 26, none⟩)) rfl rfl (exec_addr 30 _ 14 rfl (ev_ne (by rfl) (ev_ne (by rfl) (ev_ne (by rfl) (ev_ne (by rfl) (ev_ne (by rfl) (ev_ne (by rfl) (ev_ne (by rfl) (ev_ne (by rfl) (ev_ne (by rfl) (ev_ne (by rfl) (ev_ne (by rfl) (ev_ne (by rfl) (ev_ne (by rfl) (ev_ne (by rfl) (ev_ne (by rfl) (ev_ne (by rfl) (ev_ne (by rfl) (ev_ne (by rfl) (ev_ne (by rfl) (ev_ne (by rfl) (ev_ne (by rfl) (ev_ne (by rfl) (ev_ne (by rfl) (ev_ne (by rfl) (ev_ne (by rfl) (ev_ne (by rfl) (ev_ne (by rfl) (ev_ne (by rfl) h1)))))))))))))))))))))))))))) (fa14)) ?_
  refine lst_val (some 32) (v := .int .u32 (qty : Int)) rfl rfl (exec_load1 22 _ rfl (ev_eq (by (try simp only [Act.size_put]); rw [hsz]; decide)) (ld22 c26)) ?_
  refine lst_val (some 33) (v := .pointer (some ⟨w.heap.size, 27, none⟩)) rfl rfl (exec_addr 30 _ 15 rfl (ev_ne (by rfl) (ev_ne (by rfl) (ev_ne (by rfl) (ev_ne (by rfl) (ev_ne (by rfl) (ev_ne (by rfl) (ev_ne (by rfl) (ev_ne (by rfl) (ev_ne (by rfl) (ev_ne (by rfl) (ev_ne (by rfl) (ev_ne (by rfl) (ev_ne (by rfl) (ev_ne (by rfl) (ev_ne (by rfl) (ev_ne (by rfl) (ev_ne (by rfl) (ev_ne (by rfl) (ev_ne (by rfl) (ev_ne (by rfl) (ev_ne (by rfl) (ev_ne (by rfl) (ev_ne (by rfl) (ev_ne (by rfl) (ev_ne (by rfl) (ev_ne (by rfl) (ev_ne (by rfl) (ev_ne (by rfl) (ev_ne (by rfl) (ev_ne (by rfl) h1)))))))))))))))))))))))))))))) (fa15)) ?_
  refine lst_val (some 34) (v := .int .u32 (price : Int)) rfl rfl (exec_load1 22 _ rfl (ev_eq (by (try simp only [Act.size_put]); rw [hsz]; decide)) (ld22 c27)) ?_
  refine lst_val (some 35) (v := .agg (PA)) rfl rfl (exec_build 77 _ rfl (vs := [(0, .agg #[.int .u8 (dr : Int), .int .u32 (dn : Int)]), (1, .agg #[.int .u32 (a : Int), .int .u32 (b : Int), .int .u32 (c : Int), .int .u32 (d : Int), .int .u32 (e : Int), .int .u32 (f : Int), .int .u32 (g : Int), .int .u32 (i : Int)]), (2, .int .u64 (time : Int)), (3, .int .u32 (who : Int)), (4, .agg #[.int .u8 (cr : Int), .int .u32 (cn : Int)]), (5, .int .u8 (kind : Int)), (6, .agg #[.int .u8 (er : Int), .int .u32 (en : Int)]), (7, .int .u32 (tO : Int)), (8, .int .u8 (roles : Int)), (9, .int .u8 (depth : Int)), (10, .int .u64 (cap : Int)), (11, .agg #[.int .u8 (ar : Int), .int .u32 (an : Int)]), (12, .agg #[.int .u8 (vr : Int), .int .u32 (vn : Int)]), (13, .int .u32 (item : Int)), (14, .int .u32 (qty : Int)), (15, .int .u32 (price : Int))]) (by simp only [List.map_toArray, List.map_cons, List.map_nil, List.toList_toArray]; rw [(show Act.eval _ (.tmp 4) = _ from (ev_ne (by rfl) (ev_ne (by rfl) (ev_ne (by rfl) (ev_ne (by rfl) (ev_ne (by rfl) (ev_ne (by rfl) (ev_ne (by rfl) (ev_ne (by rfl) (ev_ne (by rfl) (ev_ne (by rfl) (ev_ne (by rfl) (ev_ne (by rfl) (ev_ne (by rfl) (ev_ne (by rfl) (ev_ne (by rfl) (ev_ne (by rfl) (ev_ne (by rfl) (ev_ne (by rfl) (ev_ne (by rfl) (ev_ne (by rfl) (ev_ne (by rfl) (ev_ne (by rfl) (ev_ne (by rfl) (ev_ne (by rfl) (ev_ne (by rfl) (ev_ne (by rfl) (ev_ne (by rfl) (ev_ne (by rfl) (ev_ne (by rfl) (ev_ne (by rfl) (ev_eq (by (try simp only [Act.size_put]); rw [hsz]; decide))))))))))))))))))))))))))))))))), (show Act.eval _ (.tmp 6) = _ from (ev_ne (by rfl) (ev_ne (by rfl) (ev_ne (by rfl) (ev_ne (by rfl) (ev_ne (by rfl) (ev_ne (by rfl) (ev_ne (by rfl) (ev_ne (by rfl) (ev_ne (by rfl) (ev_ne (by rfl) (ev_ne (by rfl) (ev_ne (by rfl) (ev_ne (by rfl) (ev_ne (by rfl) (ev_ne (by rfl) (ev_ne (by rfl) (ev_ne (by rfl) (ev_ne (by rfl) (ev_ne (by rfl) (ev_ne (by rfl) (ev_ne (by rfl) (ev_ne (by rfl) (ev_ne (by rfl) (ev_ne (by rfl) (ev_ne (by rfl) (ev_ne (by rfl) (ev_ne (by rfl) (ev_ne (by rfl) (ev_eq (by (try simp only [Act.size_put]); rw [hsz]; decide))))))))))))))))))))))))))))))), (show Act.eval _ (.tmp 8) = _ from (ev_ne (by rfl) (ev_ne (by rfl) (ev_ne (by rfl) (ev_ne (by rfl) (ev_ne (by rfl) (ev_ne (by rfl) (ev_ne (by rfl) (ev_ne (by rfl) (ev_ne (by rfl) (ev_ne (by rfl) (ev_ne (by rfl) (ev_ne (by rfl) (ev_ne (by rfl) (ev_ne (by rfl) (ev_ne (by rfl) (ev_ne (by rfl) (ev_ne (by rfl) (ev_ne (by rfl) (ev_ne (by rfl) (ev_ne (by rfl) (ev_ne (by rfl) (ev_ne (by rfl) (ev_ne (by rfl) (ev_ne (by rfl) (ev_ne (by rfl) (ev_ne (by rfl) (ev_eq (by (try simp only [Act.size_put]); rw [hsz]; decide))))))))))))))))))))))))))))), (show Act.eval _ (.tmp 10) = _ from (ev_ne (by rfl) (ev_ne (by rfl) (ev_ne (by rfl) (ev_ne (by rfl) (ev_ne (by rfl) (ev_ne (by rfl) (ev_ne (by rfl) (ev_ne (by rfl) (ev_ne (by rfl) (ev_ne (by rfl) (ev_ne (by rfl) (ev_ne (by rfl) (ev_ne (by rfl) (ev_ne (by rfl) (ev_ne (by rfl) (ev_ne (by rfl) (ev_ne (by rfl) (ev_ne (by rfl) (ev_ne (by rfl) (ev_ne (by rfl) (ev_ne (by rfl) (ev_ne (by rfl) (ev_ne (by rfl) (ev_ne (by rfl) (ev_eq (by (try simp only [Act.size_put]); rw [hsz]; decide))))))))))))))))))))))))))), (show Act.eval _ (.tmp 12) = _ from (ev_ne (by rfl) (ev_ne (by rfl) (ev_ne (by rfl) (ev_ne (by rfl) (ev_ne (by rfl) (ev_ne (by rfl) (ev_ne (by rfl) (ev_ne (by rfl) (ev_ne (by rfl) (ev_ne (by rfl) (ev_ne (by rfl) (ev_ne (by rfl) (ev_ne (by rfl) (ev_ne (by rfl) (ev_ne (by rfl) (ev_ne (by rfl) (ev_ne (by rfl) (ev_ne (by rfl) (ev_ne (by rfl) (ev_ne (by rfl) (ev_ne (by rfl) (ev_ne (by rfl) (ev_eq (by (try simp only [Act.size_put]); rw [hsz]; decide))))))))))))))))))))))))), (show Act.eval _ (.tmp 14) = _ from (ev_ne (by rfl) (ev_ne (by rfl) (ev_ne (by rfl) (ev_ne (by rfl) (ev_ne (by rfl) (ev_ne (by rfl) (ev_ne (by rfl) (ev_ne (by rfl) (ev_ne (by rfl) (ev_ne (by rfl) (ev_ne (by rfl) (ev_ne (by rfl) (ev_ne (by rfl) (ev_ne (by rfl) (ev_ne (by rfl) (ev_ne (by rfl) (ev_ne (by rfl) (ev_ne (by rfl) (ev_ne (by rfl) (ev_ne (by rfl) (ev_eq (by (try simp only [Act.size_put]); rw [hsz]; decide))))))))))))))))))))))), (show Act.eval _ (.tmp 16) = _ from (ev_ne (by rfl) (ev_ne (by rfl) (ev_ne (by rfl) (ev_ne (by rfl) (ev_ne (by rfl) (ev_ne (by rfl) (ev_ne (by rfl) (ev_ne (by rfl) (ev_ne (by rfl) (ev_ne (by rfl) (ev_ne (by rfl) (ev_ne (by rfl) (ev_ne (by rfl) (ev_ne (by rfl) (ev_ne (by rfl) (ev_ne (by rfl) (ev_ne (by rfl) (ev_ne (by rfl) (ev_eq (by (try simp only [Act.size_put]); rw [hsz]; decide))))))))))))))))))))), (show Act.eval _ (.tmp 18) = _ from (ev_ne (by rfl) (ev_ne (by rfl) (ev_ne (by rfl) (ev_ne (by rfl) (ev_ne (by rfl) (ev_ne (by rfl) (ev_ne (by rfl) (ev_ne (by rfl) (ev_ne (by rfl) (ev_ne (by rfl) (ev_ne (by rfl) (ev_ne (by rfl) (ev_ne (by rfl) (ev_ne (by rfl) (ev_ne (by rfl) (ev_ne (by rfl) (ev_eq (by (try simp only [Act.size_put]); rw [hsz]; decide))))))))))))))))))), (show Act.eval _ (.tmp 20) = _ from (ev_ne (by rfl) (ev_ne (by rfl) (ev_ne (by rfl) (ev_ne (by rfl) (ev_ne (by rfl) (ev_ne (by rfl) (ev_ne (by rfl) (ev_ne (by rfl) (ev_ne (by rfl) (ev_ne (by rfl) (ev_ne (by rfl) (ev_ne (by rfl) (ev_ne (by rfl) (ev_ne (by rfl) (ev_eq (by (try simp only [Act.size_put]); rw [hsz]; decide))))))))))))))))), (show Act.eval _ (.tmp 22) = _ from (ev_ne (by rfl) (ev_ne (by rfl) (ev_ne (by rfl) (ev_ne (by rfl) (ev_ne (by rfl) (ev_ne (by rfl) (ev_ne (by rfl) (ev_ne (by rfl) (ev_ne (by rfl) (ev_ne (by rfl) (ev_ne (by rfl) (ev_ne (by rfl) (ev_eq (by (try simp only [Act.size_put]); rw [hsz]; decide))))))))))))))), (show Act.eval _ (.tmp 24) = _ from (ev_ne (by rfl) (ev_ne (by rfl) (ev_ne (by rfl) (ev_ne (by rfl) (ev_ne (by rfl) (ev_ne (by rfl) (ev_ne (by rfl) (ev_ne (by rfl) (ev_ne (by rfl) (ev_ne (by rfl) (ev_eq (by (try simp only [Act.size_put]); rw [hsz]; decide))))))))))))), (show Act.eval _ (.tmp 26) = _ from (ev_ne (by rfl) (ev_ne (by rfl) (ev_ne (by rfl) (ev_ne (by rfl) (ev_ne (by rfl) (ev_ne (by rfl) (ev_ne (by rfl) (ev_ne (by rfl) (ev_eq (by (try simp only [Act.size_put]); rw [hsz]; decide))))))))))), (show Act.eval _ (.tmp 28) = _ from (ev_ne (by rfl) (ev_ne (by rfl) (ev_ne (by rfl) (ev_ne (by rfl) (ev_ne (by rfl) (ev_ne (by rfl) (ev_eq (by (try simp only [Act.size_put]); rw [hsz]; decide))))))))), (show Act.eval _ (.tmp 30) = _ from (ev_ne (by rfl) (ev_ne (by rfl) (ev_ne (by rfl) (ev_ne (by rfl) (ev_eq (by (try simp only [Act.size_put]); rw [hsz]; decide))))))), (show Act.eval _ (.tmp 32) = _ from (ev_ne (by rfl) (ev_ne (by rfl) (ev_eq (by (try simp only [Act.size_put]); rw [hsz]; decide))))), (show Act.eval _ (.tmp 34) = _ from (ev_eq (by (try simp only [Act.size_put]); rw [hsz]; decide)))]) (by rw [← HPA.out]; kernel_rfl)) ?_
  refine lst_skip none rfl rfl (exec_store_row 77 _ _ rfl (ev_ne (by rfl) (ev_ne (by rfl) (ev_ne (by rfl) (ev_ne (by rfl) (ev_ne (by rfl) (ev_ne (by rfl) (ev_ne (by rfl) (ev_ne (by rfl) (ev_ne (by rfl) (ev_ne (by rfl) (ev_ne (by rfl) (ev_ne (by rfl) (ev_ne (by rfl) (ev_ne (by rfl) (ev_ne (by rfl) (ev_ne (by rfl) (ev_ne (by rfl) (ev_ne (by rfl) (ev_ne (by rfl) (ev_ne (by rfl) (ev_ne (by rfl) (ev_ne (by rfl) (ev_ne (by rfl) (ev_ne (by rfl) (ev_ne (by rfl) (ev_ne (by rfl) (ev_ne (by rfl) (ev_ne (by rfl) (ev_ne (by rfl) (ev_ne (by rfl) (ev_ne (by rfl) (ev_ne (by rfl) (ev_ne (by rfl) h2))))))))))))))))))))))))))))))))) (ev_eq (by (try simp only [Act.size_put]); rw [hsz]; decide)) KN.out (by rw [HP.out]; exact size184) (by rw [HP.out]; rfl) H1.out) ?_
  refine lst_nil ?_
  have hA := hA.out
  subst hA
  go_wp2_with fail
  refine bodyPost_ret (results_cell_row rfl _ _ (w.heap.size + 1) 77 PA (0, 0) _ rfl (KN.out.row _) Tryd.underlying77 rfl (by rw [HP.out]; exact size184)) rfl ?_
  exact ⟨rfl, below_setRow HB.out (by omega) _⟩
end Go.Proofs.YtfojjklohbiffaaDoor
