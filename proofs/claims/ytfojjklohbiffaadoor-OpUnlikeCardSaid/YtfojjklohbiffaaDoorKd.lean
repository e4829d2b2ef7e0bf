/- OpPuts: the walk; what Get tells of an operation's bytes. -/
import Derived.Test.YtfojjklohbiffaaDoorKb
import Derived.Test.YtfojjklohbiffaaDoorOpP
import Derived.Test.YtfojjklohbiffaaDoorOpM
import Derived.Test.YtfojjklohbiffaaDoorOpI
import Derived.Test.YtfojjklohbiffaaDoorOpD
namespace Go.Proofs.YtfojjklohbiffaaDoor
open Go.RowKit Tran Tran.Wire
set_option linter.unusedVariables false
set_option linter.unusedSimpArgs false
/-- the operation of what was read -/
def gotY (q : NOp × Option (List UInt8)) : NOp := if q.2 = some [] then q.1 else zeroO
/-- what Get tells, its lines as they stand -/
def GotX (W : World) (y : NOp) (k : Nat) (e : Ending) (w' : World) : Prop := ∃ lv, e = .returned (.tuple #[.agg (opA y lv), .int .i64 (k : Int)]) ∧ Lns w' lv y.lines ∧ Below W.heap.size W w'
theorem gotX_of {W w' : World} {q : NOp × Option (List UInt8)} {e : Ending} (h : GotO W q e w') (hl : (gotY q).lines.length ≤ 16) : GotX W (gotY q) (endN q.2) e w' := by
  obtain ⟨lv, h1, h2, h3⟩ := h
  exact ⟨lv, h1, lns_own h2 hl, h3⟩
theorem gotY_rd (st : Option (List UInt8)) : (gotY (rdO st)).lines.length ≤ 16 ∧ (gotY (rdO st)).ok := by
  unfold gotY
  split
  · exact ⟨rdO_lines st, rdO_ok st⟩
  · exact ⟨by simp [zeroO], zeroO_ok⟩
theorem get_ok (W : World) (x : NOp) (hx : x.ok) (hl : x.lines.length ≤ 16) : Calls Tryd.prog 14 #[.string ⟨(putO x).toArray⟩] W (GotX W x 0) := by
  have h := getO_any W (putO x) (by have := putO_len x hx hl; omega)
  have e := rdO_put x hx hl []
  rw [List.append_nil] at e
  rw [e] at h
  refine h.mono fun e w' h => ?_
  have := gotX_of h (by unfold gotY; simpa using hl)
  unfold gotY at this
  simpa [endN] using this
theorem opA_one {W : World} (x : NOp) {lv : Value} {ls : List NClaim} (h : Lns W lv ls) : (opA x lv).all (·.oneCell') = true := by
  obtain ⟨A, cap, rfl, _, _⟩ := h
  exact opA_one_ x A _ cap
theorem exec_store_op {o : Oper} {a : Act} (xo yo : Operand) (ho : o.op = .store 30 xo yo) {W : World} {x : NOp} {lv : Value} (h8 : x.dep.length = 8) (h1 : (opA x lv).all (·.oneCell') = true) (hx : a.eval xo = .pointer (some ⟨W.heap.size, 0, none⟩)) (hy : a.eval yo = .agg (opA x lv)) :
    (execOp a.eval o).run Tryd.prog (W.alloc (.cells (Value.agg (opA zeroO (.slice none 0 0))).cells 30)) = .ok .skip ((W.alloc (.cells (Value.agg (opA zeroO (.slice none 0 0))).cells 30)).setRow W.heap.size (opA x lv)) :=
  exec_store_row 30 xo yo ho hx hy (Blk.new W 30 (opA zeroO (.slice none 0 0))) (by rw [opA_size x lv h8]; exact size122) (by rw [opA_size x lv h8]; rfl) h1
set_option maxRecDepth 100000 in
set_option maxHeartbeats 16000000 in
theorem opputs_any (w : World) (x : NOp) (lv : Value) (hx : x.ok) (hL : Lns w lv x.lines) (hg : Glob w) :
    Calls Tryd.prog 4 #[.agg (opA x lv)] w fun e w' => e = .returned (.bool true) ∧ Below w.heap.size w w' := by
  obtain ⟨A, cap, rfl, hrd, hll⟩ := hL
  have hL : Lns w (.slice A x.lines.length cap) x.lines := ⟨A, cap, rfl, hrd, hll⟩
  have LH := Lib.hid (fun W (hW : Below w.heap.size w W) => lawhead_any W (hg.later hW))
  have PT := Lib.hid (fun W (h : Lns W (.slice A x.lines.length cap) x.lines) => putO_any W x _ hx h)
  have TP := Lib.hid (fun W (h : Lns W (.slice A x.lines.length cap) x.lines) => tputO_any W x _ hx h)
  have GX := Lib.hid (fun W (hl : x.lines.length ≤ 16) => get_ok W x hx hl)
  have TS := Lib.hid (fun W l1 (h1 : Lns W l1 x.lines) (h2 : Lns W (.slice A x.lines.length cap) x.lines) => tsame_b W x x l1 _ hx hx h1 h2 true (by simp))
  have SM := Lib.hid (fun W l1 (h1 : Lns W l1 x.lines) (h2 : Lns W (.slice A x.lines.length cap) x.lines) => same_b W x x l1 _ hx hx h1 h2 true (by simp))
  have HSX := Lib.hid (opA_size x (.slice A x.lines.length cap) hx.dep8)
  have C28 := Lib.hid (op_c28 x (.slice A x.lines.length cap) hx.dep8)
  have H8 := Lib.hid hx.dep8
  have S := Lib.hid (((Bls.start w).new 30 (opA x (.slice A x.lines.length cap))).more (v := .slice A x.lines.length cap) (l := x.lines) (hL.later ((Below.refl w.heap.size w).alloc (Nat.le_refl _) _)))
  have HLN : Hid ((.slice A x.lines.length cap : Value) = .slice A x.lines.length cap) := Lib.hid rfl
  generalize hX : opA x (.slice A x.lines.length cap) = X at *
  have PR1 : Hid (16 < x.lines.length → putOR x = .tuple #[.string ⟨#[]⟩, .int .i64 3]) := Lib.hid (fun h => by unfold putOR; rw [if_pos h])
  have PR2 : Hid (¬ 16 < x.lines.length → putOR x = .tuple #[.string ⟨(putO x).toArray⟩, .int .i64 0]) := Lib.hid (fun h => by unfold putOR; rw [if_neg h])
  clear hx hL hg hrd hll hX
  go_enter Tryd.func4, Tryd.ntmps4
  go_upto_region 1 with fail
  refine lst_begin ?_
  intro A0 hA
  have h1 : A0.eval (.tmp 1) = .pointer (some ⟨w.heap.size, 0, none⟩) := by rw [hA]; rfl
  have hrep : Rep 59 A0 [] A0 := Rep.start (by rw [hA] <;> rfl) (by rw [hA] <;> rfl)
  clear hA
  refine abs_val (.pointer (some ⟨w.heap.size, 28, none⟩)) rfl rfl rfl hrep (exec_addr 30 _ 16 rfl ((hrep.ev 1).trans h1) fa16) ?_
  clear hrep; intro A1 hrep
  refine abs_val (.slice A x.lines.length cap) rfl rfl rfl hrep (exec_load1 28 _ rfl (hrep.ev 9) (ld120 (((S.out.at 0 rfl).cell 28).trans C28.out))) ?_
  clear hrep; intro A1 hrep
  refine abs_val (.int .i64 (x.lines.length : Int)) rfl rfl rfl hrep (exec_len28 rfl (hrep.ev 10)) ?_
  clear hrep; intro A1 hrep
  by_cases c100 : 100 < x.lines.length
  case pos =>
    refine abs_val (.bool true) rfl rfl rfl hrep (exec_bin .gtr 3 3 _ (.const (.int .i64 100)) rfl (hrep.ev 11) (rfl) (eqg_gt _ _ _ _ _ _ _ _) (gt_int 3 .i64 _ _ _ Tryd.underlying3 (decide_eq_true (by omega)) _)) ?_
    clear hrep; intro A1 hrep
    refine lst_nil ?_
    go_wp2_with fail
    refine wp_cond_true (hrep.ev 12) ?_
    go_upto_region 2 with fail
    refine lst_begin ?_
    intro A2 hA2
    rw [hA2]
    clear hA2 A2
    refine abs_call (f := 11) (args := #[]) rfl rfl rfl hrep (exec_call0 rfl rfl map0 en11) ?_
    refine (LH.out _ S.out.b).mono ?_
    rintro _ wn ⟨rfl, hb⟩
    have S := Lib.hid (S.out.below hb)
    clear hb
    refine ⟨_, rfl, ?_⟩
    clear hrep; intro A1 hrep
    refine abs_step (by rfl) hrep ?_
    clear hrep; intro A1 hrep
    refine lst_nil ?_
    have hv := hrep.ev 2
    have hd := hrep.df
    clear hrep
    go_wp2_with fail
    refine bodyPost_ret (results_tmp rfl _ _ _) hd ?_
    exact ⟨congrArg Ending.returned hv, S.out.b⟩
  refine abs_val (.bool false) rfl rfl rfl hrep (exec_bin .gtr 3 3 _ (.const (.int .i64 100)) rfl (hrep.ev 11) (rfl) (eqg_gt _ _ _ _ _ _ _ _) (gt_int 3 .i64 _ _ _ Tryd.underlying3 (decide_eq_false (by omega)) _)) ?_
  clear hrep; intro A1 hrep
  refine lst_nil ?_
  go_wp2_with fail
  refine wp_cond_false (hrep.ev 12) ?_
  go_upto_region 3 with fail
  refine lst_begin ?_
  intro A2 hA2
  rw [hA2]
  clear hA2 A2
  by_cases c16 : 16 < x.lines.length
  case pos =>
    rw [PR1.out c16] at PT TP
    refine abs_val (.agg X) rfl rfl rfl hrep (exec_load1 30 _ rfl ((hrep.ev 1).trans h1) (ld122 (S.out.at 0 rfl) HSX.out)) ?_
    clear hrep; intro A1 hrep
    refine abs_call (f := 12) (args := #[.agg X]) rfl rfl rfl hrep (exec_call0 rfl rfl (map1 (hrep.ev 15)) en12) ?_
    refine (PT.out _ (S.out.lns 0 rfl)).mono ?_
    rintro _ wn ⟨rfl, hb⟩
    have S := Lib.hid (S.out.below hb)
    clear hb
    refine ⟨_, rfl, ?_⟩
    clear hrep; intro A1 hrep
    refine abs_step (by rfl) hrep ?_
    clear hrep; intro A1 hrep
    refine abs_val (.string ⟨#[]⟩) rfl rfl rfl hrep (exec_extract _ 0 rfl (hrep.ev 14) rfl) ?_
    clear hrep; intro A1 hrep
    refine abs_val (.int .i64 3) rfl rfl rfl hrep (exec_extract _ 1 rfl (hrep.ev 14) rfl) ?_
    clear hrep; intro A1 hrep
    refine abs_step (by rfl) hrep ?_
    clear hrep; intro A1 hrep
    refine abs_step (by rfl) hrep ?_
    clear hrep; intro A1 hrep
    refine lst_nil ?_
    go_upto_region 4 with fail
    refine lst_begin ?_
    intro A2 hA2
    rw [hA2]
    clear hA2 A2
    refine abs_val (.agg X) rfl rfl rfl hrep (exec_load1 30 _ rfl ((hrep.ev 1).trans h1) (ld122 (S.out.at 0 rfl) HSX.out)) ?_
    clear hrep; intro A1 hrep
    refine abs_call (f := 13) (args := #[.agg X]) rfl rfl rfl hrep (exec_call0 rfl rfl (map1 (hrep.ev 20)) en13) ?_
    refine (TP.out _ (S.out.lns 0 rfl)).mono ?_
    rintro _ wn ⟨rfl, hb⟩
    have S := Lib.hid (S.out.below hb)
    clear hb
    refine ⟨_, rfl, ?_⟩
    clear hrep; intro A1 hrep
    refine abs_step (by rfl) hrep ?_
    clear hrep; intro A1 hrep
    refine abs_val (.string ⟨#[]⟩) rfl rfl rfl hrep (exec_extract _ 0 rfl (hrep.ev 19) rfl) ?_
    clear hrep; intro A1 hrep
    refine abs_val (.int .i64 3) rfl rfl rfl hrep (exec_extract _ 1 rfl (hrep.ev 19) rfl) ?_
    clear hrep; intro A1 hrep
    refine abs_step (by rfl) hrep ?_
    clear hrep; intro A1 hrep
    refine abs_step (by rfl) hrep ?_
    clear hrep; intro A1 hrep
    refine lst_nil ?_
    go_upto_region 5 with fail
    refine lst_begin ?_
    intro A2 hA2
    rw [hA2]
    clear hA2 A2
    refine abs_step (by rfl) hrep ?_
    clear hrep; intro A1 hrep
    refine abs_step (by rfl) hrep ?_
    clear hrep; intro A1 hrep
    refine abs_val (.bool false) rfl rfl rfl hrep (exec_bin .neq 9 9 _ _ rfl (hrep.ev 24) (hrep.ev 25) (eqg_strs _ _ _ _ _ _ _) (ne_strs _ _ _ (by simp) _)) ?_
    clear hrep; intro A1 hrep
    refine abs_step (by rfl) hrep ?_
    clear hrep; intro A1 hrep
    refine abs_step (by rfl) hrep ?_
    clear hrep; intro A1 hrep
    refine abs_step (by rfl) hrep ?_
    clear hrep; intro A1 hrep
    refine abs_val (.bool false) rfl rfl rfl hrep (exec_bin .neq 3 3 _ _ rfl (hrep.ev 28) (hrep.ev 29) (eqg_gt _ _ _ _ _ _ _ _) (ne_int 3 .i64 _ _ _ Tryd.underlying3 (by simp) _)) ?_
    clear hrep; intro A1 hrep
    refine abs_step (by rfl) hrep ?_
    clear hrep; intro A1 hrep
    refine lst_nil ?_
    go_wp2_with fail
    refine wp_cond_false (hrep.ev 31) ?_
    go_upto_region 7 with fail
    refine lst_begin ?_
    intro A2 hA2
    rw [hA2]
    clear hA2 A2
    refine abs_step (by rfl) hrep ?_
    clear hrep; intro A1 hrep
    refine abs_val (.bool true) rfl rfl rfl hrep (exec_bin .neq 31 31 _ (.const (.int .i64 0)) rfl (hrep.ev 32) rfl (eqg_gt _ _ _ _ _ _ _ _) (ne_int 31 .i64 _ _ _ Tryd.underlying31 (by rfl) _)) ?_
    clear hrep; intro A1 hrep
    refine lst_nil ?_
    go_wp2_with fail
    refine wp_cond_true (hrep.ev 33) ?_
    go_upto_region 8 with fail
    refine lst_begin ?_
    intro A2 hA2
    rw [hA2]
    clear hA2 A2
    refine abs_step (by rfl) hrep ?_
    clear hrep; intro A1 hrep
    refine abs_val (.bool true) rfl rfl rfl hrep (exec_bin .eql 31 31 _ (.const (.int .i64 3)) rfl (hrep.ev 34) rfl (eqg_gt _ _ _ _ _ _ _ _) (eq_int 31 .i64 _ _ _ Tryd.underlying31 (by rfl) _)) ?_
    clear hrep; intro A1 hrep
    refine abs_step (by rfl) hrep ?_
    clear hrep; intro A1 hrep
    refine abs_call (f := 11) (args := #[]) rfl rfl rfl hrep (exec_call0 rfl rfl map0 en11) ?_
    refine (LH.out _ S.out.b).mono ?_
    rintro _ wn ⟨rfl, hb⟩
    have S := Lib.hid (S.out.below hb)
    clear hb
    refine ⟨_, rfl, ?_⟩
    clear hrep; intro A1 hrep
    refine abs_step (by rfl) hrep ?_
    clear hrep; intro A1 hrep
    refine abs_step (by rfl) hrep ?_
    clear hrep; intro A1 hrep
    refine lst_nil ?_
    have hv := hrep.ev 2
    have hd := hrep.df
    clear hrep
    go_wp2_with fail
    refine bodyPost_ret (results_tmp rfl _ _ _) hd ?_
    exact ⟨congrArg Ending.returned hv, S.out.b⟩
  case neg =>
    rw [PR2.out c16] at PT TP
    refine abs_val (.agg X) rfl rfl rfl hrep (exec_load1 30 _ rfl ((hrep.ev 1).trans h1) (ld122 (S.out.at 0 rfl) HSX.out)) ?_
    clear hrep; intro A1 hrep
    refine abs_call (f := 12) (args := #[.agg X]) rfl rfl rfl hrep (exec_call0 rfl rfl (map1 (hrep.ev 15)) en12) ?_
    refine (PT.out _ (S.out.lns 0 rfl)).mono ?_
    rintro _ wn ⟨rfl, hb⟩
    have S := Lib.hid (S.out.below hb)
    clear hb
    refine ⟨_, rfl, ?_⟩
    clear hrep; intro A1 hrep
    refine abs_step (by rfl) hrep ?_
    clear hrep; intro A1 hrep
    refine abs_val (.string ⟨(putO x).toArray⟩) rfl rfl rfl hrep (exec_extract _ 0 rfl (hrep.ev 14) rfl) ?_
    clear hrep; intro A1 hrep
    refine abs_val (.int .i64 0) rfl rfl rfl hrep (exec_extract _ 1 rfl (hrep.ev 14) rfl) ?_
    clear hrep; intro A1 hrep
    refine abs_step (by rfl) hrep ?_
    clear hrep; intro A1 hrep
    refine abs_step (by rfl) hrep ?_
    clear hrep; intro A1 hrep
    refine lst_nil ?_
    go_upto_region 4 with fail
    refine lst_begin ?_
    intro A2 hA2
    rw [hA2]
    clear hA2 A2
    refine abs_val (.agg X) rfl rfl rfl hrep (exec_load1 30 _ rfl ((hrep.ev 1).trans h1) (ld122 (S.out.at 0 rfl) HSX.out)) ?_
    clear hrep; intro A1 hrep
    refine abs_call (f := 13) (args := #[.agg X]) rfl rfl rfl hrep (exec_call0 rfl rfl (map1 (hrep.ev 20)) en13) ?_
    refine (TP.out _ (S.out.lns 0 rfl)).mono ?_
    rintro _ wn ⟨rfl, hb⟩
    have S := Lib.hid (S.out.below hb)
    clear hb
    refine ⟨_, rfl, ?_⟩
    clear hrep; intro A1 hrep
    refine abs_step (by rfl) hrep ?_
    clear hrep; intro A1 hrep
    refine abs_val (.string ⟨(putO x).toArray⟩) rfl rfl rfl hrep (exec_extract _ 0 rfl (hrep.ev 19) rfl) ?_
    clear hrep; intro A1 hrep
    refine abs_val (.int .i64 0) rfl rfl rfl hrep (exec_extract _ 1 rfl (hrep.ev 19) rfl) ?_
    clear hrep; intro A1 hrep
    refine abs_step (by rfl) hrep ?_
    clear hrep; intro A1 hrep
    refine abs_step (by rfl) hrep ?_
    clear hrep; intro A1 hrep
    refine lst_nil ?_
    go_upto_region 5 with fail
    refine lst_begin ?_
    intro A2 hA2
    rw [hA2]
    clear hA2 A2
    refine abs_step (by rfl) hrep ?_
    clear hrep; intro A1 hrep
    refine abs_step (by rfl) hrep ?_
    clear hrep; intro A1 hrep
    refine abs_val (.bool false) rfl rfl rfl hrep (exec_bin .neq 9 9 _ _ rfl (hrep.ev 24) (hrep.ev 25) (eqg_strs _ _ _ _ _ _ _) (ne_strs _ _ _ (by simp) _)) ?_
    clear hrep; intro A1 hrep
    refine abs_step (by rfl) hrep ?_
    clear hrep; intro A1 hrep
    refine abs_step (by rfl) hrep ?_
    clear hrep; intro A1 hrep
    refine abs_step (by rfl) hrep ?_
    clear hrep; intro A1 hrep
    refine abs_val (.bool false) rfl rfl rfl hrep (exec_bin .neq 3 3 _ _ rfl (hrep.ev 28) (hrep.ev 29) (eqg_gt _ _ _ _ _ _ _ _) (ne_int 3 .i64 _ _ _ Tryd.underlying3 (by simp) _)) ?_
    clear hrep; intro A1 hrep
    refine abs_step (by rfl) hrep ?_
    clear hrep; intro A1 hrep
    refine lst_nil ?_
    go_wp2_with fail
    refine wp_cond_false (hrep.ev 31) ?_
    go_upto_region 7 with fail
    refine lst_begin ?_
    intro A2 hA2
    rw [hA2]
    clear hA2 A2
    refine abs_step (by rfl) hrep ?_
    clear hrep; intro A1 hrep
    refine abs_val (.bool false) rfl rfl rfl hrep (exec_bin .neq 31 31 _ (.const (.int .i64 0)) rfl (hrep.ev 32) rfl (eqg_gt _ _ _ _ _ _ _ _) (ne_int 31 .i64 _ _ _ Tryd.underlying31 (by rfl) _)) ?_
    clear hrep; intro A1 hrep
    refine lst_nil ?_
    go_wp2_with fail
    refine wp_cond_false (hrep.ev 33) ?_
    go_upto_region 9 with fail
    refine lst_begin ?_
    intro A2 hA2
    rw [hA2]
    clear hA2 A2
    refine abs_step (by rfl) hrep ?_
    clear hrep; intro A1 hrep
    refine abs_call (f := 14) (args := #[.string ⟨(putO x).toArray⟩]) rfl rfl rfl hrep (exec_call0 rfl rfl (map1 (hrep.ev 40)) en14) ?_
    refine (GX.out _ (by omega)).mono ?_
    rintro _ wn ⟨l2, rfl, hll2, hb⟩
    have S := Lib.hid ((S.out.below hb).more hll2)
    clear hb
    refine ⟨_, rfl, ?_⟩
    clear hrep; intro A1 hrep
    refine abs_step (by rfl) hrep ?_
    clear hrep; intro A1 hrep
    refine abs_val (.agg (opA x l2)) rfl rfl rfl hrep (exec_extract _ 0 rfl (hrep.ev 39) rfl) ?_
    clear hrep; intro A1 hrep
    refine abs_val (.int .i64 0) rfl rfl rfl hrep (exec_extract _ 1 rfl (hrep.ev 39) rfl) ?_
    clear hrep; intro A1 hrep
    refine abs_val (.pointer (some ⟨wn.heap.size, 0, none⟩)) rfl rfl rfl hrep (exec_alloc_ 30 rfl op_zero rfl) ?_
    clear hrep; intro A1 hrep
    refine abs_skip rfl rfl hrep (exec_store_op _ _ rfl H8.out (opA_one x hll2) (hrep.ev 7) (hrep.ev 42)) ?_
    clear hrep; intro A1 hrep
    have S := Lib.hid (S.out.var 30 (opA zeroO (.slice none 0 0)) (opA x l2))
    refine abs_step (by rfl) hrep ?_
    clear hrep; intro A1 hrep
    refine lst_nil ?_
    go_upto_region 10 with fail
    refine lst_begin ?_
    intro A2 hA2
    rw [hA2]
    clear hA2 A2
    refine abs_step (by rfl) hrep ?_
    clear hrep; intro A1 hrep
    refine abs_val (.bool true) rfl rfl rfl hrep (exec_bin .eql 31 31 _ (.const (.int .i64 0)) rfl (hrep.ev 44) rfl (eqg_gt _ _ _ _ _ _ _ _) (eq_int 31 .i64 _ _ _ Tryd.underlying31 (by rfl) _)) ?_
    clear hrep; intro A1 hrep
    refine abs_step (by rfl) hrep ?_
    clear hrep; intro A1 hrep
    refine abs_val (.agg (opA x l2)) rfl rfl rfl hrep (exec_load1 30 _ rfl (hrep.ev 7) (ld122 (S.out.at 0 rfl) (opA_size x l2 H8.out))) ?_
    clear hrep; intro A1 hrep
    refine abs_val (.agg X) rfl rfl rfl hrep (exec_load1 30 _ rfl ((hrep.ev 1).trans h1) (ld122 (S.out.at 1 rfl) HSX.out)) ?_
    clear hrep; intro A1 hrep
    refine abs_call (f := 15) (args := #[.agg (opA x l2), .agg X]) rfl rfl rfl hrep (exec_call0 rfl rfl (map2 (hrep.ev 47) (hrep.ev 48)) en15) ?_
    refine (TS.out _ _ (S.out.lns 0 rfl) (S.out.lns 1 rfl)).mono ?_
    rintro _ wn ⟨rfl, hb⟩
    have S := Lib.hid (S.out.below hb)
    clear hb
    refine ⟨_, rfl, ?_⟩
    clear hrep; intro A1 hrep
    refine abs_step (by rfl) hrep ?_
    clear hrep; intro A1 hrep
    refine abs_step (by rfl) hrep ?_
    clear hrep; intro A1 hrep
    refine abs_val (.agg (opA x l2)) rfl rfl rfl hrep (exec_load1 30 _ rfl (hrep.ev 7) (ld122 (S.out.at 0 rfl) (opA_size x l2 H8.out))) ?_
    clear hrep; intro A1 hrep
    refine abs_val (.agg X) rfl rfl rfl hrep (exec_load1 30 _ rfl ((hrep.ev 1).trans h1) (ld122 (S.out.at 1 rfl) HSX.out)) ?_
    clear hrep; intro A1 hrep
    refine abs_call (f := 16) (args := #[.agg (opA x l2), .agg X]) rfl rfl rfl hrep (exec_call0 rfl rfl (map2 (hrep.ev 52) (hrep.ev 53)) en16) ?_
    refine (SM.out _ _ (S.out.lns 0 rfl) (S.out.lns 1 rfl)).mono ?_
    rintro _ wn ⟨rfl, hb⟩
    have S := Lib.hid (S.out.below hb)
    clear hb
    refine ⟨_, rfl, ?_⟩
    clear hrep; intro A1 hrep
    refine abs_step (by rfl) hrep ?_
    clear hrep; intro A1 hrep
    refine abs_step (by rfl) hrep ?_
    clear hrep; intro A1 hrep
    refine abs_call (f := 11) (args := #[]) rfl rfl rfl hrep (exec_call0 rfl rfl map0 en11) ?_
    refine (LH.out _ S.out.b).mono ?_
    rintro _ wn ⟨rfl, hb⟩
    have S := Lib.hid (S.out.below hb)
    clear hb
    refine ⟨_, rfl, ?_⟩
    clear hrep; intro A1 hrep
    refine abs_step (by rfl) hrep ?_
    clear hrep; intro A1 hrep
    refine abs_step (by rfl) hrep ?_
    clear hrep; intro A1 hrep
    refine lst_nil ?_
    have hv := hrep.ev 2
    have hd := hrep.df
    clear hrep
    go_wp2_with fail
    refine bodyPost_ret (results_tmp rfl _ _ _) hd ?_
    exact ⟨congrArg Ending.returned hv, S.out.b⟩
end Go.Proofs.YtfojjklohbiffaaDoor
namespace Go.Proofs.YtfojjklohbiffaaDoor
open Go.RowKit Tran Tran.Wire
set_option linter.unusedVariables false
set_option linter.unusedSimpArgs false
set_option maxRecDepth 100000 in
set_option maxHeartbeats 16000000 in
theorem opgets_any (w : World) (l : List UInt8) (hl : l.length ≤ maxLen) (hg : Glob w) :
    Calls Tryd.prog 5 #[.string ⟨l.toArray⟩] w fun e w' => e = .returned (.bool true) ∧ Below w.heap.size w w' := by
  have LH := Lib.hid (fun W (hW : Below w.heap.size w W) => lawhead_any W (hg.later hW))
  have S := Lib.hid (Bls.start w)
  have HLEN := Lib.hid (show ((⟨l.toArray⟩ : ByteArray).size : Int) = (l.length : Int) by simp [ByteArray.size])
  obtain ⟨y, hy⟩ : ∃ y, gotY (rdO (some l)) = y := ⟨_, rfl⟩
  obtain ⟨k, hk⟩ : ∃ k, endN (rdO (some l)).2 = k := ⟨_, rfl⟩
  have hY := gotY_rd (some l)
  rw [hy] at hY
  have H8 := Lib.hid hY.2.dep8
  have G1 := Lib.hid (fun W (h : l.length ≤ 3000) => (getO_any W l (by omega)).mono fun e w' h => gotX_of h (gotY_rd (some l)).1)
  have G2 := Lib.hid (fun W (h : l.length ≤ 3000) => (tgetO_any W l (by omega)).mono fun e w' h => gotX_of h (gotY_rd (some l)).1)
  have TS := Lib.hid (fun W l1 l2 (h1 : Lns W l1 y.lines) (h2 : Lns W l2 y.lines) => tsame_b W y y l1 l2 hY.2 hY.2 h1 h2 true (by simp))
  have PT := Lib.hid (fun W l1 (h1 : Lns W l1 y.lines) (h : k = 0) => show Calls Tryd.prog 12 #[.agg (opA y l1)] W fun e w' => e = .returned (.tuple #[.string ⟨l.toArray⟩, .int .i64 0]) ∧ Below W.heap.size W w' by
    have hp := putO_any W y l1 hY.2 h1
    have e0 : (rdO (some l)).2 = some [] := by
      rw [h] at hk
      revert hk
      cases (rdO (some l)).2 with
      | none => simp [endN]
      | some r => cases r <;> simp [endN]
    have e1 := rdO_some e0
    rw [List.append_nil] at e1
    have e2 : y = (rdO (some l)).1 := by rw [← hy]; unfold gotY; rw [if_pos e0]
    rw [← e2] at e1
    injection e1 with e1
    unfold putOR at hp
    rw [if_neg (by have := hY.1; omega), ← e1] at hp
    exact hp)
  have KK : Hid (k = 0 ∨ k = 5) := Lib.hid (by
    rw [← hk]
    cases (rdO (some l)).2 with
    | none => exact .inr rfl
    | some r => cases r with
      | nil => exact .inl rfl
      | cons _ _ => exact .inr rfl)
  rw [hy, hk] at G1 G2
  clear hg hy hk hY
  go_enter Tryd.func5, Tryd.ntmps5
  go_upto_region 1 with fail
  refine lst_begin ?_
  intro A0 hA
  have h0 : A0.eval (.tmp 0) = .string ⟨l.toArray⟩ := by rw [hA]; rfl
  have hrep : Rep 54 A0 [] A0 := Rep.start (by rw [hA] <;> rfl) (by rw [hA] <;> rfl)
  clear hA
  refine abs_step (by rfl) hrep ?_
  clear hrep; intro A1 hrep
  refine abs_val (.int .i64 (l.length : Int)) rfl rfl rfl hrep ((exec_len9 rfl ((hrep.ev 9).trans h0)).trans (by rw [HLEN.out])) ?_
  clear hrep; intro A1 hrep
  by_cases c3 : 3000 < l.length
  case pos =>
    refine abs_val (.bool true) rfl rfl rfl hrep (exec_bin .gtr 3 3 _ (.const (.int .i64 3000)) rfl (hrep.ev 10) (rfl) (eqg_gt _ _ _ _ _ _ _ _) (gt_int 3 .i64 _ _ _ Tryd.underlying3 (decide_eq_true (by omega)) _)) ?_
    clear hrep; intro A1 hrep
    refine lst_nil ?_
    go_wp2_with fail
    refine wp_cond_true (hrep.ev 11) ?_
    go_upto_region 2 with fail
    refine lst_begin ?_
    intro A2 hA2
    rw [hA2]
    clear hA2 A2
    refine abs_call (f := 11) (args := #[]) rfl rfl rfl hrep (exec_call0 rfl rfl map0 en11) ?_
    refine (LH.out _ S.out.b).mono ?_
    rintro _ wn ⟨rfl, hb⟩
    have S := Lib.hid (S.out.below hb)
    clear hb
    refine ⟨_, rfl, ?_⟩
    clear hrep; intro A1 hrep
    refine abs_step (by rfl) hrep ?_
    clear hrep; intro A1 hrep
    refine lst_nil ?_
    have hv := hrep.ev 2
    have hd := hrep.df
    clear hrep
    go_wp2_with fail
    refine bodyPost_ret (results_tmp rfl _ _ _) hd ?_
    exact ⟨congrArg Ending.returned hv, S.out.b⟩
  refine abs_val (.bool false) rfl rfl rfl hrep (exec_bin .gtr 3 3 _ (.const (.int .i64 3000)) rfl (hrep.ev 10) (rfl) (eqg_gt _ _ _ _ _ _ _ _) (gt_int 3 .i64 _ _ _ Tryd.underlying3 (decide_eq_false (by omega)) _)) ?_
  clear hrep; intro A1 hrep
  refine lst_nil ?_
  go_wp2_with fail
  refine wp_cond_false (hrep.ev 11) ?_
  go_upto_region 3 with fail
  refine lst_begin ?_
  intro A2 hA2
  rw [hA2]
  clear hA2 A2
  refine abs_step (by rfl) hrep ?_
  clear hrep; intro A1 hrep
  refine abs_call (f := 14) (args := #[.string ⟨l.toArray⟩]) rfl rfl rfl hrep (exec_call0 rfl rfl (map1 ((hrep.ev 14).trans h0)) en14) ?_
  refine (G1.out _ (by omega)).mono ?_
  rintro _ wn ⟨l2, rfl, hll2, hb⟩
  have S := Lib.hid ((S.out.below hb).more hll2)
  clear hb
  refine ⟨_, rfl, ?_⟩
  clear hrep; intro A1 hrep
  refine abs_step (by rfl) hrep ?_
  clear hrep; intro A1 hrep
  refine abs_val (.agg (opA y l2)) rfl rfl rfl hrep (exec_extract _ 0 rfl (hrep.ev 13) rfl) ?_
  clear hrep; intro A1 hrep
  refine abs_val (.int .i64 (k : Int)) rfl rfl rfl hrep (exec_extract _ 1 rfl (hrep.ev 13) rfl) ?_
  clear hrep; intro A1 hrep
  refine abs_val (.pointer (some ⟨wn.heap.size, 0, none⟩)) rfl rfl rfl hrep (exec_alloc_ 30 rfl op_zero rfl) ?_
  clear hrep; intro A1 hrep
  refine abs_skip rfl rfl hrep (exec_store_op _ _ rfl H8.out (opA_one y hll2) (hrep.ev 3) (hrep.ev 16)) ?_
  clear hrep; intro A1 hrep
  have S := Lib.hid (S.out.var 30 (opA zeroO (.slice none 0 0)) (opA y l2))
  refine abs_step (by rfl) hrep ?_
  clear hrep; intro A1 hrep
  refine lst_nil ?_
  go_upto_region 4 with fail
  refine lst_begin ?_
  intro A2 hA2
  rw [hA2]
  clear hA2 A2
  refine abs_step (by rfl) hrep ?_
  clear hrep; intro A1 hrep
  refine abs_call (f := 17) (args := #[.string ⟨l.toArray⟩]) rfl rfl rfl hrep (exec_call0 rfl rfl (map1 ((hrep.ev 19).trans h0)) en17) ?_
  refine (G2.out _ (by omega)).mono ?_
  rintro _ wn ⟨l3, rfl, hll3, hb⟩
  have S := Lib.hid ((S.out.below hb).more hll3)
  clear hb
  refine ⟨_, rfl, ?_⟩
  clear hrep; intro A1 hrep
  refine abs_step (by rfl) hrep ?_
  clear hrep; intro A1 hrep
  refine abs_val (.agg (opA y l3)) rfl rfl rfl hrep (exec_extract _ 0 rfl (hrep.ev 18) rfl) ?_
  clear hrep; intro A1 hrep
  refine abs_val (.int .i64 (k : Int)) rfl rfl rfl hrep (exec_extract _ 1 rfl (hrep.ev 18) rfl) ?_
  clear hrep; intro A1 hrep
  refine abs_val (.pointer (some ⟨wn.heap.size, 0, none⟩)) rfl rfl rfl hrep (exec_alloc_ 30 rfl op_zero rfl) ?_
  clear hrep; intro A1 hrep
  refine abs_skip rfl rfl hrep (exec_store_op _ _ rfl H8.out (opA_one y hll3) (hrep.ev 5) (hrep.ev 21)) ?_
  clear hrep; intro A1 hrep
  have S := Lib.hid (S.out.var 30 (opA zeroO (.slice none 0 0)) (opA y l3))
  refine abs_step (by rfl) hrep ?_
  clear hrep; intro A1 hrep
  refine lst_nil ?_
  go_upto_region 5 with fail
  refine lst_begin ?_
  intro A2 hA2
  rw [hA2]
  clear hA2 A2
  refine abs_val (.agg (opA y l2)) rfl rfl rfl hrep (exec_load1 30 _ rfl (hrep.ev 3) (ld122 (S.out.at 1 rfl) (opA_size y l2 H8.out))) ?_
  clear hrep; intro A1 hrep
  refine abs_val (.agg (opA y l3)) rfl rfl rfl hrep (exec_load1 30 _ rfl (hrep.ev 5) (ld122 (S.out.at 0 rfl) (opA_size y l3 H8.out))) ?_
  clear hrep; intro A1 hrep
  refine abs_call (f := 15) (args := #[.agg (opA y l2), .agg (opA y l3)]) rfl rfl rfl hrep (exec_call0 rfl rfl (map2 (hrep.ev 23) (hrep.ev 24)) en15) ?_
  refine (TS.out _ _ _ (S.out.lns 1 rfl) (S.out.lns 0 rfl)).mono ?_
  rintro _ wn ⟨rfl, hb⟩
  have S := Lib.hid (S.out.below hb)
  clear hb
  refine ⟨_, rfl, ?_⟩
  clear hrep; intro A1 hrep
  refine abs_val (.bool false) rfl rfl rfl hrep (exec_not (b := true) rfl (hrep.ev 25)) ?_
  clear hrep; intro A1 hrep
  refine abs_step (by rfl) hrep ?_
  clear hrep; intro A1 hrep
  refine abs_step (by rfl) hrep ?_
  clear hrep; intro A1 hrep
  refine abs_step (by rfl) hrep ?_
  clear hrep; intro A1 hrep
  refine abs_val (.bool false) rfl rfl rfl hrep (exec_bin .neq 3 3 _ _ rfl (hrep.ev 28) (hrep.ev 29) (eqg_gt _ _ _ _ _ _ _ _) (ne_int 3 .i64 _ _ _ Tryd.underlying3 (by simp) _)) ?_
  clear hrep; intro A1 hrep
  refine abs_step (by rfl) hrep ?_
  clear hrep; intro A1 hrep
  refine lst_nil ?_
  go_wp2_with fail
  refine wp_cond_false (hrep.ev 31) ?_
  go_upto_region 7 with fail
  refine lst_begin ?_
  intro A2 hA2
  rw [hA2]
  clear hA2 A2
  refine abs_step (by rfl) hrep ?_
  clear hrep; intro A1 hrep
  rcases KK.out with ck | ck
  · refine abs_val (.bool false) rfl rfl rfl hrep (exec_bin .neq 31 31 _ (.const (.int .i64 0)) rfl (hrep.ev 32) rfl (eqg_gt _ _ _ _ _ _ _ _) (ne_int 31 .i64 _ _ _ Tryd.underlying31 (by rw [ck]; rfl) _)) ?_
    clear hrep; intro A1 hrep
    refine lst_nil ?_
    go_wp2_with fail
    refine wp_cond_false (hrep.ev 33) ?_
    go_upto_region 9 with fail
    refine lst_begin ?_
    intro A2 hA2
    rw [hA2]
    clear hA2 A2
    refine abs_val (.agg (opA y l2)) rfl rfl rfl hrep (exec_load1 30 _ rfl (hrep.ev 3) (ld122 (S.out.at 1 rfl) (opA_size y l2 H8.out))) ?_
    clear hrep; intro A1 hrep
    refine abs_call (f := 12) (args := #[.agg (opA y l2)]) rfl rfl rfl hrep (exec_call0 rfl rfl (map1 (hrep.ev 40)) en12) ?_
    refine (PT.out _ _ (S.out.lns 1 rfl) ck).mono ?_
    rintro _ wn ⟨rfl, hb⟩
    have S := Lib.hid (S.out.below hb)
    clear hb
    refine ⟨_, rfl, ?_⟩
    clear hrep; intro A1 hrep
    refine abs_step (by rfl) hrep ?_
    clear hrep; intro A1 hrep
    refine abs_val (.string ⟨l.toArray⟩) rfl rfl rfl hrep (exec_extract _ 0 rfl (hrep.ev 39) rfl) ?_
    clear hrep; intro A1 hrep
    refine abs_val (.int .i64 0) rfl rfl rfl hrep (exec_extract _ 1 rfl (hrep.ev 39) rfl) ?_
    clear hrep; intro A1 hrep
    refine abs_step (by rfl) hrep ?_
    clear hrep; intro A1 hrep
    refine abs_step (by rfl) hrep ?_
    clear hrep; intro A1 hrep
    refine lst_nil ?_
    go_upto_region 10 with fail
    refine lst_begin ?_
    intro A2 hA2
    rw [hA2]
    clear hA2 A2
    refine abs_step (by rfl) hrep ?_
    clear hrep; intro A1 hrep
    refine abs_step (by rfl) hrep ?_
    clear hrep; intro A1 hrep
    refine abs_val (.bool true) rfl rfl rfl hrep (exec_bin .eql 9 9 _ _ rfl (hrep.ev 44) ((hrep.ev 45).trans h0) (eqg_strs _ _ _ _ _ _ _) (eq_strs _ _ _ (by simp) _)) ?_
    clear hrep; intro A1 hrep
    refine abs_step (by rfl) hrep ?_
    clear hrep; intro A1 hrep
    refine abs_step (by rfl) hrep ?_
    clear hrep; intro A1 hrep
    refine abs_val (.bool true) rfl rfl rfl hrep (exec_bin .eql 31 31 _ (.const (.int .i64 0)) rfl (hrep.ev 48) rfl (eqg_gt _ _ _ _ _ _ _ _) (eq_int 31 .i64 _ _ _ Tryd.underlying31 (by rfl) _)) ?_
    clear hrep; intro A1 hrep
    refine abs_step (by rfl) hrep ?_
    clear hrep; intro A1 hrep
    refine abs_step (by rfl) hrep ?_
    clear hrep; intro A1 hrep
    refine abs_call (f := 11) (args := #[]) rfl rfl rfl hrep (exec_call0 rfl rfl map0 en11) ?_
    refine (LH.out _ S.out.b).mono ?_
    rintro _ wn ⟨rfl, hb⟩
    have S := Lib.hid (S.out.below hb)
    clear hb
    refine ⟨_, rfl, ?_⟩
    clear hrep; intro A1 hrep
    refine abs_step (by rfl) hrep ?_
    clear hrep; intro A1 hrep
    refine abs_step (by rfl) hrep ?_
    clear hrep; intro A1 hrep
    refine lst_nil ?_
    have hv := hrep.ev 2
    have hd := hrep.df
    clear hrep
    go_wp2_with fail
    refine bodyPost_ret (results_tmp rfl _ _ _) hd ?_
    exact ⟨congrArg Ending.returned hv, S.out.b⟩
  · refine abs_val (.bool true) rfl rfl rfl hrep (exec_bin .neq 31 31 _ (.const (.int .i64 0)) rfl (hrep.ev 32) rfl (eqg_gt _ _ _ _ _ _ _ _) (ne_int 31 .i64 _ _ _ Tryd.underlying31 (by rw [ck]; rfl) _)) ?_
    clear hrep; intro A1 hrep
    refine lst_nil ?_
    go_wp2_with fail
    refine wp_cond_true (hrep.ev 33) ?_
    go_upto_region 8 with fail
    refine lst_begin ?_
    intro A2 hA2
    rw [hA2]
    clear hA2 A2
    refine abs_step (by rfl) hrep ?_
    clear hrep; intro A1 hrep
    refine abs_val (.bool true) rfl rfl rfl hrep (exec_bin .eql 31 31 _ (.const (.int .i64 5)) rfl (hrep.ev 34) rfl (eqg_gt _ _ _ _ _ _ _ _) (eq_int 31 .i64 _ _ _ Tryd.underlying31 (by rw [ck]; rfl) _)) ?_
    clear hrep; intro A1 hrep
    refine abs_step (by rfl) hrep ?_
    clear hrep; intro A1 hrep
    refine abs_call (f := 11) (args := #[]) rfl rfl rfl hrep (exec_call0 rfl rfl map0 en11) ?_
    refine (LH.out _ S.out.b).mono ?_
    rintro _ wn ⟨rfl, hb⟩
    have S := Lib.hid (S.out.below hb)
    clear hb
    refine ⟨_, rfl, ?_⟩
    clear hrep; intro A1 hrep
    refine abs_step (by rfl) hrep ?_
    clear hrep; intro A1 hrep
    refine abs_step (by rfl) hrep ?_
    clear hrep; intro A1 hrep
    refine lst_nil ?_
    have hv := hrep.ev 2
    have hd := hrep.df
    clear hrep
    go_wp2_with fail
    refine bodyPost_ret (results_tmp rfl _ _ _) hd ?_
    exact ⟨congrArg Ending.returned hv, S.out.b⟩
end Go.Proofs.YtfojjklohbiffaaDoor
namespace Go.Proofs.YtfojjklohbiffaaDoor
open Go.RowKit Tran Tran.Wire
set_option linter.unusedVariables false
set_option linter.unusedSimpArgs false
theorem sz_str (l : List UInt8) : ((⟨l.toArray⟩ : ByteArray).size : Int) = (l.length : Int) := by simp [ByteArray.size]
theorem put_iff (x y : NOp) (hx : x.ok) (hy : y.ok) (h1 : x.lines.length ≤ 16) (h2 : y.lines.length ≤ 16) : x = y ↔ (⟨(putO x).toArray⟩ : ByteArray) = ⟨(putO y).toArray⟩ := by
  constructor
  · rintro rfl; rfl
  · intro h
    have e : putO x = putO y := by
      injection h with h
      simpa using h
    exact (putO_inj hx hy h1 h2 (r := []) (s := []) (by rw [e])).1
theorem putO_pos (x : NOp) (hx : x.ok) : 1 ≤ (putO x).length := by
  have h := (numF_len x.dr (by have := hx.dr; omega)).2
  unfold putO dotF
  simp only [List.length_append]
  omega
theorem get_more (W : World) (x : NOp) (hx : x.ok) (hl : x.lines.length ≤ 16) (c : UInt8) : Calls Tryd.prog 14 #[.string ⟨(putO x ++ [c]).toArray⟩] W (GotX W zeroO 5) := by
  have h := getO_any W (putO x ++ [c]) (by have := putO_len x hx hl; simp; omega)
  rw [rdO_put x hx hl [c]] at h
  refine h.mono fun e w' h => ?_
  have := gotX_of h (by unfold gotY; simp [zeroO])
  unfold gotY at this
  simpa [endN] using this
theorem get_less (W : World) (x : NOp) (hx : x.ok) (hl : x.lines.length ≤ 16) : Calls Tryd.prog 14 #[.string ⟨((putO x).take ((putO x).length - 1)).toArray⟩] W (GotX W zeroO 5) := by
  have h := getO_any W ((putO x).take ((putO x).length - 1)) (by have := putO_len x hx hl; simp; omega)
  have hne : (rdO (some ((putO x).take ((putO x).length - 1)))).2 ≠ some [] := by
    intro e0
    have e1 := rdO_some e0
    rw [List.append_nil] at e1
    injection e1 with e1
    have e2 : putO x = (putO x).take ((putO x).length - 1) ++ (putO x).drop ((putO x).length - 1) := (List.take_append_drop _ _).symm
    rw [e1] at e2
    have e3 := putO_inj hx (rdO_ok _) hl (rdO_lines _) (r := []) (by rw [List.append_nil]; exact e2)
    have e4 := congrArg List.length e3.2
    have := putO_pos x hx
    simp at e4
    omega
  refine h.mono fun e w' h => ?_
  have e5 : endN (rdO (some ((putO x).take ((putO x).length - 1)))).2 = 5 := by
    revert hne
    cases (rdO (some ((putO x).take ((putO x).length - 1)))).2 with
    | none => intro _; rfl
    | some r => cases r with
      | nil => intro h; exact absurd rfl h
      | cons _ _ => intro _; rfl
  have e6 : gotY (rdO (some ((putO x).take ((putO x).length - 1)))) = zeroO := by unfold gotY; rw [if_neg hne]
  have := gotX_of h (gotY_rd _).1
  rwa [e5, e6] at this
theorem bs48 (W : World) (b : Int) : (Instr.buildSlice 48 1 #[(0, .int .u8 b)]).run Tryd.prog W = .ok (.slice (some ⟨W.heap.size, 0, none⟩) 1 1) (W.alloc (.cells #[.int .u8 b] 5)) := by go_simp
theorem cv48 (W : World) (g : Nat) (c : UInt8) (k : Blk W g 5 #[.int .u8 (c.toNat : Int)]) : (convert 48 9 (.slice (some ⟨g, 0, none⟩) 1 1)).run Tryd.prog W = .ok (.string ⟨#[c]⟩) W := by
  refine run_string_of W 48 9 5 (some ⟨g, 0, none⟩) 1 1 [c] Tryd.underlying48 Tryd.underlying5 Tryd.underlying9 ⟨by simp [bc], fun _ => ⟨_, rfl, fun j v hv => ?_⟩⟩
  rw [lit_add, Nat.zero_add]
  refine (k.cell j).trans ?_
  simpa [bc] using hv
theorem add_one (l : List UInt8) (c : UInt8) (h : l.length ≤ 900) (w : World) : (binOp .add 9 (.string ⟨l.toArray⟩) (.string ⟨#[c]⟩)).run Tryd.prog w = .ok (.string ⟨(l ++ [c]).toArray⟩) w := by
  have h2 := add_str ⟨l.toArray⟩ ⟨#[c]⟩ (by simp [ByteArray.size]; omega) w
  rw [show (⟨#[c]⟩ : ByteArray) = ⟨[c].toArray⟩ from rfl] at h2 ⊢
  rw [h2, str_cat]
theorem sub_one (n : Nat) (h1 : 1 ≤ n) (h : n ≤ 900) (w : World) : (binOp .sub 3 (.int .i64 (n : Int)) (.int .i64 1)).run Tryd.prog w = .ok (.int .i64 ((n - 1 : Nat) : Int)) w := by
  have hw : IntKind.i64.wrap ((n : Int) - 1) = ((n - 1 : Nat) : Int) := by rw [IntWalk.i64_in _ (by omega)]; omega
  have hw2 : wrap64 ((n : Int) - 1) = ((n - 1 : Nat) : Int) := by rw [IntWalk.wrap64_in _ (by omega)]; omega
  go_simp
theorem exec_slc9 {P : Program} {o : Oper} {a : Act} {w : World} (x y : Operand) (ho : o.op = .slice 9 x none (some y) none) {u v r : Value} (hx : a.eval x = u) (hy : a.eval y = v) (hr : (Instr.sliceAt 9 u none (some v) none).run P w = .ok r w) : (execOp a.eval o).run P w = .ok (.value r) w := exec_slc 9 x y ho hx hy hr
theorem slc9 (l : List UInt8) (n : Nat) (h : l.length ≤ 900) (W : World) (hn : n ≤ l.length := by omega) : (Instr.sliceAt 9 (.string ⟨l.toArray⟩) none (some (.int .i64 (n : Int))) none).run Tryd.prog W = .ok (.string ⟨(l.take n).toArray⟩) W := by
  have h1 : (0 : Int) ≤ (n : Int) := by omega
  have h2 : (n : Int) ≤ (l.length : Int) := by omega
  have e := str_take l n
  go_simp
set_option maxRecDepth 100000 in
set_option maxHeartbeats 16000000 in
theorem opunlike_any (w : World) (x y : NOp) (lx ly : Value) (c : UInt8) (hx : x.ok) (hy : y.ok) (hLx : Lns w lx x.lines) (hLy : Lns w ly y.lines) (hg : Glob w) :
    Calls Tryd.prog 6 #[.agg (opA x lx), .agg (opA y ly), .int .u8 (c.toNat : Int)] w fun e w' => e = .returned (.bool true) ∧ Below w.heap.size w w' := by
  obtain ⟨A, ca, rfl, hra, hla⟩ := hLx
  have hLx : Lns w (.slice A x.lines.length ca) x.lines := ⟨A, ca, rfl, hra, hla⟩
  obtain ⟨B, cb, rfl, hrb, hlb⟩ := hLy
  have hLy : Lns w (.slice B y.lines.length cb) y.lines := ⟨B, cb, rfl, hrb, hlb⟩
  have LH := Lib.hid (fun W (hW : Below w.heap.size w W) => lawhead_any W (hg.later hW))
  obtain ⟨r, hr⟩ := bool_of (x = y)
  have SXY := Lib.hid (fun W (h1 : Lns W (.slice A x.lines.length ca) x.lines) (h2 : Lns W (.slice B y.lines.length cb) y.lines) => same_b W x y _ _ hx hy h1 h2 r hr)
  have TXY := Lib.hid (fun W (h1 : Lns W (.slice A x.lines.length ca) x.lines) (h2 : Lns W (.slice B y.lines.length cb) y.lines) => tsame_b W x y _ _ hx hy h1 h2 r hr)
  have SYX := Lib.hid (fun W (h1 : Lns W (.slice A x.lines.length ca) x.lines) (h2 : Lns W (.slice B y.lines.length cb) y.lines) => same_b W y x _ _ hy hx h2 h1 r (hr.trans ⟨fun e => e.symm, fun e => e.symm⟩))
  have SXX := Lib.hid (fun W (h1 : Lns W (.slice A x.lines.length ca) x.lines) => same_b W x x _ _ hx hx h1 h1 true (by simp))
  have PX := Lib.hid (fun W (h : Lns W (.slice A x.lines.length ca) x.lines) => putO_any W x _ hx h)
  have PY := Lib.hid (fun W (h : Lns W (.slice B y.lines.length cb) y.lines) => putO_any W y _ hy h)
  have HSX := Lib.hid (opA_size x (.slice A x.lines.length ca) hx.dep8)
  have HSY := Lib.hid (opA_size y (.slice B y.lines.length cb) hy.dep8)
  have CX := Lib.hid (op_c28 x (.slice A x.lines.length ca) hx.dep8)
  have CY := Lib.hid (op_c28 y (.slice B y.lines.length cb) hy.dep8)
  have PX1 : Hid (16 < x.lines.length → putOR x = .tuple #[.string ⟨#[]⟩, .int .i64 3]) := Lib.hid (fun h => by unfold putOR; rw [if_pos h])
  have PX2 : Hid (¬ 16 < x.lines.length → putOR x = .tuple #[.string ⟨(putO x).toArray⟩, .int .i64 0]) := Lib.hid (fun h => by unfold putOR; rw [if_neg h])
  have PY1 : Hid (16 < y.lines.length → putOR y = .tuple #[.string ⟨#[]⟩, .int .i64 3]) := Lib.hid (fun h => by unfold putOR; rw [if_pos h])
  have PY2 : Hid (¬ 16 < y.lines.length → putOR y = .tuple #[.string ⟨(putO y).toArray⟩, .int .i64 0]) := Lib.hid (fun h => by unfold putOR; rw [if_neg h])
  have GB := Lib.hid (fun W (h : x.lines.length ≤ 16) => get_more W x hx h c)
  have GS := Lib.hid (fun W (h : x.lines.length ≤ 16) => get_less W x hx h)
  have LEN := Lib.hid (fun (h : x.lines.length ≤ 16) => And.intro (putO_pos x hx) (putO_len x hx h))
  have REQ := Lib.hid (fun (h : x.lines.length ≤ 16) (h2 : y.lines.length ≤ 16) => show r = true ↔ (⟨(putO x).toArray⟩ : ByteArray) = ⟨(putO y).toArray⟩ from hr.trans (put_iff x y hx hy h h2))
  have S := Lib.hid (show Bls w [(w.heap.size + 1, 30, opA y (.slice B y.lines.length cb)), (w.heap.size, 30, opA x (.slice A x.lines.length ca))] [(.slice A x.lines.length ca, x.lines), (.slice B y.lines.length cb, y.lines)] _ from by
    have h := ((Bls.start w).new 30 (opA x (.slice A x.lines.length ca))).new 30 (opA y (.slice B y.lines.length cb))
    rw [show (w.alloc (.cells (opA x (.slice A x.lines.length ca)) 30)).heap.size = w.heap.size + 1 by simp] at h
    have hb := h.b
    exact (h.more (hLy.later hb)).more (hLx.later hb))
  have X0 := Lib.hid (opA_one_ x A x.lines.length ca)
  generalize opA x (.slice A x.lines.length ca) = X at *
  generalize opA y (.slice B y.lines.length cb) = Y at *
  clear hx hy hLx hLy hg hra hrb hla hlb hr
  go_enter Tryd.func6, Tryd.ntmps6
  go_upto_region 1 with fail
  refine lst_begin ?_
  intro A0 hA
  have h2 : A0.eval (.tmp 2) = .int .u8 (c.toNat : Int) := by rw [hA]; rfl
  have h3 : A0.eval (.tmp 3) = .pointer (some ⟨w.heap.size, 0, none⟩) := by rw [hA]; rfl
  have h4 : A0.eval (.tmp 4) = .pointer (some ⟨w.heap.size + 1, 0, none⟩) := by rw [hA]; rfl
  have hrep : Rep 114 A0 [] A0 := Rep.start (by rw [hA] <;> rfl) (by rw [hA] <;> rfl)
  clear hA
  refine abs_val (.pointer (some ⟨w.heap.size, 28, none⟩)) rfl rfl rfl hrep (exec_addr 30 _ 16 rfl ((hrep.ev 3).trans h3) fa16) ?_
  clear hrep; intro A1 hrep
  refine abs_val (.slice A x.lines.length ca) rfl rfl rfl hrep (exec_load1 28 _ rfl (hrep.ev 15) (ld120 (((S.out.at 1 rfl).cell 28).trans CX.out))) ?_
  clear hrep; intro A1 hrep
  refine abs_val (.int .i64 (x.lines.length : Int)) rfl rfl rfl hrep (exec_len28 rfl (hrep.ev 16)) ?_
  clear hrep; intro A1 hrep
  by_cases c1 : 100 < x.lines.length
  case pos =>
    refine abs_val (.bool true) rfl rfl rfl hrep (exec_bin .gtr 3 3 _ (.const (.int .i64 100)) rfl (hrep.ev 17) (rfl) (eqg_gt _ _ _ _ _ _ _ _) (gt_int 3 .i64 _ _ _ Tryd.underlying3 (decide_eq_true (by omega)) _)) ?_
    clear hrep; intro A1 hrep
    refine abs_step (by rfl) hrep ?_
    clear hrep; intro A1 hrep
    refine abs_step (by rfl) hrep ?_
    clear hrep; intro A1 hrep
    refine abs_step (by rfl) hrep ?_
    clear hrep; intro A1 hrep
    refine abs_step (by rfl) hrep ?_
    clear hrep; intro A1 hrep
    refine abs_step (by rfl) hrep ?_
    clear hrep; intro A1 hrep
    refine abs_step (by rfl) hrep ?_
    clear hrep; intro A1 hrep
    refine lst_nil ?_
    go_wp2_with fail
    refine wp_cond_true (hrep.ev 24) ?_
    go_upto_region 2 with fail
    refine lst_begin ?_
    intro A2 hA2
    rw [hA2]
    clear hA2 A2
    refine abs_call (f := 11) (args := #[]) rfl rfl rfl hrep (exec_call0 rfl rfl map0 en11) ?_
    refine (LH.out _ S.out.b).mono ?_
    rintro _ wn ⟨rfl, hb⟩
    have S := Lib.hid (S.out.below hb)
    clear hb
    refine ⟨_, rfl, ?_⟩
    clear hrep; intro A1 hrep
    refine abs_step (by rfl) hrep ?_
    clear hrep; intro A1 hrep
    refine lst_nil ?_
    have hv := hrep.ev 6
    have hd := hrep.df
    clear hrep
    go_wp2_with fail
    refine bodyPost_ret (results_tmp rfl _ _ _) hd ?_
    exact ⟨congrArg Ending.returned hv, S.out.b⟩
  refine abs_val (.bool false) rfl rfl rfl hrep (exec_bin .gtr 3 3 _ (.const (.int .i64 100)) rfl (hrep.ev 17) (rfl) (eqg_gt _ _ _ _ _ _ _ _) (gt_int 3 .i64 _ _ _ Tryd.underlying3 (decide_eq_false (by omega)) _)) ?_
  clear hrep; intro A1 hrep
  refine abs_step (by rfl) hrep ?_
  clear hrep; intro A1 hrep
  refine abs_val (.pointer (some ⟨w.heap.size + 1, 28, none⟩)) rfl rfl rfl hrep (exec_addr 30 _ 16 rfl ((hrep.ev 4).trans h4) fa16) ?_
  clear hrep; intro A1 hrep
  refine abs_val (.slice B y.lines.length cb) rfl rfl rfl hrep (exec_load1 28 _ rfl (hrep.ev 20) (ld120 (((S.out.at 0 rfl).cell 28).trans CY.out))) ?_
  clear hrep; intro A1 hrep
  refine abs_val (.int .i64 (y.lines.length : Int)) rfl rfl rfl hrep (exec_len28 rfl (hrep.ev 21)) ?_
  clear hrep; intro A1 hrep
  by_cases c2 : 100 < y.lines.length
  case pos =>
    refine abs_val (.bool true) rfl rfl rfl hrep (exec_bin .gtr 3 3 _ (.const (.int .i64 100)) rfl (hrep.ev 22) (rfl) (eqg_gt _ _ _ _ _ _ _ _) (gt_int 3 .i64 _ _ _ Tryd.underlying3 (decide_eq_true (by omega)) _)) ?_
    clear hrep; intro A1 hrep
    refine abs_step (by rfl) hrep ?_
    clear hrep; intro A1 hrep
    refine lst_nil ?_
    go_wp2_with fail
    refine wp_cond_true (hrep.ev 24) ?_
    go_upto_region 2 with fail
    refine lst_begin ?_
    intro A2 hA2
    rw [hA2]
    clear hA2 A2
    refine abs_call (f := 11) (args := #[]) rfl rfl rfl hrep (exec_call0 rfl rfl map0 en11) ?_
    refine (LH.out _ S.out.b).mono ?_
    rintro _ wn ⟨rfl, hb⟩
    have S := Lib.hid (S.out.below hb)
    clear hb
    refine ⟨_, rfl, ?_⟩
    clear hrep; intro A1 hrep
    refine abs_step (by rfl) hrep ?_
    clear hrep; intro A1 hrep
    refine lst_nil ?_
    have hv := hrep.ev 6
    have hd := hrep.df
    clear hrep
    go_wp2_with fail
    refine bodyPost_ret (results_tmp rfl _ _ _) hd ?_
    exact ⟨congrArg Ending.returned hv, S.out.b⟩
  refine abs_val (.bool false) rfl rfl rfl hrep (exec_bin .gtr 3 3 _ (.const (.int .i64 100)) rfl (hrep.ev 22) (rfl) (eqg_gt _ _ _ _ _ _ _ _) (gt_int 3 .i64 _ _ _ Tryd.underlying3 (decide_eq_false (by omega)) _)) ?_
  clear hrep; intro A1 hrep
  refine abs_step (by rfl) hrep ?_
  clear hrep; intro A1 hrep
  refine lst_nil ?_
  go_wp2_with fail
  refine wp_cond_false (hrep.ev 24) ?_
  go_upto_region 3 with fail
  refine wp_region_I (Bls w [(w.heap.size + 1, 30, Y), (w.heap.size, 30, X)] [(.slice A x.lines.length ca, x.lines), (.slice B y.lines.length cb, y.lines)]) (by kernel_rfl) (by kernel_rfl) (Bls.drew S.out) ?_
  intro A2 hA2
  rw [hA2]
  clear hA2 A2
  refine absq_val (.agg X) rfl rfl rfl hrep (fun W hW => exec_load1 30 _ rfl ((hrep.ev 3).trans h3) (ld122 (hW.at 1 rfl) HSX.out)) ?_
  clear hrep; intro A1 hrep
  refine absq_val (.agg Y) rfl rfl rfl hrep (fun W hW => exec_load1 30 _ rfl ((hrep.ev 4).trans h4) (ld122 (hW.at 0 rfl) HSY.out)) ?_
  clear hrep; intro A1 hrep
  refine absq_call (f := 16) (args := #[.agg X, .agg Y]) rfl rfl rfl hrep (fun W hW => exec_call0 rfl rfl (map2 (hrep.ev 26) (hrep.ev 27)) en16) (v := .bool r) (fun W hW => (SXY.out W (hW.lns 0 rfl) (hW.lns 1 rfl)).mono fun e w' h => ⟨h.1, hW.below h.2⟩) ?_
  clear hrep; intro A1 hrep
  refine absq_val (.agg X) rfl rfl rfl hrep (fun W hW => exec_load1 30 _ rfl ((hrep.ev 3).trans h3) (ld122 (hW.at 1 rfl) HSX.out)) ?_
  clear hrep; intro A1 hrep
  refine absq_val (.agg Y) rfl rfl rfl hrep (fun W hW => exec_load1 30 _ rfl ((hrep.ev 4).trans h4) (ld122 (hW.at 0 rfl) HSY.out)) ?_
  clear hrep; intro A1 hrep
  refine absq_call (f := 15) (args := #[.agg X, .agg Y]) rfl rfl rfl hrep (fun W hW => exec_call0 rfl rfl (map2 (hrep.ev 29) (hrep.ev 30)) en15) (v := .bool r) (fun W hW => (TXY.out W (hW.lns 0 rfl) (hW.lns 1 rfl)).mono fun e w' h => ⟨h.1, hW.below h.2⟩) ?_
  clear hrep; intro A1 hrep
  refine absq_val (.bool false) rfl rfl rfl hrep (fun W hW => exec_bin .neq 4 4 _ _ rfl (hrep.ev 28) (hrep.ev 31) (eqg_bool _ _ _ _ _ _ _) (ne_bool _ _ _ (by simp) _)) ?_
  clear hrep; intro A1 hrep
  refine absq_step (by rfl) hrep ?_
  clear hrep; intro A1 hrep
  refine absq_val (.agg X) rfl rfl rfl hrep (fun W hW => exec_load1 30 _ rfl ((hrep.ev 3).trans h3) (ld122 (hW.at 1 rfl) HSX.out)) ?_
  clear hrep; intro A1 hrep
  refine absq_val (.agg Y) rfl rfl rfl hrep (fun W hW => exec_load1 30 _ rfl ((hrep.ev 4).trans h4) (ld122 (hW.at 0 rfl) HSY.out)) ?_
  clear hrep; intro A1 hrep
  refine absq_call (f := 16) (args := #[.agg X, .agg Y]) rfl rfl rfl hrep (fun W hW => exec_call0 rfl rfl (map2 (hrep.ev 34) (hrep.ev 35)) en16) (v := .bool r) (fun W hW => (SXY.out W (hW.lns 0 rfl) (hW.lns 1 rfl)).mono fun e w' h => ⟨h.1, hW.below h.2⟩) ?_
  clear hrep; intro A1 hrep
  refine absq_val (.agg Y) rfl rfl rfl hrep (fun W hW => exec_load1 30 _ rfl ((hrep.ev 4).trans h4) (ld122 (hW.at 0 rfl) HSY.out)) ?_
  clear hrep; intro A1 hrep
  refine absq_val (.agg X) rfl rfl rfl hrep (fun W hW => exec_load1 30 _ rfl ((hrep.ev 3).trans h3) (ld122 (hW.at 1 rfl) HSX.out)) ?_
  clear hrep; intro A1 hrep
  refine absq_call (f := 16) (args := #[.agg Y, .agg X]) rfl rfl rfl hrep (fun W hW => exec_call0 rfl rfl (map2 (hrep.ev 37) (hrep.ev 38)) en16) (v := .bool r) (fun W hW => (SYX.out W (hW.lns 0 rfl) (hW.lns 1 rfl)).mono fun e w' h => ⟨h.1, hW.below h.2⟩) ?_
  clear hrep; intro A1 hrep
  refine absq_val (.bool false) rfl rfl rfl hrep (fun W hW => exec_bin .neq 4 4 _ _ rfl (hrep.ev 36) (hrep.ev 39) (eqg_bool _ _ _ _ _ _ _) (ne_bool _ _ _ (by simp) _)) ?_
  clear hrep; intro A1 hrep
  refine absq_step (by rfl) hrep ?_
  clear hrep; intro A1 hrep
  refine absq_step (by rfl) hrep ?_
  clear hrep; intro A1 hrep
  refine absq_val (.agg X) rfl rfl rfl hrep (fun W hW => exec_load1 30 _ rfl ((hrep.ev 3).trans h3) (ld122 (hW.at 1 rfl) HSX.out)) ?_
  clear hrep; intro A1 hrep
  refine absq_val (.agg X) rfl rfl rfl hrep (fun W hW => exec_load1 30 _ rfl ((hrep.ev 3).trans h3) (ld122 (hW.at 1 rfl) HSX.out)) ?_
  clear hrep; intro A1 hrep
  refine absq_call (f := 16) (args := #[.agg X, .agg X]) rfl rfl rfl hrep (fun W hW => exec_call0 rfl rfl (map2 (hrep.ev 43) (hrep.ev 44)) en16) (v := .bool true) (fun W hW => (SXX.out W (hW.lns 0 rfl)).mono fun e w' h => ⟨h.1, hW.below h.2⟩) ?_
  clear hrep; intro A1 hrep
  refine absq_val (.bool false) rfl rfl rfl hrep (fun W hW => exec_not (b := true) rfl (hrep.ev 45)) ?_
  clear hrep; intro A1 hrep
  refine absq_step (by rfl) hrep ?_
  clear hrep; intro A1 hrep
  refine q_nil ?_
  intro wq hI
  have S := Lib.hid hI
  clear hI
  go_wp2_with fail
  refine wp_cond_false (hrep.ev 47) ?_
  go_upto_region 5 with fail
  refine lst_begin ?_
  intro A2 hA2
  rw [hA2]
  clear hA2 A2
  by_cases d1 : 16 < x.lines.length
  · by_cases d2 : 16 < y.lines.length
    · rw [PX1.out d1] at PX
      rw [PY1.out d2] at PY
      refine abs_val (.agg X) rfl rfl rfl hrep (exec_load1 30 _ rfl ((hrep.ev 3).trans h3) (ld122 (S.out.at 1 rfl) HSX.out)) ?_
      clear hrep; intro A1 hrep
      refine abs_call (f := 12) (args := #[.agg X]) rfl rfl rfl hrep (exec_call0 rfl rfl (map1 (hrep.ev 49)) en12) ?_
      refine (PX.out _ (S.out.lns 0 rfl)).mono ?_
      rintro _ wn ⟨rfl, hb⟩
      have S := Lib.hid (S.out.below hb)
      clear hb
      refine ⟨_, rfl, ?_⟩
      clear hrep; intro A1 hrep
      refine abs_step (by rfl) hrep ?_
      clear hrep; intro A1 hrep
      refine abs_val (.string ⟨#[]⟩) rfl rfl rfl hrep (exec_extract _ 0 rfl (hrep.ev 48) rfl) ?_
      clear hrep; intro A1 hrep
      refine abs_val (.int .i64 3) rfl rfl rfl hrep (exec_extract _ 1 rfl (hrep.ev 48) rfl) ?_
      clear hrep; intro A1 hrep
      refine abs_step (by rfl) hrep ?_
      clear hrep; intro A1 hrep
      refine abs_step (by rfl) hrep ?_
      clear hrep; intro A1 hrep
      refine lst_nil ?_
      go_upto_region 6 with fail
      refine lst_begin ?_
      intro A2 hA2
      rw [hA2]
      clear hA2 A2
      refine abs_val (.agg Y) rfl rfl rfl hrep (exec_load1 30 _ rfl ((hrep.ev 4).trans h4) (ld122 (S.out.at 0 rfl) HSY.out)) ?_
      clear hrep; intro A1 hrep
      refine abs_call (f := 12) (args := #[.agg Y]) rfl rfl rfl hrep (exec_call0 rfl rfl (map1 (hrep.ev 54)) en12) ?_
      refine (PY.out _ (S.out.lns 1 rfl)).mono ?_
      rintro _ wn ⟨rfl, hb⟩
      have S := Lib.hid (S.out.below hb)
      clear hb
      refine ⟨_, rfl, ?_⟩
      clear hrep; intro A1 hrep
      refine abs_step (by rfl) hrep ?_
      clear hrep; intro A1 hrep
      refine abs_val (.string ⟨#[]⟩) rfl rfl rfl hrep (exec_extract _ 0 rfl (hrep.ev 53) rfl) ?_
      clear hrep; intro A1 hrep
      refine abs_val (.int .i64 3) rfl rfl rfl hrep (exec_extract _ 1 rfl (hrep.ev 53) rfl) ?_
      clear hrep; intro A1 hrep
      refine abs_step (by rfl) hrep ?_
      clear hrep; intro A1 hrep
      refine abs_step (by rfl) hrep ?_
      clear hrep; intro A1 hrep
      refine lst_nil ?_
      go_upto_region 7 with fail
      refine lst_begin ?_
      intro A2 hA2
      rw [hA2]
      clear hA2 A2
      refine abs_step (by rfl) hrep ?_
      clear hrep; intro A1 hrep
      refine abs_val (.bool true) rfl rfl rfl hrep (exec_bin .neq 31 31 _ (.const (.int .i64 0)) rfl (hrep.ev 58) rfl (eqg_gt _ _ _ _ _ _ _ _) (ne_int 31 .i64 _ _ _ Tryd.underlying31 (by rfl) _)) ?_
      clear hrep; intro A1 hrep
      refine abs_step (by rfl) hrep ?_
      clear hrep; intro A1 hrep
      refine abs_step (by rfl) hrep ?_
      clear hrep; intro A1 hrep
      refine abs_step (by rfl) hrep ?_
      clear hrep; intro A1 hrep
      refine abs_step (by rfl) hrep ?_
      clear hrep; intro A1 hrep
      refine abs_step (by rfl) hrep ?_
      clear hrep; intro A1 hrep
      refine abs_step (by rfl) hrep ?_
      clear hrep; intro A1 hrep
      refine abs_step (by rfl) hrep ?_
      clear hrep; intro A1 hrep
      refine abs_step (by rfl) hrep ?_
      clear hrep; intro A1 hrep
      refine abs_step (by rfl) hrep ?_
      clear hrep; intro A1 hrep
      refine lst_nil ?_
      go_wp2_with fail
      refine wp_cond_true (hrep.ev 68) ?_
      go_upto_region 8 with fail
      refine lst_begin ?_
      intro A2 hA2
      rw [hA2]
      clear hA2 A2
      refine abs_step (by rfl) hrep ?_
      clear hrep; intro A1 hrep
      refine abs_val (.bool true) rfl rfl rfl hrep (exec_bin .neq 31 31 _ (.const (.int .i64 0)) rfl (hrep.ev 69) rfl (eqg_gt _ _ _ _ _ _ _ _) (ne_int 31 .i64 _ _ _ Tryd.underlying31 (by rfl) _)) ?_
      clear hrep; intro A1 hrep
      refine abs_step (by rfl) hrep ?_
      clear hrep; intro A1 hrep
      refine abs_step (by rfl) hrep ?_
      clear hrep; intro A1 hrep
      refine abs_step (by rfl) hrep ?_
      clear hrep; intro A1 hrep
      refine abs_step (by rfl) hrep ?_
      clear hrep; intro A1 hrep
      refine abs_step (by rfl) hrep ?_
      clear hrep; intro A1 hrep
      refine abs_call (f := 11) (args := #[]) rfl rfl rfl hrep (exec_call0 rfl rfl map0 en11) ?_
      refine (LH.out _ S.out.b).mono ?_
      rintro _ wn ⟨rfl, hb⟩
      have S := Lib.hid (S.out.below hb)
      clear hb
      refine ⟨_, rfl, ?_⟩
      clear hrep; intro A1 hrep
      refine abs_step (by rfl) hrep ?_
      clear hrep; intro A1 hrep
      refine abs_step (by rfl) hrep ?_
      clear hrep; intro A1 hrep
      refine lst_nil ?_
      have hv := hrep.ev 6
      have hd := hrep.df
      clear hrep
      go_wp2_with fail
      refine bodyPost_ret (results_tmp rfl _ _ _) hd ?_
      exact ⟨congrArg Ending.returned hv, S.out.b⟩
    · rw [PX1.out d1] at PX
      rw [PY2.out d2] at PY
      refine abs_val (.agg X) rfl rfl rfl hrep (exec_load1 30 _ rfl ((hrep.ev 3).trans h3) (ld122 (S.out.at 1 rfl) HSX.out)) ?_
      clear hrep; intro A1 hrep
      refine abs_call (f := 12) (args := #[.agg X]) rfl rfl rfl hrep (exec_call0 rfl rfl (map1 (hrep.ev 49)) en12) ?_
      refine (PX.out _ (S.out.lns 0 rfl)).mono ?_
      rintro _ wn ⟨rfl, hb⟩
      have S := Lib.hid (S.out.below hb)
      clear hb
      refine ⟨_, rfl, ?_⟩
      clear hrep; intro A1 hrep
      refine abs_step (by rfl) hrep ?_
      clear hrep; intro A1 hrep
      refine abs_val (.string ⟨#[]⟩) rfl rfl rfl hrep (exec_extract _ 0 rfl (hrep.ev 48) rfl) ?_
      clear hrep; intro A1 hrep
      refine abs_val (.int .i64 3) rfl rfl rfl hrep (exec_extract _ 1 rfl (hrep.ev 48) rfl) ?_
      clear hrep; intro A1 hrep
      refine abs_step (by rfl) hrep ?_
      clear hrep; intro A1 hrep
      refine abs_step (by rfl) hrep ?_
      clear hrep; intro A1 hrep
      refine lst_nil ?_
      go_upto_region 6 with fail
      refine lst_begin ?_
      intro A2 hA2
      rw [hA2]
      clear hA2 A2
      refine abs_val (.agg Y) rfl rfl rfl hrep (exec_load1 30 _ rfl ((hrep.ev 4).trans h4) (ld122 (S.out.at 0 rfl) HSY.out)) ?_
      clear hrep; intro A1 hrep
      refine abs_call (f := 12) (args := #[.agg Y]) rfl rfl rfl hrep (exec_call0 rfl rfl (map1 (hrep.ev 54)) en12) ?_
      refine (PY.out _ (S.out.lns 1 rfl)).mono ?_
      rintro _ wn ⟨rfl, hb⟩
      have S := Lib.hid (S.out.below hb)
      clear hb
      refine ⟨_, rfl, ?_⟩
      clear hrep; intro A1 hrep
      refine abs_step (by rfl) hrep ?_
      clear hrep; intro A1 hrep
      refine abs_val (.string ⟨(putO y).toArray⟩) rfl rfl rfl hrep (exec_extract _ 0 rfl (hrep.ev 53) rfl) ?_
      clear hrep; intro A1 hrep
      refine abs_val (.int .i64 0) rfl rfl rfl hrep (exec_extract _ 1 rfl (hrep.ev 53) rfl) ?_
      clear hrep; intro A1 hrep
      refine abs_step (by rfl) hrep ?_
      clear hrep; intro A1 hrep
      refine abs_step (by rfl) hrep ?_
      clear hrep; intro A1 hrep
      refine lst_nil ?_
      go_upto_region 7 with fail
      refine lst_begin ?_
      intro A2 hA2
      rw [hA2]
      clear hA2 A2
      refine abs_step (by rfl) hrep ?_
      clear hrep; intro A1 hrep
      refine abs_val (.bool true) rfl rfl rfl hrep (exec_bin .neq 31 31 _ (.const (.int .i64 0)) rfl (hrep.ev 58) rfl (eqg_gt _ _ _ _ _ _ _ _) (ne_int 31 .i64 _ _ _ Tryd.underlying31 (by rfl) _)) ?_
      clear hrep; intro A1 hrep
      refine abs_step (by rfl) hrep ?_
      clear hrep; intro A1 hrep
      refine abs_step (by rfl) hrep ?_
      clear hrep; intro A1 hrep
      refine abs_step (by rfl) hrep ?_
      clear hrep; intro A1 hrep
      refine abs_step (by rfl) hrep ?_
      clear hrep; intro A1 hrep
      refine abs_step (by rfl) hrep ?_
      clear hrep; intro A1 hrep
      refine abs_step (by rfl) hrep ?_
      clear hrep; intro A1 hrep
      refine abs_step (by rfl) hrep ?_
      clear hrep; intro A1 hrep
      refine abs_step (by rfl) hrep ?_
      clear hrep; intro A1 hrep
      refine abs_step (by rfl) hrep ?_
      clear hrep; intro A1 hrep
      refine lst_nil ?_
      go_wp2_with fail
      refine wp_cond_true (hrep.ev 68) ?_
      go_upto_region 8 with fail
      refine lst_begin ?_
      intro A2 hA2
      rw [hA2]
      clear hA2 A2
      refine abs_step (by rfl) hrep ?_
      clear hrep; intro A1 hrep
      refine abs_val (.bool true) rfl rfl rfl hrep (exec_bin .neq 31 31 _ (.const (.int .i64 0)) rfl (hrep.ev 69) rfl (eqg_gt _ _ _ _ _ _ _ _) (ne_int 31 .i64 _ _ _ Tryd.underlying31 (by rfl) _)) ?_
      clear hrep; intro A1 hrep
      refine abs_step (by rfl) hrep ?_
      clear hrep; intro A1 hrep
      refine abs_step (by rfl) hrep ?_
      clear hrep; intro A1 hrep
      refine abs_step (by rfl) hrep ?_
      clear hrep; intro A1 hrep
      refine abs_step (by rfl) hrep ?_
      clear hrep; intro A1 hrep
      refine abs_step (by rfl) hrep ?_
      clear hrep; intro A1 hrep
      refine abs_call (f := 11) (args := #[]) rfl rfl rfl hrep (exec_call0 rfl rfl map0 en11) ?_
      refine (LH.out _ S.out.b).mono ?_
      rintro _ wn ⟨rfl, hb⟩
      have S := Lib.hid (S.out.below hb)
      clear hb
      refine ⟨_, rfl, ?_⟩
      clear hrep; intro A1 hrep
      refine abs_step (by rfl) hrep ?_
      clear hrep; intro A1 hrep
      refine abs_step (by rfl) hrep ?_
      clear hrep; intro A1 hrep
      refine lst_nil ?_
      have hv := hrep.ev 6
      have hd := hrep.df
      clear hrep
      go_wp2_with fail
      refine bodyPost_ret (results_tmp rfl _ _ _) hd ?_
      exact ⟨congrArg Ending.returned hv, S.out.b⟩
  · by_cases d2 : 16 < y.lines.length
    · rw [PX2.out d1] at PX
      rw [PY1.out d2] at PY
      refine abs_val (.agg X) rfl rfl rfl hrep (exec_load1 30 _ rfl ((hrep.ev 3).trans h3) (ld122 (S.out.at 1 rfl) HSX.out)) ?_
      clear hrep; intro A1 hrep
      refine abs_call (f := 12) (args := #[.agg X]) rfl rfl rfl hrep (exec_call0 rfl rfl (map1 (hrep.ev 49)) en12) ?_
      refine (PX.out _ (S.out.lns 0 rfl)).mono ?_
      rintro _ wn ⟨rfl, hb⟩
      have S := Lib.hid (S.out.below hb)
      clear hb
      refine ⟨_, rfl, ?_⟩
      clear hrep; intro A1 hrep
      refine abs_step (by rfl) hrep ?_
      clear hrep; intro A1 hrep
      refine abs_val (.string ⟨(putO x).toArray⟩) rfl rfl rfl hrep (exec_extract _ 0 rfl (hrep.ev 48) rfl) ?_
      clear hrep; intro A1 hrep
      refine abs_val (.int .i64 0) rfl rfl rfl hrep (exec_extract _ 1 rfl (hrep.ev 48) rfl) ?_
      clear hrep; intro A1 hrep
      refine abs_step (by rfl) hrep ?_
      clear hrep; intro A1 hrep
      refine abs_step (by rfl) hrep ?_
      clear hrep; intro A1 hrep
      refine lst_nil ?_
      go_upto_region 6 with fail
      refine lst_begin ?_
      intro A2 hA2
      rw [hA2]
      clear hA2 A2
      refine abs_val (.agg Y) rfl rfl rfl hrep (exec_load1 30 _ rfl ((hrep.ev 4).trans h4) (ld122 (S.out.at 0 rfl) HSY.out)) ?_
      clear hrep; intro A1 hrep
      refine abs_call (f := 12) (args := #[.agg Y]) rfl rfl rfl hrep (exec_call0 rfl rfl (map1 (hrep.ev 54)) en12) ?_
      refine (PY.out _ (S.out.lns 1 rfl)).mono ?_
      rintro _ wn ⟨rfl, hb⟩
      have S := Lib.hid (S.out.below hb)
      clear hb
      refine ⟨_, rfl, ?_⟩
      clear hrep; intro A1 hrep
      refine abs_step (by rfl) hrep ?_
      clear hrep; intro A1 hrep
      refine abs_val (.string ⟨#[]⟩) rfl rfl rfl hrep (exec_extract _ 0 rfl (hrep.ev 53) rfl) ?_
      clear hrep; intro A1 hrep
      refine abs_val (.int .i64 3) rfl rfl rfl hrep (exec_extract _ 1 rfl (hrep.ev 53) rfl) ?_
      clear hrep; intro A1 hrep
      refine abs_step (by rfl) hrep ?_
      clear hrep; intro A1 hrep
      refine abs_step (by rfl) hrep ?_
      clear hrep; intro A1 hrep
      refine lst_nil ?_
      go_upto_region 7 with fail
      refine lst_begin ?_
      intro A2 hA2
      rw [hA2]
      clear hA2 A2
      refine abs_step (by rfl) hrep ?_
      clear hrep; intro A1 hrep
      refine abs_val (.bool false) rfl rfl rfl hrep (exec_bin .neq 31 31 _ (.const (.int .i64 0)) rfl (hrep.ev 58) rfl (eqg_gt _ _ _ _ _ _ _ _) (ne_int 31 .i64 _ _ _ Tryd.underlying31 (by rfl) _)) ?_
      clear hrep; intro A1 hrep
      refine abs_step (by rfl) hrep ?_
      clear hrep; intro A1 hrep
      refine abs_step (by rfl) hrep ?_
      clear hrep; intro A1 hrep
      refine abs_val (.bool true) rfl rfl rfl hrep (exec_bin .neq 31 31 _ (.const (.int .i64 0)) rfl (hrep.ev 61) rfl (eqg_gt _ _ _ _ _ _ _ _) (ne_int 31 .i64 _ _ _ Tryd.underlying31 (by rfl) _)) ?_
      clear hrep; intro A1 hrep
      refine abs_step (by rfl) hrep ?_
      clear hrep; intro A1 hrep
      refine abs_step (by rfl) hrep ?_
      clear hrep; intro A1 hrep
      refine abs_step (by rfl) hrep ?_
      clear hrep; intro A1 hrep
      refine abs_step (by rfl) hrep ?_
      clear hrep; intro A1 hrep
      refine abs_step (by rfl) hrep ?_
      clear hrep; intro A1 hrep
      refine abs_step (by rfl) hrep ?_
      clear hrep; intro A1 hrep
      refine lst_nil ?_
      go_wp2_with fail
      refine wp_cond_true (hrep.ev 68) ?_
      go_upto_region 8 with fail
      refine lst_begin ?_
      intro A2 hA2
      rw [hA2]
      clear hA2 A2
      refine abs_step (by rfl) hrep ?_
      clear hrep; intro A1 hrep
      refine abs_val (.bool false) rfl rfl rfl hrep (exec_bin .neq 31 31 _ (.const (.int .i64 0)) rfl (hrep.ev 69) rfl (eqg_gt _ _ _ _ _ _ _ _) (ne_int 31 .i64 _ _ _ Tryd.underlying31 (by rfl) _)) ?_
      clear hrep; intro A1 hrep
      refine abs_step (by rfl) hrep ?_
      clear hrep; intro A1 hrep
      refine abs_step (by rfl) hrep ?_
      clear hrep; intro A1 hrep
      refine abs_val (.bool true) rfl rfl rfl hrep (exec_bin .neq 31 31 _ (.const (.int .i64 0)) rfl (hrep.ev 72) rfl (eqg_gt _ _ _ _ _ _ _ _) (ne_int 31 .i64 _ _ _ Tryd.underlying31 (by rfl) _)) ?_
      clear hrep; intro A1 hrep
      refine abs_step (by rfl) hrep ?_
      clear hrep; intro A1 hrep
      refine abs_step (by rfl) hrep ?_
      clear hrep; intro A1 hrep
      refine abs_call (f := 11) (args := #[]) rfl rfl rfl hrep (exec_call0 rfl rfl map0 en11) ?_
      refine (LH.out _ S.out.b).mono ?_
      rintro _ wn ⟨rfl, hb⟩
      have S := Lib.hid (S.out.below hb)
      clear hb
      refine ⟨_, rfl, ?_⟩
      clear hrep; intro A1 hrep
      refine abs_step (by rfl) hrep ?_
      clear hrep; intro A1 hrep
      refine abs_step (by rfl) hrep ?_
      clear hrep; intro A1 hrep
      refine lst_nil ?_
      have hv := hrep.ev 6
      have hd := hrep.df
      clear hrep
      go_wp2_with fail
      refine bodyPost_ret (results_tmp rfl _ _ _) hd ?_
      exact ⟨congrArg Ending.returned hv, S.out.b⟩
    · rw [PX2.out d1] at PX
      rw [PY2.out d2] at PY
      refine abs_val (.agg X) rfl rfl rfl hrep (exec_load1 30 _ rfl ((hrep.ev 3).trans h3) (ld122 (S.out.at 1 rfl) HSX.out)) ?_
      clear hrep; intro A1 hrep
      refine abs_call (f := 12) (args := #[.agg X]) rfl rfl rfl hrep (exec_call0 rfl rfl (map1 (hrep.ev 49)) en12) ?_
      refine (PX.out _ (S.out.lns 0 rfl)).mono ?_
      rintro _ wn ⟨rfl, hb⟩
      have S := Lib.hid (S.out.below hb)
      clear hb
      refine ⟨_, rfl, ?_⟩
      clear hrep; intro A1 hrep
      refine abs_step (by rfl) hrep ?_
      clear hrep; intro A1 hrep
      refine abs_val (.string ⟨(putO x).toArray⟩) rfl rfl rfl hrep (exec_extract _ 0 rfl (hrep.ev 48) rfl) ?_
      clear hrep; intro A1 hrep
      refine abs_val (.int .i64 0) rfl rfl rfl hrep (exec_extract _ 1 rfl (hrep.ev 48) rfl) ?_
      clear hrep; intro A1 hrep
      refine abs_step (by rfl) hrep ?_
      clear hrep; intro A1 hrep
      refine abs_step (by rfl) hrep ?_
      clear hrep; intro A1 hrep
      refine lst_nil ?_
      go_upto_region 6 with fail
      refine lst_begin ?_
      intro A2 hA2
      rw [hA2]
      clear hA2 A2
      refine abs_val (.agg Y) rfl rfl rfl hrep (exec_load1 30 _ rfl ((hrep.ev 4).trans h4) (ld122 (S.out.at 0 rfl) HSY.out)) ?_
      clear hrep; intro A1 hrep
      refine abs_call (f := 12) (args := #[.agg Y]) rfl rfl rfl hrep (exec_call0 rfl rfl (map1 (hrep.ev 54)) en12) ?_
      refine (PY.out _ (S.out.lns 1 rfl)).mono ?_
      rintro _ wn ⟨rfl, hb⟩
      have S := Lib.hid (S.out.below hb)
      clear hb
      refine ⟨_, rfl, ?_⟩
      clear hrep; intro A1 hrep
      refine abs_step (by rfl) hrep ?_
      clear hrep; intro A1 hrep
      refine abs_val (.string ⟨(putO y).toArray⟩) rfl rfl rfl hrep (exec_extract _ 0 rfl (hrep.ev 53) rfl) ?_
      clear hrep; intro A1 hrep
      refine abs_val (.int .i64 0) rfl rfl rfl hrep (exec_extract _ 1 rfl (hrep.ev 53) rfl) ?_
      clear hrep; intro A1 hrep
      refine abs_step (by rfl) hrep ?_
      clear hrep; intro A1 hrep
      refine abs_step (by rfl) hrep ?_
      clear hrep; intro A1 hrep
      refine lst_nil ?_
      go_upto_region 7 with fail
      refine lst_begin ?_
      intro A2 hA2
      rw [hA2]
      clear hA2 A2
      refine abs_step (by rfl) hrep ?_
      clear hrep; intro A1 hrep
      refine abs_val (.bool false) rfl rfl rfl hrep (exec_bin .neq 31 31 _ (.const (.int .i64 0)) rfl (hrep.ev 58) rfl (eqg_gt _ _ _ _ _ _ _ _) (ne_int 31 .i64 _ _ _ Tryd.underlying31 (by rfl) _)) ?_
      clear hrep; intro A1 hrep
      refine abs_step (by rfl) hrep ?_
      clear hrep; intro A1 hrep
      refine abs_step (by rfl) hrep ?_
      clear hrep; intro A1 hrep
      refine abs_val (.bool false) rfl rfl rfl hrep (exec_bin .neq 31 31 _ (.const (.int .i64 0)) rfl (hrep.ev 61) rfl (eqg_gt _ _ _ _ _ _ _ _) (ne_int 31 .i64 _ _ _ Tryd.underlying31 (by rfl) _)) ?_
      clear hrep; intro A1 hrep
      refine abs_step (by rfl) hrep ?_
      clear hrep; intro A1 hrep
      refine abs_step (by rfl) hrep ?_
      clear hrep; intro A1 hrep
      refine abs_step (by rfl) hrep ?_
      clear hrep; intro A1 hrep
      refine abs_val (.int .i64 ((putO x).length : Int)) rfl rfl rfl hrep ((exec_len9 rfl (hrep.ev 65)).trans (by rw [sz_str])) ?_
      clear hrep; intro A1 hrep
      refine abs_val (.bool false) rfl rfl rfl hrep (exec_bin .eql 3 3 _ (.const (.int .i64 0)) rfl (hrep.ev 66) rfl (eqg_gt _ _ _ _ _ _ _ _) (eq_int 3 .i64 _ _ _ Tryd.underlying3 (by have := (LEN.out (by omega)).1; rw [beq_eq_false_iff_ne]; omega) _)) ?_
      clear hrep; intro A1 hrep
      refine abs_step (by rfl) hrep ?_
      clear hrep; intro A1 hrep
      refine lst_nil ?_
      go_wp2_with fail
      refine wp_cond_false (hrep.ev 68) ?_
      go_upto_region 9 with fail
      refine lst_begin ?_
      intro A2 hA2
      rw [hA2]
      clear hA2 A2
      refine abs_step (by rfl) hrep ?_
      clear hrep; intro A1 hrep
      refine abs_step (by rfl) hrep ?_
      clear hrep; intro A1 hrep
      refine abs_val (.slice (some ⟨wn.heap.size, 0, none⟩) 1 1) rfl rfl rfl hrep (exec_bsl 48 1 _ rfl (vs := #[(0, .int .u8 (c.toNat : Int))]) (by simp only [List.map_toArray, List.map_cons, List.map_nil]; rw [show A1.eval (.tmp 80) = _ from (hrep.ev 80).trans h2]) (bs48 _ _)) ?_
      clear hrep; intro A1 hrep
      have SB := Lib.hid (S.out.new 5 #[.int .u8 (c.toNat : Int)])
      refine abs_val (.string ⟨#[c]⟩) rfl rfl rfl hrep (exec_cv 48 9 _ rfl (hrep.ev 81) (cv48 _ _ _ (SB.out.at 0 rfl))) ?_
      clear hrep; intro A1 hrep
      have S := Lib.hid SB.out
      refine abs_val (.string ⟨(putO x ++ [c]).toArray⟩) rfl rfl rfl hrep (exec_bin .add 9 9 _ _ rfl (hrep.ev 79) (hrep.ev 82) (eqg_strs _ _ _ _ _ _ _) (add_one _ _ (LEN.out (by omega)).2 _)) ?_
      clear hrep; intro A1 hrep
      refine abs_call (f := 14) (args := #[.string ⟨(putO x ++ [c]).toArray⟩]) rfl rfl rfl hrep (exec_call0 rfl rfl (map1 (hrep.ev 83)) en14) ?_
      refine (GB.out _ (by omega)).mono ?_
      rintro _ wn ⟨l2, rfl, hll2, hb⟩
      have S := Lib.hid ((S.out.below hb).more hll2)
      clear hb
      refine ⟨_, rfl, ?_⟩
      clear hrep; intro A1 hrep
      refine abs_step (by rfl) hrep ?_
      clear hrep; intro A1 hrep
      refine abs_val (.agg (opA zeroO l2)) rfl rfl rfl hrep (exec_extract _ 0 rfl (hrep.ev 78) rfl) ?_
      clear hrep; intro A1 hrep
      refine abs_val (.int .i64 5) rfl rfl rfl hrep (exec_extract _ 1 rfl (hrep.ev 78) rfl) ?_
      clear hrep; intro A1 hrep
      refine abs_val (.pointer (some ⟨wn.heap.size, 0, none⟩)) rfl rfl rfl hrep (exec_alloc_ 30 rfl op_zero rfl) ?_
      clear hrep; intro A1 hrep
      refine abs_skip rfl rfl hrep (exec_store_op _ _ rfl rfl (opA_one zeroO hll2) (hrep.ev 11) (hrep.ev 85)) ?_
      clear hrep; intro A1 hrep
      have S := Lib.hid (S.out.var 30 (opA zeroO (.slice none 0 0)) (opA zeroO l2))
      refine abs_step (by rfl) hrep ?_
      clear hrep; intro A1 hrep
      refine lst_nil ?_
      go_upto_region 10 with fail
      refine lst_begin ?_
      intro A2 hA2
      rw [hA2]
      clear hA2 A2
      refine abs_step (by rfl) hrep ?_
      clear hrep; intro A1 hrep
      refine abs_step (by rfl) hrep ?_
      clear hrep; intro A1 hrep
      refine abs_val (.int .i64 ((putO x).length : Int)) rfl rfl rfl hrep ((exec_len9 rfl (hrep.ev 89)).trans (by rw [sz_str])) ?_
      clear hrep; intro A1 hrep
      refine abs_val (.int .i64 (((putO x).length - 1 : Nat) : Int)) rfl rfl rfl hrep (exec_bin .sub 3 3 _ (.const (.int .i64 1)) rfl (hrep.ev 90) rfl (eqg_gt _ _ _ _ _ _ _ _) (sub_one _ (LEN.out (by omega)).1 (LEN.out (by omega)).2 _)) ?_
      clear hrep; intro A1 hrep
      refine abs_val (.string ⟨((putO x).take ((putO x).length - 1)).toArray⟩) rfl rfl rfl hrep (exec_slc9 _ _ rfl (hrep.ev 88) (hrep.ev 91) (slc9 _ _ (LEN.out (by omega)).2 _)) ?_
      clear hrep; intro A1 hrep
      refine abs_call (f := 14) (args := #[.string ⟨((putO x).take ((putO x).length - 1)).toArray⟩]) rfl rfl rfl hrep (exec_call0 rfl rfl (map1 (hrep.ev 92)) en14) ?_
      refine (GS.out _ (by omega)).mono ?_
      rintro _ wn ⟨l3, rfl, hll3, hb⟩
      have S := Lib.hid ((S.out.below hb).more hll3)
      clear hb
      refine ⟨_, rfl, ?_⟩
      clear hrep; intro A1 hrep
      refine abs_step (by rfl) hrep ?_
      clear hrep; intro A1 hrep
      refine abs_val (.agg (opA zeroO l3)) rfl rfl rfl hrep (exec_extract _ 0 rfl (hrep.ev 87) rfl) ?_
      clear hrep; intro A1 hrep
      refine abs_val (.int .i64 5) rfl rfl rfl hrep (exec_extract _ 1 rfl (hrep.ev 87) rfl) ?_
      clear hrep; intro A1 hrep
      refine abs_val (.pointer (some ⟨wn.heap.size, 0, none⟩)) rfl rfl rfl hrep (exec_alloc_ 30 rfl op_zero rfl) ?_
      clear hrep; intro A1 hrep
      refine abs_skip rfl rfl hrep (exec_store_op _ _ rfl rfl (opA_one zeroO hll3) (hrep.ev 13) (hrep.ev 94)) ?_
      clear hrep; intro A1 hrep
      have S := Lib.hid (S.out.var 30 (opA zeroO (.slice none 0 0)) (opA zeroO l3))
      refine abs_step (by rfl) hrep ?_
      clear hrep; intro A1 hrep
      refine lst_nil ?_
      go_upto_region 11 with fail
      refine lst_begin ?_
      intro A2 hA2
      rw [hA2]
      clear hA2 A2
      refine abs_step (by rfl) hrep ?_
      clear hrep; intro A1 hrep
      refine abs_step (by rfl) hrep ?_
      clear hrep; intro A1 hrep
      refine abs_val (.bool r) rfl rfl rfl hrep (exec_bin .eql 9 9 _ _ rfl (hrep.ev 96) (hrep.ev 97) (eqg_strs _ _ _ _ _ _ _) (eq_strs _ _ r (REQ.out (by omega) (by omega)) _)) ?_
      clear hrep; intro A1 hrep
      refine abs_val (.agg X) rfl rfl rfl hrep (exec_load1 30 _ rfl ((hrep.ev 3).trans h3) (ld122 (S.out.at 4 rfl) HSX.out)) ?_
      clear hrep; intro A1 hrep
      refine abs_val (.agg Y) rfl rfl rfl hrep (exec_load1 30 _ rfl ((hrep.ev 4).trans h4) (ld122 (S.out.at 3 rfl) HSY.out)) ?_
      clear hrep; intro A1 hrep
      refine abs_call (f := 16) (args := #[.agg X, .agg Y]) rfl rfl rfl hrep (exec_call0 rfl rfl (map2 (hrep.ev 99) (hrep.ev 100)) en16) ?_
      refine (SXY.out _ (S.out.lns 2 rfl) (S.out.lns 3 rfl)).mono ?_
      rintro _ wn ⟨rfl, hb⟩
      have S := Lib.hid (S.out.below hb)
      clear hb
      refine ⟨_, rfl, ?_⟩
      clear hrep; intro A1 hrep
      refine abs_val (.bool true) rfl rfl rfl hrep (exec_bin .eql 4 4 _ _ rfl (hrep.ev 98) (hrep.ev 101) (eqg_bool _ _ _ _ _ _ _) (eq_bool _ _ _ (by simp) _)) ?_
      clear hrep; intro A1 hrep
      refine abs_step (by rfl) hrep ?_
      clear hrep; intro A1 hrep
      refine abs_step (by rfl) hrep ?_
      clear hrep; intro A1 hrep
      refine abs_val (.bool true) rfl rfl rfl hrep (exec_bin .eql 31 31 _ (.const (.int .i64 5)) rfl (hrep.ev 104) rfl (eqg_gt _ _ _ _ _ _ _ _) (eq_int 31 .i64 _ _ _ Tryd.underlying31 (by rfl) _)) ?_
      clear hrep; intro A1 hrep
      refine abs_step (by rfl) hrep ?_
      clear hrep; intro A1 hrep
      refine abs_step (by rfl) hrep ?_
      clear hrep; intro A1 hrep
      refine abs_step (by rfl) hrep ?_
      clear hrep; intro A1 hrep
      refine abs_val (.bool true) rfl rfl rfl hrep (exec_bin .eql 31 31 _ (.const (.int .i64 5)) rfl (hrep.ev 108) rfl (eqg_gt _ _ _ _ _ _ _ _) (eq_int 31 .i64 _ _ _ Tryd.underlying31 (by rfl) _)) ?_
      clear hrep; intro A1 hrep
      refine abs_step (by rfl) hrep ?_
      clear hrep; intro A1 hrep
      refine abs_step (by rfl) hrep ?_
      clear hrep; intro A1 hrep
      refine abs_call (f := 11) (args := #[]) rfl rfl rfl hrep (exec_call0 rfl rfl map0 en11) ?_
      refine (LH.out _ S.out.b).mono ?_
      rintro _ wn ⟨rfl, hb⟩
      have S := Lib.hid (S.out.below hb)
      clear hb
      refine ⟨_, rfl, ?_⟩
      clear hrep; intro A1 hrep
      refine abs_step (by rfl) hrep ?_
      clear hrep; intro A1 hrep
      refine abs_step (by rfl) hrep ?_
      clear hrep; intro A1 hrep
      refine lst_nil ?_
      have hv := hrep.ev 6
      have hd := hrep.df
      clear hrep
      go_wp2_with fail
      refine bodyPost_ret (results_tmp rfl _ _ _) hd ?_
      exact ⟨congrArg Ending.returned hv, S.out.b⟩
end Go.Proofs.YtfojjklohbiffaaDoor
