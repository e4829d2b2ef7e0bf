/- OpChecks: the walk. -/
import Derived.Test.YtfojjklohbiffaaDoorKb
namespace Go.Proofs.YtfojjklohbiffaaDoor
open Go.RowKit Tran Tran.Wire
set_option linter.unusedVariables false
set_option linter.unusedSimpArgs false
theorem ld82D {W : World} {g : Nat} {D : Array Value} (k : Blk W g 24 D) (h : D.size = 2) : (loadVar 24 ⟨g, 0, none⟩).run Tryd.prog W = .ok (.agg D) W :=
  run_load_cells W ⟨g, 0, none⟩ 24 D _ (fun j x hj => by rw [lit_add, Nat.zero_add]; exact (k.cell j).trans hj) Tryd.underlying24 rfl (by rw [h]; exact size82)
theorem add_i64 (n k : Int) (h : 1 ≤ n ∧ n ≤ 8) (w : World) : (binOp .add 3 (.int .i64 n) (.int .i64 1)).run Tryd.prog w = .ok (.int .i64 (n + 1)) w := by
  have hw : IntKind.i64.wrap (n + 1) = n + 1 := IntWalk.i64_in _ (by omega)
  have hw2 : wrap64 (n + 1) = n + 1 := IntWalk.wrap64_in _ (by omega)
  go_simp
set_option maxRecDepth 100000 in
set_option maxHeartbeats 16000000 in
theorem opchecks_any (w : World) (x : NOp) (lv : Value) (n : Int) (r m : Nat) (hx : x.ok) (hL : Lns w lv x.lines) (hg : Glob w) (hr : r < 256) (hm : m < 4294967296) :
    Calls Tryd.prog 3 #[.agg (opA x lv), .int .i64 n, .agg #[.int .u8 (r : Int), .int .u32 (m : Int)]] w fun e w' => e = .returned (.bool true) ∧ Below w.heap.size w w' := by
  obtain ⟨A, cap, rfl, hrd, hll⟩ := hL
  have hL : Lns w (.slice A x.lines.length cap) x.lines := ⟨A, cap, rfl, hrd, hll⟩
  have LH := Lib.hid (fun W (hW : Below w.heap.size w W) => lawhead_any W (hg.later hW))
  have CK := Lib.hid (fun W (hW : Below w.heap.size w W) (k c : Int) (hc : ((chkF x k : Nat) : Int) = c) => show Calls Tryd.prog 7 #[.agg (opA x (.slice A x.lines.length cap)), .int .i64 k] W fun e w' => e = .returned (.int .i64 c) ∧ Below W.heap.size W w' by
    subst hc
    exact check_any W x A cap k hx (hL.later hW) (hg.later hW))
  have TK := Lib.hid (fun W (hW : Below w.heap.size w W) => tcheck_any W x A cap n hx (hL.later hW))
  obtain ⟨bc, hbc⟩ : ∃ b, decide (cov x r m) = b := ⟨_, rfl⟩
  have CV := Lib.hid (fun W => cov_b W x (.slice A x.lines.length cap) r m hx hr hm bc hbc)
  have TV := Lib.hid (fun W => tcov_b W x (.slice A x.lines.length cap) r m hx hr hm bc hbc)
  have HSX := Lib.hid (opA_size x (.slice A x.lines.length cap) hx.dep8)
  have S0 := ((Bls.start w).new 30 (opA x (.slice A x.lines.length cap))).new 24 #[.int .u8 (r : Int), .int .u32 (m : Int)]
  have hsz : (w.alloc (.cells (opA x (.slice A x.lines.length cap)) 30)).heap.size = w.heap.size + 1 := by simp
  rw [hsz] at S0
  have S := Lib.hid S0
  have CN := Lib.hid (fun h h8 => chk_next x n h h8)
  have CR := Lib.hid (fun h => chk_range x n h)
  have CK1 := Lib.hid (fun W hW => CK.out W hW n ((chkF x n : Nat) : Int) rfl)
  have CK2 := Lib.hid (fun W hW (h : chkF x (n + 1) = 0) => CK.out W hW (n + 1) 0 (by rw [h]; rfl))
  obtain ⟨c, hc⟩ : ∃ c, chkF x n = c := ⟨_, rfl⟩
  rw [hc] at CK1 TK CN CR
  have HDS := Lib.hid (show (#[Value.int .u8 (r : Int), Value.int .u32 (m : Int)] : Array Value).size = 2 from rfl)
  generalize opA x (.slice A x.lines.length cap) = X at *
  generalize (#[Value.int .u8 (r : Int), Value.int .u32 (m : Int)] : Array Value) = D at *
  clear hx hL hg hr hm hrd hll S0 hsz hbc hc CK
  go_enter Tryd.func3, Tryd.ntmps3
  go_upto_region 1 with fail
  refine lst_begin ?_
  intro A0 hA
  have h1 : A0.eval (.tmp 1) = .int .i64 n := by rw [hA]; rfl
  have h3 : A0.eval (.tmp 3) = .pointer (some ⟨w.heap.size, 0, none⟩) := by rw [hA]; rfl
  have h5 : A0.eval (.tmp 5) = .pointer (some ⟨w.heap.size + 1, 0, none⟩) := by rw [hA]; rfl
  have hrep : Rep 41 A0 [] A0 := Rep.start (by rw [hA] <;> rfl) (by rw [hA] <;> rfl)
  clear hA
  refine abs_val (.agg X) rfl rfl rfl hrep (exec_load1 30 _ rfl ((hrep.ev 3).trans h3) (ld122 (S.out.at 1 rfl) HSX.out)) ?_
  clear hrep; intro A1 hrep
  refine abs_step (by rfl) hrep ?_
  clear hrep; intro A1 hrep
  refine abs_call (f := 7) (args := #[.agg X, .int .i64 n]) rfl rfl rfl hrep (exec_call0 rfl rfl (map2 (hrep.ev 8) ((hrep.ev 9).trans h1)) en7) ?_
  refine (CK1.out _ S.out.b).mono ?_
  rintro _ wn ⟨rfl, hb⟩
  have S := Lib.hid (S.out.below hb)
  clear hb
  refine ⟨_, rfl, ?_⟩
  clear hrep; intro A1 hrep
  refine abs_step (by rfl) hrep ?_
  clear hrep; intro A1 hrep
  refine lst_nil ?_
  go_upto_region 2 with fail

  refine wp_region_I (Bls w [(w.heap.size + 1, 24, D), (w.heap.size, 30, X)] []) (by kernel_rfl) (by kernel_rfl) (Bls.drew S.out) ?_
  intro A2 hA2
  rw [hA2]
  clear hA2 A2
  refine absq_step (by rfl) hrep ?_
  clear hrep; intro A1 hrep
  refine absq_val (.agg X) rfl rfl rfl hrep (fun W hW => exec_load1 30 _ rfl ((hrep.ev 3).trans h3) (ld122 (hW.at 1 rfl) HSX.out)) ?_
  clear hrep; intro A1 hrep
  refine absq_step (by rfl) hrep ?_
  clear hrep; intro A1 hrep
  refine absq_call (f := 8) (args := #[.agg X, .int .i64 n]) rfl rfl rfl hrep (fun W hW => exec_call0 rfl rfl (map2 (hrep.ev 12) ((hrep.ev 13).trans h1)) en8) (v := .int .i64 (c : Int)) (fun W hW => (TK.out W hW.b).mono fun e w' h => ⟨h.1, hW.below h.2⟩) ?_
  clear hrep; intro A1 hrep
  refine absq_val (.bool false) rfl rfl rfl hrep (fun W hW => exec_bin .neq 3 3 _ _ rfl (hrep.ev 11) (hrep.ev 14) (eqg_gt _ _ _ _ _ _ _ _) (ne_int 3 .i64 _ _ _ Tryd.underlying3 (by simp) _)) ?_
  clear hrep; intro A1 hrep
  refine absq_step (by rfl) hrep ?_
  clear hrep; intro A1 hrep
  refine absq_val (.agg X) rfl rfl rfl hrep (fun W hW => exec_load1 30 _ rfl ((hrep.ev 3).trans h3) (ld122 (hW.at 1 rfl) HSX.out)) ?_
  clear hrep; intro A1 hrep
  refine absq_val (.agg D) rfl rfl rfl hrep (fun W hW => exec_load1 24 _ rfl ((hrep.ev 5).trans h5) (ld82D (hW.at 0 rfl) HDS.out)) ?_
  clear hrep; intro A1 hrep
  refine absq_call (f := 9) (args := #[.agg X, .agg D]) rfl rfl rfl hrep (fun W hW => exec_call0 rfl rfl (map2 (hrep.ev 17) (hrep.ev 18)) en9) (v := .bool bc) (fun W hW => (CV.out W).mono fun e w' h => ⟨h.1, hW.below h.2⟩) ?_
  clear hrep; intro A1 hrep
  refine absq_val (.agg X) rfl rfl rfl hrep (fun W hW => exec_load1 30 _ rfl ((hrep.ev 3).trans h3) (ld122 (hW.at 1 rfl) HSX.out)) ?_
  clear hrep; intro A1 hrep
  refine absq_val (.agg D) rfl rfl rfl hrep (fun W hW => exec_load1 24 _ rfl ((hrep.ev 5).trans h5) (ld82D (hW.at 0 rfl) HDS.out)) ?_
  clear hrep; intro A1 hrep
  refine absq_call (f := 10) (args := #[.agg X, .agg D]) rfl rfl rfl hrep (fun W hW => exec_call0 rfl rfl (map2 (hrep.ev 20) (hrep.ev 21)) en10) (v := .bool bc) (fun W hW => (TV.out W).mono fun e w' h => ⟨h.1, hW.below h.2⟩) ?_
  clear hrep; intro A1 hrep
  refine absq_val (.bool false) rfl rfl rfl hrep (fun W hW => exec_bin .neq 4 4 _ _ rfl (hrep.ev 19) (hrep.ev 22) (eqg_bool _ _ _ _ _ _ _) (ne_bool _ _ _ (by simp) _)) ?_
  clear hrep; intro A1 hrep
  refine absq_step (by rfl) hrep ?_
  clear hrep; intro A1 hrep
  refine q_nil ?_
  intro wq hI
  have S := Lib.hid hI
  clear hI
  go_wp2_with fail
  refine wp_cond_false (hrep.ev 24) ?_
  go_upto_region 4 with fail
  refine lst_begin ?_
  intro A2 hA2
  rw [hA2]
  clear hA2 A2
  refine abs_step (by rfl) hrep ?_
  clear hrep; intro A1 hrep
  by_cases c0 : c = 0
  case neg =>
    refine abs_val (.bool true) rfl rfl rfl hrep (exec_bin .neq 31 31 _ (.const (.int .i64 0)) rfl (hrep.ev 25) rfl (eqg_gt _ _ _ _ _ _ _ _) (ne_int 31 .i64 _ _ _ Tryd.underlying31 (by simp [c0]) _)) ?_
    clear hrep; intro A1 hrep
    refine abs_step (by rfl) hrep ?_
    clear hrep; intro A1 hrep
    refine abs_step (by rfl) hrep ?_
    clear hrep; intro A1 hrep
    refine abs_step (by rfl) hrep ?_
    clear hrep; intro A1 hrep
    refine abs_step (by rfl) hrep ?_
    clear hrep; intro A1 hrep
    refine abs_step (by rfl) hrep ?_
    clear hrep; intro A1 hrep
    refine abs_step (by rfl) hrep ?_
    clear hrep; intro A1 hrep
    refine abs_step (by rfl) hrep ?_
    clear hrep; intro A1 hrep
    refine abs_step (by rfl) hrep ?_
    clear hrep; intro A1 hrep
    refine abs_step (by rfl) hrep ?_
    clear hrep; intro A1 hrep
    refine abs_step (by rfl) hrep ?_
    clear hrep; intro A1 hrep
    refine abs_step (by rfl) hrep ?_
    clear hrep; intro A1 hrep
    refine abs_step (by rfl) hrep ?_
    clear hrep; intro A1 hrep
    refine abs_call (f := 11) (args := #[]) rfl rfl rfl hrep (exec_call0 rfl rfl map0 en11) ?_
    refine (LH.out _ S.out.b).mono ?_
    rintro _ wn ⟨rfl, hb⟩
    have S := Lib.hid (S.out.below hb)
    clear hb
    refine ⟨_, rfl, ?_⟩
    clear hrep; intro A1 hrep
    refine abs_step (by rfl) hrep ?_
    clear hrep; intro A1 hrep
    refine abs_step (by rfl) hrep ?_
    clear hrep; intro A1 hrep
    refine lst_nil ?_
    have hv := hrep.ev 6
    have hd := hrep.df
    clear hrep
    go_wp2_with fail
    refine bodyPost_ret (results_tmp rfl _ _ _) hd ?_
    exact ⟨congrArg Ending.returned hv, S.out.b⟩
  refine abs_val (.bool false) rfl rfl rfl hrep (exec_bin .neq 31 31 _ (.const (.int .i64 0)) rfl (hrep.ev 25) rfl (eqg_gt _ _ _ _ _ _ _ _) (ne_int 31 .i64 _ _ _ Tryd.underlying31 (by simp [c0]) _)) ?_
  clear hrep; intro A1 hrep
  refine abs_step (by rfl) hrep ?_
  clear hrep; intro A1 hrep
  refine abs_step (by rfl) hrep ?_
  clear hrep; intro A1 hrep
  by_cases c8 : 8 ≤ n
  case pos =>
    refine abs_val (.bool true) rfl rfl rfl hrep (exec_bin .geq 3 3 _ (.const (.int .i64 8)) rfl ((hrep.ev 28).trans h1) rfl (eqg_gt _ _ _ _ _ _ _ _) (ge_int 3 .i64 _ _ _ Tryd.underlying3 (decide_eq_true c8) _)) ?_
    clear hrep; intro A1 hrep
    refine abs_step (by rfl) hrep ?_
    clear hrep; intro A1 hrep
    refine abs_step (by rfl) hrep ?_
    clear hrep; intro A1 hrep
    refine abs_step (by rfl) hrep ?_
    clear hrep; intro A1 hrep
    refine abs_step (by rfl) hrep ?_
    clear hrep; intro A1 hrep
    refine abs_step (by rfl) hrep ?_
    clear hrep; intro A1 hrep
    refine abs_step (by rfl) hrep ?_
    clear hrep; intro A1 hrep
    refine abs_step (by rfl) hrep ?_
    clear hrep; intro A1 hrep
    refine abs_step (by rfl) hrep ?_
    clear hrep; intro A1 hrep
    refine abs_step (by rfl) hrep ?_
    clear hrep; intro A1 hrep
    refine abs_call (f := 11) (args := #[]) rfl rfl rfl hrep (exec_call0 rfl rfl map0 en11) ?_
    refine (LH.out _ S.out.b).mono ?_
    rintro _ wn ⟨rfl, hb⟩
    have S := Lib.hid (S.out.below hb)
    clear hb
    refine ⟨_, rfl, ?_⟩
    clear hrep; intro A1 hrep
    refine abs_step (by rfl) hrep ?_
    clear hrep; intro A1 hrep
    refine abs_step (by rfl) hrep ?_
    clear hrep; intro A1 hrep
    refine lst_nil ?_
    have hv := hrep.ev 6
    have hd := hrep.df
    clear hrep
    go_wp2_with fail
    refine bodyPost_ret (results_tmp rfl _ _ _) hd ?_
    exact ⟨congrArg Ending.returned hv, S.out.b⟩
  refine abs_val (.bool false) rfl rfl rfl hrep (exec_bin .geq 3 3 _ (.const (.int .i64 8)) rfl ((hrep.ev 28).trans h1) rfl (eqg_gt _ _ _ _ _ _ _ _) (ge_int 3 .i64 _ _ _ Tryd.underlying3 (decide_eq_false c8) _)) ?_
  clear hrep; intro A1 hrep
  refine abs_step (by rfl) hrep ?_
  clear hrep; intro A1 hrep
  refine abs_step (by rfl) hrep ?_
  clear hrep; intro A1 hrep
  refine abs_val (.agg X) rfl rfl rfl hrep (exec_load1 30 _ rfl ((hrep.ev 3).trans h3) (ld122 (S.out.at 1 rfl) HSX.out)) ?_
  clear hrep; intro A1 hrep
  refine abs_step (by rfl) hrep ?_
  clear hrep; intro A1 hrep
  refine abs_val (.int .i64 (n + 1)) rfl rfl rfl hrep (exec_bin .add 3 3 _ (.const (.int .i64 1)) rfl ((hrep.ev 33).trans h1) rfl (eqg_gt _ _ _ _ _ _ _ _) (add_i64 _ 0 (CR.out c0) _)) ?_
  clear hrep; intro A1 hrep
  refine abs_call (f := 7) (args := #[.agg X, .int .i64 (n + 1)]) rfl rfl rfl hrep (exec_call0 rfl rfl (map2 (hrep.ev 32) (hrep.ev 34)) en7) ?_
  refine (CK2.out _ S.out.b (CN.out c0 (by omega))).mono ?_
  rintro _ wn ⟨rfl, hb⟩
  have S := Lib.hid (S.out.below hb)
  clear hb
  refine ⟨_, rfl, ?_⟩
  clear hrep; intro A1 hrep
  refine abs_val (.bool true) rfl rfl rfl hrep (exec_bin .eql 31 31 _ (.const (.int .i64 0)) rfl (hrep.ev 35) rfl (eqg_gt _ _ _ _ _ _ _ _) (eq_int 31 .i64 _ _ _ Tryd.underlying31 (by rfl) _)) ?_
  clear hrep; intro A1 hrep
  refine abs_step (by rfl) hrep ?_
  clear hrep; intro A1 hrep
  refine abs_step (by rfl) hrep ?_
  clear hrep; intro A1 hrep
  refine abs_call (f := 11) (args := #[]) rfl rfl rfl hrep (exec_call0 rfl rfl map0 en11) ?_
  refine (LH.out _ S.out.b).mono ?_
  rintro _ wn ⟨rfl, hb⟩
  have S := Lib.hid (S.out.below hb)
  clear hb
  refine ⟨_, rfl, ?_⟩
  clear hrep; intro A1 hrep
  refine abs_step (by rfl) hrep ?_
  clear hrep; intro A1 hrep
  refine abs_step (by rfl) hrep ?_
  clear hrep; intro A1 hrep
  refine lst_nil ?_
  have hv := hrep.ev 6
  have hd := hrep.df
  clear hrep
  go_wp2_with fail
  refine bodyPost_ret (results_tmp rfl _ _ _) hd ?_
  exact ⟨congrArg Ending.returned hv, S.out.b⟩
end Go.Proofs.YtfojjklohbiffaaDoor
