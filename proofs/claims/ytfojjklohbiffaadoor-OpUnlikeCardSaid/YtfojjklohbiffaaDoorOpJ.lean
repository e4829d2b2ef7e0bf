/- Operations: the document's reader of numbers in a row. -/
import Derived.Test.YtfojjklohbiffaaDoorOpF
import Derived.Test.YtfojjklohbiffaaDoorWireL
namespace Go.Proofs.YtfojjklohbiffaaDoor
open Go.RowKit Tran Tran.Wire
set_option linter.unusedVariables false
set_option linter.unusedSimpArgs false
/-- numbers read one after the other, each of at most so much -/
def numsK (st : Option (List UInt8)) (ms : List Nat) : Nat → List Nat × Option (List UInt8)
  | 0 => ([], st)
  | k + 1 => ((numsK st ms k).1 ++ [(rnumS (numsK st ms k).2 (ms.getD k 0)).1], (rnumS (numsK st ms k).2 (ms.getD k 0)).2)
theorem numsK_len (st : Option (List UInt8)) (ms : List Nat) : ∀ k, (numsK st ms k).1.length = k
  | 0 => rfl
  | k + 1 => by simp [numsK, numsK_len st ms k]
theorem numsK_bound {st : Option (List UInt8)} (hs : ∀ l, st = some l → l.length ≤ 140737488355328) (ms : List Nat) : ∀ k l, (numsK st ms k).2 = some l → l.length ≤ 140737488355328
  | 0 => hs
  | k + 1 => rnumS_bound (numsK_bound hs ms k) _
theorem info80 : (Tryd.prog.info? 27).map (fun i => (i.zero, i.size, i.bytes)) = some (some (.int .u64 0), 1, 8) := by kernel_rfl
theorem zero89 : ((Tryd.prog.info? 81).bind (·.zero)) = some (.agg (rowC none)) := by kernel_rfl
theorem ld89 {W : World} {g : Nat} {cs : Array Value} (k : Blk W g 81 cs) (h : cs.size = 2) : (loadVar 81 ⟨g, 0, none⟩).run Tryd.prog W = .ok (.agg cs) W :=
  run_loadVar_row W g 81 81 cs (0, 0) _ k Tryd.underlying81 rfl (by rw [h]; exact size89)
theorem ix174 {W : World} {ad : Addr} {n c k : Nat} (hk : k < n) (hn : n ≤ 8796093022208) : (Instr.indexAt 57 (.slice (some ad) n c) (.int .i64 (k : Int))).run Tryd.prog W = .ok (.pointer (some (ad.add k))) W := by
  have h1 : (0 : Int) ≤ (k : Int) := by omega
  have h2 : (k : Int) < (n : Int) := by omega
  go_simp
theorem en110 (args : Array Value) (W : World) : (callFunc 59 args).run Tryd.prog W = .ok (.enter 59 args) W := enters_of Tryd.func59 (by kernel_rfl) rfl args W
theorem exec_extract {P : Program} {o : Oper} {a : Act} {w : World} (x : Operand) (i : Nat) (ho : o.op = .extract x i) {vs : Array Value} {v : Value} (hx : a.eval x = .tuple vs) (hv : vs[i]? = some v) : (execOp a.eval o).run P w = .ok (.value v) w := by
  generalize a.eval = ev at *
  unfold execOp
  simp [ho, hx, hv, go_sem]
theorem bs174 (W : World) (n : Int) : (Instr.buildSlice 57 1 #[(0, .int .u64 n)]).run Tryd.prog W = .ok (.slice (some ⟨W.heap.size, 0, none⟩) 1 1) (W.alloc (.cells #[.int .u64 n] 27)) := by go_simp
/-- the worlds within nums: what is left, the result, the numbers so far -/
structure NuW (w0 : World) (s : Option (List UInt8)) (v : Value) (k : Nat) (l : List Nat) (W : World) : Prop where
  k2 : Blk W w0.heap.size 81 (rowC s)
  k5 : Blk W (w0.heap.size + 1) 81 (rowC none)
  own : Tran.Own W (w0.heap.size + 1 + 1) 27 1 v k (u64s l)
  b : Below w0.heap.size w0 W
theorem NuW.below {w0 W W' : World} {s : Option (List UInt8)} {v : Value} {k : Nat} {l : List Nat} (h : NuW w0 s v k l W) (hb : Below W.heap.size W W') : NuW w0 s v k l W' :=
  ⟨h.k2.below hb h.k2.lt, h.k5.below hb h.k5.lt, h.own.below hb (Nat.le_refl _), h.b.trans (hb.mono h.b.size)⟩
theorem NuW.row {w0 W : World} {s s' : Option (List UInt8)} {v : Value} {k : Nat} {l : List Nat} (h : NuW w0 s v k l W) : NuW w0 s' v k l (W.setRow w0.heap.size (rowC s')) :=
  ⟨h.k2.row _, h.k5.rowFar (by omega) _, h.own.rowFar (fun e => by have := (h.own.lt _ e).1; omega) _, below_setRow h.b (Nat.le_refl _) _⟩
theorem NuW.far {w0 W : World} {s : Option (List UInt8)} {v : Value} {k : Nat} {l : List Nat} (h : NuW w0 s v k l W) {g : Nat} (hg : w0.heap.size + 1 < g) (hv : blkOf v ≠ some g) (cs : Array Value) : NuW w0 s v k l (W.setRow g cs) :=
  ⟨h.k2.rowFar (by omega) _, h.k5.rowFar (by omega) _, h.own.rowFar hv _, below_setRow h.b (by omega) _⟩
theorem NuW.start (w : World) (s : Option (List UInt8)) : NuW w s (.slice none 0 0) 0 [] ((w.alloc (.cells (rowC s) 81)).alloc (.cells (rowC none) 81)) := by
  obtain ⟨h1, h2, h3⟩ := two_blocks w (rowC s) 81
  exact ⟨h1, h2, Tran.Own.nil _ _ _ _, h3⟩
theorem own_lower {w : World} {B C : Nat} {e : TypeId} {size : Nat} {v : Value} {n : Nat} {xs : List Value} (h : Tran.Own w B e size v n xs) (hB : C ≤ B) : Tran.Own w C e size v n xs := by
  obtain ⟨h1, h2⟩ := h
  refine ⟨h1, ?_⟩
  rcases h2 with h2 | ⟨g, cap, cur, fz, e1, h3, h4⟩
  · exact .inl h2
  · exact .inr ⟨g, cap, cur, fz, e1, by omega, h4⟩
theorem rd_one_ (L : World) (x : Value) (t : TypeId) (g : Nat) (hg : L.heap.size = g) : Rd (L.alloc (.cells #[x] t)) (some ⟨g, 0, none⟩) 1 1 [x] := hg ▸ Rd.one L x t
def NumsO (w : World) (q : List Nat × Option (List UInt8)) (e : Ending) (w' : World) : Prop :=
  ∃ v, e = .returned (.tuple #[v, .agg (rowC q.2)]) ∧ Tran.Own w' w.heap.size 27 1 v q.1.length (u64s q.1) ∧ Below w.heap.size w w'
set_option maxRecDepth 100000 in
set_option maxHeartbeats 16000000 in
theorem nums_any (w : World) (st : Option (List UInt8)) (hs : ∀ l, st = some l → l.length ≤ 140737488355328) (ms : List Nat) (A : Option Addr) (cap : Nat) (hA : Rd w A ms.length 1 (u64s ms)) (hl : ms.length ≤ 100) :
    Calls Tryd.prog 58 #[.agg (rowC st), .slice A ms.length cap] w (NumsO w (numsK st ms ms.length)) := by
  obtain ⟨i0, hi, hz0, hz1, hz2⟩ := info_parts info80
  have HI := Lib.hid (And.intro hi (And.intro hz0 (And.intro hz1 hz2)))
  clear hi hz0 hz1 hz2
  have S0 := Lib.hid (NuW.start w st)
  have HC := Lib.hid (fun W (hb : Below w.heap.size w W) k (hk : k < ms.length) => show ∃ ad, A = some ad ∧ W.cell? (ad.add k) = some (.int .u64 ((ms.getD k 0 : Nat) : Int)) from by
    obtain ⟨ad, h1, h2⟩ := (hA.later hb).2 (by omega)
    exact ⟨ad, h1, h2 k _ (by simp [u64s, hk])⟩)
  have TN := Lib.hid (fun k => tknum_any (numsK st ms k).2 (numsK_bound hs ms k) (ms.getD k 0))
  have HN := Lib.hid (fun k => numsK_len st ms k)
  have HK : Hid (∀ k, numsK st ms (k + 1) = ((numsK st ms k).1 ++ [(rnumS (numsK st ms k).2 (ms.getD k 0)).1], (rnumS (numsK st ms k).2 (ms.getD k 0)).2)) := Lib.hid (fun _ => rfl)
  have H0 : Hid (numsK st ms 0 = ([], st)) := Lib.hid rfl
  generalize numsK st ms = F at *
  have HL := Lib.hid hl
  generalize hn : ms.length = n at *
  clear hA hs hn hl
  go_enter Tryd.func58, Tryd.ntmps58
  go_wp2_with fail
  go_loopw [6, 7] (fun v i wr => ∃ k : Nat, k ≤ n ∧ i = .int .i64 (k : Int) ∧ NuW w (F k).2 v k (F k).1 wr) (fun _ i _ => n - (intOf i).toNat)
  case atStart => exact ⟨0, by omega, rfl, by rw [H0.out]; exact S0.out⟩
  case round =>
    obtain ⟨k, hk, rfl, hW⟩ := hrel
    have SW := Lib.hid hW
    clear hW S0
    by_cases hlt : k < n
    · obtain ⟨ad, rfl, hcell⟩ := HC.out _ SW.out.b k hlt
      have IX := Lib.hid (fun (W : World) => ix174 (W := W) (ad := ad) (c := cap) hlt (by have := HL.out; omega))
      have CE := Lib.hid (fun (W : World) (hb : Below wr.heap.size wr W) => (hb.cell (World.block_lt_of_cell? wr _ hcell)).trans hcell)
      have TK := Lib.hid (TN.out k)
      have HWR := Lib.hid (show wrap64 ((k : Int) + 1) = ((k + 1 : Nat) : Int) by rw [IntWalk.wrap64_in _ (by have := HL.out; omega)]; omega)
      have HK1 := Lib.hid (HK.out k)
      clear hcell
      generalize hq : rnumS (F k).2 (ms.getD k 0) = q at *
      obtain ⟨x, s'⟩ := q
      simp only at TK HK1
      generalize ms.getD k 0 = m at *
      clear hq TN HC
      go_upto_region 5 with (fail)
      refine reg_begin_ (Below wr.heap.size wr) (by kernel_rfl) ?_
      intro A hA
      have h1 : A.eval (.tmp 1) = .slice (some ad) n cap := by rw [hA]; rfl
      have h2 : A.eval (.tmp 2) = .pointer (some ⟨w.heap.size, 0, none⟩) := by rw [hA]; rfl
      have h7 : A.eval (.tmp 7) = .int .i64 (k : Int) := by rw [hA]; rfl
      have hsz : A.tmps.size = 32 := by rw [hA]; rfl
      have hA := Lib.hid hA
      refine reg_take (some 17) (i := 0) (.agg (rowC (F k).2)) rfl rfl (by kernel_rfl) (fun _ _ _ h => h) (by rfl) (fun W hW => exec_load1 81 _ rfl h2 (ld89 (SW.out.k2.below hW SW.out.k2.lt) (rowC_size _))) (below_drew (Below.refl _ _)) ?_
      refine reg_take (some 18) (i := 1) (.slice (some ad) n cap) rfl rfl (by kernel_rfl) (fun _ _ _ h => h) (by rfl) (fun W hW => exec_move _ rfl (ev_ne (by rfl) h1)) (below_drew (Below.refl _ _)) ?_
      refine reg_take (some 19) (i := 2) (.int .i64 (k : Int)) rfl rfl (by kernel_rfl) (fun _ _ _ h => h) (by rfl) (fun W hW => exec_move _ rfl (ev_ne (by rfl) (ev_ne (by rfl) h7))) (below_drew (Below.refl _ _)) ?_
      refine reg_take (some 20) (i := 3) (.pointer (some (ad.add k))) rfl rfl (by kernel_rfl) (fun _ _ _ h => h) (by rfl) (fun W hW => exec_iaddr 57 _ _ rfl (ev_ne (by rfl) (ev_eq (by (try simp only [Act.size_put]); rw [hsz]; decide))) (ev_eq (by (try simp only [Act.size_put]); rw [hsz]; decide)) (IX.out W)) (below_drew (Below.refl _ _)) ?_
      refine reg_take (some 21) (i := 4) (.int .u64 (m : Int)) rfl rfl (by kernel_rfl) (fun _ _ _ h => h) (by rfl) (fun W hW => exec_load1 27 _ rfl (ev_eq (by (try simp only [Act.size_put]); rw [hsz]; decide)) (ld80 (CE.out W hW))) (below_drew (Below.refl _ _)) ?_
      refine reg_two (i := 5) (j := 9) (by kernel_rfl) ?_ ?_
      ·
        refine op_call (some 22) rfl rfl (by rfl) (exec_call0 rfl rfl (map2 (ev_ne (by rfl) (ev_ne (by rfl) (ev_ne (by rfl) (ev_ne (by rfl) (ev_eq (by (try simp only [Act.size_put]); rw [hsz]; decide)))))) (ev_eq (by (try simp only [Act.size_put]); rw [hsz]; decide))) en110) ?_
        refine (TK.out _).mono ?_
        rintro _ w2 ⟨rfl, hb⟩
        have B2 := Lib.hid ((below_drew (Below.refl wr.heap.size wr)).trans hb)
        refine ⟨_, rfl, B2.out, ?_⟩
        refine reg_take (some 16) (i := 6) (.tuple #[.int .u64 (x : Int), .agg (rowC s')]) rfl rfl (by kernel_rfl) (fun _ _ _ h => h) (by rfl) (fun W hW => exec_move _ rfl (ev_eq (by (try simp only [Act.size_put]); rw [hsz]; decide))) B2.out ?_
        refine reg_take (some 23) (i := 7) (.int .u64 (x : Int)) rfl rfl (by kernel_rfl) (fun _ _ _ h => h) (by rfl) (fun W hW => exec_extract _ 0 rfl (ev_eq (by (try simp only [Act.size_put]); rw [hsz]; decide)) rfl) B2.out ?_
        refine reg_take (some 24) (i := 8) (.agg (rowC s')) rfl rfl (by kernel_rfl) (fun _ _ _ h => h) (by rfl) (fun W hW => exec_extract _ 1 rfl (ev_ne (by rfl) (ev_eq (by (try simp only [Act.size_put]); rw [hsz]; decide))) rfl) B2.out ?_
        refine reg_run (some 9) (i := 9) (v := .pointer (some ⟨w2.heap.size, 0, none⟩)) rfl rfl (by kernel_rfl) (by rfl) (exec_alloc 81 rfl zero89) ?_ ?_
        · exact B2.out.alloc B2.out.size _
        change wpAnyH _ _ _ _ _ _ _ _ (w2.alloc (.cells (rowC none) 81))
        have N3 := Lib.hid (SW.out.below (B2.out.alloc B2.out.size (.cells (rowC none) 81)))
        have K3 := Lib.hid (Blk.new w2 81 (rowC none))
        have hS3 := B2.out.alloc B2.out.size (.cells (rowC none) 81)
        refine reg_take (some 8) (i := 10) (.int .u64 (x : Int)) rfl rfl (by kernel_rfl) (fun _ _ _ h => h) (by rfl) (fun W hW => exec_assign _ rfl (ev_ne (by rfl) (ev_ne (by rfl) (ev_eq (by (try simp only [Act.size_put]); rw [hsz]; decide))))) hS3 ?_
        have hlt5 := B2.out.size
        refine reg_skip none (i := 11) rfl rfl (by kernel_rfl) (by rfl) (exec_store_row 81 _ _ rfl (ev_ne (by rfl) (ev_eq (by (try simp only [Act.size_put]); rw [hsz]; decide))) (ev_ne (by rfl) (ev_ne (by rfl) (ev_eq (by (try simp only [Act.size_put]); rw [hsz]; decide)))) K3.out (by rw [rowC_size]; exact size89) (by rw [rowC_size, rowC_size]) (rowC_one s')) (below_setRow hS3 hlt5 (rowC s')) ?_
        refine reg_end (by kernel_rfl) ?_
        have N4 := Lib.hid (N3.out.far (g := w2.heap.size) (by have := SW.out.k5.lt; omega) (fun e => by have := (SW.out.own.lt _ e).2; omega) (rowC s'))
        have K4 := Lib.hid (K3.out.row (rowC s'))
        clear hS3 hlt5 hb
        have hA := hA.out
        subst hA
        simp only [Act.put, List.setIfInBounds_toArray, List.set_cons_zero, List.set_cons_succ]
        clear h1 h2 h7 hsz
        go_upto_region 7 with (first
          | (refine wpList_load_row rfl 81 _ rfl w2.heap.size rfl 81 (rowC s') (0, 0) _ K4.out Tryd.underlying81 rfl (by rw [rowC_size]; exact size89) ?_)
          | (refine wpList_store_row rfl 81 _ _ rfl w.heap.size (rowC s') rfl rfl 81 _ N4.out.k2 (by rw [rowC_size]; exact size89) (by rw [rowC_size, rowC_size]) (rowC_one s') ?_))
        refine lst_begin ?_
        intro A hA
        have h6 : A.eval (.tmp 6) = u6 := by rw [hA]; rfl
        have h8 : A.eval (.tmp 8) = .int .u64 (x : Int) := by rw [hA]; rfl
        have hsz : A.tmps.size = 32 := by rw [hA]; rfl
        have hA := Lib.hid hA
        have N5 := Lib.hid (NuW.row (s' := s') N4.out)
        refine lst_val (some 26) (v := u6) rfl rfl (exec_move _ rfl h6) ?_
        refine lst_val (some 27) (v := .int .u64 (x : Int)) rfl rfl (exec_move _ rfl (ev_ne (by rfl) h8)) ?_
        refine lst_val (some 28) (v := .slice (some ⟨(((w2.alloc (.cells (rowC none) 81)).setRow w2.heap.size (rowC s')).setRow w.heap.size (rowC s')).heap.size, 0, none⟩) 1 1) rfl rfl (exec_bsl 57 1 _ rfl (vs := #[(0, .int .u64 (x : Int))]) (by simp only [List.map_toArray, List.map_cons, List.map_nil]; rw [(show Act.eval _ (.tmp 27) = _ from (ev_eq (by (try simp only [Act.size_put]); rw [hsz]; decide)))]) (bs174 (((w2.alloc (.cells (rowC none) 81)).setRow w2.heap.size (rowC s')).setRow w.heap.size (rowC s')) _)) ?_
        obtain ⟨v2, w9, hrun, ho9, hg9, hbk⟩ := run_append_Own (P := Tryd.prog) (w := ((((w2.alloc (.cells (rowC none) 81)).setRow w2.heap.size (rowC s')).setRow w.heap.size (rowC s')).alloc (.cells #[.int .u64 (x : Int)] 27))) (w.heap.size + 1 + 1) 57 57 27 i0 _ 1 8 Tryd.underlying57 HI.out.1 HI.out.2.1 HI.out.2.2.1 HI.out.2.2.2 rfl (by omega) u6 k _ (N5.out.own.alloc _) (some ⟨(((w2.alloc (.cells (rowC none) 81)).setRow w2.heap.size (rowC s')).setRow w.heap.size (rowC s')).heap.size, 0, none⟩) 1 1 [.int .u64 (x : Int)] (Rd.one _ _ 27) (by intro u hu; simp at hu; subst hu; rfl) (by have := HL.out; unfold maxLen; omega) (by have := HL.out; omega) (by have := N5.out.k5.lt; simp at this ⊢; omega)
        refine lst_val (some 29) (v := v2) rfl rfl (exec_append (t := 57) rfl (ev_ne (by rfl) (ev_ne (by rfl) (ev_eq (by (try simp only [Act.size_put]); rw [hsz]; decide)))) (ev_eq (by (try simp only [Act.size_put]); rw [hsz]; decide)) hrun) ?_
        refine lst_val (some 6) (v := v2) rfl rfl (exec_assign _ rfl (ev_eq (by (try simp only [Act.size_put]); rw [hsz]; decide))) ?_
        refine lst_nil ?_
        have HO9 := Lib.hid ho9
        have HG9 := Lib.hid hg9
        have hA := hA.out
        subst hA
        simp only [Act.put, List.setIfInBounds_toArray, List.set_cons_zero, List.set_cons_succ]
        clear h6 h8 hsz ho9 hg9 hbk hrun
        go_wp2_with fail
        go_roundw
        case rel =>
          refine ⟨k + 1, by omega, by rw [HWR.out], ?_⟩
          have B1 := (NuW.row (s' := s') N4.out).below ((Below.refl _ _).alloc (Nat.le_refl _) (.cells #[.int .u64 (x : Int)] 27))
          have hc : Chg (fun j => blkOf u6 = some j) _ w9 := (Chg.refl _ _).grown HG9.out (fun j hj => .inl hj)
          have hv : ∀ j, blkOf u6 = some j → w.heap.size + 1 < j := fun j e => by have := (B1.own.lt j e).1; omega
          rw [HK1.out]
          refine ⟨B1.k2.chg hc (fun e => by have := hv _ e; omega), B1.k5.chg hc (fun e => by have := hv _ e; omega), ?_, B1.b.trans (hc.toBelow B1.b.size (fun j _ e => by have := hv _ e; omega))⟩
          have := HO9.out
          simpa [u64s] using this
        case measure => rw [HWR.out]; simp [intOf]; omega
      ·
        refine op_run (some 9) (v := .pointer (some ⟨wr.heap.size, 0, none⟩)) rfl rfl (by rfl) (exec_alloc 81 rfl zero89) ?_ ?_
        · exact (below_drew (Below.refl _ _)).alloc (Nat.le_refl _) _
        change wpAnyH _ _ _ _ _ _ _ _ (wr.drew.alloc (.cells (rowC none) 81))
        have B2 := Lib.hid ((below_drew (Below.refl wr.heap.size wr)).alloc (Nat.le_refl _) (.cells (rowC none) 81))
        have K2 := Lib.hid (Blk.new wr.drew 81 (rowC none))
        refine reg_call (some 22) (i := 5) rfl rfl (by kernel_rfl) (by rfl) (exec_call0 rfl rfl (map2 (ev_ne (by rfl) (ev_ne (by rfl) (ev_ne (by rfl) (ev_ne (by rfl) (ev_ne (by rfl) (ev_eq (by (try simp only [Act.size_put]); rw [hsz]; decide))))))) (ev_ne (by rfl) (ev_eq (by (try simp only [Act.size_put]); rw [hsz]; decide)))) en110) ?_
        refine (TK.out _).mono ?_
        rintro _ w2 ⟨rfl, hb⟩
        have B3 := Lib.hid (B2.out.trans (hb.mono B2.out.size))
        have K3 := Lib.hid (K2.out.below hb K2.out.lt)
        have N3 := Lib.hid (SW.out.below B3.out)
        refine ⟨_, rfl, B3.out, ?_⟩
        refine reg_take (some 16) (i := 6) (.tuple #[.int .u64 (x : Int), .agg (rowC s')]) rfl rfl (by kernel_rfl) (fun _ _ _ h => h) (by rfl) (fun W hW => exec_move _ rfl (ev_eq (by (try simp only [Act.size_put]); rw [hsz]; decide))) B3.out ?_
        refine reg_take (some 23) (i := 7) (.int .u64 (x : Int)) rfl rfl (by kernel_rfl) (fun _ _ _ h => h) (by rfl) (fun W hW => exec_extract _ 0 rfl (ev_eq (by (try simp only [Act.size_put]); rw [hsz]; decide)) rfl) B3.out ?_
        refine reg_take (some 24) (i := 8) (.agg (rowC s')) rfl rfl (by kernel_rfl) (fun _ _ _ h => h) (by rfl) (fun W hW => exec_extract _ 1 rfl (ev_ne (by rfl) (ev_eq (by (try simp only [Act.size_put]); rw [hsz]; decide))) rfl) B3.out ?_
        refine reg_take (some 8) (i := 10) (.int .u64 (x : Int)) rfl rfl (by kernel_rfl) (fun _ _ _ h => h) (by rfl) (fun W hW => exec_assign _ rfl (ev_ne (by rfl) (ev_eq (by (try simp only [Act.size_put]); rw [hsz]; decide)))) B3.out ?_
        refine reg_skip none (i := 11) rfl rfl (by kernel_rfl) (by rfl) (exec_store_row 81 _ _ rfl (ev_ne (by rfl) (ev_ne (by rfl) (ev_ne (by rfl) (ev_ne (by rfl) (ev_ne (by rfl) (ev_eq (by (try simp only [Act.size_put]); rw [hsz]; decide))))))) (ev_ne (by rfl) (ev_eq (by (try simp only [Act.size_put]); rw [hsz]; decide))) K3.out (by rw [rowC_size]; exact size89) (by rw [rowC_size, rowC_size]) (rowC_one s')) (below_setRow B3.out (Nat.le_refl _) (rowC s')) ?_
        refine reg_end (by kernel_rfl) ?_
        have N4 := Lib.hid (N3.out.far (g := wr.heap.size) (by have := SW.out.k5.lt; omega) (fun e => by have := (SW.out.own.lt _ e).2; omega) (rowC s'))
        have K4 := Lib.hid (K3.out.row (rowC s'))
        clear hb
        have hA := hA.out
        subst hA
        simp only [Act.put, List.setIfInBounds_toArray, List.set_cons_zero, List.set_cons_succ]
        clear h1 h2 h7 hsz
        go_upto_region 7 with (first
          | (refine wpList_load_row rfl 81 _ rfl wr.heap.size rfl 81 (rowC s') (0, 0) _ K4.out Tryd.underlying81 rfl (by rw [rowC_size]; exact size89) ?_)
          | (refine wpList_store_row rfl 81 _ _ rfl w.heap.size (rowC s') rfl rfl 81 _ N4.out.k2 (by rw [rowC_size]; exact size89) (by rw [rowC_size, rowC_size]) (rowC_one s') ?_))
        refine lst_begin ?_
        intro A hA
        have h6 : A.eval (.tmp 6) = u6 := by rw [hA]; rfl
        have h8 : A.eval (.tmp 8) = .int .u64 (x : Int) := by rw [hA]; rfl
        have hsz : A.tmps.size = 32 := by rw [hA]; rfl
        have hA := Lib.hid hA
        have N5 := Lib.hid (NuW.row (s' := s') N4.out)
        refine lst_val (some 26) (v := u6) rfl rfl (exec_move _ rfl h6) ?_
        refine lst_val (some 27) (v := .int .u64 (x : Int)) rfl rfl (exec_move _ rfl (ev_ne (by rfl) h8)) ?_
        refine lst_val (some 28) (v := .slice (some ⟨((w2.setRow wr.heap.size (rowC s')).setRow w.heap.size (rowC s')).heap.size, 0, none⟩) 1 1) rfl rfl (exec_bsl 57 1 _ rfl (vs := #[(0, .int .u64 (x : Int))]) (by simp only [List.map_toArray, List.map_cons, List.map_nil]; rw [(show Act.eval _ (.tmp 27) = _ from (ev_eq (by (try simp only [Act.size_put]); rw [hsz]; decide)))]) (bs174 ((w2.setRow wr.heap.size (rowC s')).setRow w.heap.size (rowC s')) _)) ?_
        obtain ⟨v2, w9, hrun, ho9, hg9, hbk⟩ := run_append_Own (P := Tryd.prog) (w := (((w2.setRow wr.heap.size (rowC s')).setRow w.heap.size (rowC s')).alloc (.cells #[.int .u64 (x : Int)] 27))) (w.heap.size + 1 + 1) 57 57 27 i0 _ 1 8 Tryd.underlying57 HI.out.1 HI.out.2.1 HI.out.2.2.1 HI.out.2.2.2 rfl (by omega) u6 k _ (N5.out.own.alloc _) (some ⟨((w2.setRow wr.heap.size (rowC s')).setRow w.heap.size (rowC s')).heap.size, 0, none⟩) 1 1 [.int .u64 (x : Int)] (Rd.one _ _ 27) (by intro u hu; simp at hu; subst hu; rfl) (by have := HL.out; unfold maxLen; omega) (by have := HL.out; omega) (by have := N5.out.k5.lt; simp at this ⊢; omega)
        refine lst_val (some 29) (v := v2) rfl rfl (exec_append (t := 57) rfl (ev_ne (by rfl) (ev_ne (by rfl) (ev_eq (by (try simp only [Act.size_put]); rw [hsz]; decide)))) (ev_eq (by (try simp only [Act.size_put]); rw [hsz]; decide)) hrun) ?_
        refine lst_val (some 6) (v := v2) rfl rfl (exec_assign _ rfl (ev_eq (by (try simp only [Act.size_put]); rw [hsz]; decide))) ?_
        refine lst_nil ?_
        have HO9 := Lib.hid ho9
        have HG9 := Lib.hid hg9
        have hA := hA.out
        subst hA
        simp only [Act.put, List.setIfInBounds_toArray, List.set_cons_zero, List.set_cons_succ]
        clear h6 h8 hsz ho9 hg9 hbk hrun
        go_wp2_with fail
        go_roundw
        case rel =>
          refine ⟨k + 1, by omega, by rw [HWR.out], ?_⟩
          have B1 := (NuW.row (s' := s') N4.out).below ((Below.refl _ _).alloc (Nat.le_refl _) (.cells #[.int .u64 (x : Int)] 27))
          have hc : Chg (fun j => blkOf u6 = some j) _ w9 := (Chg.refl _ _).grown HG9.out (fun j hj => .inl hj)
          have hv : ∀ j, blkOf u6 = some j → w.heap.size + 1 < j := fun j e => by have := (B1.own.lt j e).1; omega
          rw [HK1.out]
          refine ⟨B1.k2.chg hc (fun e => by have := hv _ e; omega), B1.k5.chg hc (fun e => by have := hv _ e; omega), ?_, B1.b.trans (hc.toBelow B1.b.size (fun j _ e => by have := hv _ e; omega))⟩
          have := HO9.out
          simpa [u64s] using this
        case measure => rw [HWR.out]; simp [intOf]; omega
    · obtain rfl : k = n := by omega
      go_upto_region 8 with (fail)
      refine reg_begin_ (fun W => Blk W w.heap.size 81 (rowC (F k).2)) (by kernel_rfl) ?_
      intro A hA
      have h6 : A.eval (.tmp 6) = u6 := by rw [hA]; rfl
      have h2 : A.eval (.tmp 2) = .pointer (some ⟨w.heap.size, 0, none⟩) := by rw [hA]; rfl
      have h5 : A.eval (.tmp 5) = .pointer (some ⟨w.heap.size + 1, 0, none⟩) := by rw [hA]; rfl
      have hsz : A.tmps.size = 32 := by rw [hA]; rfl
      have hA := Lib.hid hA
      refine reg_take (some 30) (i := 0) (u6) rfl rfl (by kernel_rfl) (fun _ _ _ h => h) (by rfl) (fun W hW => exec_move _ rfl h6) SW.out.k2.drew ?_
      refine reg_take (some 31) (i := 1) (.agg (rowC (F k).2)) rfl rfl (by kernel_rfl) (fun _ _ _ h => h) (by rfl) (fun W hW => exec_load1 81 _ rfl (ev_ne (by rfl) h2) (ld89 hW (rowC_size _))) SW.out.k2.drew ?_
      refine reg_take (some 4) (i := 2) (u6) rfl rfl (by kernel_rfl) (fun _ _ _ h => h) (by rfl) (fun W hW => exec_assign _ rfl (ev_ne (by rfl) (ev_eq (by (try simp only [Act.size_put]); rw [hsz]; decide)))) SW.out.k2.drew ?_
      refine reg_skip none (i := 3) rfl rfl (by kernel_rfl) (by rfl) (exec_store_row 81 _ _ rfl (ev_ne (by rfl) (ev_ne (by rfl) (ev_ne (by rfl) h5))) (ev_ne (by rfl) (ev_eq (by (try simp only [Act.size_put]); rw [hsz]; decide))) SW.out.k5.drew (by rw [rowC_size]; exact size89) (by rw [rowC_size, rowC_size]) (rowC_one _)) ?_ ?_
      · exact SW.out.k2.drew.rowFar (by omega) _
      refine reg_end (by kernel_rfl) ?_
      have hA := hA.out
      subst hA
      simp only [Act.put, List.setIfInBounds_toArray, List.set_cons_zero, List.set_cons_succ]
      clear h2 h5 h6 hsz
      go_wp2_with fail
      refine bodyPost_ret (results_tmp_row rfl _ _ (w.heap.size + 1) 81 (rowC (F k).2) (0, 0) _ _ rfl rfl (SW.out.k5.drew.row _) Tryd.underlying81 rfl (by rw [rowC_size]; exact size89)) rfl ?_
      refine ⟨u6, rfl, ?_, below_drew (below_setRow SW.out.b (by omega) _)⟩
      rw [HN.out]
      exact own_lower (SW.out.own.drew.rowFar (fun e => by have := (SW.out.own.lt _ e).1; omega) _) (by omega)
end Go.Proofs.YtfojjklohbiffaaDoor
