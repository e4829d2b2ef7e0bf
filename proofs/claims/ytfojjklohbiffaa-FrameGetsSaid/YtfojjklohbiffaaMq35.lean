/- Operations: the document's reader of numbers in a row. -/
import Derived.Test.YtfojjklohbiffaaMq9
import Derived.Test.YtfojjklohbiffaaMq14
import Derived.Test.YtfojjklohbiffaaMq34
namespace Go.Proofs.Ytfojjklohbiffaa
open Go.RowKit Tran Tran.Wire
set_option linter.unusedVariables false
set_option linter.unusedSimpArgs false
/-- numbers read one after the other, each of at most so much -/
def numsK (st : Option (List UInt8)) (ms : List Nat) : Nat → List Nat × Option (List UInt8)
  | 0 => ([], st)
  | k + 1 => ((numsK st ms k).1 ++ [(rnumS (numsK st ms k).2 (ms.getD k 0)).1], (rnumS (numsK st ms k).2 (ms.getD k 0)).2)
theorem numsK_len (st : Option (List UInt8)) (ms : List Nat) : ∀ k, (numsK st ms k).1.length = k
  | 0 => rfl
  | k + 1 => by simp [numsK, numsK_len st ms k]
theorem numsK_bound {st : Option (List UInt8)} (hs : ∀ l, st = some l → l.length ≤ 140737488355328) (ms : List Nat) : ∀ k l, (numsK st ms k).2 = some l → l.length ≤ 140737488355328
  | 0 => hs
  | k + 1 => rnumS_bound (numsK_bound hs ms k) _
theorem info80 : (Try.prog.info? 80).map (fun i => (i.zero, i.size, i.bytes)) = some (some (.int .u64 0), 1, 8) := by kernel_rfl
theorem zero89 : ((Try.prog.info? 89).bind (·.zero)) = some (.agg (rowC none)) := by kernel_rfl
theorem ld89 {W : World} {g : Nat} {cs : Array Value} (k : Blk W g 89 cs) (h : cs.size = 2) : (loadVar 89 ⟨g, 0, none⟩).run Try.prog W = .ok (.agg cs) W :=
  run_loadVar_row W g 89 89 cs (0, 0) _ k Try.underlying89 rfl (by rw [h]; exact size89)
theorem ix174 {W : World} {ad : Addr} {n c k : Nat} (hk : k < n) (hn : n ≤ 8796093022208) : (Instr.indexAt 174 (.slice (some ad) n c) (.int .i64 (k : Int))).run Try.prog W = .ok (.pointer (some (ad.add k))) W := by
  have h1 : (0 : Int) ≤ (k : Int) := by omega
  have h2 : (k : Int) < (n : Int) := by omega
  go_simp
theorem en110 (args : Array Value) (W : World) : (callFunc 110 args).run Try.prog W = .ok (.enter 110 args) W := enters_of Try.func110 (by kernel_rfl) rfl args W
theorem exec_extract {P : Program} {o : Oper} {a : Act} {w : World} (x : Operand) (i : Nat) (ho : o.op = .extract x i) {vs : Array Value} {v : Value} (hx : a.eval x = .tuple vs) (hv : vs[i]? = some v) : (execOp a.eval o).run P w = .ok (.value v) w := by
  generalize a.eval = ev at *
  unfold execOp
  simp [ho, hx, hv, go_sem]
theorem bs174 (W : World) (n : Int) : (Instr.buildSlice 174 1 #[(0, .int .u64 n)]).run Try.prog W = .ok (.slice (some ⟨W.heap.size, 0, none⟩) 1 1) (W.alloc (.cells #[.int .u64 n] 80)) := by go_simp
/-- the worlds within nums: what is left, the result, the numbers so far -/
structure NuW (w0 : World) (s : Option (List UInt8)) (v : Value) (k : Nat) (l : List Nat) (W : World) : Prop where
  k2 : Blk W w0.heap.size 89 (rowC s)
  k5 : Blk W (w0.heap.size + 1) 89 (rowC none)
  own : Tran.Own W (w0.heap.size + 1 + 1) 80 1 v k (u64s l)
  b : Below w0.heap.size w0 W
theorem NuW.below {w0 W W' : World} {s : Option (List UInt8)} {v : Value} {k : Nat} {l : List Nat} (h : NuW w0 s v k l W) (hb : Below W.heap.size W W') : NuW w0 s v k l W' :=
  ⟨h.k2.below hb h.k2.lt, h.k5.below hb h.k5.lt, h.own.below hb (Nat.le_refl _), h.b.trans (hb.mono h.b.size)⟩
theorem NuW.row {w0 W : World} {s s' : Option (List UInt8)} {v : Value} {k : Nat} {l : List Nat} (h : NuW w0 s v k l W) : NuW w0 s' v k l (W.setRow w0.heap.size (rowC s')) :=
  ⟨h.k2.row _, h.k5.rowFar (by omega) _, h.own.rowFar (fun e => by have := (h.own.lt _ e).1; omega) _, below_setRow h.b (Nat.le_refl _) _⟩
theorem NuW.far {w0 W : World} {s : Option (List UInt8)} {v : Value} {k : Nat} {l : List Nat} (h : NuW w0 s v k l W) {g : Nat} (hg : w0.heap.size + 1 < g) (hv : blkOf v ≠ some g) (cs : Array Value) : NuW w0 s v k l (W.setRow g cs) :=
  ⟨h.k2.rowFar (by omega) _, h.k5.rowFar (by omega) _, h.own.rowFar hv _, below_setRow h.b (by omega) _⟩
theorem NuW.start (w : World) (s : Option (List UInt8)) : NuW w s (.slice none 0 0) 0 [] ((w.alloc (.cells (rowC s) 89)).alloc (.cells (rowC none) 89)) := by
  obtain ⟨h1, h2, h3⟩ := two_blocks w (rowC s) 89
  exact ⟨h1, h2, Tran.Own.nil _ _ _ _, h3⟩
theorem own_lower {w : World} {B C : Nat} {e : TypeId} {size : Nat} {v : Value} {n : Nat} {xs : List Value} (h : Tran.Own w B e size v n xs) (hB : C ≤ B) : Tran.Own w C e size v n xs := by
  obtain ⟨h1, h2⟩ := h
  refine ⟨h1, ?_⟩
  rcases h2 with h2 | ⟨g, cap, cur, fz, e1, h3, h4⟩
  · exact .inl h2
  · exact .inr ⟨g, cap, cur, fz, e1, by omega, h4⟩
theorem rd_one_ (L : World) (x : Value) (t : TypeId) (g : Nat) (hg : L.heap.size = g) : Rd (L.alloc (.cells #[x] t)) (some ⟨g, 0, none⟩) 1 1 [x] := hg ▸ Rd.one L x t
def NumsO (w : World) (q : List Nat × Option (List UInt8)) (e : Ending) (w' : World) : Prop :=
  ∃ v, e = .returned (.tuple #[v, .agg (rowC q.2)]) ∧ Tran.Own w' w.heap.size 80 1 v q.1.length (u64s q.1) ∧ Below w.heap.size w w'
set_option maxRecDepth 100000 in
set_option maxHeartbeats 16000000 in
theorem nums_any (w : World) (st : Option (List UInt8)) (hs : ∀ l, st = some l → l.length ≤ 140737488355328) (ms : List Nat) (A : Option Addr) (cap : Nat) (hA : Rd w A ms.length 1 (u64s ms)) (hl : ms.length ≤ 100) :
    Calls Try.prog 147 #[.agg (rowC st), .slice A ms.length cap] w (NumsO w (numsK st ms ms.length)) := by
  obtain ⟨i0, hi, hz0, hz1, hz2⟩ := info_parts info80
  have HI := Lib.hid (And.intro hi (And.intro hz0 (And.intro hz1 hz2)))
  clear hi hz0 hz1 hz2
  have S0 := Lib.hid (NuW.start w st)
  have HC := Lib.hid (fun W (hb : Below w.heap.size w W) k (hk : k < ms.length) => show ∃ ad, A = some ad ∧ W.cell? (ad.add k) = some (.int .u64 ((ms.getD k 0 : Nat) : Int)) from by
    obtain ⟨ad, h1, h2⟩ := (hA.later hb).2 (by omega)
    exact ⟨ad, h1, h2 k _ (by simp [u64s, hk])⟩)
  have TN := Lib.hid (fun k => tknum_any (numsK st ms k).2 (numsK_bound hs ms k) (ms.getD k 0))
  have HN := Lib.hid (fun k => numsK_len st ms k)
  have HK : Hid (∀ k, numsK st ms (k + 1) = ((numsK st ms k).1 ++ [(rnumS (numsK st ms k).2 (ms.getD k 0)).1], (rnumS (numsK st ms k).2 (ms.getD k 0)).2)) := Lib.hid (fun _ => rfl)
  have H0 : Hid (numsK st ms 0 = ([], st)) := Lib.hid rfl
  generalize numsK st ms = F at *
  have HL := Lib.hid hl
  generalize hn : ms.length = n at *
  clear hA hs hn hl
  go_enter Try.func147, Try.ntmps147
  go_wp2_with fail
  go_loopw [6, 7] (fun v i wr => ∃ k : Nat, k ≤ n ∧ i = .int .i64 (k : Int) ∧ NuW w (F k).2 v k (F k).1 wr) (fun _ i _ => n - (intOf i).toNat)
  case atStart => exact ⟨0, by omega, rfl, by rw [H0.out]; exact S0.out⟩
  case round =>
    obtain ⟨k, hk, rfl, hW⟩ := hrel
    have SW := Lib.hid hW
    clear hW S0
    by_cases hlt : k < n
    · obtain ⟨ad, rfl, hcell⟩ := HC.out _ SW.out.b k hlt
      have IX := Lib.hid (fun (W : World) => ix174 (W := W) (ad := ad) (c := cap) hlt (by have := HL.out; omega))
      have CE := Lib.hid (fun (W : World) (hb : Below wr.heap.size wr W) => (hb.cell (World.block_lt_of_cell? wr _ hcell)).trans hcell)
      have TK := Lib.hid (TN.out k)
      have HWR := Lib.hid (show wrap64 ((k : Int) + 1) = ((k + 1 : Nat) : Int) by rw [IntWalk.wrap64_in _ (by have := HL.out; omega)]; omega)
      have HK1 := Lib.hid (HK.out k)
      clear hcell
      generalize hq : rnumS (F k).2 (ms.getD k 0) = q at *
      obtain ⟨x, s'⟩ := q
      simp only at TK HK1
      generalize ms.getD k 0 = m at *
      clear hq TN HC
      go_upto_region 5 with (fail)
      refine reg_begin_ (Below wr.heap.size wr) (by kernel_rfl) ?_
      intro A hA
      have h1 : A.eval (.tmp 1) = .slice (some ad) n cap := by rw [hA]; rfl
      have h2 : A.eval (.tmp 2) = .pointer (some ⟨w.heap.size, 0, none⟩) := by rw [hA]; rfl
      have h7 : A.eval (.tmp 7) = .int .i64 (k : Int) := by rw [hA]; rfl
      have hsz : A.tmps.size = 32 := by rw [hA]; rfl
      have hA := Lib.hid hA
      refine reg_take (some 17) (i := 0) (.agg (rowC (F k).2)) rfl rfl (by kernel_rfl) (fun _ _ _ h => h) (by rfl) (fun W hW => exec_load1 89 _ rfl h2 (ld89 (SW.out.k2.below hW SW.out.k2.lt) (rowC_size _))) (below_drew (Below.refl _ _)) ?_
      refine reg_take (some 18) (i := 1) (.slice (some ad) n cap) rfl rfl (by kernel_rfl) (fun _ _ _ h => h) (by rfl) (fun W hW => exec_move _ rfl (ev_ne (by rfl) h1)) (below_drew (Below.refl _ _)) ?_
      refine reg_take (some 19) (i := 2) (.int .i64 (k : Int)) rfl rfl (by kernel_rfl) (fun _ _ _ h => h) (by rfl) (fun W hW => exec_move _ rfl (ev_ne (by rfl) (ev_ne (by rfl) h7))) (below_drew (Below.refl _ _)) ?_
      refine reg_take (some 20) (i := 3) (.pointer (some (ad.add k))) rfl rfl (by kernel_rfl) (fun _ _ _ h => h) (by rfl) (fun W hW => exec_iaddr 174 _ _ rfl (ev_ne (by rfl) (ev_eq (by (try simp only [Act.size_put]); rw [hsz]; decide))) (ev_eq (by (try simp only [Act.size_put]); rw [hsz]; decide)) (IX.out W)) (below_drew (Below.refl _ _)) ?_
      refine reg_take (some 21) (i := 4) (.int .u64 (m : Int)) rfl rfl (by kernel_rfl) (fun _ _ _ h => h) (by rfl) (fun W hW => exec_load1 80 _ rfl (ev_eq (by (try simp only [Act.size_put]); rw [hsz]; decide)) (ld80 (CE.out W hW))) (below_drew (Below.refl _ _)) ?_
      refine reg_two (i := 5) (j := 9) (by kernel_rfl) ?_ ?_
      ·
        refine op_call (some 22) rfl rfl (by rfl) (exec_call0 rfl rfl (map2 (ev_ne (by rfl) (ev_ne (by rfl) (ev_ne (by rfl) (ev_ne (by rfl) (ev_eq (by (try simp only [Act.size_put]); rw [hsz]; decide)))))) (ev_eq (by (try simp only [Act.size_put]); rw [hsz]; decide))) en110) ?_
        refine (TK.out _).mono ?_
        rintro _ w2 ⟨rfl, hb⟩
        have B2 := Lib.hid ((below_drew (Below.refl wr.heap.size wr)).trans hb)
        refine ⟨_, rfl, B2.out, ?_⟩
        refine reg_take (some 16) (i := 6) (.tuple #[.int .u64 (x : Int), .agg (rowC s')]) rfl rfl (by kernel_rfl) (fun _ _ _ h => h) (by rfl) (fun W hW => exec_move _ rfl (ev_eq (by (try simp only [Act.size_put]); rw [hsz]; decide))) B2.out ?_
        refine reg_take (some 23) (i := 7) (.int .u64 (x : Int)) rfl rfl (by kernel_rfl) (fun _ _ _ h => h) (by rfl) (fun W hW => exec_extract _ 0 rfl (ev_eq (by (try simp only [Act.size_put]); rw [hsz]; decide)) rfl) B2.out ?_
        refine reg_take (some 24) (i := 8) (.agg (rowC s')) rfl rfl (by kernel_rfl) (fun _ _ _ h => h) (by rfl) (fun W hW => exec_extract _ 1 rfl (ev_ne (by rfl) (ev_eq (by (try simp only [Act.size_put]); rw [hsz]; decide))) rfl) B2.out ?_
        refine reg_run (some 9) (i := 9) (v := .pointer (some ⟨w2.heap.size, 0, none⟩)) rfl rfl (by kernel_rfl) (by rfl) (exec_alloc 89 rfl zero89) ?_ ?_
        · exact B2.out.alloc B2.out.size _
        change wpAnyH _ _ _ _ _ _ _ _ (w2.alloc (.cells (rowC none) 89))
        have N3 := Lib.hid (SW.out.below (B2.out.alloc B2.out.size (.cells (rowC none) 89)))
        have K3 := Lib.hid (Blk.new w2 89 (rowC none))
        have hS3 := B2.out.alloc B2.out.size (.cells (rowC none) 89)
        refine reg_take (some 8) (i := 10) (.int .u64 (x : Int)) rfl rfl (by kernel_rfl) (fun _ _ _ h => h) (by rfl) (fun W hW => exec_assign _ rfl (ev_ne (by rfl) (ev_ne (by rfl) (ev_eq (by (try simp only [Act.size_put]); rw [hsz]; decide))))) hS3 ?_
        have hlt5 := B2.out.size
        refine reg_skip none (i := 11) rfl rfl (by kernel_rfl) (by rfl) (exec_store_row 89 _ _ rfl (ev_ne (by rfl) (ev_eq (by (try simp only [Act.size_put]); rw [hsz]; decide))) (ev_ne (by rfl) (ev_ne (by rfl) (ev_eq (by (try simp only [Act.size_put]); rw [hsz]; decide)))) K3.out (by rw [rowC_size]; exact size89) (by rw [rowC_size, rowC_size]) (rowC_one s')) (below_setRow hS3 hlt5 (rowC s')) ?_
        refine reg_end (by kernel_rfl) ?_
        have N4 := Lib.hid (N3.out.far (g := w2.heap.size) (by have := SW.out.k5.lt; omega) (fun e => by have := (SW.out.own.lt _ e).2; omega) (rowC s'))
        have K4 := Lib.hid (K3.out.row (rowC s'))
        clear hS3 hlt5 hb
        have hA := hA.out
        subst hA
        simp only [Act.put, List.setIfInBounds_toArray, List.set_cons_zero, List.set_cons_succ]
        clear h1 h2 h7 hsz
        go_upto_region 7 with (first
          | (refine wpList_load_row rfl 89 _ rfl w2.heap.size rfl 89 (rowC s') (0, 0) _ K4.out Try.underlying89 rfl (by rw [rowC_size]; exact size89) ?_)
          | (refine wpList_store_row rfl 89 _ _ rfl w.heap.size (rowC s') rfl rfl 89 _ N4.out.k2 (by rw [rowC_size]; exact size89) (by rw [rowC_size, rowC_size]) (rowC_one s') ?_))
        refine lst_begin ?_
        intro A hA
        have h6 : A.eval (.tmp 6) = u6 := by rw [hA]; rfl
        have h8 : A.eval (.tmp 8) = .int .u64 (x : Int) := by rw [hA]; rfl
        have hsz : A.tmps.size = 32 := by rw [hA]; rfl
        have hA := Lib.hid hA
        have N5 := Lib.hid (NuW.row (s' := s') N4.out)
        refine lst_val (some 26) (v := u6) rfl rfl (exec_move _ rfl h6) ?_
        refine lst_val (some 27) (v := .int .u64 (x : Int)) rfl rfl (exec_move _ rfl (ev_ne (by rfl) h8)) ?_
        refine lst_val (some 28) (v := .slice (some ⟨(((w2.alloc (.cells (rowC none) 89)).setRow w2.heap.size (rowC s')).setRow w.heap.size (rowC s')).heap.size, 0, none⟩) 1 1) rfl rfl (exec_bsl 174 1 _ rfl (vs := #[(0, .int .u64 (x : Int))]) (by simp only [List.map_toArray, List.map_cons, List.map_nil]; rw [(show Act.eval _ (.tmp 27) = _ from (ev_eq (by (try simp only [Act.size_put]); rw [hsz]; decide)))]) (bs174 (((w2.alloc (.cells (rowC none) 89)).setRow w2.heap.size (rowC s')).setRow w.heap.size (rowC s')) _)) ?_
        obtain ⟨v2, w9, hrun, ho9, hg9, hbk⟩ := run_append_Own (P := Try.prog) (w := ((((w2.alloc (.cells (rowC none) 89)).setRow w2.heap.size (rowC s')).setRow w.heap.size (rowC s')).alloc (.cells #[.int .u64 (x : Int)] 80))) (w.heap.size + 1 + 1) 174 174 80 i0 _ 1 8 Try.underlying174 HI.out.1 HI.out.2.1 HI.out.2.2.1 HI.out.2.2.2 rfl (by omega) u6 k _ (N5.out.own.alloc _) (some ⟨(((w2.alloc (.cells (rowC none) 89)).setRow w2.heap.size (rowC s')).setRow w.heap.size (rowC s')).heap.size, 0, none⟩) 1 1 [.int .u64 (x : Int)] (Rd.one _ _ 80) (by intro u hu; simp at hu; subst hu; rfl) (by have := HL.out; unfold maxLen; omega) (by have := HL.out; omega) (by have := N5.out.k5.lt; simp at this ⊢; omega)
        refine lst_val (some 29) (v := v2) rfl rfl (exec_append (t := 174) rfl (ev_ne (by rfl) (ev_ne (by rfl) (ev_eq (by (try simp only [Act.size_put]); rw [hsz]; decide)))) (ev_eq (by (try simp only [Act.size_put]); rw [hsz]; decide)) hrun) ?_
        refine lst_val (some 6) (v := v2) rfl rfl (exec_assign _ rfl (ev_eq (by (try simp only [Act.size_put]); rw [hsz]; decide))) ?_
        refine lst_nil ?_
        have HO9 := Lib.hid ho9
        have HG9 := Lib.hid hg9
        have hA := hA.out
        subst hA
        simp only [Act.put, List.setIfInBounds_toArray, List.set_cons_zero, List.set_cons_succ]
        clear h6 h8 hsz ho9 hg9 hbk hrun
        go_wp2_with fail
        go_roundw
        case rel =>
          refine ⟨k + 1, by omega, by rw [HWR.out], ?_⟩
          have B1 := (NuW.row (s' := s') N4.out).below ((Below.refl _ _).alloc (Nat.le_refl _) (.cells #[.int .u64 (x : Int)] 80))
          have hc : Chg (fun j => blkOf u6 = some j) _ w9 := (Chg.refl _ _).grown HG9.out (fun j hj => .inl hj)
          have hv : ∀ j, blkOf u6 = some j → w.heap.size + 1 < j := fun j e => by have := (B1.own.lt j e).1; omega
          rw [HK1.out]
          refine ⟨B1.k2.chg hc (fun e => by have := hv _ e; omega), B1.k5.chg hc (fun e => by have := hv _ e; omega), ?_, B1.b.trans (hc.toBelow B1.b.size (fun j _ e => by have := hv _ e; omega))⟩
          have := HO9.out
          simpa [u64s] using this
        case measure => rw [HWR.out]; simp [intOf]; omega
      ·
        refine op_run (some 9) (v := .pointer (some ⟨wr.heap.size, 0, none⟩)) rfl rfl (by rfl) (exec_alloc 89 rfl zero89) ?_ ?_
        · exact (below_drew (Below.refl _ _)).alloc (Nat.le_refl _) _
        change wpAnyH _ _ _ _ _ _ _ _ (wr.drew.alloc (.cells (rowC none) 89))
        have B2 := Lib.hid ((below_drew (Below.refl wr.heap.size wr)).alloc (Nat.le_refl _) (.cells (rowC none) 89))
        have K2 := Lib.hid (Blk.new wr.drew 89 (rowC none))
        refine reg_call (some 22) (i := 5) rfl rfl (by kernel_rfl) (by rfl) (exec_call0 rfl rfl (map2 (ev_ne (by rfl) (ev_ne (by rfl) (ev_ne (by rfl) (ev_ne (by rfl) (ev_ne (by rfl) (ev_eq (by (try simp only [Act.size_put]); rw [hsz]; decide))))))) (ev_ne (by rfl) (ev_eq (by (try simp only [Act.size_put]); rw [hsz]; decide)))) en110) ?_
        refine (TK.out _).mono ?_
        rintro _ w2 ⟨rfl, hb⟩
        have B3 := Lib.hid (B2.out.trans (hb.mono B2.out.size))
        have K3 := Lib.hid (K2.out.below hb K2.out.lt)
        have N3 := Lib.hid (SW.out.below B3.out)
        refine ⟨_, rfl, B3.out, ?_⟩
        refine reg_take (some 16) (i := 6) (.tuple #[.int .u64 (x : Int), .agg (rowC s')]) rfl rfl (by kernel_rfl) (fun _ _ _ h => h) (by rfl) (fun W hW => exec_move _ rfl (ev_eq (by (try simp only [Act.size_put]); rw [hsz]; decide))) B3.out ?_
        refine reg_take (some 23) (i := 7) (.int .u64 (x : Int)) rfl rfl (by kernel_rfl) (fun _ _ _ h => h) (by rfl) (fun W hW => exec_extract _ 0 rfl (ev_eq (by (try simp only [Act.size_put]); rw [hsz]; decide)) rfl) B3.out ?_
        refine reg_take (some 24) (i := 8) (.agg (rowC s')) rfl rfl (by kernel_rfl) (fun _ _ _ h => h) (by rfl) (fun W hW => exec_extract _ 1 rfl (ev_ne (by rfl) (ev_eq (by (try simp only [Act.size_put]); rw [hsz]; decide))) rfl) B3.out ?_
        refine reg_take (some 8) (i := 10) (.int .u64 (x : Int)) rfl rfl (by kernel_rfl) (fun _ _ _ h => h) (by rfl) (fun W hW => exec_assign _ rfl (ev_ne (by rfl) (ev_eq (by (try simp only [Act.size_put]); rw [hsz]; decide)))) B3.out ?_
        refine reg_skip none (i := 11) rfl rfl (by kernel_rfl) (by rfl) (exec_store_row 89 _ _ rfl (ev_ne (by rfl) (ev_ne (by rfl) (ev_ne (by rfl) (ev_ne (by rfl) (ev_ne (by rfl) (ev_eq (by (try simp only [Act.size_put]); rw [hsz]; decide))))))) (ev_ne (by rfl) (ev_eq (by (try simp only [Act.size_put]); rw [hsz]; decide))) K3.out (by rw [rowC_size]; exact size89) (by rw [rowC_size, rowC_size]) (rowC_one s')) (below_setRow B3.out (Nat.le_refl _) (rowC s')) ?_
        refine reg_end (by kernel_rfl) ?_
        have N4 := Lib.hid (N3.out.far (g := wr.heap.size) (by have := SW.out.k5.lt; omega) (fun e => by have := (SW.out.own.lt _ e).2; omega) (rowC s'))
        have K4 := Lib.hid (K3.out.row (rowC s'))
        clear hb
        have hA := hA.out
        subst hA
        simp only [Act.put, List.setIfInBounds_toArray, List.set_cons_zero, List.set_cons_succ]
        clear h1 h2 h7 hsz
        go_upto_region 7 with (first
          | (refine wpList_load_row rfl 89 _ rfl wr.heap.size rfl 89 (rowC s') (0, 0) _ K4.out Try.underlying89 rfl (by rw [rowC_size]; exact size89) ?_)
          | (refine wpList_store_row rfl 89 _ _ rfl w.heap.size (rowC s') rfl rfl 89 _ N4.out.k2 (by rw [rowC_size]; exact size89) (by rw [rowC_size, rowC_size]) (rowC_one s') ?_))
        refine lst_begin ?_
        intro A hA
        have h6 : A.eval (.tmp 6) = u6 := by rw [hA]; rfl
        have h8 : A.eval (.tmp 8) = .int .u64 (x : Int) := by rw [hA]; rfl
        have hsz : A.tmps.size = 32 := by rw [hA]; rfl
        have hA := Lib.hid hA
        have N5 := Lib.hid (NuW.row (s' := s') N4.out)
        refine lst_val (some 26) (v := u6) rfl rfl (exec_move _ rfl h6) ?_
        refine lst_val (some 27) (v := .int .u64 (x : Int)) rfl rfl (exec_move _ rfl (ev_ne (by rfl) h8)) ?_
        refine lst_val (some 28) (v := .slice (some ⟨((w2.setRow wr.heap.size (rowC s')).setRow w.heap.size (rowC s')).heap.size, 0, none⟩) 1 1) rfl rfl (exec_bsl 174 1 _ rfl (vs := #[(0, .int .u64 (x : Int))]) (by simp only [List.map_toArray, List.map_cons, List.map_nil]; rw [(show Act.eval _ (.tmp 27) = _ from (ev_eq (by (try simp only [Act.size_put]); rw [hsz]; decide)))]) (bs174 ((w2.setRow wr.heap.size (rowC s')).setRow w.heap.size (rowC s')) _)) ?_
        obtain ⟨v2, w9, hrun, ho9, hg9, hbk⟩ := run_append_Own (P := Try.prog) (w := (((w2.setRow wr.heap.size (rowC s')).setRow w.heap.size (rowC s')).alloc (.cells #[.int .u64 (x : Int)] 80))) (w.heap.size + 1 + 1) 174 174 80 i0 _ 1 8 Try.underlying174 HI.out.1 HI.out.2.1 HI.out.2.2.1 HI.out.2.2.2 rfl (by omega) u6 k _ (N5.out.own.alloc _) (some ⟨((w2.setRow wr.heap.size (rowC s')).setRow w.heap.size (rowC s')).heap.size, 0, none⟩) 1 1 [.int .u64 (x : Int)] (Rd.one _ _ 80) (by intro u hu; simp at hu; subst hu; rfl) (by have := HL.out; unfold maxLen; omega) (by have := HL.out; omega) (by have := N5.out.k5.lt; simp at this ⊢; omega)
        refine lst_val (some 29) (v := v2) rfl rfl (exec_append (t := 174) rfl (ev_ne (by rfl) (ev_ne (by rfl) (ev_eq (by (try simp only [Act.size_put]); rw [hsz]; decide)))) (ev_eq (by (try simp only [Act.size_put]); rw [hsz]; decide)) hrun) ?_
        refine lst_val (some 6) (v := v2) rfl rfl (exec_assign _ rfl (ev_eq (by (try simp only [Act.size_put]); rw [hsz]; decide))) ?_
        refine lst_nil ?_
        have HO9 := Lib.hid ho9
        have HG9 := Lib.hid hg9
        have hA := hA.out
        subst hA
        simp only [Act.put, List.setIfInBounds_toArray, List.set_cons_zero, List.set_cons_succ]
        clear h6 h8 hsz ho9 hg9 hbk hrun
        go_wp2_with fail
        go_roundw
        case rel =>
          refine ⟨k + 1, by omega, by rw [HWR.out], ?_⟩
          have B1 := (NuW.row (s' := s') N4.out).below ((Below.refl _ _).alloc (Nat.le_refl _) (.cells #[.int .u64 (x : Int)] 80))
          have hc : Chg (fun j => blkOf u6 = some j) _ w9 := (Chg.refl _ _).grown HG9.out (fun j hj => .inl hj)
          have hv : ∀ j, blkOf u6 = some j → w.heap.size + 1 < j := fun j e => by have := (B1.own.lt j e).1; omega
          rw [HK1.out]
          refine ⟨B1.k2.chg hc (fun e => by have := hv _ e; omega), B1.k5.chg hc (fun e => by have := hv _ e; omega), ?_, B1.b.trans (hc.toBelow B1.b.size (fun j _ e => by have := hv _ e; omega))⟩
          have := HO9.out
          simpa [u64s] using this
        case measure => rw [HWR.out]; simp [intOf]; omega
    · obtain rfl : k = n := by omega
      go_upto_region 8 with (fail)
      refine reg_begin_ (fun W => Blk W w.heap.size 89 (rowC (F k).2)) (by kernel_rfl) ?_
      intro A hA
      have h6 : A.eval (.tmp 6) = u6 := by rw [hA]; rfl
      have h2 : A.eval (.tmp 2) = .pointer (some ⟨w.heap.size, 0, none⟩) := by rw [hA]; rfl
      have h5 : A.eval (.tmp 5) = .pointer (some ⟨w.heap.size + 1, 0, none⟩) := by rw [hA]; rfl
      have hsz : A.tmps.size = 32 := by rw [hA]; rfl
      have hA := Lib.hid hA
      refine reg_take (some 30) (i := 0) (u6) rfl rfl (by kernel_rfl) (fun _ _ _ h => h) (by rfl) (fun W hW => exec_move _ rfl h6) SW.out.k2.drew ?_
      refine reg_take (some 31) (i := 1) (.agg (rowC (F k).2)) rfl rfl (by kernel_rfl) (fun _ _ _ h => h) (by rfl) (fun W hW => exec_load1 89 _ rfl (ev_ne (by rfl) h2) (ld89 hW (rowC_size _))) SW.out.k2.drew ?_
      refine reg_take (some 4) (i := 2) (u6) rfl rfl (by kernel_rfl) (fun _ _ _ h => h) (by rfl) (fun W hW => exec_assign _ rfl (ev_ne (by rfl) (ev_eq (by (try simp only [Act.size_put]); rw [hsz]; decide)))) SW.out.k2.drew ?_
      refine reg_skip none (i := 3) rfl rfl (by kernel_rfl) (by rfl) (exec_store_row 89 _ _ rfl (ev_ne (by rfl) (ev_ne (by rfl) (ev_ne (by rfl) h5))) (ev_ne (by rfl) (ev_eq (by (try simp only [Act.size_put]); rw [hsz]; decide))) SW.out.k5.drew (by rw [rowC_size]; exact size89) (by rw [rowC_size, rowC_size]) (rowC_one _)) ?_ ?_
      · exact SW.out.k2.drew.rowFar (by omega) _
      refine reg_end (by kernel_rfl) ?_
      have hA := hA.out
      subst hA
      simp only [Act.put, List.setIfInBounds_toArray, List.set_cons_zero, List.set_cons_succ]
      clear h2 h5 h6 hsz
      go_wp2_with fail
      refine bodyPost_ret (results_tmp_row rfl _ _ (w.heap.size + 1) 89 (rowC (F k).2) (0, 0) _ _ rfl rfl (SW.out.k5.drew.row _) Try.underlying89 rfl (by rw [rowC_size]; exact size89)) rfl ?_
      refine ⟨u6, rfl, ?_, below_drew (below_setRow SW.out.b (by omega) _)⟩
      rw [HN.out]
      exact own_lower (SW.out.own.drew.rowFar (fun e => by have := (SW.out.own.lt _ e).1; omega) _) (by omega)
end Go.Proofs.Ytfojjklohbiffaa
/- Operations: the document's reader: contracts, the worlds between. -/
namespace Go.Proofs.Ytfojjklohbiffaa
open Go.RowKit Tran Tran.Wire
set_option linter.unusedVariables false
set_option linter.unusedSimpArgs false
def Bd (st : Option (List UInt8)) : Prop := ∀ l, st = some l → l.length ≤ 140737488355328
theorem Bd.dot {st : Option (List UInt8)} (h : Bd st) : Bd (rdotS st).2 := rnumS_bound (rnumS_bound h 255) 4294967295
theorem Bd.num {st : Option (List UInt8)} (h : Bd st) (m : Nat) : Bd (rnumS st m).2 := rnumS_bound h m
theorem Bd.vec {st : Option (List UInt8)} (h : Bd st) : Bd (rvecS st 8).2 := rvecS_bound h 8
theorem Bd.lines {st : Option (List UInt8)} (h : Bd st) : ∀ k, Bd (rdLines st k).2
  | 0 => h
  | k + 1 => (Bd.lines h k).dot.dot
theorem rdotS_none : (rdotS none).2 = none := rfl
theorem rdLines_none {st : Option (List UInt8)} {k : Nat} (h : (rdLines st k).2 = none) : ∀ n, k ≤ n → (rdLines st n).2 = none := by
  intro n hn
  induction n with
  | zero => obtain rfl : k = 0 := by omega
            exact h
  | succ n ih =>
    by_cases e : k = n + 1
    · rw [← e]; exact h
    · show rdClaimS (rdLines st n).2 = none
      rw [ih (by omega)]
      rfl
section
variable {st s' : Option (List UInt8)}
theorem tdot_c {d : Nat × Nat} (hs : Bd st) (e : dotZ st = d ∧ (rdotS st).2 = s') (w : World) : Calls Try.prog 112 #[.agg (rowC st)] w fun e w' => e = .returned (.tuple #[.agg #[.int .u8 (d.1 : Nat), .int .u32 (d.2 : Nat)], .agg (rowC s')]) ∧ Below w.heap.size w w' := by
  have := ttakedot_any st hs w
  rw [dotV_eq, e.1, e.2] at this
  exact this
theorem tvec_c {xs : List Nat} (hs : Bd st) (e : vecZ st = xs ∧ (rvecS st 8).2 = s') (w : World) : Calls Try.prog 113 #[.agg (rowC st)] w fun e w' => e = .returned (.tuple #[.agg (vecA xs), .agg (rowC s')]) ∧ Below w.heap.size w w' := by
  have := ttakevec_any st hs w
  rw [vecV_eq, e.1, e.2] at this
  exact this
theorem tnum_c {m n : Nat} {M : Int} (hs : Bd st) (e : rnumS st m = (n, s')) (hM : M = (m : Nat)) (w : World) : Calls Try.prog 110 #[.agg (rowC st), .int .u64 M] w fun e w' => e = .returned (.tuple #[.int .u64 (n : Int), .agg (rowC s')]) ∧ Below w.heap.size w w' := by
  have := tknum_any st hs m w
  rw [e] at this
  rw [hM]
  exact this
theorem tnums_c {ms l : List Nat} {n : Nat} (hs : Bd st) (hn : ms.length = n) (h0 : 0 < n) (h1 : n ≤ 100) (e : numsK st ms n = (l, s')) (w : World) (A : Option Addr) (cap : Nat) (hA : Rd w A n 1 (u64s ms)) :
    Calls Try.prog 147 #[.agg (rowC st), .slice A n cap] w fun e w' => (∃ g c, e = .returned (.tuple #[.slice (some ⟨g, 0, none⟩) n (c + 1), .agg (rowC s')]) ∧ Tran.Own w' w.heap.size 80 1 (.slice (some ⟨g, 0, none⟩) n (c + 1)) n (u64s l) ∧ w.heap.size ≤ g) ∧ Below w.heap.size w w' := by
  subst hn
  refine (nums_any w st hs ms A cap hA h1).mono ?_
  rintro _ w' ⟨v, rfl, ho, hb⟩
  have hl := numsK_len st ms ms.length
  rw [e] at ho hl ⊢
  simp only at ho hl ⊢
  rw [hl] at ho
  obtain ⟨g, c, rfl, hc, hg, _⟩ := ho.form h0
  cases c with
  | zero => omega
  | succ c => exact ⟨⟨g, c, rfl, ho, hg⟩, hb⟩
end
theorem rd_lit (L : World) (ms : List Nat) (n : Nat) (hn : ms.length = n) (g : Nat) (hg : L.heap.size = g) : Rd (L.alloc (.cells (u64s ms).toArray 80)) (some ⟨g, 0, none⟩) n 1 (u64s ms) := by
  subst hg hn
  refine ⟨by simp [u64s], fun _ => ⟨_, rfl, fun j u hu => ?_⟩⟩
  rw [lit_add, Nat.zero_add]
  exact ((Blk.new L 80 _).cell j).trans (by simpa using hu)
theorem two_set (w : World) (A X B Y : Array Value) (t u : TypeId) :
    Blk ((w.alloc (.cells A t)).alloc (.cells B u)) w.heap.size t A ∧ Blk (((w.alloc (.cells A t)).alloc (.cells B u)).setRow w.heap.size X) (w.heap.size + 1) u B ∧
    Blk ((((w.alloc (.cells A t)).alloc (.cells B u)).setRow w.heap.size X).setRow (w.heap.size + 1) Y) w.heap.size t X ∧
    Blk ((((w.alloc (.cells A t)).alloc (.cells B u)).setRow w.heap.size X).setRow (w.heap.size + 1) Y) (w.heap.size + 1) u Y ∧
    Below w.heap.size w ((((w.alloc (.cells A t)).alloc (.cells B u)).setRow w.heap.size X).setRow (w.heap.size + 1) Y) := by
  have h1 := (Blk.new w t A).alloc (.cells B u)
  have h2 := Blk.new (w.alloc (.cells A t)) u B
  rw [show (w.alloc (.cells A t)).heap.size = w.heap.size + 1 by simp] at h2
  have h3 := h2.rowFar (k := w.heap.size) (by omega) X
  exact ⟨h1, h3, (h1.row X).rowFar (by omega) Y, h3.row Y, below_setRow (below_setRow (((Below.refl _ w).alloc (Nat.le_refl _) _).alloc (by simp) _) (Nat.le_refl _) X) (by omega) Y⟩
theorem one_set (w : World) (B Y : Array Value) (u : TypeId) :
    Blk (w.alloc (.cells B u)) w.heap.size u B ∧ Blk ((w.alloc (.cells B u)).setRow w.heap.size Y) w.heap.size u Y ∧ Below w.heap.size w ((w.alloc (.cells B u)).setRow w.heap.size Y) :=
  ⟨Blk.new w u B, (Blk.new w u B).row Y, below_setRow ((Below.refl _ w).alloc (Nat.le_refl _) _) (Nat.le_refl _) Y⟩
/-- the worlds within the document's Take: its results, its operation -/
structure TkW (w0 : World) (X : Array Value) (W : World) : Prop where
  k1 : Blk W (w0.heap.size + 1) 122 (opA zeroO (.slice none 0 0))
  k2 : Blk W (w0.heap.size + 2) 89 (rowC none)
  k3 : Blk W (w0.heap.size + 3) 122 X
  b : Below w0.heap.size w0 W
theorem TkW.below {w0 W W' : World} {X : Array Value} (h : TkW w0 X W) (hb : Below W.heap.size W W') : TkW w0 X W' :=
  ⟨h.k1.below hb h.k1.lt, h.k2.below hb h.k2.lt, h.k3.below hb h.k3.lt, h.b.trans (hb.mono h.b.size)⟩
theorem TkW.drew {w0 W : World} {X : Array Value} (h : TkW w0 X W) : TkW w0 X W.drew := ⟨h.k1, h.k2, h.k3, below_drew h.b⟩
theorem TkW.setO {w0 W : World} {X : Array Value} (h : TkW w0 X W) (Y : Array Value) : TkW w0 Y (W.setRow (w0.heap.size + 3) Y) :=
  ⟨h.k1.rowFar (by omega) _, h.k2.rowFar (by omega) _, h.k3.row _, below_setRow h.b (by omega) _⟩
theorem TkW.far {w0 W : World} {X : Array Value} (h : TkW w0 X W) {g : Nat} (hg : w0.heap.size + 3 < g) (Y : Array Value) : TkW w0 X (W.setRow g Y) :=
  ⟨h.k1.rowFar (by omega) _, h.k2.rowFar (by omega) _, h.k3.rowFar (by omega) _, below_setRow h.b (by omega) _⟩
theorem TkW.chg {w0 W W' : World} {X : Array Value} {S : Nat → Prop} (h : TkW w0 X W) (c : Chg S W W') (hS : ∀ k, S k → w0.heap.size + 3 < k) : TkW w0 X W' :=
  ⟨h.k1.chg c (fun k => by have := hS _ k; omega), h.k2.chg c (fun k => by have := hS _ k; omega), h.k3.chg c (fun k => by have := hS _ k; omega), h.b.trans (c.toBelow h.b.size (fun k _ k2 => by have := hS _ k2; omega))⟩
theorem TkW.set {w0 W : World} {X : Array Value} (h : TkW w0 X W) (i : Nat) (u : Value) : TkW w0 (X.setIfInBounds i u) (W.setCell ⟨w0.heap.size + 3, i, none⟩ u) :=
  ⟨h.k1.far (p := ⟨w0.heap.size + 3, i, none⟩) (show w0.heap.size + 1 ≠ w0.heap.size + 3 by omega) u, h.k2.far (p := ⟨w0.heap.size + 3, i, none⟩) (show w0.heap.size + 2 ≠ w0.heap.size + 3 by omega) u,
    h.k3.set_ i u, h.b.setCell (p := ⟨w0.heap.size + 3, i, none⟩) (show w0.heap.size ≤ w0.heap.size + 3 by omega) u⟩
theorem TkW.start (w : World) (st : Option (List UInt8)) : TkW w (opA zeroO (.slice none 0 0)) ((((w.alloc (.cells (rowC st) 89)).alloc (.cells (opA zeroO (.slice none 0 0)) 122)).alloc (.cells (rowC none) 89)).alloc (.cells (opA zeroO (.slice none 0 0)) 122)) ∧
    Blk ((((w.alloc (.cells (rowC st) 89)).alloc (.cells (opA zeroO (.slice none 0 0)) 122)).alloc (.cells (rowC none) 89)).alloc (.cells (opA zeroO (.slice none 0 0)) 122)) w.heap.size 89 (rowC st) := by
  have e1 : (w.alloc (.cells (rowC st) 89)).heap.size = w.heap.size + 1 := by simp
  have e2 : ((w.alloc (.cells (rowC st) 89)).alloc (.cells (opA zeroO (.slice none 0 0)) 122)).heap.size = w.heap.size + 2 := by simp
  have e3 : (((w.alloc (.cells (rowC st) 89)).alloc (.cells (opA zeroO (.slice none 0 0)) 122)).alloc (.cells (rowC none) 89)).heap.size = w.heap.size + 3 := by simp
  have h1 := ((Blk.new (w.alloc (.cells (rowC st) 89)) 122 (opA zeroO (.slice none 0 0))).alloc (.cells (rowC none) 89)).alloc (.cells (opA zeroO (.slice none 0 0)) 122)
  have h2 := (Blk.new ((w.alloc (.cells (rowC st) 89)).alloc (.cells (opA zeroO (.slice none 0 0)) 122)) 89 (rowC none)).alloc (.cells (opA zeroO (.slice none 0 0)) 122)
  have h3 := Blk.new (((w.alloc (.cells (rowC st) 89)).alloc (.cells (opA zeroO (.slice none 0 0)) 122)).alloc (.cells (rowC none) 89)) 122 (opA zeroO (.slice none 0 0))
  rw [e1] at h1
  rw [e2] at h2
  rw [e3] at h3
  exact ⟨⟨h1, h2, h3, ((((Below.refl _ w).alloc (Nat.le_refl _) _).alloc (by simp) _).alloc (by rw [e2]; omega) _).alloc (by rw [e3]; omega) _⟩, (((Blk.new w 89 _).alloc _).alloc _).alloc _⟩
theorem ix174g {W : World} {g n c k : Nat} {K : Int} (hK : K = (k : Nat)) (hk : k < n) (hn : n ≤ 100) : (Instr.indexAt 174 (.slice (some ⟨g, 0, none⟩) n c) (.int .i64 K)).run Try.prog W = .ok (.pointer (some ⟨g, k, none⟩)) W := by
  subst hK
  rw [ix174 hk (by omega), lit_add, Nat.zero_add]
theorem exec_cv {P : Program} {o : Oper} {a : Act} {w w' : World} (s d : TypeId) (x : Operand) (ho : o.op = .convert s d x) {u v : Value} (hx : a.eval x = u) (hr : (convert s d u).run P w = .ok v w') : (execOp a.eval o).run P w = .ok (.value v) w' := by
  unfold execOp
  simp only [ho, hx, Sem.run_bind, hr, Result.andThen_ok]
  rfl
theorem cv22 {n : Nat} (h : n ≤ 4294967295) (W : World) : (convert 80 22 (.int .u64 (n : Int))).run Try.prog W = .ok (.int .u32 (n : Int)) W := by
  have hw : IntKind.u32.wrap (n : Int) = n := IntWalk.u32_in _ (by omega)
  go_simp
theorem cv5 {n : Nat} (h : n ≤ 255) (W : World) : (convert 80 5 (.int .u64 (n : Int))).run Try.prog W = .ok (.int .u8 (n : Int)) W := by
  have hw : IntKind.u8.wrap (n : Int) = n := IntWalk.u8_in _ (by omega)
  go_simp
theorem ld54r {W : World} {g : Nat} {xs : List Nat} (k : Blk W g 54 (vecA xs)) (h : xs.length = 8) : (loadVar 54 ⟨g, 0, none⟩).run Try.prog W = .ok (.agg (vecA xs)) W :=
  run_loadVar_row W g 54 54 (vecA xs) (0, 0) _ k Try.underlying54 rfl (by rw [vecA_size, h]; exact size54)
theorem op_built (d1 d5 d7 d12 d13 : Nat × Nat) (x0 x1 x2 x3 x4 x5 x6 x7 n3 n4 n6 n8 n9 n10 n11 n14 n15 n16 : Nat) : Try.prog.built 122 [(0, .agg #[.int .u8 (d1.1 : Nat), .int .u32 (d1.2 : Nat)]), (1, .agg (vecA [x0, x1, x2, x3, x4, x5, x6, x7])), (2, .int .u64 (n3 : Int)), (3, .int .u32 (n4 : Int)), (4, .agg #[.int .u8 (d5.1 : Nat), .int .u32 (d5.2 : Nat)]), (5, .int .u8 (n6 : Int)), (6, .agg #[.int .u8 (d7.1 : Nat), .int .u32 (d7.2 : Nat)]), (7, .int .u32 (n8 : Int)), (8, .int .u8 (n9 : Int)), (9, .int .u8 (n10 : Int)), (10, .int .u64 (n11 : Int)), (11, .agg #[.int .u8 (d12.1 : Nat), .int .u32 (d12.2 : Nat)]), (12, .agg #[.int .u8 (d13.1 : Nat), .int .u32 (d13.2 : Nat)]), (13, .int .u32 (n14 : Int)), (14, .int .u32 (n15 : Int)), (15, .int .u32 (n16 : Int))] = some (opA (NOp.mk d1.1 d1.2 [x0, x1, x2, x3, x4, x5, x6, x7] n3 n4 d5.1 d5.2 n6 d7.1 d7.2 n8 n9 n10 n11 d12.1 d12.2 d13.1 d13.2 n14 n15 n16 []) (.slice none 0 0)) := by kernel_rfl
theorem zero_built : Try.prog.built 122 [] = some (opA zeroO (.slice none 0 0)) := by kernel_rfl
theorem opA_one_ (x : NOp) (A : Option Addr) (n c : Nat) : (opA x (.slice A n c)).all (·.oneCell') = true := by simp [opA, opF, Value.oneCell']
def TakeO (w : World) (q : NOp × Option (List UInt8)) (e : Ending) (w' : World) : Prop :=
  ∃ lv, e = .returned (.tuple #[.agg (opA (if q.2.isSome = true then q.1 else zeroO) lv), .agg (rowC q.2)]) ∧ Tran.Own w' w.heap.size 177 4 lv (if q.2.isSome = true then q.1 else zeroO).lines.length ((if q.2.isSome = true then q.1 else zeroO).lines.flatMap claimF) ∧ Below w.heap.size w w'
end Go.Proofs.Ytfojjklohbiffaa
