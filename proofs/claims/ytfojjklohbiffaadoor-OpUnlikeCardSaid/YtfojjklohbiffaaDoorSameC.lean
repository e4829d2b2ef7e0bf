/- Operations compared: slices.Equal, op.Same. -/
import Derived.Test.YtfojjklohbiffaaDoorSameB
namespace Go.Proofs.YtfojjklohbiffaaDoor
open Go.RowKit Tran
set_option linter.unusedVariables false
set_option linter.unusedSimpArgs false
theorem eqg_agg (op : BinOp) (t : TypeId) (x y : Operand) (xs ys : Array Value) (W : World) (h : Tryd.prog.eqGuardType Tryd.prog.depth t = false) : (eqGuard op t x y (.agg xs) (.agg ys)).run Tryd.prog W = .ok () W := run_eqGuard_agg W op t x y xs ys h
theorem ix120 {W : World} {ad : Addr} {n c k : Nat} (hk : k < n) (hn : n ≤ 8796093022208) : (Instr.indexAt 28 (.slice (some ad) n c) (.int .i64 (k : Int))).run Tryd.prog W = .ok (.pointer (some (ad.add (k * 4)))) W := by
  have h1 : (0 : Int) ≤ (k : Int) := by omega
  have h2 : (k : Int) < (n : Int) := by omega
  go_simp
theorem ld177 {W : World} {ad : Addr} {c : NClaim} (h : ∀ j u, (claimA c)[j]? = some u → W.cell? (ad.add j) = some u) : (loadVar 63 ad).run Tryd.prog W = .ok (.agg (claimA c)) W :=
  run_load_cells W ad 63 (claimA c) _ h Tryd.underlying63 rfl size177
/-- a bool that tells whether p -/
def Tells (w : World) (p : Prop) (e : Ending) (w' : World) : Prop := ∃ r : Bool, e = .returned (.bool r) ∧ (r = true ↔ p) ∧ Below w.heap.size w w'
theorem bool_of (p : Prop) : ∃ r : Bool, (r = true ↔ p) := by
  by_cases h : p
  · exact ⟨true, by simp [h]⟩
  · exact ⟨false, by simp [h]⟩
theorem eqt177 : Tryd.prog.eqGuardType Tryd.prog.depth 63 = false := by kernel_rfl
set_option maxRecDepth 100000 in
set_option maxHeartbeats 4000000 in
theorem eqlines_any (w : World) (A B : Option Addr) (ca cb : Nat) (la lb : List NClaim) (hA : Rd w A la.length 4 (la.flatMap claimF)) (hB : Rd w B lb.length 4 (lb.flatMap claimF)) (ha : la.length ≤ 8796093022208) (hb : lb.length ≤ 8796093022208)
    (oa : ∀ c ∈ la, c.ok) (ob : ∀ c ∈ lb, c.ok) : Calls Tryd.prog 44 #[.slice A la.length ca, .slice B lb.length cb] w (Tells w (la = lb)) := by
  by_cases hl : la.length = lb.length
  case neg =>
    have HL := Lib.hid hl
    clear hA hB oa ob
    go_enter Tryd.func44, Tryd.ntmps44
    go_wp2_with fail
    all_goals first | (exfalso; have := HL.out; omega) | skip
    go_ret
    exact ⟨false, rfl, ⟨fun h => absurd h (by simp), fun h => absurd (by rw [h]) HL.out⟩, Below.refl _ _⟩
  case pos =>
    have HA := Lib.hid (fun W (h : Below w.heap.size w W) k (hk : k < la.length) => line_at (hA.later h) hk)
    have HB := Lib.hid (fun W (h : Below w.heap.size w W) k (hk : k < lb.length) => line_at (hB.later h) hk)
    have OA := Lib.hid oa
    have OB := Lib.hid ob
    have HL := Lib.hid hl
    obtain ⟨n, hn⟩ : ∃ n, la.length = n := ⟨_, rfl⟩
    have hnb : lb.length = n := by rw [← hl, hn]
    rw [hn, hnb]
    rw [hn] at ha
    rw [hnb] at hb
    have HN := Lib.hid hn
    clear hA hB oa ob hl hn hnb
    go_enter Tryd.func44, Tryd.ntmps44
    go_wp2_with fail
    go_loopw [5, 13] (fun j i wr => ∃ k : Nat, k ≤ n ∧ i = .int .i64 k ∧ la.take k = lb.take k ∧ Below w.heap.size w wr) (fun _ i _ => n - (intOf i).toNat)
    case atStart => exact ⟨0, by omega, rfl, by simp, Below.refl _ _⟩
    case round =>
      obtain ⟨k, hk, rfl, htk, hbw⟩ := hrel
      have HT := Lib.hid htk
      have HW := Lib.hid hbw
      clear htk hbw
      by_cases hlt : k < n
      · have hka : k < la.length := by have := HN.out; omega
        have hkb : k < lb.length := by have := HN.out; have := HL.out; omega
        have HKA := Lib.hid hka
        have HKB := Lib.hid hkb
        obtain ⟨ad, rfl, hca⟩ := HA.out _ HW.out k hka
        obtain ⟨bd, rfl, hcb⟩ := HB.out _ HW.out k hkb
        have HCA := Lib.hid hca
        have HCB := Lib.hid hcb
        have HO := Lib.hid (And.intro (OA.out _ (List.getElem_mem hka)) (OB.out _ (List.getElem_mem hkb)))
        obtain ⟨r, hr⟩ := bool_of (la[k] = lb[k])
        have HRR := Lib.hid hr
        have HGX := Lib.hid (List.getElem?_eq_getElem hka)
        have HGY := Lib.hid (List.getElem?_eq_getElem hkb)
        generalize la[k] = x at *
        generalize lb[k] = y at *
        clear hca hcb hka hkb hr
        go_wp2_with fail
        refine reg_begin_ (fun W => Below wr.heap.size wr W) (by kernel_rfl) ?_
        intro A hA
        have h0 : A.eval (.tmp 0) = .slice (some ad) n ca := by rw [hA]; rfl
        have h1 : A.eval (.tmp 1) = .slice (some bd) n cb := by rw [hA]; rfl
        have h5 : A.eval (.tmp 5) = .int .i64 (k : Int) := by rw [hA]; rfl
        have hsz : A.tmps.size = 26 := by rw [hA]; rfl
        have hS : Below wr.heap.size wr wr.drew := below_drew (Below.refl _ _)
        have HCA2 := Lib.hid (fun W (h : Below wr.heap.size wr W) j u (hj : (claimA x)[j]? = some u) => (h.cell (World.block_lt_of_cell? wr _ (HCA.out j u hj))).trans (HCA.out j u hj))
        have HCB2 := Lib.hid (fun W (h : Below wr.heap.size wr W) j u (hj : (claimA y)[j]? = some u) => (h.cell (World.block_lt_of_cell? wr _ (HCB.out j u hj))).trans (HCB.out j u hj))
        have hA := Lib.hid hA
        refine reg_take (some 16) (i := 0) (.slice (some ad) n ca) rfl rfl (by kernel_rfl) (fun _ _ _ h => h) (by rfl) (fun W hW => exec_move _ rfl h0) hS ?_
        refine reg_take (some 17) (i := 1) (.int .i64 (k : Int)) rfl rfl (by kernel_rfl) (fun _ _ _ h => h) (by rfl) (fun W hW => exec_move _ rfl (ev_ne (by rfl) h5)) hS ?_
        refine reg_take (some 18) (i := 2) (.pointer (some (ad.add (k * 4)))) rfl rfl (by kernel_rfl) (fun _ _ _ h => h) (by rfl) (fun W hW => exec_iaddr 28 _ _ rfl (ev_ne (by rfl) (ev_eq (by (try simp only [Act.size_put]); rw [hsz]; decide))) (ev_eq (by (try simp only [Act.size_put]); rw [hsz]; decide)) (ix120 hlt ha)) hS ?_
        refine reg_take (some 19) (i := 3) (.agg (claimA x)) rfl rfl (by kernel_rfl) (fun _ _ _ h => h) (by rfl) (fun W hW => exec_load1 63 _ rfl (ev_eq (by (try simp only [Act.size_put]); rw [hsz]; decide)) (ld177 (HCA2.out W hW))) hS ?_
        refine reg_take (some 20) (i := 4) (.slice (some bd) n cb) rfl rfl (by kernel_rfl) (fun _ _ _ h => h) (by rfl) (fun W hW => exec_move _ rfl (ev_ne (by rfl) (ev_ne (by rfl) (ev_ne (by rfl) (ev_ne (by rfl) h1))))) hS ?_
        refine reg_take (some 21) (i := 5) (.int .i64 (k : Int)) rfl rfl (by kernel_rfl) (fun _ _ _ h => h) (by rfl) (fun W hW => exec_move _ rfl (ev_ne (by rfl) (ev_ne (by rfl) (ev_ne (by rfl) (ev_ne (by rfl) (ev_ne (by rfl) h5)))))) hS ?_
        refine reg_take (some 22) (i := 6) (.pointer (some (bd.add (k * 4)))) rfl rfl (by kernel_rfl) (fun _ _ _ h => h) (by rfl) (fun W hW => exec_iaddr 28 _ _ rfl (ev_ne (by rfl) (ev_eq (by (try simp only [Act.size_put]); rw [hsz]; decide))) (ev_eq (by (try simp only [Act.size_put]); rw [hsz]; decide)) (ix120 hlt ha)) hS ?_
        refine reg_take (some 23) (i := 7) (.agg (claimA y)) rfl rfl (by kernel_rfl) (fun _ _ _ h => h) (by rfl) (fun W hW => exec_load1 63 _ rfl (ev_eq (by (try simp only [Act.size_put]); rw [hsz]; decide)) (ld177 (HCB2.out W hW))) hS ?_
        refine reg_take (some 24) (i := 8) (.bool (!r)) rfl rfl (by kernel_rfl) (fun _ _ _ h => h) (by rfl) (fun W hW => exec_bin .neq 63 63 _ _ rfl (ev_ne (by rfl) (ev_ne (by rfl) (ev_ne (by rfl) (ev_ne (by rfl) (ev_eq (by (try simp only [Act.size_put]); rw [hsz]; decide)))))) (ev_eq (by (try simp only [Act.size_put]); rw [hsz]; decide)) (eqg_agg _ _ _ _ _ _ W eqt177) ((eql_claim x y HO.out.1 HO.out.2 r HRR.out W).2)) hS ?_
        refine reg_end_any (fun W => Below wr.heap.size wr W) (by kernel_rfl) hS fun W hW => ?_
        have hA := hA.out
        subst hA
        simp only [Act.put, List.setIfInBounds_toArray, List.set_cons_zero, List.set_cons_succ]
        have HW2 := Lib.hid (HW.out.trans (hW.mono HW.out.size))
        clear hW hS h0 h1 h5 hsz HCA2 HCB2 HCA HCB
        cases r
        · go_wp2_with fail
          go_ret
          refine ⟨false, rfl, ⟨fun h => absurd h (by simp), fun h => ?_⟩, HW2.out⟩
          have e : x = y := by
            have h1 := HGX.out
            rw [h, HGY.out] at h1
            injection h1 with h1
            exact h1.symm
          exact absurd (HRR.out.2 e) (by simp)
        · go_wp2_with fail
          go_roundw
          case rel =>
            refine ⟨k + 1, hlt, by go_num, ?_, HW2.out⟩
            rw [List.take_add_one, List.take_add_one, HT.out, HGX.out, HGY.out, HRR.out.1 rfl]
          case measure => simp [intOf]; omega
      · go_wp2_with fail
        go_ret
        refine ⟨true, rfl, ⟨fun _ => ?_, fun _ => rfl⟩, HW.out⟩
        have h := HT.out
        rwa [List.take_of_length_le (by have := HN.out; omega), List.take_of_length_le (by have := HN.out; have := HL.out; omega)] at h
theorem call_cls_of {P : Program} {f : FuncId} {args : Array Value} {I : World → Prop} {v : Value} (x : Sub I)
    (h : ∀ W, I W → Calls P f args W fun e w' => e = .returned v ∧ Below W.heap.size W w') (hI : ∀ W W', I W → Below W.heap.size W W' → I W') :
    Calls P f args x.w (fun e w'' => e = .returned v ∧ ∃ y : Sub I, w'' = y.w) :=
  (h x.w x.h).mono fun _ w' ⟨he, hb⟩ => ⟨he, ⟨w', hI _ _ x.h hb⟩, rfl⟩
/-- two boxed operations, from w on -/
structure SI (w : World) (t : TypeId) (xs ys : Array Value) (W : World) : Prop where
  k0 : Blk W w.heap.size t xs
  k1 : Blk W (w.heap.size + 1) t ys
  b : Below w.heap.size w W
theorem SI.next {w : World} {t : TypeId} {xs ys : Array Value} (W W' : World) (h : SI w t xs ys W) (k : Below W.heap.size W W') : SI w t xs ys W' :=
  ⟨h.k0.below k h.k0.lt, h.k1.below k h.k1.lt, h.b.trans (k.mono h.b.size)⟩
theorem SI.drew {w : World} {t : TypeId} {xs ys : Array Value} {W : World} (h : SI w t xs ys W) : SI w t xs ys W.drew := ⟨h.k0, h.k1, below_drew h.b⟩
theorem SI.start (w : World) (t : TypeId) (xs ys : Array Value) : SI w t xs ys ((w.alloc (.cells xs t)).alloc (.cells ys t)) := by
  have k1 := Blk.new (w.alloc (.cells xs t)) t ys
  rw [World.size_alloc] at k1
  exact ⟨(Blk.new w t xs).alloc _, k1, ((Below.refl _ w).alloc (Nat.le_refl _) _).alloc (by simp) _⟩
theorem Tells.fixed {w w' : World} {p : Prop} {e : Ending} {r : Bool} (h : Tells w p e w') (hr : r = true ↔ p) : e = .returned (.bool r) ∧ Below w.heap.size w w' := by
  obtain ⟨r', rfl, h1, h2⟩ := h
  have e : r' = r := by rw [Bool.eq_iff_iff, h1, hr]
  exact ⟨by rw [e], h2⟩
theorem eqt184 : Tryd.prog.eqGuardType Tryd.prog.depth 77 = false := by kernel_rfl
theorem lines_eq (w : World) (lv mv : Value) (la lb : List NClaim) (hA : Lns w lv la) (hB : Lns w mv lb) (oa : ∀ c ∈ la, c.ok) (ob : ∀ c ∈ lb, c.ok) (r : Bool) (hr : r = true ↔ la = lb) :
    Calls Tryd.prog 44 #[lv, mv] w fun e w' => e = .returned (.bool r) ∧ Below w.heap.size w w' := by
  obtain ⟨A, ca, rfl, h1, h2⟩ := hA
  obtain ⟨B, cb, rfl, h3, h4⟩ := hB
  exact (eqlines_any w A B ca cb la lb h1 h3 h2 h4 oa ob).mono fun e w' h => h.fixed hr
set_option maxRecDepth 100000 in
set_option maxHeartbeats 4000000 in
theorem same_any (w : World) (x y : NOp) (lx ly : Value) (hx : x.ok) (hy : y.ok) (Lx : Lns w lx x.lines) (Ly : Lns w ly y.lines) : Calls Tryd.prog 16 #[.agg (opA x lx), .agg (opA y ly)] w (Tells w (x = y)) := by
  obtain ⟨r1, h1⟩ := bool_of (x.head = y.head)
  obtain ⟨r2, h2⟩ := bool_of (x.lines = y.lines)
  have HR := Lib.hid (head_iff x y)
  have S0 := SI.start w 30 (opA x lx) (opA y ly)
  have C1 := Lib.hid (fun W => of_any W x lx hx.dep8)
  have C2 := Lib.hid (fun W => of_any W y ly hy.dep8)
  have C3 := Lib.hid (fun W (h : SI w 30 (opA x lx) (opA y ly) W) => lines_eq W lx ly x.lines y.lines (Lx.later h.b) (Ly.later h.b) hx.lines hy.lines r2 h2)
  have E1 : ∀ W, (binOp .eql 77 (.agg (plainA x)) (.agg (plainA y))).run Tryd.prog W = .ok (.bool r1) W := fun W => eql_plain x y hx hy r1 h1 W
  have F1 := Lib.hid (fun (W : World) (h : SI w 30 (opA x lx) (opA y ly) W) => ld122 h.k0 (opA_size x lx hx.dep8))
  have F2 := Lib.hid (fun (W : World) (h : SI w 30 (opA x lx) (opA y ly) W) => ld122 h.k1 (opA_size y ly hy.dep8))
  have L1 := op_c28 x lx hx.dep8
  have L2 := op_c28 y ly hy.dep8
  have H1 := Lib.hid h1
  have H2 := Lib.hid h2
  have S0 := Lib.hid S0
  clear hx hy Lx Ly h1 h2
  generalize opA x lx = X at *
  generalize opA y ly = Y at *
  generalize plainA x = PX at *
  generalize plainA y = PY at *
  have G0 : ∀ (x' y' : Operand) (W : World), (eqGuard .eql 77 x' y' (.agg PX) (.agg PY)).run Tryd.prog W = .ok () W := fun x' y' W => eqg_agg _ _ _ _ _ _ W eqt184
  cases r1
  all_goals
    go_enter Tryd.func16, Tryd.ntmps16
    go_wp2_with fail
    refine wp_region_cls (SI w 30 X Y) (by kernel_rfl) (by kernel_rfl) (SI.drew S0.out) (fun hne => ?_)
    have f28 : ∀ z : Tran.Sub (SI w 30 X Y), z.w.cell? ⟨w.heap.size, 28, none⟩ = some lx := fun z => (z.h.k0.cell 28).trans L1
    have g28 : ∀ z : Tran.Sub (SI w 30 X Y), z.w.cell? ⟨w.heap.size + 1, 28, none⟩ = some ly := fun z => (z.h.k1.cell 28).trans L2
    repeat (first | (go_big_quiet_want; refine quiet_load_sub 30 _ rfl ⟨w.heap.size, 0, none⟩ rfl X F1.out ?_; go_simp; go_big_quiet_on) | (go_big_quiet_want; refine quiet_load_sub 30 _ rfl ⟨w.heap.size + 1, 0, none⟩ rfl Y F2.out ?_; go_simp; go_big_quiet_on) | go_big_quiet_step ((first | (go_at_call 43; ((with_reducible refine call_cls _ C1.out SI.next))) | (go_at_call 43; ((with_reducible refine call_cls _ C2.out SI.next))) | (go_at_call 44; ((with_reducible refine call_cls_of _ C3.out SI.next))))))
    refine wpQuiet_nil ?_
    refine sub_all fun wq IQ => ?_
    go_wp2
    go_ret
  · refine ⟨false, rfl, ⟨fun h => absurd h (by simp), fun h => ?_⟩, IQ.b⟩
    exact absurd (H1.out.2 (HR.out.1 h).1) (by simp)
  · refine ⟨r2, rfl, H2.out.trans ⟨fun h => HR.out.2 ⟨H1.out.1 (by simp), h⟩, fun h => (HR.out.1 h).2⟩, IQ.b⟩
end Go.Proofs.YtfojjklohbiffaaDoor
