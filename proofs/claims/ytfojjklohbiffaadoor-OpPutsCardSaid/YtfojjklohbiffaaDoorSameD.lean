/- Operations compared: the document's Same. -/
import Derived.Test.YtfojjklohbiffaaDoorSameC
namespace Go.Proofs.YtfojjklohbiffaaDoor
open Go.RowKit Tran
set_option linter.unusedVariables false
set_option linter.unusedSimpArgs false
section
variable {W : World} {a b : Nat} {r : Bool}
theorem eqi5 (hr : r = true ↔ a = b) : (binOp .eql 5 (.int .u8 (a : Int)) (.int .u8 (b : Int))).run Tryd.prog W = .ok (.bool r) W := by
  have e : r = ((a : Int) == (b : Int)) := by rw [Bool.eq_iff_iff, hr]; simp; omega
  subst e; go_simp
theorem eqi22 (hr : r = true ↔ a = b) : (binOp .eql 22 (.int .u32 (a : Int)) (.int .u32 (b : Int))).run Tryd.prog W = .ok (.bool r) W := by
  have e : r = ((a : Int) == (b : Int)) := by rw [Bool.eq_iff_iff, hr]; simp; omega
  subst e; go_simp
theorem eqi80 (hr : r = true ↔ a = b) : (binOp .eql 27 (.int .u64 (a : Int)) (.int .u64 (b : Int))).run Tryd.prog W = .ok (.bool r) W := by
  have e : r = ((a : Int) == (b : Int)) := by rw [Bool.eq_iff_iff, hr]; simp; omega
  subst e; go_simp
theorem eqgi {t : TypeId} {x y : Operand} {k : IntKind} {m n : Int} : (eqGuard .eql t x y (.int k m) (.int k n)).run Tryd.prog W = .ok () W := by simp [eqGuard]
end
theorem eqt82 : Tryd.prog.eqGuardType Tryd.prog.depth 24 = false := by kernel_rfl
theorem eqt54 : Tryd.prog.eqGuardType Tryd.prog.depth 26 = false := by kernel_rfl
/-- the worlds of the document's Same -/
theorem tsame_len (w : World) (x y : NOp) (lx ly : Value) (hx : x.ok) (hy : y.ok) (Lx : Lns w lx x.lines) (Ly : Lns w ly y.lines) (hl : x.lines.length ≠ y.lines.length) : Calls Tryd.prog 15 #[.agg (opA x lx), .agg (opA y ly)] w (Tells w (x = y)) := by
  obtain ⟨A, ca, rfl, hA, ha⟩ := Lx
  obtain ⟨B, cb, rfl, hB, hb⟩ := Ly
  have HL := Lib.hid hl
  have S0 := SI.start w 30 (opA x (.slice A x.lines.length ca)) (opA y (.slice B y.lines.length cb))
  have f28 := (S0.k0.cell 28).trans (op_c28 x _ hx.dep8)
  have g28 := (S0.k1.cell 28).trans (op_c28 y _ hy.dep8)
  have HB := Lib.hid S0.b
  clear S0 hA hB hx hy
  generalize opA x (.slice A x.lines.length ca) = X at *
  generalize opA y (.slice B y.lines.length cb) = Y at *
  go_enter Tryd.func15, Tryd.ntmps15
  go_wp2_with fail
  all_goals first | (exfalso; have := HL.out; omega) | skip
  go_ret
  exact ⟨false, rfl, ⟨fun h => absurd h (by simp), fun h => absurd (by rw [h]) HL.out⟩, HB.out⟩
set_option maxRecDepth 100000 in
set_option maxHeartbeats 8000000 in
theorem tsame_eq (w : World) (x y : NOp) (lx ly : Value) (hx : x.ok) (hy : y.ok) (Lx : Lns w lx x.lines) (Ly : Lns w ly y.lines) (hl : x.lines.length = y.lines.length) : Calls Tryd.prog 15 #[.agg (opA x lx), .agg (opA y ly)] w (Tells w (x = y)) := by
  obtain ⟨A, ca, rfl, hA, ha⟩ := Lx
  obtain ⟨B, cb, rfl, hB, hb⟩ := Ly
  have HX := Lib.hid hx
  have HY := Lib.hid hy
  have HHI := Lib.hid (head_iff x y)
  have HHD := Lib.hid hl
  obtain ⟨n, hn⟩ : ∃ n, x.lines.length = n := ⟨_, rfl⟩
  have hnb : y.lines.length = n := by rw [← hl, hn]
  have HA := Lib.hid (fun W (h : Below w.heap.size w W) k (hk : k < x.lines.length) => line_at (hA.later h) hk)
  have HB := Lib.hid (fun W (h : Below w.heap.size w W) k (hk : k < y.lines.length) => line_at (hB.later h) hk)
  have OA := Lib.hid hx.lines
  have OB := Lib.hid hy.lines
  rw [hn, hnb]
  rw [hn] at ha
  rw [hnb] at hb
  have HN := Lib.hid hn
  have HNB := Lib.hid hnb
  have S0 := SI.start w 30 (opA x (.slice A n ca)) (opA y (.slice B n cb))
  have F28 := Lib.hid (fun W (h : SI w 30 (opA x (.slice A n ca)) (opA y (.slice B n cb)) W) => (h.k0.cell 28).trans (op_c28 x _ hx.dep8))
  have G28 := Lib.hid (fun W (h : SI w 30 (opA x (.slice A n ca)) (opA y (.slice B n cb)) W) => (h.k1.cell 28).trans (op_c28 y _ hy.dep8))

  have Lx0 := Lib.hid (fun W (h : SI w 30 (opA x (.slice A n ca)) (opA y (.slice B n cb)) W) => ld82 ((h.k0.cell 0).trans (op_c0 x _)) ((h.k0.cell 1).trans (op_c1 x _)))
  have Lx1 := Lib.hid (fun W (h : SI w 30 (opA x (.slice A n ca)) (opA y (.slice B n cb)) W) => ld54 x.dep HX.out.dep8 (fun j u hj => (h.k0.cell (2 + j)).trans (op_c2 x _ j u hj)))
  have Lx2 := Lib.hid (fun W (h : SI w 30 (opA x (.slice A n ca)) (opA y (.slice B n cb)) W) => ld80 ((h.k0.cell 10).trans (op_c10 x _ HX.out.dep8)))
  have Lx3 := Lib.hid (fun W (h : SI w 30 (opA x (.slice A n ca)) (opA y (.slice B n cb)) W) => ld22 ((h.k0.cell 11).trans (op_c11 x _ HX.out.dep8)))
  have Lx4 := Lib.hid (fun W (h : SI w 30 (opA x (.slice A n ca)) (opA y (.slice B n cb)) W) => ld82 ((h.k0.cell 12).trans (op_c12 x _ HX.out.dep8)) ((h.k0.cell 13).trans (op_c13 x _ HX.out.dep8)))
  have Lx5 := Lib.hid (fun W (h : SI w 30 (opA x (.slice A n ca)) (opA y (.slice B n cb)) W) => ld5 ((h.k0.cell 14).trans (op_c14 x _ HX.out.dep8)))
  have Lx6 := Lib.hid (fun W (h : SI w 30 (opA x (.slice A n ca)) (opA y (.slice B n cb)) W) => ld82 ((h.k0.cell 15).trans (op_c15 x _ HX.out.dep8)) ((h.k0.cell 16).trans (op_c16 x _ HX.out.dep8)))
  have Lx7 := Lib.hid (fun W (h : SI w 30 (opA x (.slice A n ca)) (opA y (.slice B n cb)) W) => ld22 ((h.k0.cell 17).trans (op_c17 x _ HX.out.dep8)))
  have Lx8 := Lib.hid (fun W (h : SI w 30 (opA x (.slice A n ca)) (opA y (.slice B n cb)) W) => ld5 ((h.k0.cell 18).trans (op_c18 x _ HX.out.dep8)))
  have Lx9 := Lib.hid (fun W (h : SI w 30 (opA x (.slice A n ca)) (opA y (.slice B n cb)) W) => ld5 ((h.k0.cell 19).trans (op_c19 x _ HX.out.dep8)))
  have Lx10 := Lib.hid (fun W (h : SI w 30 (opA x (.slice A n ca)) (opA y (.slice B n cb)) W) => ld80 ((h.k0.cell 20).trans (op_c20 x _ HX.out.dep8)))
  have Lx11 := Lib.hid (fun W (h : SI w 30 (opA x (.slice A n ca)) (opA y (.slice B n cb)) W) => ld82 ((h.k0.cell 21).trans (op_c21 x _ HX.out.dep8)) ((h.k0.cell 22).trans (op_c22 x _ HX.out.dep8)))
  have Lx12 := Lib.hid (fun W (h : SI w 30 (opA x (.slice A n ca)) (opA y (.slice B n cb)) W) => ld82 ((h.k0.cell 23).trans (op_c23 x _ HX.out.dep8)) ((h.k0.cell 24).trans (op_c24 x _ HX.out.dep8)))
  have Lx13 := Lib.hid (fun W (h : SI w 30 (opA x (.slice A n ca)) (opA y (.slice B n cb)) W) => ld22 ((h.k0.cell 25).trans (op_c25 x _ HX.out.dep8)))
  have Lx14 := Lib.hid (fun W (h : SI w 30 (opA x (.slice A n ca)) (opA y (.slice B n cb)) W) => ld22 ((h.k0.cell 26).trans (op_c26 x _ HX.out.dep8)))
  have Lx15 := Lib.hid (fun W (h : SI w 30 (opA x (.slice A n ca)) (opA y (.slice B n cb)) W) => ld22 ((h.k0.cell 27).trans (op_c27 x _ HX.out.dep8)))
  have Ly0 := Lib.hid (fun W (h : SI w 30 (opA x (.slice A n ca)) (opA y (.slice B n cb)) W) => ld82 ((h.k1.cell 0).trans (op_c0 y _)) ((h.k1.cell 1).trans (op_c1 y _)))
  have Ly1 := Lib.hid (fun W (h : SI w 30 (opA x (.slice A n ca)) (opA y (.slice B n cb)) W) => ld54 y.dep HY.out.dep8 (fun j u hj => (h.k1.cell (2 + j)).trans (op_c2 y _ j u hj)))
  have Ly2 := Lib.hid (fun W (h : SI w 30 (opA x (.slice A n ca)) (opA y (.slice B n cb)) W) => ld80 ((h.k1.cell 10).trans (op_c10 y _ HY.out.dep8)))
  have Ly3 := Lib.hid (fun W (h : SI w 30 (opA x (.slice A n ca)) (opA y (.slice B n cb)) W) => ld22 ((h.k1.cell 11).trans (op_c11 y _ HY.out.dep8)))
  have Ly4 := Lib.hid (fun W (h : SI w 30 (opA x (.slice A n ca)) (opA y (.slice B n cb)) W) => ld82 ((h.k1.cell 12).trans (op_c12 y _ HY.out.dep8)) ((h.k1.cell 13).trans (op_c13 y _ HY.out.dep8)))
  have Ly5 := Lib.hid (fun W (h : SI w 30 (opA x (.slice A n ca)) (opA y (.slice B n cb)) W) => ld5 ((h.k1.cell 14).trans (op_c14 y _ HY.out.dep8)))
  have Ly6 := Lib.hid (fun W (h : SI w 30 (opA x (.slice A n ca)) (opA y (.slice B n cb)) W) => ld82 ((h.k1.cell 15).trans (op_c15 y _ HY.out.dep8)) ((h.k1.cell 16).trans (op_c16 y _ HY.out.dep8)))
  have Ly7 := Lib.hid (fun W (h : SI w 30 (opA x (.slice A n ca)) (opA y (.slice B n cb)) W) => ld22 ((h.k1.cell 17).trans (op_c17 y _ HY.out.dep8)))
  have Ly8 := Lib.hid (fun W (h : SI w 30 (opA x (.slice A n ca)) (opA y (.slice B n cb)) W) => ld5 ((h.k1.cell 18).trans (op_c18 y _ HY.out.dep8)))
  have Ly9 := Lib.hid (fun W (h : SI w 30 (opA x (.slice A n ca)) (opA y (.slice B n cb)) W) => ld5 ((h.k1.cell 19).trans (op_c19 y _ HY.out.dep8)))
  have Ly10 := Lib.hid (fun W (h : SI w 30 (opA x (.slice A n ca)) (opA y (.slice B n cb)) W) => ld80 ((h.k1.cell 20).trans (op_c20 y _ HY.out.dep8)))
  have Ly11 := Lib.hid (fun W (h : SI w 30 (opA x (.slice A n ca)) (opA y (.slice B n cb)) W) => ld82 ((h.k1.cell 21).trans (op_c21 y _ HY.out.dep8)) ((h.k1.cell 22).trans (op_c22 y _ HY.out.dep8)))
  have Ly12 := Lib.hid (fun W (h : SI w 30 (opA x (.slice A n ca)) (opA y (.slice B n cb)) W) => ld82 ((h.k1.cell 23).trans (op_c23 y _ HY.out.dep8)) ((h.k1.cell 24).trans (op_c24 y _ HY.out.dep8)))
  have Ly13 := Lib.hid (fun W (h : SI w 30 (opA x (.slice A n ca)) (opA y (.slice B n cb)) W) => ld22 ((h.k1.cell 25).trans (op_c25 y _ HY.out.dep8)))
  have Ly14 := Lib.hid (fun W (h : SI w 30 (opA x (.slice A n ca)) (opA y (.slice B n cb)) W) => ld22 ((h.k1.cell 26).trans (op_c26 y _ HY.out.dep8)))
  have Ly15 := Lib.hid (fun W (h : SI w 30 (opA x (.slice A n ca)) (opA y (.slice B n cb)) W) => ld22 ((h.k1.cell 27).trans (op_c27 y _ HY.out.dep8)))
  obtain ⟨r0, hr0⟩ := bool_of (x.dr = y.dr ∧ x.dn = y.dn)
  have Q0 := Lib.hid (fun W => eql_dot _ _ _ _ hx.dr hx.dn hy.dr hy.dn r0 hr0 W)
  obtain ⟨r1, hr1⟩ := bool_of (x.dep = y.dep)
  have Q1 := Lib.hid (fun W => eql_vec x.dep y.dep hx.dep8 hy.dep8 r1 hr1 W)
  obtain ⟨r2, hr2⟩ := bool_of (x.time = y.time)
  have Q2 := Lib.hid (fun W => eqi80 (W := W) hr2)
  obtain ⟨r3, hr3⟩ := bool_of (x.who = y.who)
  have Q3 := Lib.hid (fun W => eqi22 (W := W) hr3)
  obtain ⟨r4, hr4⟩ := bool_of (x.cr = y.cr ∧ x.cn = y.cn)
  have Q4 := Lib.hid (fun W => eql_dot _ _ _ _ hx.cr hx.cn hy.cr hy.cn r4 hr4 W)
  obtain ⟨r5, hr5⟩ := bool_of (x.kind = y.kind)
  have Q5 := Lib.hid (fun W => eqi5 (W := W) hr5)
  obtain ⟨r6, hr6⟩ := bool_of (x.er = y.er ∧ x.en = y.en)
  have Q6 := Lib.hid (fun W => eql_dot _ _ _ _ hx.er hx.en hy.er hy.en r6 hr6 W)
  obtain ⟨r7, hr7⟩ := bool_of (x.dest = y.dest)
  have Q7 := Lib.hid (fun W => eqi22 (W := W) hr7)
  obtain ⟨r8, hr8⟩ := bool_of (x.roles = y.roles)
  have Q8 := Lib.hid (fun W => eqi5 (W := W) hr8)
  obtain ⟨r9, hr9⟩ := bool_of (x.depth = y.depth)
  have Q9 := Lib.hid (fun W => eqi5 (W := W) hr9)
  obtain ⟨r10, hr10⟩ := bool_of (x.cap = y.cap)
  have Q10 := Lib.hid (fun W => eqi80 (W := W) hr10)
  obtain ⟨r11, hr11⟩ := bool_of (x.ar = y.ar ∧ x.an = y.an)
  have Q11 := Lib.hid (fun W => eql_dot _ _ _ _ hx.ar hx.an hy.ar hy.an r11 hr11 W)
  obtain ⟨r12, hr12⟩ := bool_of (x.vr = y.vr ∧ x.vn = y.vn)
  have Q12 := Lib.hid (fun W => eql_dot _ _ _ _ hx.vr hx.vn hy.vr hy.vn r12 hr12 W)
  obtain ⟨r13, hr13⟩ := bool_of (x.item = y.item)
  have Q13 := Lib.hid (fun W => eqi22 (W := W) hr13)
  obtain ⟨r14, hr14⟩ := bool_of (x.qty = y.qty)
  have Q14 := Lib.hid (fun W => eqi22 (W := W) hr14)
  obtain ⟨r15, hr15⟩ := bool_of (x.price = y.price)
  have Q15 := Lib.hid (fun W => eqi22 (W := W) hr15)
  have HRR := Lib.hid (show (((((((((((((((r0 && r1) && r2) && r3) && r4) && r5) && r6) && r7) && r8) && r9) && r10) && r11) && r12) && r13) && r14) && r15) = true ↔ x.head = y.head by
    simp only [Bool.and_eq_true, hr0, hr1, hr2, hr3, hr4, hr5, hr6, hr7, hr8, hr9, hr10, hr11, hr12, hr13, hr14, hr15]
    obtain ⟨a1, a2, a3, a4, a5, a6, a7, a8, a9, a10, a11, a12, a13, a14, a15, a16, a17, a18, a19, a20, a21, a22⟩ := x
    obtain ⟨b1, b2, b3, b4, b5, b6, b7, b8, b9, b10, b11, b12, b13, b14, b15, b16, b17, b18, b19, b20, b21, b22⟩ := y
    simp only [NOp.head, NOp.mk.injEq, and_true, and_assoc])
  clear hx hy hA hB hn hnb hl hr0 hr1 hr2 hr3 hr4 hr5 hr6 hr7 hr8 hr9 hr10 hr11 hr12 hr13 hr14 hr15
  have S0 := Lib.hid S0
  have hf0 := F28.out _ S0.out
  have hg0 := G28.out _ S0.out
  generalize opA x (.slice A n ca) = X at *
  generalize opA y (.slice B n cb) = Y at *
  go_enter Tryd.func15, Tryd.ntmps15
  go_wp2_with fail
  go_loopw [5] (fun i wr => ∃ k : Nat, k ≤ n ∧ i = .int .i64 k ∧ x.lines.take k = y.lines.take k ∧ SI w 30 X Y wr) (fun i _ => n - (intOf i).toNat)
  case atStart => exact ⟨0, by omega, rfl, by simp, S0.out⟩
  case round =>
    obtain ⟨k, hk, rfl, htk, hI⟩ := hrel
    have HT := Lib.hid htk
    have HI := Lib.hid hI
    have f28 := F28.out _ hI
    have g28 := G28.out _ hI
    clear htk hI hf0 hg0
    by_cases hlt : k < n
    · have hka : k < x.lines.length := by have := HN.out; omega
      have hkb : k < y.lines.length := by have := HNB.out; omega
      obtain ⟨ad, rfl, hca⟩ := HA.out _ HI.out.b k hka
      obtain ⟨bd, rfl, hcb⟩ := HB.out _ HI.out.b k hkb
      have HCA := Lib.hid hca
      have HCB := Lib.hid hcb
      have HO := Lib.hid (And.intro (OA.out _ (List.getElem_mem hka)) (OB.out _ (List.getElem_mem hkb)))
      obtain ⟨r, hr⟩ := bool_of (x.lines[k] = y.lines[k])
      have HRK := Lib.hid hr
      have HGX := Lib.hid (List.getElem?_eq_getElem hka)
      have HGY := Lib.hid (List.getElem?_eq_getElem hkb)
      generalize x.lines[k] = cx at *
      generalize y.lines[k] = cy at *
      clear hca hcb hka hkb hr
      go_wp2_with fail
      refine reg_begin_ (fun W => Below wr.heap.size wr W) (by kernel_rfl) ?_
      intro A hA
      have h2 : A.eval (.tmp 2) = .pointer (some ⟨w.heap.size, 0, none⟩) := by rw [hA]; rfl
      have h3 : A.eval (.tmp 3) = .pointer (some ⟨w.heap.size + 1, 0, none⟩) := by rw [hA]; rfl
      have h5 : A.eval (.tmp 5) = .int .i64 (k : Int) := by rw [hA]; rfl
      have hsz : A.tmps.size = 141 := by rw [hA]; rfl
      have hS : Below wr.heap.size wr wr.drew := below_drew (Below.refl _ _)
      have HI2 := Lib.hid (fun W (h : Below wr.heap.size wr W) => SI.next _ _ HI.out h)
      have HCA2 := Lib.hid (fun W (h : Below wr.heap.size wr W) j u (hj : (claimA cx)[j]? = some u) => (h.cell (World.block_lt_of_cell? wr _ (HCA.out j u hj))).trans (HCA.out j u hj))
      have HCB2 := Lib.hid (fun W (h : Below wr.heap.size wr W) j u (hj : (claimA cy)[j]? = some u) => (h.cell (World.block_lt_of_cell? wr _ (HCB.out j u hj))).trans (HCB.out j u hj))
      have hA := Lib.hid hA
      refine reg_take (some 20) (i := 0) (.pointer (some ⟨w.heap.size, 28, none⟩)) rfl rfl (by kernel_rfl) (fun _ _ _ h => h) (by rfl) (fun W hW => exec_addr 30 _ 16 rfl h2 (fa16)) hS ?_
      refine reg_take (some 21) (i := 1) (.slice (some ad) n ca) rfl rfl (by kernel_rfl) (fun _ _ _ h => h) (by rfl) (fun W hW => exec_load1 28 _ rfl (ev_eq (by (try simp only [Act.size_put]); rw [hsz]; decide)) (ld120 (F28.out W (HI2.out W hW)))) hS ?_
      refine reg_take (some 22) (i := 2) (.int .i64 (k : Int)) rfl rfl (by kernel_rfl) (fun _ _ _ h => h) (by rfl) (fun W hW => exec_move _ rfl (ev_ne (by rfl) (ev_ne (by rfl) h5))) hS ?_
      refine reg_take (some 23) (i := 3) (.pointer (some (ad.add (k * 4)))) rfl rfl (by kernel_rfl) (fun _ _ _ h => h) (by rfl) (fun W hW => exec_iaddr 28 _ _ rfl (ev_ne (by rfl) (ev_eq (by (try simp only [Act.size_put]); rw [hsz]; decide))) (ev_eq (by (try simp only [Act.size_put]); rw [hsz]; decide)) (ix120 hlt ha)) hS ?_
      refine reg_take (some 24) (i := 4) (.agg (claimA cx)) rfl rfl (by kernel_rfl) (fun _ _ _ h => h) (by rfl) (fun W hW => exec_load1 63 _ rfl (ev_eq (by (try simp only [Act.size_put]); rw [hsz]; decide)) (ld177 (HCA2.out W hW))) hS ?_
      refine reg_take (some 25) (i := 5) (.pointer (some ⟨w.heap.size + 1, 28, none⟩)) rfl rfl (by kernel_rfl) (fun _ _ _ h => h) (by rfl) (fun W hW => exec_addr 30 _ 16 rfl (ev_ne (by rfl) (ev_ne (by rfl) (ev_ne (by rfl) (ev_ne (by rfl) (ev_ne (by rfl) h3))))) (fa16)) hS ?_
      refine reg_take (some 26) (i := 6) (.slice (some bd) n cb) rfl rfl (by kernel_rfl) (fun _ _ _ h => h) (by rfl) (fun W hW => exec_load1 28 _ rfl (ev_eq (by (try simp only [Act.size_put]); rw [hsz]; decide)) (ld120 (G28.out W (HI2.out W hW)))) hS ?_
      refine reg_take (some 27) (i := 7) (.int .i64 (k : Int)) rfl rfl (by kernel_rfl) (fun _ _ _ h => h) (by rfl) (fun W hW => exec_move _ rfl (ev_ne (by rfl) (ev_ne (by rfl) (ev_ne (by rfl) (ev_ne (by rfl) (ev_ne (by rfl) (ev_ne (by rfl) (ev_ne (by rfl) h5)))))))) hS ?_
      refine reg_take (some 28) (i := 8) (.pointer (some (bd.add (k * 4)))) rfl rfl (by kernel_rfl) (fun _ _ _ h => h) (by rfl) (fun W hW => exec_iaddr 28 _ _ rfl (ev_ne (by rfl) (ev_eq (by (try simp only [Act.size_put]); rw [hsz]; decide))) (ev_eq (by (try simp only [Act.size_put]); rw [hsz]; decide)) (ix120 hlt ha)) hS ?_
      refine reg_take (some 29) (i := 9) (.agg (claimA cy)) rfl rfl (by kernel_rfl) (fun _ _ _ h => h) (by rfl) (fun W hW => exec_load1 63 _ rfl (ev_eq (by (try simp only [Act.size_put]); rw [hsz]; decide)) (ld177 (HCB2.out W hW))) hS ?_
      refine reg_take (some 30) (i := 10) (.bool (!r)) rfl rfl (by kernel_rfl) (fun _ _ _ h => h) (by rfl) (fun W hW => exec_bin .neq 63 63 _ _ rfl (ev_ne (by rfl) (ev_ne (by rfl) (ev_ne (by rfl) (ev_ne (by rfl) (ev_ne (by rfl) (ev_eq (by (try simp only [Act.size_put]); rw [hsz]; decide))))))) (ev_eq (by (try simp only [Act.size_put]); rw [hsz]; decide)) (eqg_agg _ _ _ _ _ _ W eqt177) ((eql_claim cx cy HO.out.1 HO.out.2 r HRK.out W).2)) hS ?_
      refine reg_end_any (fun W => Below wr.heap.size wr W) (by kernel_rfl) hS fun W hW => ?_
      have hA := hA.out
      subst hA
      simp only [Act.put, List.setIfInBounds_toArray, List.set_cons_zero, List.set_cons_succ]
      have HW2 := Lib.hid (HI2.out W hW)
      clear hW hS h2 h3 h5 hsz HCA2 HCB2 HCA HCB HI2 f28 g28
      cases r
      · go_wp2_with fail
        go_ret
        refine ⟨false, rfl, ⟨fun h => absurd h (by simp), fun h => ?_⟩, HW2.out.b⟩
        have e : cx = cy := by
          have h1 := HGX.out
          rw [h, HGY.out] at h1
          injection h1 with h1
          exact h1.symm
        exact absurd (HRK.out.2 e) (by simp)
      · go_wp2_with fail
        go_roundw
        case rel =>
          refine ⟨k + 1, hlt, by go_num, ?_, HW2.out⟩
          rw [List.take_add_one, List.take_add_one, HT.out, HGX.out, HGY.out, HRK.out.1 (by simp)]
        case measure => simp [intOf]; omega
    · have hLE : x.lines = y.lines := by
        have h := HT.out
        rwa [List.take_of_length_le (by have := HN.out; omega), List.take_of_length_le (by have := HNB.out; omega)] at h
      have HLE := Lib.hid hLE
      clear hLE
      go_upto_region 8 with (fail)
      refine lst_begin ?_
      intro A hA
      have h2 : A.eval (.tmp 2) = .pointer (some ⟨w.heap.size, 0, none⟩) := by rw [hA]; rfl
      have h3 : A.eval (.tmp 3) = .pointer (some ⟨w.heap.size + 1, 0, none⟩) := by rw [hA]; rfl
      have hsz : A.tmps.size = 141 := by rw [hA]; rfl
      have hdf : A.defers = [] := by rw [hA]
      clear hA
      refine lst_val (some 31) (v := .pointer (some ⟨w.heap.size, 0, none⟩)) rfl rfl (exec_addr 30 _ 0 rfl h2 (fa0)) ?_
      refine lst_val (some 32) (v := .agg #[.int .u8 (x.dr : Int), .int .u32 (x.dn : Int)]) rfl rfl (exec_load1 24 _ rfl (ev_eq (by (try simp only [Act.size_put]); rw [hsz]; decide)) (Lx0.out _ HI.out)) ?_
      refine lst_val (some 33) (v := .pointer (some ⟨w.heap.size + 1, 0, none⟩)) rfl rfl (exec_addr 30 _ 0 rfl (ev_ne (by rfl) (ev_ne (by rfl) h3)) (fa0)) ?_
      refine lst_val (some 34) (v := .agg #[.int .u8 (y.dr : Int), .int .u32 (y.dn : Int)]) rfl rfl (exec_load1 24 _ rfl (ev_eq (by (try simp only [Act.size_put]); rw [hsz]; decide)) (Ly0.out _ HI.out)) ?_
      refine lst_val (some 35) (v := .bool r0) rfl rfl (exec_bin .eql 24 24 _ _ rfl (ev_ne (by rfl) (ev_ne (by rfl) (ev_eq (by (try simp only [Act.size_put]); rw [hsz]; decide)))) (ev_eq (by (try simp only [Act.size_put]); rw [hsz]; decide)) (eqg_agg _ _ _ _ _ _ _ eqt82) (Q0.out _)) ?_
      have ht : (((((A.put (some 31) (.pointer (some ⟨w.heap.size, 0, none⟩))).put (some 32) (.agg #[.int .u8 (x.dr : Int), .int .u32 (x.dn : Int)])).put (some 33) (.pointer (some ⟨w.heap.size + 1, 0, none⟩))).put (some 34) (.agg #[.int .u8 (y.dr : Int), .int .u32 (y.dn : Int)])).put (some 35) (.bool r0)).eval (.tmp 35) = .bool r0 := (ev_eq (by (try simp only [Act.size_put]); rw [hsz]; decide))
      have h2 : (((((A.put (some 31) (.pointer (some ⟨w.heap.size, 0, none⟩))).put (some 32) (.agg #[.int .u8 (x.dr : Int), .int .u32 (x.dn : Int)])).put (some 33) (.pointer (some ⟨w.heap.size + 1, 0, none⟩))).put (some 34) (.agg #[.int .u8 (y.dr : Int), .int .u32 (y.dn : Int)])).put (some 35) (.bool r0)).eval (.tmp 2) = .pointer (some ⟨w.heap.size, 0, none⟩) := (ev_ne (by rfl) (ev_ne (by rfl) (ev_ne (by rfl) (ev_ne (by rfl) (ev_ne (by rfl) h2)))))
      have h3 : (((((A.put (some 31) (.pointer (some ⟨w.heap.size, 0, none⟩))).put (some 32) (.agg #[.int .u8 (x.dr : Int), .int .u32 (x.dn : Int)])).put (some 33) (.pointer (some ⟨w.heap.size + 1, 0, none⟩))).put (some 34) (.agg #[.int .u8 (y.dr : Int), .int .u32 (y.dn : Int)])).put (some 35) (.bool r0)).eval (.tmp 3) = .pointer (some ⟨w.heap.size + 1, 0, none⟩) := (ev_ne (by rfl) (ev_ne (by rfl) (ev_ne (by rfl) (ev_ne (by rfl) (ev_ne (by rfl) h3)))))
      have hsz : (((((A.put (some 31) (.pointer (some ⟨w.heap.size, 0, none⟩))).put (some 32) (.agg #[.int .u8 (x.dr : Int), .int .u32 (x.dn : Int)])).put (some 33) (.pointer (some ⟨w.heap.size + 1, 0, none⟩))).put (some 34) (.agg #[.int .u8 (y.dr : Int), .int .u32 (y.dn : Int)])).put (some 35) (.bool r0)).tmps.size = 141 := (by (try simp only [Act.size_put]); exact hsz)
      have hdf : (((((A.put (some 31) (.pointer (some ⟨w.heap.size, 0, none⟩))).put (some 32) (.agg #[.int .u8 (x.dr : Int), .int .u32 (x.dn : Int)])).put (some 33) (.pointer (some ⟨w.heap.size + 1, 0, none⟩))).put (some 34) (.agg #[.int .u8 (y.dr : Int), .int .u32 (y.dn : Int)])).put (some 35) (.bool r0)).defers = [] := (by (try simp only [put_defers]); exact hdf)
      generalize (((((A.put (some 31) (.pointer (some ⟨w.heap.size, 0, none⟩))).put (some 32) (.agg #[.int .u8 (x.dr : Int), .int .u32 (x.dn : Int)])).put (some 33) (.pointer (some ⟨w.heap.size + 1, 0, none⟩))).put (some 34) (.agg #[.int .u8 (y.dr : Int), .int .u32 (y.dn : Int)])).put (some 35) (.bool r0)) = A1 at *
      refine and_step (t := 35) (j := 5) (n := 141) ⟨rfl, rfl, rfl⟩ ⟨rfl, rfl, rfl⟩ ⟨rfl, rfl, rfl⟩ ⟨rfl, rfl, rfl⟩ ⟨rfl, rfl, rfl⟩ ⟨rfl, rfl, rfl⟩ ⟨rfl, rfl, rfl⟩ rfl hsz hdf (by omega) (by omega) ht h2 h3 fa1 fa1 (Lx1.out _ HI.out) (Ly1.out _ HI.out) (eqg_agg _ _ _ _ _ _ _ eqt54) (Q1.out _) ?_
      clear hsz hdf h2 h3 ht
      intro A hsz hdf h2 h3 ht
      try simp only [Nat.reduceAdd] at ht
      refine and_step (t := 42) (j := 12) (n := 141) ⟨rfl, rfl, rfl⟩ ⟨rfl, rfl, rfl⟩ ⟨rfl, rfl, rfl⟩ ⟨rfl, rfl, rfl⟩ ⟨rfl, rfl, rfl⟩ ⟨rfl, rfl, rfl⟩ ⟨rfl, rfl, rfl⟩ rfl hsz hdf (by omega) (by omega) ht h2 h3 fa2 fa2 (Lx2.out _ HI.out) (Ly2.out _ HI.out) eqgi (Q2.out _) ?_
      clear hsz hdf h2 h3 ht
      intro A hsz hdf h2 h3 ht
      try simp only [Nat.reduceAdd] at ht
      refine and_step (t := 49) (j := 19) (n := 141) ⟨rfl, rfl, rfl⟩ ⟨rfl, rfl, rfl⟩ ⟨rfl, rfl, rfl⟩ ⟨rfl, rfl, rfl⟩ ⟨rfl, rfl, rfl⟩ ⟨rfl, rfl, rfl⟩ ⟨rfl, rfl, rfl⟩ rfl hsz hdf (by omega) (by omega) ht h2 h3 fa3 fa3 (Lx3.out _ HI.out) (Ly3.out _ HI.out) eqgi (Q3.out _) ?_
      clear hsz hdf h2 h3 ht
      intro A hsz hdf h2 h3 ht
      try simp only [Nat.reduceAdd] at ht
      refine and_step (t := 56) (j := 26) (n := 141) ⟨rfl, rfl, rfl⟩ ⟨rfl, rfl, rfl⟩ ⟨rfl, rfl, rfl⟩ ⟨rfl, rfl, rfl⟩ ⟨rfl, rfl, rfl⟩ ⟨rfl, rfl, rfl⟩ ⟨rfl, rfl, rfl⟩ rfl hsz hdf (by omega) (by omega) ht h2 h3 fa4 fa4 (Lx4.out _ HI.out) (Ly4.out _ HI.out) (eqg_agg _ _ _ _ _ _ _ eqt82) (Q4.out _) ?_
      clear hsz hdf h2 h3 ht
      intro A hsz hdf h2 h3 ht
      try simp only [Nat.reduceAdd] at ht
      refine and_step (t := 63) (j := 33) (n := 141) ⟨rfl, rfl, rfl⟩ ⟨rfl, rfl, rfl⟩ ⟨rfl, rfl, rfl⟩ ⟨rfl, rfl, rfl⟩ ⟨rfl, rfl, rfl⟩ ⟨rfl, rfl, rfl⟩ ⟨rfl, rfl, rfl⟩ rfl hsz hdf (by omega) (by omega) ht h2 h3 fa5 fa5 (Lx5.out _ HI.out) (Ly5.out _ HI.out) eqgi (Q5.out _) ?_
      clear hsz hdf h2 h3 ht
      intro A hsz hdf h2 h3 ht
      try simp only [Nat.reduceAdd] at ht
      refine and_step (t := 70) (j := 40) (n := 141) ⟨rfl, rfl, rfl⟩ ⟨rfl, rfl, rfl⟩ ⟨rfl, rfl, rfl⟩ ⟨rfl, rfl, rfl⟩ ⟨rfl, rfl, rfl⟩ ⟨rfl, rfl, rfl⟩ ⟨rfl, rfl, rfl⟩ rfl hsz hdf (by omega) (by omega) ht h2 h3 fa6 fa6 (Lx6.out _ HI.out) (Ly6.out _ HI.out) (eqg_agg _ _ _ _ _ _ _ eqt82) (Q6.out _) ?_
      clear hsz hdf h2 h3 ht
      intro A hsz hdf h2 h3 ht
      try simp only [Nat.reduceAdd] at ht
      refine and_step (t := 77) (j := 47) (n := 141) ⟨rfl, rfl, rfl⟩ ⟨rfl, rfl, rfl⟩ ⟨rfl, rfl, rfl⟩ ⟨rfl, rfl, rfl⟩ ⟨rfl, rfl, rfl⟩ ⟨rfl, rfl, rfl⟩ ⟨rfl, rfl, rfl⟩ rfl hsz hdf (by omega) (by omega) ht h2 h3 fa7 fa7 (Lx7.out _ HI.out) (Ly7.out _ HI.out) eqgi (Q7.out _) ?_
      clear hsz hdf h2 h3 ht
      intro A hsz hdf h2 h3 ht
      try simp only [Nat.reduceAdd] at ht
      refine and_step (t := 84) (j := 54) (n := 141) ⟨rfl, rfl, rfl⟩ ⟨rfl, rfl, rfl⟩ ⟨rfl, rfl, rfl⟩ ⟨rfl, rfl, rfl⟩ ⟨rfl, rfl, rfl⟩ ⟨rfl, rfl, rfl⟩ ⟨rfl, rfl, rfl⟩ rfl hsz hdf (by omega) (by omega) ht h2 h3 fa8 fa8 (Lx8.out _ HI.out) (Ly8.out _ HI.out) eqgi (Q8.out _) ?_
      clear hsz hdf h2 h3 ht
      intro A hsz hdf h2 h3 ht
      try simp only [Nat.reduceAdd] at ht
      refine and_step (t := 91) (j := 61) (n := 141) ⟨rfl, rfl, rfl⟩ ⟨rfl, rfl, rfl⟩ ⟨rfl, rfl, rfl⟩ ⟨rfl, rfl, rfl⟩ ⟨rfl, rfl, rfl⟩ ⟨rfl, rfl, rfl⟩ ⟨rfl, rfl, rfl⟩ rfl hsz hdf (by omega) (by omega) ht h2 h3 fa9 fa9 (Lx9.out _ HI.out) (Ly9.out _ HI.out) eqgi (Q9.out _) ?_
      clear hsz hdf h2 h3 ht
      intro A hsz hdf h2 h3 ht
      try simp only [Nat.reduceAdd] at ht
      refine and_step (t := 98) (j := 68) (n := 141) ⟨rfl, rfl, rfl⟩ ⟨rfl, rfl, rfl⟩ ⟨rfl, rfl, rfl⟩ ⟨rfl, rfl, rfl⟩ ⟨rfl, rfl, rfl⟩ ⟨rfl, rfl, rfl⟩ ⟨rfl, rfl, rfl⟩ rfl hsz hdf (by omega) (by omega) ht h2 h3 fa10 fa10 (Lx10.out _ HI.out) (Ly10.out _ HI.out) eqgi (Q10.out _) ?_
      clear hsz hdf h2 h3 ht
      intro A hsz hdf h2 h3 ht
      try simp only [Nat.reduceAdd] at ht
      refine and_step (t := 105) (j := 75) (n := 141) ⟨rfl, rfl, rfl⟩ ⟨rfl, rfl, rfl⟩ ⟨rfl, rfl, rfl⟩ ⟨rfl, rfl, rfl⟩ ⟨rfl, rfl, rfl⟩ ⟨rfl, rfl, rfl⟩ ⟨rfl, rfl, rfl⟩ rfl hsz hdf (by omega) (by omega) ht h2 h3 fa11 fa11 (Lx11.out _ HI.out) (Ly11.out _ HI.out) (eqg_agg _ _ _ _ _ _ _ eqt82) (Q11.out _) ?_
      clear hsz hdf h2 h3 ht
      intro A hsz hdf h2 h3 ht
      try simp only [Nat.reduceAdd] at ht
      refine and_step (t := 112) (j := 82) (n := 141) ⟨rfl, rfl, rfl⟩ ⟨rfl, rfl, rfl⟩ ⟨rfl, rfl, rfl⟩ ⟨rfl, rfl, rfl⟩ ⟨rfl, rfl, rfl⟩ ⟨rfl, rfl, rfl⟩ ⟨rfl, rfl, rfl⟩ rfl hsz hdf (by omega) (by omega) ht h2 h3 fa12 fa12 (Lx12.out _ HI.out) (Ly12.out _ HI.out) (eqg_agg _ _ _ _ _ _ _ eqt82) (Q12.out _) ?_
      clear hsz hdf h2 h3 ht
      intro A hsz hdf h2 h3 ht
      try simp only [Nat.reduceAdd] at ht
      refine and_step (t := 119) (j := 89) (n := 141) ⟨rfl, rfl, rfl⟩ ⟨rfl, rfl, rfl⟩ ⟨rfl, rfl, rfl⟩ ⟨rfl, rfl, rfl⟩ ⟨rfl, rfl, rfl⟩ ⟨rfl, rfl, rfl⟩ ⟨rfl, rfl, rfl⟩ rfl hsz hdf (by omega) (by omega) ht h2 h3 fa13 fa13 (Lx13.out _ HI.out) (Ly13.out _ HI.out) eqgi (Q13.out _) ?_
      clear hsz hdf h2 h3 ht
      intro A hsz hdf h2 h3 ht
      try simp only [Nat.reduceAdd] at ht
      refine and_step (t := 126) (j := 96) (n := 141) ⟨rfl, rfl, rfl⟩ ⟨rfl, rfl, rfl⟩ ⟨rfl, rfl, rfl⟩ ⟨rfl, rfl, rfl⟩ ⟨rfl, rfl, rfl⟩ ⟨rfl, rfl, rfl⟩ ⟨rfl, rfl, rfl⟩ rfl hsz hdf (by omega) (by omega) ht h2 h3 fa14 fa14 (Lx14.out _ HI.out) (Ly14.out _ HI.out) eqgi (Q14.out _) ?_
      clear hsz hdf h2 h3 ht
      intro A hsz hdf h2 h3 ht
      try simp only [Nat.reduceAdd] at ht
      refine and_step (t := 133) (j := 103) (n := 141) ⟨rfl, rfl, rfl⟩ ⟨rfl, rfl, rfl⟩ ⟨rfl, rfl, rfl⟩ ⟨rfl, rfl, rfl⟩ ⟨rfl, rfl, rfl⟩ ⟨rfl, rfl, rfl⟩ ⟨rfl, rfl, rfl⟩ rfl hsz hdf (by omega) (by omega) ht h2 h3 fa15 fa15 (Lx15.out _ HI.out) (Ly15.out _ HI.out) eqgi (Q15.out _) ?_
      clear hsz hdf h2 h3 ht
      intro A hsz hdf h2 h3 ht
      try simp only [Nat.reduceAdd] at ht
      refine lst_val (some 4) rfl rfl (exec_assign _ rfl ht) ?_
      refine lst_nil ?_
      have h4 := ev_eq (a := A) (j := 4) (v := .bool (((((((((((((((r0 && r1) && r2) && r3) && r4) && r5) && r6) && r7) && r8) && r9) && r10) && r11) && r12) && r13) && r14) && r15)) (by rw [hsz]; decide)
      have hd4 : (A.put (some 4) (.bool (((((((((((((((r0 && r1) && r2) && r3) && r4) && r5) && r6) && r7) && r8) && r9) && r10) && r11) && r12) && r13) && r14) && r15))).defers = [] := (put_defers _ _ _).trans hdf
      generalize A.put (some 4) (.bool (((((((((((((((r0 && r1) && r2) && r3) && r4) && r5) && r6) && r7) && r8) && r9) && r10) && r11) && r12) && r13) && r14) && r15)) = A4 at *
      have H4 := Lib.hid h4
      have HEX := Lib.hid HRR.out
      clear h4 h2 h3 ht hsz
      generalize (((((((((((((((r0 && r1) && r2) && r3) && r4) && r5) && r6) && r7) && r8) && r9) && r10) && r11) && r12) && r13) && r14) && r15) = rr at *
      go_wp2_with fail
      refine bodyPost_ret (results_tmp rfl _ _ _) hd4 ?_
      refine ⟨rr, ?_, HEX.out.trans ⟨fun h => HHI.out.2 ⟨h, HLE.out⟩, fun h => (HHI.out.1 h).1⟩, HI.out.b⟩
      exact congrArg Ending.returned H4.out
theorem tsame_any (w : World) (x y : NOp) (lx ly : Value) (hx : x.ok) (hy : y.ok) (Lx : Lns w lx x.lines) (Ly : Lns w ly y.lines) : Calls Tryd.prog 15 #[.agg (opA x lx), .agg (opA y ly)] w (Tells w (x = y)) := by
  by_cases hl : x.lines.length = y.lines.length
  · exact tsame_eq w x y lx ly hx hy Lx Ly hl
  · exact tsame_len w x y lx ly hx hy Lx Ly hl
end Go.Proofs.YtfojjklohbiffaaDoor
