/- Operations read: op.Get: the walk. -/
import Derived.Test.YtfojjklohbiffaaDoorOpF
import Derived.Deep.CutRange
namespace Go.Proofs.YtfojjklohbiffaaDoor
open Go.RowKit Tran Tran.Wire
set_option linter.unusedVariables false
set_option linter.unusedSimpArgs false
theorem en67 (args : Array Value) (W : World) : (callFunc 40 args).run Tryd.prog W = .ok (.enter 40 args) W := enters_of Tryd.func40 (by kernel_rfl) rfl args W
theorem en68 (args : Array Value) (W : World) : (callFunc 41 args).run Tryd.prog W = .ok (.enter 41 args) W := enters_of Tryd.func41 (by kernel_rfl) rfl args W
theorem en65 (args : Array Value) (W : World) : (callFunc 38 args).run Tryd.prog W = .ok (.enter 38 args) W := enters_of Tryd.func38 (by kernel_rfl) rfl args W
theorem en130 (args : Array Value) (W : World) : (callFunc 37 args).run Tryd.prog W = .ok (.enter 37 args) W := enters_of Tryd.func37 (by kernel_rfl) rfl args W
theorem en131 (args : Array Value) (W : World) : (callFunc 39 args).run Tryd.prog W = .ok (.enter 39 args) W := enters_of Tryd.func39 (by kernel_rfl) rfl args W
theorem own_weaken {w : World} {B C : Nat} {e : TypeId} {size : Nat} {v : Value} {n : Nat} {xs : List Value} (h : Tran.Own w B e size v n xs) (hB : C ≤ B) : Tran.Own w C e size v n xs := by
  obtain ⟨h1, h2⟩ := h
  refine ⟨h1, ?_⟩
  rcases h2 with h2 | ⟨g, cap, cur, fz, e1, h3, h4⟩
  · exact .inl h2
  · exact .inr ⟨g, cap, cur, fz, e1, by omega, h4⟩
theorem lns_own {w : World} {B : Nat} {v : Value} {ls : List NClaim} (h : Tran.Own w B 63 4 v ls.length (ls.flatMap claimF)) (hl : ls.length ≤ 16) : Lns w v ls := by
  obtain ⟨A, cap, rfl, _, _, hr⟩ := h.slice
  exact ⟨A, cap, rfl, hr, by omega⟩
/-- the post of op.Get -/
def GotO (w : World) (q : NOp × Option (List UInt8)) (e : Ending) (w' : World) : Prop :=
  ∃ lv, e = .returned (.tuple #[.agg (opA (if q.2 = some [] then q.1 else zeroO) lv), .int .i64 (endN q.2 : Nat)]) ∧ Tran.Own w' w.heap.size 63 4 lv (if q.2 = some [] then q.1 else zeroO).lines.length ((if q.2 = some [] then q.1 else zeroO).lines.flatMap claimF) ∧ Below w.heap.size w w'
set_option maxRecDepth 100000 in
set_option maxHeartbeats 64000000 in
theorem getO_any (w : World) (l : List UInt8) (hl : l.length ≤ 1000000) : Calls Tryd.prog 14 #[.string ⟨l.toArray⟩] w (GotO w (rdO (some l))) := by
  obtain ⟨d1, s1, v2, s2, n3, s3, n4, s4, d5, s5, n6, s6, d7, s7, n8, s8, n9, s9, n10, s10, n11, s11, d12, s12, d13, s13, n14, s14, n15, s15, n16, s16, n17, s17, e1, e2, e3, e4, e5, e6, e7, e8, e9, e10, e11, e12, e13, e14, e15, e16, e17, hq⟩ := rdO_steps (some l)
  rw [hq]
  clear hq
  have HV8 := Lib.hid (show v2.length = 8 by rw [← e2.1]; exact vecZ_len _)
  have C1 := Lib.hid (fun W (h : RdP W (some ⟨w.heap.size + 1, 0, none⟩) (some l)) => rdot_c h e1)
  have C2 := Lib.hid (fun W (h : RdP W (some ⟨w.heap.size + 1, 0, none⟩) s1) => rvec_c h e2)
  have C3 := Lib.hid (fun W (h : RdP W (some ⟨w.heap.size + 1, 0, none⟩) s2) => rnum_c (M := 18446744073709551615) h e3 (by rfl))
  have C4 := Lib.hid (fun W (h : RdP W (some ⟨w.heap.size + 1, 0, none⟩) s3) (kb : Blk W (w.heap.size + 1 + 1) 68 #[.pointer (some ⟨w.heap.size + 1, 0, none⟩)]) => word_c h kb e4)
  have C5 := Lib.hid (fun W (h : RdP W (some ⟨w.heap.size + 1, 0, none⟩) s4) => rdot_c h e5)
  have C6 := Lib.hid (fun W (h : RdP W (some ⟨w.heap.size + 1, 0, none⟩) s5) (kb : Blk W (w.heap.size + 1 + 1) 68 #[.pointer (some ⟨w.heap.size + 1, 0, none⟩)]) => short_c h kb e6)
  have C7 := Lib.hid (fun W (h : RdP W (some ⟨w.heap.size + 1, 0, none⟩) s6) => rdot_c h e7)
  have C8 := Lib.hid (fun W (h : RdP W (some ⟨w.heap.size + 1, 0, none⟩) s7) (kb : Blk W (w.heap.size + 1 + 1) 68 #[.pointer (some ⟨w.heap.size + 1, 0, none⟩)]) => word_c h kb e8)
  have C9 := Lib.hid (fun W (h : RdP W (some ⟨w.heap.size + 1, 0, none⟩) s8) (kb : Blk W (w.heap.size + 1 + 1) 68 #[.pointer (some ⟨w.heap.size + 1, 0, none⟩)]) => short_c h kb e9)
  have C10 := Lib.hid (fun W (h : RdP W (some ⟨w.heap.size + 1, 0, none⟩) s9) (kb : Blk W (w.heap.size + 1 + 1) 68 #[.pointer (some ⟨w.heap.size + 1, 0, none⟩)]) => short_c h kb e10)
  have C11 := Lib.hid (fun W (h : RdP W (some ⟨w.heap.size + 1, 0, none⟩) s10) => rnum_c (M := 18446744073709551615) h e11 (by rfl))
  have C12 := Lib.hid (fun W (h : RdP W (some ⟨w.heap.size + 1, 0, none⟩) s11) => rdot_c h e12)
  have C13 := Lib.hid (fun W (h : RdP W (some ⟨w.heap.size + 1, 0, none⟩) s12) => rdot_c h e13)
  have C14 := Lib.hid (fun W (h : RdP W (some ⟨w.heap.size + 1, 0, none⟩) s13) (kb : Blk W (w.heap.size + 1 + 1) 68 #[.pointer (some ⟨w.heap.size + 1, 0, none⟩)]) => word_c h kb e14)
  have C15 := Lib.hid (fun W (h : RdP W (some ⟨w.heap.size + 1, 0, none⟩) s14) (kb : Blk W (w.heap.size + 1 + 1) 68 #[.pointer (some ⟨w.heap.size + 1, 0, none⟩)]) => word_c h kb e15)
  have C16 := Lib.hid (fun W (h : RdP W (some ⟨w.heap.size + 1, 0, none⟩) s15) (kb : Blk W (w.heap.size + 1 + 1) 68 #[.pointer (some ⟨w.heap.size + 1, 0, none⟩)]) => word_c h kb e16)
  have C17 := Lib.hid (fun W (h : RdP W (some ⟨w.heap.size + 1, 0, none⟩) s16) => rnum_c (M := 16) h e17 (by rfl))
  have H16 := Lib.hid (show n17 ≤ 16 by have := rnumS_le s16 16; rw [e17] at this; exact this)
  clear e1 e2 e3 e4 e5 e6 e7 e8 e9 e10 e11 e12 e13 e14 e15 e16 e17
  have S0 := GoW.start w l (by omega)
  have hG := Lib.hid S0
  clear S0
  go_enter Tryd.func14, Tryd.ntmps14
  go_wp2_with fail
  refine (open_r _ (by omega)).mono ?_
  rintro e w1 ⟨rfl, _, rfl⟩
  rw [World.size_alloc]
  go_wp2_with fail
  rw [← zO_eq]
  generalize ((((w.alloc (.cells (opA zeroO (.slice none 0 0)) 30)).alloc (.cells #[.string ⟨l.toArray⟩, .int .i64 0, .bool true] 91)).alloc (.cells #[.pointer (some ⟨w.heap.size + 1, 0, none⟩)] 68)).alloc (.cells (opA zeroO (.slice none 0 0)) 30)) = W0 at *
  have hG : Hid (GoW w W0 (some l) (opA (NOp.mk 0 0 zer8 0 0 0 0 0 0 0 0 0 0 0 0 0 0 0 0 0 0 []) (.slice none 0 0))) := hG
  refine reg_begin_ (fun W => W.cell? ⟨w.heap.size + 1 + 1, 0, none⟩ = some (.pointer (some ⟨w.heap.size + 1, 0, none⟩))) (by kernel_rfl) ?_
  intro A hA
  have h4 : A.eval (.tmp 4) = .pointer (some ⟨w.heap.size + 1 + 1, 0, none⟩) := by rw [hA]; rfl
  have h5 : A.eval (.tmp 5) = .func (.func 37) #[] #[.pointer (some ⟨w.heap.size + 1 + 1, 0, none⟩)] := by rw [hA]; rfl
  have h6 : A.eval (.tmp 6) = .func (.func 39) #[] #[.pointer (some ⟨w.heap.size + 1 + 1, 0, none⟩)] := by rw [hA]; rfl
  have h7 : A.eval (.tmp 7) = .pointer (some ⟨w.heap.size + 1 + 1 + 1, 0, none⟩) := by rw [hA]; rfl
  have hsz : A.tmps.size = 87 := by rw [hA]; rfl
  have hG := Lib.hid (GoW.drew hG.out)
  have hS := hG.out.box
  have hA := Lib.hid hA
  refine reg_take (some 15) (i := 0) (.pointer (some ⟨w.heap.size + 1, 0, none⟩)) rfl rfl (by kernel_rfl) (fun _ _ _ h => h) (by rfl) (fun W hW => exec_load1 68 _ rfl h4 (ld86 hW)) hS ?_
  refine reg_take (some 17) (i := 2) (.pointer (some ⟨w.heap.size + 1, 0, none⟩)) rfl rfl (by kernel_rfl) (fun _ _ _ h => h) (by rfl) (fun W hW => exec_load1 68 _ rfl (ev_ne (by rfl) h4) (ld86 hW)) hS ?_
  refine reg_call (some 16) (i := 1) rfl rfl (by kernel_rfl) (by rfl) (exec_call0 rfl rfl (map1 (ev_ne (by rfl) (ev_eq (by (try simp only [Act.size_put]); rw [hsz]; decide)))) en67) ?_
  refine (C1.out _ hG.out.rd).mono ?_
  rintro _ W2 ⟨rfl, hr⟩
  replace hG := Lib.hid (GoW.rdd hG.out hr)
  clear hr hS
  have hS := hG.out.box
  refine ⟨_, rfl, hS, ?_⟩
  refine reg_take (some 19) (i := 4) (.pointer (some ⟨w.heap.size + 1 + 1 + 1, 0, none⟩)) rfl rfl (by kernel_rfl) (fun _ _ _ h => h) (by rfl) (fun W hW => exec_addr 30 _ 0 rfl (ev_ne (by rfl) (ev_ne (by rfl) (ev_ne (by rfl) h7))) (fa0)) hS ?_
  refine reg_call (some 18) (i := 3) rfl rfl (by kernel_rfl) (by rfl) (exec_call0 rfl rfl (map1 (ev_ne (by rfl) (ev_ne (by rfl) (ev_eq (by (try simp only [Act.size_put]); rw [hsz]; decide))))) en68) ?_
  refine (C2.out _ hG.out.rd).mono ?_
  rintro _ W3 ⟨rfl, hr⟩
  replace hG := Lib.hid (GoW.rdd hG.out hr)
  clear hr hS
  have hS := hG.out.box
  refine ⟨_, rfl, hS, ?_⟩
  have hG1 : GoW w (W3.setCells (w.heap.size + 1 + 1 + 1) 0 (#[.int .u8 (d1.1 : Nat), .int .u32 (d1.2 : Nat)] : Array Value).toList) s2 (opA (NOp.mk d1.1 d1.2 zer8 0 0 0 0 0 0 0 0 0 0 0 0 0 0 0 0 0 0 []) (.slice none 0 0)) := by
    have h := hG.out.sets 0 (#[.int .u8 (d1.1 : Nat), .int .u32 (d1.2 : Nat)] : Array Value).toList
    rw [show putAt (opA _ _) 0 (#[.int .u8 (d1.1 : Nat), .int .u32 (d1.2 : Nat)] : Array Value).toList = _ from op_put0 (NOp.mk 0 0 zer8 0 0 0 0 0 0 0 0 0 0 0 0 0 0 0 0 0 0 []) (.slice none 0 0) rfl _ _] at h
    exact h
  refine reg_skip none (i := 5) rfl rfl (by kernel_rfl) (by rfl) (exec_store_mid 24 _ _ rfl (ev_ne (by rfl) (ev_eq (by (try simp only [Act.size_put]); rw [hsz]; decide))) (ev_ne (by rfl) (ev_ne (by rfl) (ev_eq (by (try simp only [Act.size_put]); rw [hsz]; decide)))) hG.out.ko (by rw [opA_size (NOp.mk 0 0 zer8 0 0 0 0 0 0 0 0 0 0 0 0 0 0 0 0 0 0 []) (.slice none 0 0) rfl]; simp) (size82) (by simp [Value.oneCell'])) hG1.box ?_
  replace hG := Lib.hid hG1
  clear hG1 hS
  have hS := hG.out.box
  generalize W3.setCells (w.heap.size + 1 + 1 + 1) 0 (#[.int .u8 (d1.1 : Nat), .int .u32 (d1.2 : Nat)] : Array Value).toList = W4 at *
  refine reg_take (some 20) (i := 6) (.pointer (some ⟨w.heap.size + 1 + 1 + 1, 2, none⟩)) rfl rfl (by kernel_rfl) (fun _ _ _ h => h) (by rfl) (fun W hW => exec_addr 30 _ 1 rfl (ev_none (ev_ne (by rfl) (ev_ne (by rfl) (ev_ne (by rfl) (ev_ne (by rfl) (ev_ne (by rfl) h7)))))) (fa1)) hS ?_
  have hG1 : GoW w (W4.setCells (w.heap.size + 1 + 1 + 1) 2 (vecA v2 : Array Value).toList) s2 (opA (NOp.mk d1.1 d1.2 v2 0 0 0 0 0 0 0 0 0 0 0 0 0 0 0 0 0 0 []) (.slice none 0 0)) := by
    have h := hG.out.sets 2 (vecA v2 : Array Value).toList
    rw [show putAt (opA _ _) 2 (vecA v2 : Array Value).toList = _ from op_put2 (NOp.mk d1.1 d1.2 zer8 0 0 0 0 0 0 0 0 0 0 0 0 0 0 0 0 0 0 []) (.slice none 0 0) rfl _ HV8.out] at h
    exact h
  refine reg_skip none (i := 7) rfl rfl (by kernel_rfl) (by rfl) (exec_store_mid 26 _ _ rfl (ev_eq (by (try simp only [Act.size_put]); rw [hsz]; decide)) (ev_ne (by rfl) (ev_none (ev_eq (by (try simp only [Act.size_put]); rw [hsz]; decide)))) hG.out.ko (by rw [opA_size (NOp.mk d1.1 d1.2 zer8 0 0 0 0 0 0 0 0 0 0 0 0 0 0 0 0 0 0 []) (.slice none 0 0) rfl, vecA_size, HV8.out]; simp) (by rw [vecA_size, HV8.out]; exact size54) (vecA_one _)) hG1.box ?_
  replace hG := Lib.hid hG1
  clear hG1 hS
  have hS := hG.out.box
  generalize W4.setCells (w.heap.size + 1 + 1 + 1) 2 (vecA v2 : Array Value).toList = W5 at *
  refine reg_end (by kernel_rfl) ?_
  have hA := hA.out
  subst hA
  simp only [Act.put, List.setIfInBounds_toArray, List.set_cons_zero, List.set_cons_succ]
  clear hS h4 h5 h6 h7 hsz
  have bx := hG.out.box
  go_wp2_with fail
  refine (C3.out _ hG.out.rd).mono ?_
  rintro e W6 ⟨rfl, hr⟩
  replace hG := Lib.hid (GoW.rdd hG.out hr)
  clear hr bx
  have bx := hG.out.box
  go_wp2_with fail
  refine (C4.out _ hG.out.rd hG.out.kb).mono ?_
  rintro e W7 ⟨rfl, hr⟩
  replace hG := Lib.hid (GoW.rdd hG.out hr)
  clear hr bx
  have bx := hG.out.box
  have c10 := (hG.out.ko.cell 10).trans (op_c10 (NOp.mk d1.1 d1.2 v2 0 0 0 0 0 0 0 0 0 0 0 0 0 0 0 0 0 0 []) (.slice none 0 0) HV8.out)
  have z10 := hG.out.ko.frozen 10
  have c11 := (hG.out.ko.cell 11).trans (op_c11 (NOp.mk d1.1 d1.2 v2 0 0 0 0 0 0 0 0 0 0 0 0 0 0 0 0 0 0 []) (.slice none 0 0) HV8.out)
  have z11 := hG.out.ko.frozen 11
  go_wp2_with fail
  clear bx c10 z10 c11 z11
  have hG1 : GoW w (W7.setCell ⟨w.heap.size + 1 + 1 + 1, 10, none⟩ (.int .u64 (n3 : Nat))) s4 (opA (NOp.mk d1.1 d1.2 v2 n3 0 0 0 0 0 0 0 0 0 0 0 0 0 0 0 0 0 []) (.slice none 0 0)) := by
    have h := hG.out.set 10 (.int .u64 (n3 : Nat))
    rw [show (opA _ _).setIfInBounds 10 (.int .u64 (n3 : Nat)) = _ from op_put10 (NOp.mk d1.1 d1.2 v2 0 0 0 0 0 0 0 0 0 0 0 0 0 0 0 0 0 0 []) (.slice none 0 0) HV8.out _] at h
    exact h
  replace hG := Lib.hid hG1
  clear hG1
  generalize W7.setCell ⟨w.heap.size + 1 + 1 + 1, 10, none⟩ (.int .u64 (n3 : Nat)) = W8 at *
  have hG1 : GoW w (W8.setCell ⟨w.heap.size + 1 + 1 + 1, 11, none⟩ (.int .u32 (n4 : Nat))) s4 (opA (NOp.mk d1.1 d1.2 v2 n3 n4 0 0 0 0 0 0 0 0 0 0 0 0 0 0 0 0 []) (.slice none 0 0)) := by
    have h := hG.out.set 11 (.int .u32 (n4 : Nat))
    rw [show (opA _ _).setIfInBounds 11 (.int .u32 (n4 : Nat)) = _ from op_put11 (NOp.mk d1.1 d1.2 v2 n3 0 0 0 0 0 0 0 0 0 0 0 0 0 0 0 0 0 []) (.slice none 0 0) HV8.out _] at h
    exact h
  replace hG := Lib.hid hG1
  clear hG1
  generalize W8.setCell ⟨w.heap.size + 1 + 1 + 1, 11, none⟩ (.int .u32 (n4 : Nat)) = W9 at *
  refine reg_begin_ (fun W => W.cell? ⟨w.heap.size + 1 + 1, 0, none⟩ = some (.pointer (some ⟨w.heap.size + 1, 0, none⟩))) (by kernel_rfl) ?_
  intro A hA
  have h4 : A.eval (.tmp 4) = .pointer (some ⟨w.heap.size + 1 + 1, 0, none⟩) := by rw [hA]; rfl
  have h5 : A.eval (.tmp 5) = .func (.func 37) #[] #[.pointer (some ⟨w.heap.size + 1 + 1, 0, none⟩)] := by rw [hA]; rfl
  have h6 : A.eval (.tmp 6) = .func (.func 39) #[] #[.pointer (some ⟨w.heap.size + 1 + 1, 0, none⟩)] := by rw [hA]; rfl
  have h7 : A.eval (.tmp 7) = .pointer (some ⟨w.heap.size + 1 + 1 + 1, 0, none⟩) := by rw [hA]; rfl
  have hsz : A.tmps.size = 87 := by rw [hA]; rfl
  have hG := Lib.hid (GoW.drew hG.out)
  have hS := hG.out.box
  have hA := Lib.hid hA
  refine reg_take (some 27) (i := 0) (.pointer (some ⟨w.heap.size + 1, 0, none⟩)) rfl rfl (by kernel_rfl) (fun _ _ _ h => h) (by rfl) (fun W hW => exec_load1 68 _ rfl h4 (ld86 hW)) hS ?_
  refine reg_take (some 29) (i := 2) (.func (.func 37) #[] #[.pointer (some ⟨w.heap.size + 1 + 1, 0, none⟩)]) rfl rfl (by kernel_rfl) (fun _ _ _ h => h) (by rfl) (fun W hW => exec_move _ rfl (ev_ne (by rfl) h5)) hS ?_
  refine reg_take (some 31) (i := 4) (.pointer (some ⟨w.heap.size + 1, 0, none⟩)) rfl rfl (by kernel_rfl) (fun _ _ _ h => h) (by rfl) (fun W hW => exec_load1 68 _ rfl (ev_ne (by rfl) (ev_ne (by rfl) h4)) (ld86 hW)) hS ?_
  refine reg_call (some 28) (i := 1) rfl rfl (by kernel_rfl) (by rfl) (exec_call0 rfl rfl (map1 (ev_ne (by rfl) (ev_ne (by rfl) (ev_eq (by (try simp only [Act.size_put]); rw [hsz]; decide))))) en67) ?_
  refine (C5.out _ hG.out.rd).mono ?_
  rintro _ W10 ⟨rfl, hr⟩
  replace hG := Lib.hid (GoW.rdd hG.out hr)
  clear hr hS
  have hS := hG.out.box
  refine ⟨_, rfl, hS, ?_⟩
  refine reg_take (some 33) (i := 6) (.pointer (some ⟨w.heap.size + 1 + 1 + 1, 12, none⟩)) rfl rfl (by kernel_rfl) (fun _ _ _ h => h) (by rfl) (fun W hW => exec_addr 30 _ 4 rfl (ev_ne (by rfl) (ev_ne (by rfl) (ev_ne (by rfl) (ev_ne (by rfl) h7)))) (fa4)) hS ?_
  refine reg_call (some 30) (i := 3) rfl rfl (by kernel_rfl) (by rfl) (exec_callc rfl (ev_ne (by rfl) (ev_ne (by rfl) (ev_ne (by rfl) (ev_eq (by (try simp only [Act.size_put]); rw [hsz]; decide))))) en130) ?_
  refine (C6.out _ hG.out.rd hG.out.kb).mono ?_
  rintro _ W11 ⟨rfl, hr⟩
  replace hG := Lib.hid (GoW.rdd hG.out hr)
  clear hr hS
  have hS := hG.out.box
  refine ⟨_, rfl, hS, ?_⟩
  refine reg_call (some 32) (i := 5) rfl rfl (by kernel_rfl) (by rfl) (exec_call0 rfl rfl (map1 (ev_ne (by rfl) (ev_ne (by rfl) (ev_ne (by rfl) (ev_eq (by (try simp only [Act.size_put]); rw [hsz]; decide)))))) en67) ?_
  refine (C7.out _ hG.out.rd).mono ?_
  rintro _ W12 ⟨rfl, hr⟩
  replace hG := Lib.hid (GoW.rdd hG.out hr)
  clear hr hS
  have hS := hG.out.box
  refine ⟨_, rfl, hS, ?_⟩
  have hG1 : GoW w (W12.setCells (w.heap.size + 1 + 1 + 1) 12 (#[.int .u8 (d5.1 : Nat), .int .u32 (d5.2 : Nat)] : Array Value).toList) s7 (opA (NOp.mk d1.1 d1.2 v2 n3 n4 d5.1 d5.2 0 0 0 0 0 0 0 0 0 0 0 0 0 0 []) (.slice none 0 0)) := by
    have h := hG.out.sets 12 (#[.int .u8 (d5.1 : Nat), .int .u32 (d5.2 : Nat)] : Array Value).toList
    rw [show putAt (opA _ _) 12 (#[.int .u8 (d5.1 : Nat), .int .u32 (d5.2 : Nat)] : Array Value).toList = _ from op_put12 (NOp.mk d1.1 d1.2 v2 n3 n4 0 0 0 0 0 0 0 0 0 0 0 0 0 0 0 0 []) (.slice none 0 0) HV8.out _ _] at h
    exact h
  refine reg_skip none (i := 7) rfl rfl (by kernel_rfl) (by rfl) (exec_store_mid 24 _ _ rfl (ev_ne (by rfl) (ev_ne (by rfl) (ev_eq (by (try simp only [Act.size_put]); rw [hsz]; decide)))) (ev_ne (by rfl) (ev_ne (by rfl) (ev_ne (by rfl) (ev_eq (by (try simp only [Act.size_put]); rw [hsz]; decide))))) hG.out.ko (by rw [opA_size (NOp.mk d1.1 d1.2 v2 n3 n4 0 0 0 0 0 0 0 0 0 0 0 0 0 0 0 0 []) (.slice none 0 0) HV8.out]; simp) (size82) (by simp [Value.oneCell'])) hG1.box ?_
  replace hG := Lib.hid hG1
  clear hG1 hS
  have hS := hG.out.box
  generalize W12.setCells (w.heap.size + 1 + 1 + 1) 12 (#[.int .u8 (d5.1 : Nat), .int .u32 (d5.2 : Nat)] : Array Value).toList = W13 at *
  refine reg_take (some 34) (i := 8) (.pointer (some ⟨w.heap.size + 1 + 1 + 1, 14, none⟩)) rfl rfl (by kernel_rfl) (fun _ _ _ h => h) (by rfl) (fun W hW => exec_addr 30 _ 5 rfl (ev_none (ev_ne (by rfl) (ev_ne (by rfl) (ev_ne (by rfl) (ev_ne (by rfl) (ev_ne (by rfl) (ev_ne (by rfl) (ev_ne (by rfl) h7)))))))) (fa5)) hS ?_
  have hG1 : GoW w (W13.setCell ⟨w.heap.size + 1 + 1 + 1, 14, none⟩ (.int .u8 (n6 : Nat))) s7 (opA (NOp.mk d1.1 d1.2 v2 n3 n4 d5.1 d5.2 n6 0 0 0 0 0 0 0 0 0 0 0 0 0 []) (.slice none 0 0)) := by
    have h := hG.out.set 14 (.int .u8 (n6 : Nat))
    rw [show (opA _ _).setIfInBounds 14 (.int .u8 (n6 : Nat)) = _ from op_put14 (NOp.mk d1.1 d1.2 v2 n3 n4 d5.1 d5.2 0 0 0 0 0 0 0 0 0 0 0 0 0 0 []) (.slice none 0 0) HV8.out _] at h
    exact h
  refine reg_skip none (i := 9) rfl rfl (by kernel_rfl) (by rfl) (exec_store1 5 _ _ rfl (ev_eq (by (try simp only [Act.size_put]); rw [hsz]; decide)) (ev_ne (by rfl) (ev_none (ev_ne (by rfl) (ev_eq (by (try simp only [Act.size_put]); rw [hsz]; decide))))) (st5 ((hG.out.ko.cell 14).trans (op_c14 (NOp.mk d1.1 d1.2 v2 n3 n4 d5.1 d5.2 0 0 0 0 0 0 0 0 0 0 0 0 0 0 []) (.slice none 0 0) HV8.out)) (hG.out.ko.frozen 14))) hG1.box ?_
  replace hG := Lib.hid hG1
  clear hG1 hS
  have hS := hG.out.box
  generalize W13.setCell ⟨w.heap.size + 1 + 1 + 1, 14, none⟩ (.int .u8 (n6 : Nat)) = W14 at *
  refine reg_take (some 35) (i := 10) (.pointer (some ⟨w.heap.size + 1 + 1 + 1, 15, none⟩)) rfl rfl (by kernel_rfl) (fun _ _ _ h => h) (by rfl) (fun W hW => exec_addr 30 _ 6 rfl (ev_none (ev_ne (by rfl) (ev_none (ev_ne (by rfl) (ev_ne (by rfl) (ev_ne (by rfl) (ev_ne (by rfl) (ev_ne (by rfl) (ev_ne (by rfl) (ev_ne (by rfl) h7)))))))))) (fa6)) hS ?_
  have hG1 : GoW w (W14.setCells (w.heap.size + 1 + 1 + 1) 15 (#[.int .u8 (d7.1 : Nat), .int .u32 (d7.2 : Nat)] : Array Value).toList) s7 (opA (NOp.mk d1.1 d1.2 v2 n3 n4 d5.1 d5.2 n6 d7.1 d7.2 0 0 0 0 0 0 0 0 0 0 0 []) (.slice none 0 0)) := by
    have h := hG.out.sets 15 (#[.int .u8 (d7.1 : Nat), .int .u32 (d7.2 : Nat)] : Array Value).toList
    rw [show putAt (opA _ _) 15 (#[.int .u8 (d7.1 : Nat), .int .u32 (d7.2 : Nat)] : Array Value).toList = _ from op_put15 (NOp.mk d1.1 d1.2 v2 n3 n4 d5.1 d5.2 n6 0 0 0 0 0 0 0 0 0 0 0 0 0 []) (.slice none 0 0) HV8.out _ _] at h
    exact h
  refine reg_skip none (i := 11) rfl rfl (by kernel_rfl) (by rfl) (exec_store_mid 24 _ _ rfl (ev_eq (by (try simp only [Act.size_put]); rw [hsz]; decide)) (ev_ne (by rfl) (ev_none (ev_ne (by rfl) (ev_none (ev_eq (by (try simp only [Act.size_put]); rw [hsz]; decide)))))) hG.out.ko (by rw [opA_size (NOp.mk d1.1 d1.2 v2 n3 n4 d5.1 d5.2 n6 0 0 0 0 0 0 0 0 0 0 0 0 0 []) (.slice none 0 0) HV8.out]; simp) (size82) (by simp [Value.oneCell'])) hG1.box ?_
  replace hG := Lib.hid hG1
  clear hG1 hS
  have hS := hG.out.box
  generalize W14.setCells (w.heap.size + 1 + 1 + 1) 15 (#[.int .u8 (d7.1 : Nat), .int .u32 (d7.2 : Nat)] : Array Value).toList = W15 at *
  refine reg_end (by kernel_rfl) ?_
  have hA := hA.out
  subst hA
  simp only [Act.put, List.setIfInBounds_toArray, List.set_cons_zero, List.set_cons_succ]
  clear hS h4 h5 h6 h7 hsz
  go_wp2_with fail
  refine reg_begin_ (fun W => W.cell? ⟨w.heap.size + 1 + 1, 0, none⟩ = some (.pointer (some ⟨w.heap.size + 1, 0, none⟩))) (by kernel_rfl) ?_
  intro A hA
  have h4 : A.eval (.tmp 4) = .pointer (some ⟨w.heap.size + 1 + 1, 0, none⟩) := by rw [hA]; rfl
  have h5 : A.eval (.tmp 5) = .func (.func 37) #[] #[.pointer (some ⟨w.heap.size + 1 + 1, 0, none⟩)] := by rw [hA]; rfl
  have h6 : A.eval (.tmp 6) = .func (.func 39) #[] #[.pointer (some ⟨w.heap.size + 1 + 1, 0, none⟩)] := by rw [hA]; rfl
  have h7 : A.eval (.tmp 7) = .pointer (some ⟨w.heap.size + 1 + 1 + 1, 0, none⟩) := by rw [hA]; rfl
  have hsz : A.tmps.size = 87 := by rw [hA]; rfl
  have hG := Lib.hid (GoW.drew hG.out)
  have hS := hG.out.box
  have hA := Lib.hid hA
  refine reg_take (some 36) (i := 0) (.func (.func 39) #[] #[.pointer (some ⟨w.heap.size + 1 + 1, 0, none⟩)]) rfl rfl (by kernel_rfl) (fun _ _ _ h => h) (by rfl) (fun W hW => exec_move _ rfl h6) hS ?_
  refine reg_take (some 38) (i := 2) (.func (.func 37) #[] #[.pointer (some ⟨w.heap.size + 1 + 1, 0, none⟩)]) rfl rfl (by kernel_rfl) (fun _ _ _ h => h) (by rfl) (fun W hW => exec_move _ rfl (ev_ne (by rfl) h5)) hS ?_
  refine reg_take (some 40) (i := 4) (.func (.func 37) #[] #[.pointer (some ⟨w.heap.size + 1 + 1, 0, none⟩)]) rfl rfl (by kernel_rfl) (fun _ _ _ h => h) (by rfl) (fun W hW => exec_move _ rfl (ev_ne (by rfl) (ev_ne (by rfl) h5))) hS ?_
  refine reg_take (some 42) (i := 6) (.pointer (some ⟨w.heap.size + 1, 0, none⟩)) rfl rfl (by kernel_rfl) (fun _ _ _ h => h) (by rfl) (fun W hW => exec_load1 68 _ rfl (ev_ne (by rfl) (ev_ne (by rfl) (ev_ne (by rfl) h4))) (ld86 hW)) hS ?_
  refine reg_call (some 37) (i := 1) rfl rfl (by kernel_rfl) (by rfl) (exec_callc rfl (ev_ne (by rfl) (ev_ne (by rfl) (ev_ne (by rfl) (ev_eq (by (try simp only [Act.size_put]); rw [hsz]; decide))))) en131) ?_
  refine (C8.out _ hG.out.rd hG.out.kb).mono ?_
  rintro _ W16 ⟨rfl, hr⟩
  replace hG := Lib.hid (GoW.rdd hG.out hr)
  clear hr hS
  have hS := hG.out.box
  refine ⟨_, rfl, hS, ?_⟩
  refine reg_take (some 44) (i := 8) (.pointer (some ⟨w.heap.size + 1 + 1 + 1, 17, none⟩)) rfl rfl (by kernel_rfl) (fun _ _ _ h => h) (by rfl) (fun W hW => exec_addr 30 _ 7 rfl (ev_ne (by rfl) (ev_ne (by rfl) (ev_ne (by rfl) (ev_ne (by rfl) (ev_ne (by rfl) h7))))) (fa7)) hS ?_
  refine reg_call (some 39) (i := 3) rfl rfl (by kernel_rfl) (by rfl) (exec_callc rfl (ev_ne (by rfl) (ev_ne (by rfl) (ev_ne (by rfl) (ev_ne (by rfl) (ev_eq (by (try simp only [Act.size_put]); rw [hsz]; decide)))))) en130) ?_
  refine (C9.out _ hG.out.rd hG.out.kb).mono ?_
  rintro _ W17 ⟨rfl, hr⟩
  replace hG := Lib.hid (GoW.rdd hG.out hr)
  clear hr hS
  have hS := hG.out.box
  refine ⟨_, rfl, hS, ?_⟩
  refine reg_call (some 41) (i := 5) rfl rfl (by kernel_rfl) (by rfl) (exec_callc rfl (ev_ne (by rfl) (ev_ne (by rfl) (ev_ne (by rfl) (ev_ne (by rfl) (ev_eq (by (try simp only [Act.size_put]); rw [hsz]; decide)))))) en130) ?_
  refine (C10.out _ hG.out.rd hG.out.kb).mono ?_
  rintro _ W18 ⟨rfl, hr⟩
  replace hG := Lib.hid (GoW.rdd hG.out hr)
  clear hr hS
  have hS := hG.out.box
  refine ⟨_, rfl, hS, ?_⟩
  refine reg_call (some 43) (i := 7) rfl rfl (by kernel_rfl) (by rfl) (exec_call0 rfl rfl (map2 (ev_ne (by rfl) (ev_ne (by rfl) (ev_ne (by rfl) (ev_ne (by rfl) (ev_eq (by (try simp only [Act.size_put]); rw [hsz]; decide)))))) rfl) en65) ?_
  refine (C11.out _ hG.out.rd).mono ?_
  rintro _ W19 ⟨rfl, hr⟩
  replace hG := Lib.hid (GoW.rdd hG.out hr)
  clear hr hS
  have hS := hG.out.box
  refine ⟨_, rfl, hS, ?_⟩
  have hG1 : GoW w (W19.setCell ⟨w.heap.size + 1 + 1 + 1, 17, none⟩ (.int .u32 (n8 : Nat))) s11 (opA (NOp.mk d1.1 d1.2 v2 n3 n4 d5.1 d5.2 n6 d7.1 d7.2 n8 0 0 0 0 0 0 0 0 0 0 []) (.slice none 0 0)) := by
    have h := hG.out.set 17 (.int .u32 (n8 : Nat))
    rw [show (opA _ _).setIfInBounds 17 (.int .u32 (n8 : Nat)) = _ from op_put17 (NOp.mk d1.1 d1.2 v2 n3 n4 d5.1 d5.2 n6 d7.1 d7.2 0 0 0 0 0 0 0 0 0 0 0 []) (.slice none 0 0) HV8.out _] at h
    exact h
  refine reg_skip none (i := 9) rfl rfl (by kernel_rfl) (by rfl) (exec_store1 22 _ _ rfl (ev_ne (by rfl) (ev_ne (by rfl) (ev_ne (by rfl) (ev_eq (by (try simp only [Act.size_put]); rw [hsz]; decide))))) (ev_ne (by rfl) (ev_ne (by rfl) (ev_ne (by rfl) (ev_ne (by rfl) (ev_eq (by (try simp only [Act.size_put]); rw [hsz]; decide)))))) (st22 ((hG.out.ko.cell 17).trans (op_c17 (NOp.mk d1.1 d1.2 v2 n3 n4 d5.1 d5.2 n6 d7.1 d7.2 0 0 0 0 0 0 0 0 0 0 0 []) (.slice none 0 0) HV8.out)) (hG.out.ko.frozen 17))) hG1.box ?_
  replace hG := Lib.hid hG1
  clear hG1 hS
  have hS := hG.out.box
  generalize W19.setCell ⟨w.heap.size + 1 + 1 + 1, 17, none⟩ (.int .u32 (n8 : Nat)) = W20 at *
  refine reg_take (some 45) (i := 10) (.pointer (some ⟨w.heap.size + 1 + 1 + 1, 18, none⟩)) rfl rfl (by kernel_rfl) (fun _ _ _ h => h) (by rfl) (fun W hW => exec_addr 30 _ 8 rfl (ev_none (ev_ne (by rfl) (ev_ne (by rfl) (ev_ne (by rfl) (ev_ne (by rfl) (ev_ne (by rfl) (ev_ne (by rfl) (ev_ne (by rfl) (ev_ne (by rfl) (ev_ne (by rfl) h7)))))))))) (fa8)) hS ?_
  have hG1 : GoW w (W20.setCell ⟨w.heap.size + 1 + 1 + 1, 18, none⟩ (.int .u8 (n9 : Nat))) s11 (opA (NOp.mk d1.1 d1.2 v2 n3 n4 d5.1 d5.2 n6 d7.1 d7.2 n8 n9 0 0 0 0 0 0 0 0 0 []) (.slice none 0 0)) := by
    have h := hG.out.set 18 (.int .u8 (n9 : Nat))
    rw [show (opA _ _).setIfInBounds 18 (.int .u8 (n9 : Nat)) = _ from op_put18 (NOp.mk d1.1 d1.2 v2 n3 n4 d5.1 d5.2 n6 d7.1 d7.2 n8 0 0 0 0 0 0 0 0 0 0 []) (.slice none 0 0) HV8.out _] at h
    exact h
  refine reg_skip none (i := 11) rfl rfl (by kernel_rfl) (by rfl) (exec_store1 5 _ _ rfl (ev_eq (by (try simp only [Act.size_put]); rw [hsz]; decide)) (ev_ne (by rfl) (ev_none (ev_ne (by rfl) (ev_ne (by rfl) (ev_eq (by (try simp only [Act.size_put]); rw [hsz]; decide)))))) (st5 ((hG.out.ko.cell 18).trans (op_c18 (NOp.mk d1.1 d1.2 v2 n3 n4 d5.1 d5.2 n6 d7.1 d7.2 n8 0 0 0 0 0 0 0 0 0 0 []) (.slice none 0 0) HV8.out)) (hG.out.ko.frozen 18))) hG1.box ?_
  replace hG := Lib.hid hG1
  clear hG1 hS
  have hS := hG.out.box
  generalize W20.setCell ⟨w.heap.size + 1 + 1 + 1, 18, none⟩ (.int .u8 (n9 : Nat)) = W21 at *
  refine reg_take (some 46) (i := 12) (.pointer (some ⟨w.heap.size + 1 + 1 + 1, 19, none⟩)) rfl rfl (by kernel_rfl) (fun _ _ _ h => h) (by rfl) (fun W hW => exec_addr 30 _ 9 rfl (ev_none (ev_ne (by rfl) (ev_none (ev_ne (by rfl) (ev_ne (by rfl) (ev_ne (by rfl) (ev_ne (by rfl) (ev_ne (by rfl) (ev_ne (by rfl) (ev_ne (by rfl) (ev_ne (by rfl) (ev_ne (by rfl) h7)))))))))))) (fa9)) hS ?_
  have hG1 : GoW w (W21.setCell ⟨w.heap.size + 1 + 1 + 1, 19, none⟩ (.int .u8 (n10 : Nat))) s11 (opA (NOp.mk d1.1 d1.2 v2 n3 n4 d5.1 d5.2 n6 d7.1 d7.2 n8 n9 n10 0 0 0 0 0 0 0 0 []) (.slice none 0 0)) := by
    have h := hG.out.set 19 (.int .u8 (n10 : Nat))
    rw [show (opA _ _).setIfInBounds 19 (.int .u8 (n10 : Nat)) = _ from op_put19 (NOp.mk d1.1 d1.2 v2 n3 n4 d5.1 d5.2 n6 d7.1 d7.2 n8 n9 0 0 0 0 0 0 0 0 0 []) (.slice none 0 0) HV8.out _] at h
    exact h
  refine reg_skip none (i := 13) rfl rfl (by kernel_rfl) (by rfl) (exec_store1 5 _ _ rfl (ev_eq (by (try simp only [Act.size_put]); rw [hsz]; decide)) (ev_ne (by rfl) (ev_none (ev_ne (by rfl) (ev_none (ev_ne (by rfl) (ev_eq (by (try simp only [Act.size_put]); rw [hsz]; decide))))))) (st5 ((hG.out.ko.cell 19).trans (op_c19 (NOp.mk d1.1 d1.2 v2 n3 n4 d5.1 d5.2 n6 d7.1 d7.2 n8 n9 0 0 0 0 0 0 0 0 0 []) (.slice none 0 0) HV8.out)) (hG.out.ko.frozen 19))) hG1.box ?_
  replace hG := Lib.hid hG1
  clear hG1 hS
  have hS := hG.out.box
  generalize W21.setCell ⟨w.heap.size + 1 + 1 + 1, 19, none⟩ (.int .u8 (n10 : Nat)) = W22 at *
  refine reg_take (some 47) (i := 14) (.pointer (some ⟨w.heap.size + 1 + 1 + 1, 20, none⟩)) rfl rfl (by kernel_rfl) (fun _ _ _ h => h) (by rfl) (fun W hW => exec_addr 30 _ 10 rfl (ev_none (ev_ne (by rfl) (ev_none (ev_ne (by rfl) (ev_none (ev_ne (by rfl) (ev_ne (by rfl) (ev_ne (by rfl) (ev_ne (by rfl) (ev_ne (by rfl) (ev_ne (by rfl) (ev_ne (by rfl) (ev_ne (by rfl) (ev_ne (by rfl) h7)))))))))))))) (fa10)) hS ?_
  have hG1 : GoW w (W22.setCell ⟨w.heap.size + 1 + 1 + 1, 20, none⟩ (.int .u64 (n11 : Nat))) s11 (opA (NOp.mk d1.1 d1.2 v2 n3 n4 d5.1 d5.2 n6 d7.1 d7.2 n8 n9 n10 n11 0 0 0 0 0 0 0 []) (.slice none 0 0)) := by
    have h := hG.out.set 20 (.int .u64 (n11 : Nat))
    rw [show (opA _ _).setIfInBounds 20 (.int .u64 (n11 : Nat)) = _ from op_put20 (NOp.mk d1.1 d1.2 v2 n3 n4 d5.1 d5.2 n6 d7.1 d7.2 n8 n9 n10 0 0 0 0 0 0 0 0 []) (.slice none 0 0) HV8.out _] at h
    exact h
  refine reg_skip none (i := 15) rfl rfl (by kernel_rfl) (by rfl) (exec_store1 27 _ _ rfl (ev_eq (by (try simp only [Act.size_put]); rw [hsz]; decide)) (ev_ne (by rfl) (ev_none (ev_ne (by rfl) (ev_none (ev_ne (by rfl) (ev_none (ev_eq (by (try simp only [Act.size_put]); rw [hsz]; decide)))))))) (st80 ((hG.out.ko.cell 20).trans (op_c20 (NOp.mk d1.1 d1.2 v2 n3 n4 d5.1 d5.2 n6 d7.1 d7.2 n8 n9 n10 0 0 0 0 0 0 0 0 []) (.slice none 0 0) HV8.out)) (hG.out.ko.frozen 20))) hG1.box ?_
  replace hG := Lib.hid hG1
  clear hG1 hS
  have hS := hG.out.box
  generalize W22.setCell ⟨w.heap.size + 1 + 1 + 1, 20, none⟩ (.int .u64 (n11 : Nat)) = W23 at *
  refine reg_end (by kernel_rfl) ?_
  have hA := hA.out
  subst hA
  simp only [Act.put, List.setIfInBounds_toArray, List.set_cons_zero, List.set_cons_succ]
  clear hS h4 h5 h6 h7 hsz
  go_wp2_with fail
  refine reg_begin_ (fun W => W.cell? ⟨w.heap.size + 1 + 1, 0, none⟩ = some (.pointer (some ⟨w.heap.size + 1, 0, none⟩))) (by kernel_rfl) ?_
  intro A hA
  have h4 : A.eval (.tmp 4) = .pointer (some ⟨w.heap.size + 1 + 1, 0, none⟩) := by rw [hA]; rfl
  have h5 : A.eval (.tmp 5) = .func (.func 37) #[] #[.pointer (some ⟨w.heap.size + 1 + 1, 0, none⟩)] := by rw [hA]; rfl
  have h6 : A.eval (.tmp 6) = .func (.func 39) #[] #[.pointer (some ⟨w.heap.size + 1 + 1, 0, none⟩)] := by rw [hA]; rfl
  have h7 : A.eval (.tmp 7) = .pointer (some ⟨w.heap.size + 1 + 1 + 1, 0, none⟩) := by rw [hA]; rfl
  have hsz : A.tmps.size = 87 := by rw [hA]; rfl
  have hG := Lib.hid (GoW.drew hG.out)
  have hS := hG.out.box
  have hA := Lib.hid hA
  refine reg_take (some 48) (i := 0) (.pointer (some ⟨w.heap.size + 1, 0, none⟩)) rfl rfl (by kernel_rfl) (fun _ _ _ h => h) (by rfl) (fun W hW => exec_load1 68 _ rfl h4 (ld86 hW)) hS ?_
  refine reg_take (some 50) (i := 2) (.pointer (some ⟨w.heap.size + 1, 0, none⟩)) rfl rfl (by kernel_rfl) (fun _ _ _ h => h) (by rfl) (fun W hW => exec_load1 68 _ rfl (ev_ne (by rfl) h4) (ld86 hW)) hS ?_
  refine reg_call (some 49) (i := 1) rfl rfl (by kernel_rfl) (by rfl) (exec_call0 rfl rfl (map1 (ev_ne (by rfl) (ev_eq (by (try simp only [Act.size_put]); rw [hsz]; decide)))) en67) ?_
  refine (C12.out _ hG.out.rd).mono ?_
  rintro _ W24 ⟨rfl, hr⟩
  replace hG := Lib.hid (GoW.rdd hG.out hr)
  clear hr hS
  have hS := hG.out.box
  refine ⟨_, rfl, hS, ?_⟩
  refine reg_take (some 52) (i := 4) (.pointer (some ⟨w.heap.size + 1 + 1 + 1, 21, none⟩)) rfl rfl (by kernel_rfl) (fun _ _ _ h => h) (by rfl) (fun W hW => exec_addr 30 _ 11 rfl (ev_ne (by rfl) (ev_ne (by rfl) (ev_ne (by rfl) h7))) (fa11)) hS ?_
  refine reg_call (some 51) (i := 3) rfl rfl (by kernel_rfl) (by rfl) (exec_call0 rfl rfl (map1 (ev_ne (by rfl) (ev_ne (by rfl) (ev_eq (by (try simp only [Act.size_put]); rw [hsz]; decide))))) en67) ?_
  refine (C13.out _ hG.out.rd).mono ?_
  rintro _ W25 ⟨rfl, hr⟩
  replace hG := Lib.hid (GoW.rdd hG.out hr)
  clear hr hS
  have hS := hG.out.box
  refine ⟨_, rfl, hS, ?_⟩
  have hG1 : GoW w (W25.setCells (w.heap.size + 1 + 1 + 1) 21 (#[.int .u8 (d12.1 : Nat), .int .u32 (d12.2 : Nat)] : Array Value).toList) s13 (opA (NOp.mk d1.1 d1.2 v2 n3 n4 d5.1 d5.2 n6 d7.1 d7.2 n8 n9 n10 n11 d12.1 d12.2 0 0 0 0 0 []) (.slice none 0 0)) := by
    have h := hG.out.sets 21 (#[.int .u8 (d12.1 : Nat), .int .u32 (d12.2 : Nat)] : Array Value).toList
    rw [show putAt (opA _ _) 21 (#[.int .u8 (d12.1 : Nat), .int .u32 (d12.2 : Nat)] : Array Value).toList = _ from op_put21 (NOp.mk d1.1 d1.2 v2 n3 n4 d5.1 d5.2 n6 d7.1 d7.2 n8 n9 n10 n11 0 0 0 0 0 0 0 []) (.slice none 0 0) HV8.out _ _] at h
    exact h
  refine reg_skip none (i := 5) rfl rfl (by kernel_rfl) (by rfl) (exec_store_mid 24 _ _ rfl (ev_ne (by rfl) (ev_eq (by (try simp only [Act.size_put]); rw [hsz]; decide))) (ev_ne (by rfl) (ev_ne (by rfl) (ev_eq (by (try simp only [Act.size_put]); rw [hsz]; decide)))) hG.out.ko (by rw [opA_size (NOp.mk d1.1 d1.2 v2 n3 n4 d5.1 d5.2 n6 d7.1 d7.2 n8 n9 n10 n11 0 0 0 0 0 0 0 []) (.slice none 0 0) HV8.out]; simp) (size82) (by simp [Value.oneCell'])) hG1.box ?_
  replace hG := Lib.hid hG1
  clear hG1 hS
  have hS := hG.out.box
  generalize W25.setCells (w.heap.size + 1 + 1 + 1) 21 (#[.int .u8 (d12.1 : Nat), .int .u32 (d12.2 : Nat)] : Array Value).toList = W26 at *
  refine reg_take (some 53) (i := 6) (.pointer (some ⟨w.heap.size + 1 + 1 + 1, 23, none⟩)) rfl rfl (by kernel_rfl) (fun _ _ _ h => h) (by rfl) (fun W hW => exec_addr 30 _ 12 rfl (ev_none (ev_ne (by rfl) (ev_ne (by rfl) (ev_ne (by rfl) (ev_ne (by rfl) (ev_ne (by rfl) h7)))))) (fa12)) hS ?_
  have hG1 : GoW w (W26.setCells (w.heap.size + 1 + 1 + 1) 23 (#[.int .u8 (d13.1 : Nat), .int .u32 (d13.2 : Nat)] : Array Value).toList) s13 (opA (NOp.mk d1.1 d1.2 v2 n3 n4 d5.1 d5.2 n6 d7.1 d7.2 n8 n9 n10 n11 d12.1 d12.2 d13.1 d13.2 0 0 0 []) (.slice none 0 0)) := by
    have h := hG.out.sets 23 (#[.int .u8 (d13.1 : Nat), .int .u32 (d13.2 : Nat)] : Array Value).toList
    rw [show putAt (opA _ _) 23 (#[.int .u8 (d13.1 : Nat), .int .u32 (d13.2 : Nat)] : Array Value).toList = _ from op_put23 (NOp.mk d1.1 d1.2 v2 n3 n4 d5.1 d5.2 n6 d7.1 d7.2 n8 n9 n10 n11 d12.1 d12.2 0 0 0 0 0 []) (.slice none 0 0) HV8.out _ _] at h
    exact h
  refine reg_skip none (i := 7) rfl rfl (by kernel_rfl) (by rfl) (exec_store_mid 24 _ _ rfl (ev_eq (by (try simp only [Act.size_put]); rw [hsz]; decide)) (ev_ne (by rfl) (ev_none (ev_eq (by (try simp only [Act.size_put]); rw [hsz]; decide)))) hG.out.ko (by rw [opA_size (NOp.mk d1.1 d1.2 v2 n3 n4 d5.1 d5.2 n6 d7.1 d7.2 n8 n9 n10 n11 d12.1 d12.2 0 0 0 0 0 []) (.slice none 0 0) HV8.out]; simp) (size82) (by simp [Value.oneCell'])) hG1.box ?_
  replace hG := Lib.hid hG1
  clear hG1 hS
  have hS := hG.out.box
  generalize W26.setCells (w.heap.size + 1 + 1 + 1) 23 (#[.int .u8 (d13.1 : Nat), .int .u32 (d13.2 : Nat)] : Array Value).toList = W27 at *
  refine reg_end (by kernel_rfl) ?_
  have hA := hA.out
  subst hA
  simp only [Act.put, List.setIfInBounds_toArray, List.set_cons_zero, List.set_cons_succ]
  clear hS h4 h5 h6 h7 hsz
  have bx := hG.out.box
  go_wp2_with fail
  refine (C14.out _ hG.out.rd hG.out.kb).mono ?_
  rintro e W28 ⟨rfl, hr⟩
  replace hG := Lib.hid (GoW.rdd hG.out hr)
  clear hr bx
  have bx := hG.out.box
  go_wp2_with fail
  refine (C15.out _ hG.out.rd hG.out.kb).mono ?_
  rintro e W29 ⟨rfl, hr⟩
  replace hG := Lib.hid (GoW.rdd hG.out hr)
  clear hr bx
  have bx := hG.out.box
  go_wp2_with fail
  refine (C16.out _ hG.out.rd hG.out.kb).mono ?_
  rintro e W30 ⟨rfl, hr⟩
  replace hG := Lib.hid (GoW.rdd hG.out hr)
  clear hr bx
  have bx := hG.out.box
  have c25 := (hG.out.ko.cell 25).trans (op_c25 (NOp.mk d1.1 d1.2 v2 n3 n4 d5.1 d5.2 n6 d7.1 d7.2 n8 n9 n10 n11 d12.1 d12.2 d13.1 d13.2 0 0 0 []) (.slice none 0 0) HV8.out)
  have z25 := hG.out.ko.frozen 25
  have c26 := (hG.out.ko.cell 26).trans (op_c26 (NOp.mk d1.1 d1.2 v2 n3 n4 d5.1 d5.2 n6 d7.1 d7.2 n8 n9 n10 n11 d12.1 d12.2 d13.1 d13.2 0 0 0 []) (.slice none 0 0) HV8.out)
  have z26 := hG.out.ko.frozen 26
  have c27 := (hG.out.ko.cell 27).trans (op_c27 (NOp.mk d1.1 d1.2 v2 n3 n4 d5.1 d5.2 n6 d7.1 d7.2 n8 n9 n10 n11 d12.1 d12.2 d13.1 d13.2 0 0 0 []) (.slice none 0 0) HV8.out)
  have z27 := hG.out.ko.frozen 27
  go_wp2_with fail
  clear bx c25 z25 c26 z26 c27 z27
  have hG1 : GoW w (W30.setCell ⟨w.heap.size + 1 + 1 + 1, 25, none⟩ (.int .u32 (n14 : Nat))) s16 (opA (NOp.mk d1.1 d1.2 v2 n3 n4 d5.1 d5.2 n6 d7.1 d7.2 n8 n9 n10 n11 d12.1 d12.2 d13.1 d13.2 n14 0 0 []) (.slice none 0 0)) := by
    have h := hG.out.set 25 (.int .u32 (n14 : Nat))
    rw [show (opA _ _).setIfInBounds 25 (.int .u32 (n14 : Nat)) = _ from op_put25 (NOp.mk d1.1 d1.2 v2 n3 n4 d5.1 d5.2 n6 d7.1 d7.2 n8 n9 n10 n11 d12.1 d12.2 d13.1 d13.2 0 0 0 []) (.slice none 0 0) HV8.out _] at h
    exact h
  replace hG := Lib.hid hG1
  clear hG1
  generalize W30.setCell ⟨w.heap.size + 1 + 1 + 1, 25, none⟩ (.int .u32 (n14 : Nat)) = W31 at *
  have hG1 : GoW w (W31.setCell ⟨w.heap.size + 1 + 1 + 1, 26, none⟩ (.int .u32 (n15 : Nat))) s16 (opA (NOp.mk d1.1 d1.2 v2 n3 n4 d5.1 d5.2 n6 d7.1 d7.2 n8 n9 n10 n11 d12.1 d12.2 d13.1 d13.2 n14 n15 0 []) (.slice none 0 0)) := by
    have h := hG.out.set 26 (.int .u32 (n15 : Nat))
    rw [show (opA _ _).setIfInBounds 26 (.int .u32 (n15 : Nat)) = _ from op_put26 (NOp.mk d1.1 d1.2 v2 n3 n4 d5.1 d5.2 n6 d7.1 d7.2 n8 n9 n10 n11 d12.1 d12.2 d13.1 d13.2 n14 0 0 []) (.slice none 0 0) HV8.out _] at h
    exact h
  replace hG := Lib.hid hG1
  clear hG1
  generalize W31.setCell ⟨w.heap.size + 1 + 1 + 1, 26, none⟩ (.int .u32 (n15 : Nat)) = W32 at *
  have hG1 : GoW w (W32.setCell ⟨w.heap.size + 1 + 1 + 1, 27, none⟩ (.int .u32 (n16 : Nat))) s16 (opA (NOp.mk d1.1 d1.2 v2 n3 n4 d5.1 d5.2 n6 d7.1 d7.2 n8 n9 n10 n11 d12.1 d12.2 d13.1 d13.2 n14 n15 n16 []) (.slice none 0 0)) := by
    have h := hG.out.set 27 (.int .u32 (n16 : Nat))
    rw [show (opA _ _).setIfInBounds 27 (.int .u32 (n16 : Nat)) = _ from op_put27 (NOp.mk d1.1 d1.2 v2 n3 n4 d5.1 d5.2 n6 d7.1 d7.2 n8 n9 n10 n11 d12.1 d12.2 d13.1 d13.2 n14 n15 0 []) (.slice none 0 0) HV8.out _] at h
    exact h
  replace hG := Lib.hid hG1
  clear hG1
  generalize W32.setCell ⟨w.heap.size + 1 + 1 + 1, 27, none⟩ (.int .u32 (n16 : Nat)) = W33 at *
  have bx := hG.out.box
  go_wp2_with fail
  refine (C17.out _ hG.out.rd).mono ?_
  rintro e W34 ⟨rfl, hr⟩
  replace hG := Lib.hid (GoW.rdd hG.out hr)
  clear hr bx
  have bx := hG.out.box
  go_wp2_with fail
  obtain ⟨i0, hi, hz0, hz1, hz2⟩ := info_parts info177
  have HI := Lib.hid (And.intro hi (And.intro hz0 (And.intro hz1 hz2)))
  clear hi hz0 hz1 hz2 bx C1 C2 C3 C4 C5 C6 C7 C8 C9 C10 C11 C12 C13 C14 C15 C16 C17 hl
  go_loopw [8, 9] (fun n p wr => ∃ (k m : Nat) (lv : Value), k + m = n17 ∧ n = .int .u64 (m : Int) ∧ GoW w wr (rdLines s17 k).2 (opA (NOp.mk d1.1 d1.2 v2 n3 n4 d5.1 d5.2 n6 d7.1 d7.2 n8 n9 n10 n11 d12.1 d12.2 d13.1 d13.2 n14 n15 n16 []) lv) ∧ Tran.Own wr (w.heap.size + 1 + 1 + 1 + 1) 63 4 lv k ((rdLines s17 k).1.flatMap claimF)) (fun n _ _ => (intOf n).toNat)
  case atStart => exact ⟨0, n17, _, by omega, rfl, hG.out, Tran.Own.nil _ _ _ _⟩
  case round =>
    obtain ⟨k, m, lv, hkm, rfl, hG2, hO2⟩ := hrel
    replace hG := Lib.hid hG2
    have hO := Lib.hid hO2
    clear hG2 hO2
    have h16 := H16.out
    by_cases hm : 0 < m
    · have hd0 : decide ((0 : Int) < (m : Int)) = true := decide_eq_true (by omega)
      have hw1 : IntKind.u64.wrap ((m : Int) - 1) = ((m - 1 : Nat) : Int) := by rw [IntWalk.u64_in _ (by omega)]; omega
      have HS1 := Lib.hid (show rdLines s17 (k + 1) = ((rdLines s17 k).1 ++ [rdClaim (rdLines s17 k).2], rdClaimS (rdLines s17 k).2) from rfl)
      have bx := hG.out.box
      generalize (rdLines s17 k).1 = ls at *
      generalize (rdLines s17 k).2 = st at *
      go_wp2_with fail
      refine (rdot_c hG.out.rd ⟨rfl, rfl⟩).mono ?_
      rintro e Wa ⟨rfl, hr⟩
      have hO := Lib.hid (hO.out.chg hr.ch (fun g hg e => by have := (hO.out.lt g hg).1; injection e with e; injection e with e; omega))
      replace hG := Lib.hid (GoW.rdd hG.out hr)
      clear hr bx
      have hgl : w.heap.size + 1 + 1 + 1 < Wa.heap.size := hG.out.ko.lt
      go_wp2_with fail
      have hD := Lib.hid (Blk.new Wa 24 (#[.int .u8 ((dotZ st).1 : Nat), .int .u32 ((dotZ st).2 : Nat)] : Array Value))
      have hba := (Below.refl Wa.heap.size Wa).alloc (Nat.le_refl _) (.cells #[.int .u8 ((dotZ st).1 : Nat), .int .u32 ((dotZ st).2 : Nat)] 24)
      have hO := Lib.hid (hO.out.below hba (Nat.le_refl _))
      replace hG := Lib.hid (hG.out.below hba)
      clear hba
      obtain ⟨gl, hgl2⟩ : ∃ gl, Wa.heap.size = gl := ⟨_, rfl⟩
      rw [hgl2] at hD hgl ⊢
      clear hgl2
      generalize Wa.alloc (.cells #[.int .u8 ((dotZ st).1 : Nat), .int .u32 ((dotZ st).2 : Nat)] 24) = Wb at *
      have HGL := Lib.hid hgl
      refine reg_begin_ (fun W => W.cell? ⟨w.heap.size + 1 + 1, 0, none⟩ = some (.pointer (some ⟨w.heap.size + 1, 0, none⟩)) ∧ W.cell? ⟨gl, 0, none⟩ = some (.int .u8 ((dotZ st).1 : Nat)) ∧ W.cell? ⟨gl, 1, none⟩ = some (.int .u32 ((dotZ st).2 : Nat))) (by kernel_rfl) ?_
      intro A hA
      have h4 : A.eval (.tmp 4) = .pointer (some ⟨w.heap.size + 1 + 1, 0, none⟩) := by rw [hA]; rfl
      have h7 : A.eval (.tmp 7) = .pointer (some ⟨w.heap.size + 1 + 1 + 1, 0, none⟩) := by rw [hA]; rfl
      have h9 : A.eval (.tmp 9) = .pointer (some ⟨gl, 0, none⟩) := by rw [hA]; rfl
      have hsz : A.tmps.size = 87 := by rw [hA]; rfl
      replace hG := Lib.hid (GoW.drew hG.out)
      replace hO := Lib.hid (Tran.Own.drew hO.out)
      replace hD := Lib.hid (Blk.drew hD.out)
      have hS := And.intro hG.out.box (And.intro (hD.out.cell 0) (hD.out.cell 1))
      have hA := Lib.hid hA
      refine reg_take (some 71) (i := 0) (.pointer (some ⟨w.heap.size + 1 + 1 + 1, 28, none⟩)) rfl rfl (by kernel_rfl) (fun _ _ _ h => h) (by rfl) (fun W hW => exec_addr 30 _ 16 rfl h7 (fa16)) hS ?_
      refine reg_take (some 73) (i := 2) (.agg #[.int .u8 ((dotZ st).1 : Nat), .int .u32 ((dotZ st).2 : Nat)]) rfl rfl (by kernel_rfl) (fun _ _ _ h => h) (by rfl) (fun W hW => exec_load1 24 _ rfl (ev_ne (by rfl) h9) (ld82 hW.2.1 hW.2.2)) hS ?_
      refine reg_take (some 74) (i := 3) (.pointer (some ⟨w.heap.size + 1, 0, none⟩)) rfl rfl (by kernel_rfl) (fun _ _ _ h => h) (by rfl) (fun W hW => exec_load1 68 _ rfl (ev_ne (by rfl) (ev_ne (by rfl) h4)) (ld86 hW.1)) hS ?_
      refine reg_two (i := 1) (j := 4) (by kernel_rfl) ?_ ?_
      ·
        refine op_run (some 72) (v := lv) rfl rfl (by rfl) (exec_load1 28 _ rfl (ev_ne (by rfl) (ev_ne (by rfl) (ev_eq (by (try simp only [Act.size_put]); rw [hsz]; decide)))) (ld120 ((hG.out.ko.cell 28).trans (op_c28 (NOp.mk d1.1 d1.2 v2 n3 n4 d5.1 d5.2 n6 d7.1 d7.2 n8 n9 n10 n11 d12.1 d12.2 d13.1 d13.2 n14 n15 n16 []) lv HV8.out)))) hS ?_
        refine reg_call (some 75) (i := 4) rfl rfl (by kernel_rfl) (by rfl) (exec_call0 rfl rfl (map1 (ev_ne (by rfl) (ev_eq (by (try simp only [Act.size_put]); rw [hsz]; decide)))) en67) ?_
        refine (rdot_c hG.out.rd ⟨rfl, rfl⟩).mono ?_
        rintro _ Wc1 ⟨rfl, hr⟩
        have hO := Lib.hid (hO.out.chg hr.ch (fun g hg e => by have := (hO.out.lt g hg).1; injection e with e; injection e with e; omega))
        have hD := Lib.hid (hD.out.chg hr.ch (fun e => by have := HGL.out; injection e with e; injection e with e; omega))
        have hG := Lib.hid (GoW.rdd hG.out hr)
        have hS := And.intro hG.out.box (And.intro (hD.out.cell 0) (hD.out.cell 1))
        refine ⟨_, rfl, hS, ?_⟩
        refine reg_take (some 76) (i := 5) (.agg (#[.int .u8 ((dotZ st).1 : Nat), .int .u32 ((dotZ st).2 : Nat), .int .u8 ((dotZ (rdotS st).2).1 : Nat), .int .u32 ((dotZ (rdotS st).2).2 : Nat)])) rfl rfl (by kernel_rfl) (fun _ _ _ h => h) (by rfl) (fun W hW => exec_build 63 _ rfl (vs := [(0, .agg #[.int .u8 ((dotZ st).1 : Nat), .int .u32 ((dotZ st).2 : Nat)]), (1, .agg #[.int .u8 ((dotZ (rdotS st).2).1 : Nat), .int .u32 ((dotZ (rdotS st).2).2 : Nat)])]) (by simp only [List.map_toArray, List.map_cons, List.map_nil, List.toList_toArray]; rw [(show Act.eval _ (.tmp 73) = _ from (ev_ne (by rfl) (ev_ne (by rfl) (ev_ne (by rfl) (ev_eq (by (try simp only [Act.size_put]); rw [hsz]; decide)))))), (show Act.eval _ (.tmp 75) = _ from (ev_eq (by (try simp only [Act.size_put]); rw [hsz]; decide)))]) (claim_built _ _ _ _)) hS ?_
        have hba := (Below.refl Wc1.heap.size Wc1).alloc (Nat.le_refl _) (.cells #[.int .u8 ((dotZ st).1 : Nat), .int .u32 ((dotZ st).2 : Nat), .int .u8 ((dotZ (rdotS st).2).1 : Nat), .int .u32 ((dotZ (rdotS st).2).2 : Nat)] 63)
        have hN := Lib.hid (Blk.new Wc1 63 (#[.int .u8 ((dotZ st).1 : Nat), .int .u32 ((dotZ st).2 : Nat), .int .u8 ((dotZ (rdotS st).2).1 : Nat), .int .u32 ((dotZ (rdotS st).2).2 : Nat)] : Array Value))
        have hO := Lib.hid (hO.out.below hba (Nat.le_refl _))
        have hD := Lib.hid (hD.out.below hba hD.out.lt)
        have hG := Lib.hid (hG.out.below hba)
        have hS := And.intro hG.out.box (And.intro (hD.out.cell 0) (hD.out.cell 1))
        refine reg_run (some 77) (i := 6) (v := .slice (some ⟨Wc1.heap.size, 0, none⟩) 1 1) rfl rfl (by kernel_rfl) (by rfl) (exec_bsl 28 1 _ rfl (vs := #[(0, .agg #[.int .u8 ((dotZ st).1 : Nat), .int .u32 ((dotZ st).2 : Nat), .int .u8 ((dotZ (rdotS st).2).1 : Nat), .int .u32 ((dotZ (rdotS st).2).2 : Nat)])]) (by simp only [List.map_toArray, List.map_cons, List.map_nil]; rw [(show Act.eval _ (.tmp 76) = _ from (ev_eq (by (try simp only [Act.size_put]); rw [hsz]; decide)))]) (bs120 Wc1 _ _ _ _ rfl rfl rfl rfl)) hS ?_
        obtain ⟨v1, we, hrun, hO1, hgr, hbk⟩ := run_append_Own (P := Tryd.prog) (w := (Wc1.alloc (.cells #[.int .u8 ((dotZ st).1 : Nat), .int .u32 ((dotZ st).2 : Nat), .int .u8 ((dotZ (rdotS st).2).1 : Nat), .int .u32 ((dotZ (rdotS st).2).2 : Nat)] 63))) (w.heap.size + 1 + 1 + 1 + 1) 28 28 63 i0 _ 4 16 Tryd.underlying28 HI.out.1 HI.out.2.1 HI.out.2.2.1 HI.out.2.2.2 rfl (by omega) lv k _ hO.out (some ⟨Wc1.heap.size, 0, none⟩) 1 1 (claimF (rdClaim st)) ⟨rfl, fun _ => ⟨_, rfl, fun j u hj => by rw [lit_add, Nat.zero_add]; exact (hN.out.cell j).trans (by simpa [claimF, rdClaim] using hj)⟩⟩ (by intro u hu; simp [claimF] at hu; rcases hu with rfl | rfl | rfl | rfl <;> rfl) (by unfold maxLen; omega) (by omega) (by have := hG.out.ko.lt; omega)
        have hc : Chg (fun q => blkOf lv = some q) (Wc1.alloc (.cells #[.int .u8 ((dotZ st).1 : Nat), .int .u32 ((dotZ st).2 : Nat), .int .u8 ((dotZ (rdotS st).2).1 : Nat), .int .u32 ((dotZ (rdotS st).2).2 : Nat)] 63)) we := (Chg.refl _ _).grown hgr (fun q hq => .inl hq)
        have hBL : ∀ q, blkOf lv = some q → w.heap.size + 1 + 1 + 1 < q := fun q hq => by have := (hO.out.lt q hq).1; omega
        have hG := Lib.hid (hG.out.chg hc hBL)
        have hD := Lib.hid (hD.out.chg hc (fun e => hO.out.ne_ hD.out (by decide) e))
        have hS := And.intro hG.out.box (And.intro (hD.out.cell 0) (hD.out.cell 1))
        refine reg_run (some 78) (i := 7) (v := v1) rfl rfl (by kernel_rfl) (by rfl) (exec_append (t := 28) rfl (ev_ne (by rfl) (ev_ne (by rfl) (ev_ne (by rfl) (ev_eq (by (try simp only [Act.size_put]); rw [hsz]; decide))))) (ev_eq (by (try simp only [Act.size_put]); rw [hsz]; decide)) hrun) hS ?_
        refine reg_take (some 79) (i := 8) (.pointer (some ⟨w.heap.size + 1 + 1 + 1, 28, none⟩)) rfl rfl (by kernel_rfl) (fun _ _ _ h => h) (by rfl) (fun W hW => exec_addr 30 _ 16 rfl (ev_ne (by rfl) (ev_ne (by rfl) (ev_ne (by rfl) (ev_ne (by rfl) (ev_ne (by rfl) (ev_ne (by rfl) (ev_ne (by rfl) (ev_ne (by rfl) h7)))))))) (fa16)) hS ?_
        obtain ⟨A1, cap1, rfl, _, _, _⟩ := hO1.slice
        have hB1 := fun q hq => (hO1.lt q hq).1
        have hG2 : GoW w (we.setCell ⟨w.heap.size + 1 + 1 + 1, 28, none⟩ (.slice A1 (k + 1) cap1)) (rdotS (rdotS st).2).2 (opA (NOp.mk d1.1 d1.2 v2 n3 n4 d5.1 d5.2 n6 d7.1 d7.2 n8 n9 n10 n11 d12.1 d12.2 d13.1 d13.2 n14 n15 n16 []) (.slice A1 (k + 1) cap1)) := by
          have h := hG.out.set 28 (.slice A1 (k + 1) cap1)
          rw [show (opA _ _).setIfInBounds 28 (.slice A1 (k + 1) cap1) = _ from op_put28 (NOp.mk d1.1 d1.2 v2 n3 n4 d5.1 d5.2 n6 d7.1 d7.2 n8 n9 n10 n11 d12.1 d12.2 d13.1 d13.2 n14 n15 n16 []) lv _ HV8.out] at h
          exact h
        have hO2 := hO1.far (p := ⟨w.heap.size + 1 + 1 + 1, 28, none⟩) (fun e => by have := hB1 _ e; simp at this; omega) (.slice A1 (k + 1) cap1)
        have hD2 := hD.out.far (p := ⟨w.heap.size + 1 + 1 + 1, 28, none⟩) (show gl ≠ w.heap.size + 1 + 1 + 1 by have := HGL.out; omega) (.slice A1 (k + 1) cap1)
        have hS2 := And.intro hG2.box (And.intro (hD2.cell 0) (hD2.cell 1))
        refine reg_skip none (i := 9) rfl rfl (by kernel_rfl) (by rfl) (exec_store1 28 _ _ rfl (ev_eq (by (try simp only [Act.size_put]); rw [hsz]; decide)) (ev_ne (by rfl) (ev_eq (by (try simp only [Act.size_put]); rw [hsz]; decide))) (st120 ((hG.out.ko.cell 28).trans (op_c28 (NOp.mk d1.1 d1.2 v2 n3 n4 d5.1 d5.2 n6 d7.1 d7.2 n8 n9 n10 n11 d12.1 d12.2 d13.1 d13.2 n14 n15 n16 []) lv HV8.out)) (hG.out.ko.frozen 28))) hS2 ?_
        refine reg_end (by kernel_rfl) ?_
        have hA := hA.out
        subst hA
        simp only [Act.put, List.setIfInBounds_toArray, List.set_cons_zero, List.set_cons_succ]
        have HG := Lib.hid hG2
        have HO := Lib.hid hO2
        clear hS hS2 hG2 hO2 hD2 h4 h7 h9 hsz hO1 hgr hbk hrun hc hBL hB1
        go_wp2_with fail
        go_roundw
        case rel =>
          refine ⟨k + 1, m - 1, .slice A1 (k + 1) cap1, by omega, by first | rfl | rw [hw1], ?_, ?_⟩
          · rw [HS1.out]; exact HG.out
          · rw [HS1.out]; simpa [List.flatMap_append] using HO.out
        case measure => simp [intOf]; omega
      ·
        refine op_call (some 75) rfl rfl (by rfl) (exec_call0 rfl rfl (map1 (ev_eq (by (try simp only [Act.size_put]); rw [hsz]; decide))) en67) ?_
        refine (rdot_c hG.out.rd ⟨rfl, rfl⟩).mono ?_
        rintro _ Wc3 ⟨rfl, hr⟩
        have hO := Lib.hid (hO.out.chg hr.ch (fun g hg e => by have := (hO.out.lt g hg).1; injection e with e; injection e with e; omega))
        have hD := Lib.hid (hD.out.chg hr.ch (fun e => by have := HGL.out; injection e with e; injection e with e; omega))
        have hG := Lib.hid (GoW.rdd hG.out hr)
        have hS := And.intro hG.out.box (And.intro (hD.out.cell 0) (hD.out.cell 1))
        refine ⟨_, rfl, hS, ?_⟩
        refine reg_take (some 76) (i := 5) (.agg (#[.int .u8 ((dotZ st).1 : Nat), .int .u32 ((dotZ st).2 : Nat), .int .u8 ((dotZ (rdotS st).2).1 : Nat), .int .u32 ((dotZ (rdotS st).2).2 : Nat)])) rfl rfl (by kernel_rfl) (fun _ _ _ h => h) (by rfl) (fun W hW => exec_build 63 _ rfl (vs := [(0, .agg #[.int .u8 ((dotZ st).1 : Nat), .int .u32 ((dotZ st).2 : Nat)]), (1, .agg #[.int .u8 ((dotZ (rdotS st).2).1 : Nat), .int .u32 ((dotZ (rdotS st).2).2 : Nat)])]) (by simp only [List.map_toArray, List.map_cons, List.map_nil, List.toList_toArray]; rw [(show Act.eval _ (.tmp 73) = _ from (ev_ne (by rfl) (ev_ne (by rfl) (ev_eq (by (try simp only [Act.size_put]); rw [hsz]; decide))))), (show Act.eval _ (.tmp 75) = _ from (ev_eq (by (try simp only [Act.size_put]); rw [hsz]; decide)))]) (claim_built _ _ _ _)) hS ?_
        refine reg_two (i := 1) (j := 6) (by kernel_rfl) ?_ ?_
        ·
          refine op_run (some 72) (v := lv) rfl rfl (by rfl) (exec_load1 28 _ rfl (ev_ne (by rfl) (ev_ne (by rfl) (ev_ne (by rfl) (ev_ne (by rfl) (ev_eq (by (try simp only [Act.size_put]); rw [hsz]; decide)))))) (ld120 ((hG.out.ko.cell 28).trans (op_c28 (NOp.mk d1.1 d1.2 v2 n3 n4 d5.1 d5.2 n6 d7.1 d7.2 n8 n9 n10 n11 d12.1 d12.2 d13.1 d13.2 n14 n15 n16 []) lv HV8.out)))) hS ?_
          have hba := (Below.refl Wc3.heap.size Wc3).alloc (Nat.le_refl _) (.cells #[.int .u8 ((dotZ st).1 : Nat), .int .u32 ((dotZ st).2 : Nat), .int .u8 ((dotZ (rdotS st).2).1 : Nat), .int .u32 ((dotZ (rdotS st).2).2 : Nat)] 63)
          have hN := Lib.hid (Blk.new Wc3 63 (#[.int .u8 ((dotZ st).1 : Nat), .int .u32 ((dotZ st).2 : Nat), .int .u8 ((dotZ (rdotS st).2).1 : Nat), .int .u32 ((dotZ (rdotS st).2).2 : Nat)] : Array Value))
          have hO := Lib.hid (hO.out.below hba (Nat.le_refl _))
          have hD := Lib.hid (hD.out.below hba hD.out.lt)
          have hG := Lib.hid (hG.out.below hba)
          have hS := And.intro hG.out.box (And.intro (hD.out.cell 0) (hD.out.cell 1))
          refine reg_run (some 77) (i := 6) (v := .slice (some ⟨Wc3.heap.size, 0, none⟩) 1 1) rfl rfl (by kernel_rfl) (by rfl) (exec_bsl 28 1 _ rfl (vs := #[(0, .agg #[.int .u8 ((dotZ st).1 : Nat), .int .u32 ((dotZ st).2 : Nat), .int .u8 ((dotZ (rdotS st).2).1 : Nat), .int .u32 ((dotZ (rdotS st).2).2 : Nat)])]) (by simp only [List.map_toArray, List.map_cons, List.map_nil]; rw [(show Act.eval _ (.tmp 76) = _ from (ev_ne (by rfl) (ev_eq (by (try simp only [Act.size_put]); rw [hsz]; decide))))]) (bs120 Wc3 _ _ _ _ rfl rfl rfl rfl)) hS ?_
          obtain ⟨v1, we, hrun, hO1, hgr, hbk⟩ := run_append_Own (P := Tryd.prog) (w := (Wc3.alloc (.cells #[.int .u8 ((dotZ st).1 : Nat), .int .u32 ((dotZ st).2 : Nat), .int .u8 ((dotZ (rdotS st).2).1 : Nat), .int .u32 ((dotZ (rdotS st).2).2 : Nat)] 63))) (w.heap.size + 1 + 1 + 1 + 1) 28 28 63 i0 _ 4 16 Tryd.underlying28 HI.out.1 HI.out.2.1 HI.out.2.2.1 HI.out.2.2.2 rfl (by omega) lv k _ hO.out (some ⟨Wc3.heap.size, 0, none⟩) 1 1 (claimF (rdClaim st)) ⟨rfl, fun _ => ⟨_, rfl, fun j u hj => by rw [lit_add, Nat.zero_add]; exact (hN.out.cell j).trans (by simpa [claimF, rdClaim] using hj)⟩⟩ (by intro u hu; simp [claimF] at hu; rcases hu with rfl | rfl | rfl | rfl <;> rfl) (by unfold maxLen; omega) (by omega) (by have := hG.out.ko.lt; omega)
          have hc : Chg (fun q => blkOf lv = some q) (Wc3.alloc (.cells #[.int .u8 ((dotZ st).1 : Nat), .int .u32 ((dotZ st).2 : Nat), .int .u8 ((dotZ (rdotS st).2).1 : Nat), .int .u32 ((dotZ (rdotS st).2).2 : Nat)] 63)) we := (Chg.refl _ _).grown hgr (fun q hq => .inl hq)
          have hBL : ∀ q, blkOf lv = some q → w.heap.size + 1 + 1 + 1 < q := fun q hq => by have := (hO.out.lt q hq).1; omega
          have hG := Lib.hid (hG.out.chg hc hBL)
          have hD := Lib.hid (hD.out.chg hc (fun e => hO.out.ne_ hD.out (by decide) e))
          have hS := And.intro hG.out.box (And.intro (hD.out.cell 0) (hD.out.cell 1))
          refine reg_run (some 78) (i := 7) (v := v1) rfl rfl (by kernel_rfl) (by rfl) (exec_append (t := 28) rfl (ev_ne (by rfl) (ev_eq (by (try simp only [Act.size_put]); rw [hsz]; decide))) (ev_eq (by (try simp only [Act.size_put]); rw [hsz]; decide)) hrun) hS ?_
          refine reg_take (some 79) (i := 8) (.pointer (some ⟨w.heap.size + 1 + 1 + 1, 28, none⟩)) rfl rfl (by kernel_rfl) (fun _ _ _ h => h) (by rfl) (fun W hW => exec_addr 30 _ 16 rfl (ev_ne (by rfl) (ev_ne (by rfl) (ev_ne (by rfl) (ev_ne (by rfl) (ev_ne (by rfl) (ev_ne (by rfl) (ev_ne (by rfl) (ev_ne (by rfl) h7)))))))) (fa16)) hS ?_
          obtain ⟨A1, cap1, rfl, _, _, _⟩ := hO1.slice
          have hB1 := fun q hq => (hO1.lt q hq).1
          have hG2 : GoW w (we.setCell ⟨w.heap.size + 1 + 1 + 1, 28, none⟩ (.slice A1 (k + 1) cap1)) (rdotS (rdotS st).2).2 (opA (NOp.mk d1.1 d1.2 v2 n3 n4 d5.1 d5.2 n6 d7.1 d7.2 n8 n9 n10 n11 d12.1 d12.2 d13.1 d13.2 n14 n15 n16 []) (.slice A1 (k + 1) cap1)) := by
            have h := hG.out.set 28 (.slice A1 (k + 1) cap1)
            rw [show (opA _ _).setIfInBounds 28 (.slice A1 (k + 1) cap1) = _ from op_put28 (NOp.mk d1.1 d1.2 v2 n3 n4 d5.1 d5.2 n6 d7.1 d7.2 n8 n9 n10 n11 d12.1 d12.2 d13.1 d13.2 n14 n15 n16 []) lv _ HV8.out] at h
            exact h
          have hO2 := hO1.far (p := ⟨w.heap.size + 1 + 1 + 1, 28, none⟩) (fun e => by have := hB1 _ e; simp at this; omega) (.slice A1 (k + 1) cap1)
          have hD2 := hD.out.far (p := ⟨w.heap.size + 1 + 1 + 1, 28, none⟩) (show gl ≠ w.heap.size + 1 + 1 + 1 by have := HGL.out; omega) (.slice A1 (k + 1) cap1)
          have hS2 := And.intro hG2.box (And.intro (hD2.cell 0) (hD2.cell 1))
          refine reg_skip none (i := 9) rfl rfl (by kernel_rfl) (by rfl) (exec_store1 28 _ _ rfl (ev_eq (by (try simp only [Act.size_put]); rw [hsz]; decide)) (ev_ne (by rfl) (ev_eq (by (try simp only [Act.size_put]); rw [hsz]; decide))) (st120 ((hG.out.ko.cell 28).trans (op_c28 (NOp.mk d1.1 d1.2 v2 n3 n4 d5.1 d5.2 n6 d7.1 d7.2 n8 n9 n10 n11 d12.1 d12.2 d13.1 d13.2 n14 n15 n16 []) lv HV8.out)) (hG.out.ko.frozen 28))) hS2 ?_
          refine reg_end (by kernel_rfl) ?_
          have hA := hA.out
          subst hA
          simp only [Act.put, List.setIfInBounds_toArray, List.set_cons_zero, List.set_cons_succ]
          have HG := Lib.hid hG2
          have HO := Lib.hid hO2
          clear hS hS2 hG2 hO2 hD2 h4 h7 h9 hsz hO1 hgr hbk hrun hc hBL hB1
          go_wp2_with fail
          go_roundw
          case rel =>
            refine ⟨k + 1, m - 1, .slice A1 (k + 1) cap1, by omega, by first | rfl | rw [hw1], ?_, ?_⟩
            · rw [HS1.out]; exact HG.out
            · rw [HS1.out]; simpa [List.flatMap_append] using HO.out
          case measure => simp [intOf]; omega
        ·
          have hba := (Below.refl Wc3.heap.size Wc3).alloc (Nat.le_refl _) (.cells #[.int .u8 ((dotZ st).1 : Nat), .int .u32 ((dotZ st).2 : Nat), .int .u8 ((dotZ (rdotS st).2).1 : Nat), .int .u32 ((dotZ (rdotS st).2).2 : Nat)] 63)
          have hN := Lib.hid (Blk.new Wc3 63 (#[.int .u8 ((dotZ st).1 : Nat), .int .u32 ((dotZ st).2 : Nat), .int .u8 ((dotZ (rdotS st).2).1 : Nat), .int .u32 ((dotZ (rdotS st).2).2 : Nat)] : Array Value))
          have hO := Lib.hid (hO.out.below hba (Nat.le_refl _))
          have hD := Lib.hid (hD.out.below hba hD.out.lt)
          have hG := Lib.hid (hG.out.below hba)
          have hS := And.intro hG.out.box (And.intro (hD.out.cell 0) (hD.out.cell 1))
          refine op_run (some 77) (v := .slice (some ⟨Wc3.heap.size, 0, none⟩) 1 1) rfl rfl (by rfl) (exec_bsl 28 1 _ rfl (vs := #[(0, .agg #[.int .u8 ((dotZ st).1 : Nat), .int .u32 ((dotZ st).2 : Nat), .int .u8 ((dotZ (rdotS st).2).1 : Nat), .int .u32 ((dotZ (rdotS st).2).2 : Nat)])]) (by simp only [List.map_toArray, List.map_cons, List.map_nil]; rw [(show Act.eval _ (.tmp 76) = _ from (ev_eq (by (try simp only [Act.size_put]); rw [hsz]; decide)))]) (bs120 Wc3 _ _ _ _ rfl rfl rfl rfl)) hS ?_
          refine reg_run (some 72) (i := 1) (v := lv) rfl rfl (by kernel_rfl) (by rfl) (exec_load1 28 _ rfl (ev_ne (by rfl) (ev_ne (by rfl) (ev_ne (by rfl) (ev_ne (by rfl) (ev_ne (by rfl) (ev_eq (by (try simp only [Act.size_put]); rw [hsz]; decide))))))) (ld120 ((hG.out.ko.cell 28).trans (op_c28 (NOp.mk d1.1 d1.2 v2 n3 n4 d5.1 d5.2 n6 d7.1 d7.2 n8 n9 n10 n11 d12.1 d12.2 d13.1 d13.2 n14 n15 n16 []) lv HV8.out)))) hS ?_
          obtain ⟨v1, we, hrun, hO1, hgr, hbk⟩ := run_append_Own (P := Tryd.prog) (w := (Wc3.alloc (.cells #[.int .u8 ((dotZ st).1 : Nat), .int .u32 ((dotZ st).2 : Nat), .int .u8 ((dotZ (rdotS st).2).1 : Nat), .int .u32 ((dotZ (rdotS st).2).2 : Nat)] 63))) (w.heap.size + 1 + 1 + 1 + 1) 28 28 63 i0 _ 4 16 Tryd.underlying28 HI.out.1 HI.out.2.1 HI.out.2.2.1 HI.out.2.2.2 rfl (by omega) lv k _ hO.out (some ⟨Wc3.heap.size, 0, none⟩) 1 1 (claimF (rdClaim st)) ⟨rfl, fun _ => ⟨_, rfl, fun j u hj => by rw [lit_add, Nat.zero_add]; exact (hN.out.cell j).trans (by simpa [claimF, rdClaim] using hj)⟩⟩ (by intro u hu; simp [claimF] at hu; rcases hu with rfl | rfl | rfl | rfl <;> rfl) (by unfold maxLen; omega) (by omega) (by have := hG.out.ko.lt; omega)
          have hc : Chg (fun q => blkOf lv = some q) (Wc3.alloc (.cells #[.int .u8 ((dotZ st).1 : Nat), .int .u32 ((dotZ st).2 : Nat), .int .u8 ((dotZ (rdotS st).2).1 : Nat), .int .u32 ((dotZ (rdotS st).2).2 : Nat)] 63)) we := (Chg.refl _ _).grown hgr (fun q hq => .inl hq)
          have hBL : ∀ q, blkOf lv = some q → w.heap.size + 1 + 1 + 1 < q := fun q hq => by have := (hO.out.lt q hq).1; omega
          have hG := Lib.hid (hG.out.chg hc hBL)
          have hD := Lib.hid (hD.out.chg hc (fun e => hO.out.ne_ hD.out (by decide) e))
          have hS := And.intro hG.out.box (And.intro (hD.out.cell 0) (hD.out.cell 1))
          refine reg_run (some 78) (i := 7) (v := v1) rfl rfl (by kernel_rfl) (by rfl) (exec_append (t := 28) rfl (ev_eq (by (try simp only [Act.size_put]); rw [hsz]; decide)) (ev_ne (by rfl) (ev_eq (by (try simp only [Act.size_put]); rw [hsz]; decide))) hrun) hS ?_
          refine reg_take (some 79) (i := 8) (.pointer (some ⟨w.heap.size + 1 + 1 + 1, 28, none⟩)) rfl rfl (by kernel_rfl) (fun _ _ _ h => h) (by rfl) (fun W hW => exec_addr 30 _ 16 rfl (ev_ne (by rfl) (ev_ne (by rfl) (ev_ne (by rfl) (ev_ne (by rfl) (ev_ne (by rfl) (ev_ne (by rfl) (ev_ne (by rfl) (ev_ne (by rfl) h7)))))))) (fa16)) hS ?_
          obtain ⟨A1, cap1, rfl, _, _, _⟩ := hO1.slice
          have hB1 := fun q hq => (hO1.lt q hq).1
          have hG2 : GoW w (we.setCell ⟨w.heap.size + 1 + 1 + 1, 28, none⟩ (.slice A1 (k + 1) cap1)) (rdotS (rdotS st).2).2 (opA (NOp.mk d1.1 d1.2 v2 n3 n4 d5.1 d5.2 n6 d7.1 d7.2 n8 n9 n10 n11 d12.1 d12.2 d13.1 d13.2 n14 n15 n16 []) (.slice A1 (k + 1) cap1)) := by
            have h := hG.out.set 28 (.slice A1 (k + 1) cap1)
            rw [show (opA _ _).setIfInBounds 28 (.slice A1 (k + 1) cap1) = _ from op_put28 (NOp.mk d1.1 d1.2 v2 n3 n4 d5.1 d5.2 n6 d7.1 d7.2 n8 n9 n10 n11 d12.1 d12.2 d13.1 d13.2 n14 n15 n16 []) lv _ HV8.out] at h
            exact h
          have hO2 := hO1.far (p := ⟨w.heap.size + 1 + 1 + 1, 28, none⟩) (fun e => by have := hB1 _ e; simp at this; omega) (.slice A1 (k + 1) cap1)
          have hD2 := hD.out.far (p := ⟨w.heap.size + 1 + 1 + 1, 28, none⟩) (show gl ≠ w.heap.size + 1 + 1 + 1 by have := HGL.out; omega) (.slice A1 (k + 1) cap1)
          have hS2 := And.intro hG2.box (And.intro (hD2.cell 0) (hD2.cell 1))
          refine reg_skip none (i := 9) rfl rfl (by kernel_rfl) (by rfl) (exec_store1 28 _ _ rfl (ev_eq (by (try simp only [Act.size_put]); rw [hsz]; decide)) (ev_ne (by rfl) (ev_eq (by (try simp only [Act.size_put]); rw [hsz]; decide))) (st120 ((hG.out.ko.cell 28).trans (op_c28 (NOp.mk d1.1 d1.2 v2 n3 n4 d5.1 d5.2 n6 d7.1 d7.2 n8 n9 n10 n11 d12.1 d12.2 d13.1 d13.2 n14 n15 n16 []) lv HV8.out)) (hG.out.ko.frozen 28))) hS2 ?_
          refine reg_end (by kernel_rfl) ?_
          have hA := hA.out
          subst hA
          simp only [Act.put, List.setIfInBounds_toArray, List.set_cons_zero, List.set_cons_succ]
          have HG := Lib.hid hG2
          have HO := Lib.hid hO2
          clear hS hS2 hG2 hO2 hD2 h4 h7 h9 hsz hO1 hgr hbk hrun hc hBL hB1
          go_wp2_with fail
          go_roundw
          case rel =>
            refine ⟨k + 1, m - 1, .slice A1 (k + 1) cap1, by omega, by first | rfl | rw [hw1], ?_, ?_⟩
            · rw [HS1.out]; exact HG.out
            · rw [HS1.out]; simpa [List.flatMap_append] using HO.out
          case measure => simp [intOf]; omega
    · obtain rfl : m = 0 := by omega
      obtain rfl : k = n17 := by omega
      have bx := hG.out.box
      generalize hrl : rdLines s17 k = rl at *
      obtain ⟨ls, st⟩ := rl
      simp only at hG hO
      have hO := Lib.hid hO.out
      have hG := Lib.hid hG.out
      have HLN := Lib.hid (show ls.length = k by have := rdLines_len s17 k; rw [hrl] at this; exact this)
      clear hrl
      have HLE : leftN st ≤ 140737488355328 := hG.out.rd.left_le
      go_wp2_with fail
      refine (end_r hG.out.rd HLE).mono ?_
      rintro e Wz ⟨rfl, nz, rfl⟩
      obtain ⟨A1, cap1, rfl, _, _, hrd⟩ := hO.out.slice
      have hRD := Lib.hid hrd
      have HOX := Lib.hid (show (opA (NOp.mk d1.1 d1.2 v2 n3 n4 d5.1 d5.2 n6 d7.1 d7.2 n8 n9 n10 n11 d12.1 d12.2 d13.1 d13.2 n14 n15 n16 []) (.slice A1 k cap1)).all (·.oneCell') = true by simp [opA, opF, Value.oneCell'])
      have HZ1 : (opA zeroO (.slice none 0 0)).all (·.oneCell') = true := by simp [opA, opF, zeroO, Value.oneCell']
      have HZ1 := Lib.hid HZ1
      have HSX := Lib.hid (opA_size (NOp.mk d1.1 d1.2 v2 n3 n4 d5.1 d5.2 n6 d7.1 d7.2 n8 n9 n10 n11 d12.1 d12.2 d13.1 d13.2 n14 n15 n16 []) (.slice A1 k cap1) HV8.out)
      clear hrd hO bx
      by_cases hst : st = some []
      · subst hst
        rw [show ((endN (some []) : Nat) : Int) = 0 from rfl]
        go_wp2_with (first
          | (refine wpList_load_row rfl 30 _ rfl (w.heap.size + 1 + 1 + 1) rfl 30 _ (0, 0) _ hG.out.ko Tryd.underlying30 rfl (by rw [HSX.out]; exact size122) ?_)
          | (refine wpList_store_row rfl 30 _ _ rfl w.heap.size _ rfl rfl 30 _ hG.out.kr (by rw [HSX.out]; exact size122) (by rw [HSX.out]; rfl) HOX.out ?_))
        refine bodyPost_ret (results_row_tmp rfl _ _ w.heap.size 30 _ (0, 0) _ _ rfl rfl (hG.out.kr.row _) Tryd.underlying30 rfl (by rw [HSX.out]; exact size122)) rfl ?_
        have hO3 := (hO.out.drewN nz).rowFar (k := w.heap.size) (fun e => by have := (hO.out.lt _ e).1; omega) (opA (NOp.mk d1.1 d1.2 v2 n3 n4 d5.1 d5.2 n6 d7.1 d7.2 n8 n9 n10 n11 d12.1 d12.2 d13.1 d13.2 n14 n15 n16 []) (.slice A1 k cap1))
        refine ⟨.slice A1 k cap1, by rw [if_pos rfl]; rfl, ?_, below_setRow (below_drewN hG.out.b nz) (Nat.le_refl _) _⟩
        rw [if_pos rfl]
        show Tran.Own _ _ 63 4 _ ls.length _
        rw [HLN.out]
        exact own_weaken hO3 (by omega)
      · have hend : endN st = 5 := by
          cases st with
          | none => rfl
          | some l => cases l with
            | nil => exact absurd rfl hst
            | cons a b => rfl
        rw [hend]
        rw [show ((5 : Nat) : Int) = 5 from rfl]
        have HST := Lib.hid hst
        have HEN := Lib.hid hend
        clear hst hend
        go_wp2_with (refine wpList_store_row rfl 30 _ _ rfl w.heap.size (opA zeroO (.slice none 0 0)) rfl rfl 30 _ hG.out.kr size122 rfl HZ1.out ?_)
        refine bodyPost_ret (results_row_tmp rfl _ _ w.heap.size 30 _ (0, 0) _ _ rfl rfl (hG.out.kr.row _) Tryd.underlying30 rfl size122) rfl ?_
        refine ⟨.slice none 0 0, ?_, ?_, below_setRow (below_drewN hG.out.b nz) (Nat.le_refl _) _⟩
        · rw [if_neg HST.out, HEN.out]; rfl
        · rw [if_neg HST.out]; exact Tran.Own.nil _ _ _ _
end Go.Proofs.YtfojjklohbiffaaDoor
