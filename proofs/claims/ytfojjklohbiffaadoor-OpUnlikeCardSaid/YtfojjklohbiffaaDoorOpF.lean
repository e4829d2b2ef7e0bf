/- Operations read: op.Get: the worlds between; what is read, step by step. -/
import Derived.Test.YtfojjklohbiffaaDoorFld
import Derived.Test.YtfojjklohbiffaaDoorOpP
import Derived.Deep.CutRange
namespace Go.Proofs.YtfojjklohbiffaaDoor
open Go.RowKit Tran Tran.Wire
set_option linter.unusedVariables false
set_option linter.unusedSimpArgs false
/-- the worlds within op.Get: the result, the reader, its box, the operation -/
structure GoW (w0 W : World) (st : Option (List UInt8)) (X : Array Value) : Prop where
  kr : Blk W w0.heap.size 30 (opA zeroO (.slice none 0 0))
  kb : Blk W (w0.heap.size + 1 + 1) 68 #[.pointer (some ⟨w0.heap.size + 1, 0, none⟩)]
  ko : Blk W (w0.heap.size + 1 + 1 + 1) 30 X
  rd : RdP W (some ⟨w0.heap.size + 1, 0, none⟩) st
  b : Below w0.heap.size w0 W
theorem GoW.box {w0 W : World} {st : Option (List UInt8)} {X : Array Value} (h : GoW w0 W st X) : W.cell? ⟨w0.heap.size + 1 + 1, 0, none⟩ = some (.pointer (some ⟨w0.heap.size + 1, 0, none⟩)) := h.kb.cell 0
theorem GoW.drew {w0 W : World} {st : Option (List UInt8)} {X : Array Value} (h : GoW w0 W st X) : GoW w0 W.drew st X := ⟨h.kr, h.kb, h.ko, h.rd, below_drew h.b⟩
theorem GoW.rdd {w0 W W' : World} {st st' : Option (List UInt8)} {X : Array Value} (h : GoW w0 W st X) (r : Rdd W W' (some ⟨w0.heap.size + 1, 0, none⟩) st') : GoW w0 W' st' X := by
  refine ⟨h.kr.chg r.ch ?_, h.kb.chg r.ch ?_, h.ko.chg r.ch ?_, r.rd, h.b.trans (r.toBelow (by omega) h.b.size)⟩
  all_goals (intro e; injection e with e; injection e with e; omega)
theorem GoW.set {w0 W : World} {st : Option (List UInt8)} {X : Array Value} (h : GoW w0 W st X) (i : Nat) (u : Value) : GoW w0 (W.setCell ⟨w0.heap.size + 1 + 1 + 1, i, none⟩ u) st (X.setIfInBounds i u) :=
  ⟨h.kr.far (p := ⟨w0.heap.size + 1 + 1 + 1, i, none⟩) (show w0.heap.size ≠ w0.heap.size + 1 + 1 + 1 by omega) u, h.kb.far (p := ⟨w0.heap.size + 1 + 1 + 1, i, none⟩) (show w0.heap.size + 1 + 1 ≠ w0.heap.size + 1 + 1 + 1 by omega) u,
    h.ko.set_ i u, h.rd.far (fun k e => by injection e with e; injection e with e; show k ≠ w0.heap.size + 1 + 1 + 1; omega) u, h.b.setCell (p := ⟨w0.heap.size + 1 + 1 + 1, i, none⟩) (show w0.heap.size ≤ w0.heap.size + 1 + 1 + 1 by omega) u⟩
theorem RdP.offCells {w : World} {p : Option Addr} {st : Option (List UInt8)} (h : RdP w p st) {k : Nat} (hk : ∀ g, p = some ⟨g, 0, none⟩ → g ≠ k) (o : Nat) (vs : List Value) : RdP (w.setCells k o vs) p st := by
  rcases h with h | ⟨g, hp, s, pos, ok, hkk, h1⟩
  · exact .inl h
  · exact .inr ⟨g, hp, s, pos, ok, hkk.farCells (hk g hp) o vs, h1⟩
theorem zO_eq : opA zeroO (.slice none 0 0) = #[.int .u8 0, .int .u32 0, .int .u32 0, .int .u32 0, .int .u32 0, .int .u32 0, .int .u32 0, .int .u32 0, .int .u32 0, .int .u32 0, .int .u64 0, .int .u32 0, .int .u8 0, .int .u32 0, .int .u8 0, .int .u8 0, .int .u32 0, .int .u32 0, .int .u8 0, .int .u8 0, .int .u64 0, .int .u8 0, .int .u32 0, .int .u8 0, .int .u32 0, .int .u32 0, .int .u32 0, .int .u32 0, .slice none 0 0] := rfl
theorem GoW.sets {w0 W : World} {st : Option (List UInt8)} {X : Array Value} (h : GoW w0 W st X) (o : Nat) (vs : List Value) : GoW w0 (W.setCells (w0.heap.size + 1 + 1 + 1) o vs) st (putAt X o vs) :=
  ⟨h.kr.farCells (by omega) o vs, h.kb.farCells (by omega) o vs, h.ko.setCells o vs, h.rd.offCells (fun k e => by injection e with e; injection e with e; omega) o vs, below_setCells h.b (by omega) o vs⟩
theorem GoW.below {w0 W W' : World} {st : Option (List UInt8)} {X : Array Value} (h : GoW w0 W st X) (hb : Below W.heap.size W W') : GoW w0 W' st X :=
  ⟨h.kr.below hb h.kr.lt, h.kb.below hb h.kb.lt, h.ko.below hb h.ko.lt, h.rd.below hb, h.b.trans (hb.mono h.b.size)⟩
theorem GoW.start (w : World) (l : List UInt8) (hl : l.length ≤ 140737488355328) : GoW w ((((w.alloc (.cells (opA zeroO (.slice none 0 0)) 30)).alloc (.cells #[.string ⟨l.toArray⟩, .int .i64 0, .bool true] 91)).alloc (.cells #[.pointer (some ⟨w.heap.size + 1, 0, none⟩)] 68)).alloc (.cells (opA zeroO (.slice none 0 0)) 30)) (some l) (opA zeroO (.slice none 0 0)) := by
  have kd := ((Blk.new (w.alloc (.cells (opA zeroO (.slice none 0 0)) 30)) 91 #[.string ⟨l.toArray⟩, .int .i64 0, .bool true]).alloc (.cells #[.pointer (some ⟨w.heap.size + 1, 0, none⟩)] 68)).alloc (.cells (opA zeroO (.slice none 0 0)) 30)
  have kb := (Blk.new ((w.alloc (.cells (opA zeroO (.slice none 0 0)) 30)).alloc (.cells #[.string ⟨l.toArray⟩, .int .i64 0, .bool true] 91)) 68 #[.pointer (some ⟨w.heap.size + 1, 0, none⟩)]).alloc (.cells (opA zeroO (.slice none 0 0)) 30)
  have ko := Blk.new (((w.alloc (.cells (opA zeroO (.slice none 0 0)) 30)).alloc (.cells #[.string ⟨l.toArray⟩, .int .i64 0, .bool true] 91)).alloc (.cells #[.pointer (some ⟨w.heap.size + 1, 0, none⟩)] 68)) 30 (opA zeroO (.slice none 0 0))
  simp only [World.size_alloc] at kd kb ko
  exact ⟨(((Blk.new w 30 _).alloc _).alloc _).alloc _, kb, ko, .inr ⟨_, rfl, l, 0, true, kd, by omega, hl, by simp⟩, ((((Below.refl _ w).alloc (Nat.le_refl _) _).alloc (by simp) _).alloc (by simp; omega) _).alloc (by simp; omega) _⟩
theorem GoW.chg {w0 W W' : World} {st : Option (List UInt8)} {X : Array Value} {S : Nat → Prop} (h : GoW w0 W st X) (c : Chg S W W') (hS : ∀ k, S k → w0.heap.size + 1 + 1 + 1 < k) : GoW w0 W' st X :=
  ⟨h.kr.chg c (fun k => by have := hS _ k; omega), h.kb.chg c (fun k => by have := hS _ k; omega), h.ko.chg c (fun k => by have := hS _ k; omega),
    h.rd.chg c (fun k e k2 => by injection e with e; injection e with e; have := hS _ k2; omega), h.b.trans (c.toBelow h.b.size (fun k _ k2 => by have := hS _ k2; omega))⟩
theorem info177 : (Tryd.prog.info? 63).map (fun i => (i.zero, i.size, i.bytes)) = some (some (.agg #[.int .u8 0, .int .u32 0, .int .u8 0, .int .u32 0]), 4, 16) := by kernel_rfl
theorem bs120 (W : World) (a b c d : Value) (ha : a.oneCell' = true) (hb : b.oneCell' = true) (hc : c.oneCell' = true) (hd : d.oneCell' = true) : (Instr.buildSlice 28 1 #[(0, .agg #[a, b, c, d])]).run Tryd.prog W = .ok (.slice (some ⟨W.heap.size, 0, none⟩) 1 1) (W.alloc (.cells #[a, b, c, d] 63)) := by go_simp
theorem claim_built (a b c d : Int) : Tryd.prog.built 63 [(0, .agg #[.int .u8 a, .int .u32 b]), (1, .agg #[.int .u8 c, .int .u32 d])] = some #[.int .u8 a, .int .u32 b, .int .u8 c, .int .u32 d] := by kernel_rfl
theorem exec_bsl {P : Program} {o : Oper} {a : Act} {w w' : World} (t : TypeId) (n : Nat) (parts : Array (Nat × Operand)) (ho : o.op = .buildSlice t n parts) {vs : Array (Nat × Value)} {v : Value} (hv : (parts.map fun (i, x) => (i, a.eval x)) = vs)
    (hr : (Instr.buildSlice t n vs).run P w = .ok v w') : (execOp a.eval o).run P w = .ok (.value v) w' := by
  have hr' : (Instr.buildSlice t n (parts.map fun (i, x) => (i, a.eval x))).run P w = .ok v w' := by rw [hv]; exact hr
  unfold execOp
  simp only [ho, Sem.run_bind, hr', Result.andThen_ok]
  rfl
theorem exec_append {P : Program} {o : Oper} {a : Act} {w w' : World} {s x : Operand} {t : TypeId} {v u v' : Value} (ho : o.op = .call { callee := .builtin .append, args := #[s, x], argTypes := #[t, t] }) (hs : a.eval s = v) (hx : a.eval x = u)
    (hr : (Builtin.append_ #[t, t] o.type #[v, u]).run P w = .ok v' w') : (execOp a.eval o).run P w = .ok (.value v') w' := by
  simp [execOp, ho, resolve, invoke, builtin, hs, hx, hr, Result.andThen]
section
variable {P : Program} {ops : Array Oper} {Q : Exit → Act → World → Prop} {S : World → Prop}
theorem reg_two {i j : Nat} {fuel : Nat} {listed : Array Bool} {a : Act} {w : World} (hr : Region.ready .any ops listed = [i, j])
    (h1 : wpOp P ops Q i (fun a' w' => S w' ∧ wpAnyH P .any ops Q S fuel (listed.setIfInBounds i true) a' w') a w) (h2 : wpOp P ops Q j (fun a' w' => S w' ∧ wpAnyH P .any ops Q S fuel (listed.setIfInBounds j true) a' w') a w) :
    wpAnyH P .any ops Q S (fuel + 1) listed a w := by
  refine wpAnyH_all hr (by simp) fun k hk => ?_
  rcases (by simpa using hk : k = i ∨ k = j) with rfl | rfl
  · exact h1
  · exact h2
theorem op_run (d : Option Tmp) {i : Nat} {oi : Oper} {K : Act → World → Prop} {a : Act} {w w' : World} {v : Value} (hi : ops[i]? = some oi) (hd : oi.dst = d) (hw : Region.wanted oi (yielded ops a.tmps) = true)
    (hrun : (execOp a.eval oi).run P w = .ok (.value v) w') (hS : S w') (h : K (a.put d v) w') : wpOp P ops Q i (fun a' w' => S w' ∧ K a' w') a w := by
  subst hd
  unfold wpOp
  simp only [hi, hw, if_true, Oper.wp, hrun, Oper.upon]
  exact .inl ⟨hS, h⟩
theorem op_call (d : Option Tmp) {i : Nat} {oi : Oper} {K : Act → World → Prop} {a : Act} {w : World} {f : FuncId} {args : Array Value} (hi : ops[i]? = some oi) (hd : oi.dst = d) (hw : Region.wanted oi (yielded ops a.tmps) = true)
    (hrun : (execOp a.eval oi).run P w = .ok (.enter f args) w) (h : Calls P f args w fun e w' => ∃ v, e = .returned v ∧ S w' ∧ K (a.put d v) w') : wpOp P ops Q i (fun a' w' => S w' ∧ K a' w') a w := by
  subst hd
  unfold wpOp
  simp only [hi, hw, if_true, Oper.wp, hrun, Oper.upon]
  refine .inl (h.mono ?_)
  rintro e w' ⟨v, rfl, hS, hh⟩
  exact ⟨hS, hh⟩
end
section
variable {w : World} {p : Option Addr} {st s' : Option (List UInt8)}
theorem rdot_c {d : Nat × Nat} (h : RdP w p st) (e : dotZ st = d ∧ (rdotS st).2 = s') : Calls Tryd.prog 40 #[.pointer p] w fun e w' => e = .returned (.agg #[.int .u8 (d.1 : Nat), .int .u32 (d.2 : Nat)]) ∧ Rdd w w' p s' := by
  have := rdot_r h
  rw [dotV_eq, e.1, e.2] at this
  exact this
theorem rvec_c {xs : List Nat} (h : RdP w p st) (e : vecZ st = xs ∧ (rvecS st 8).2 = s') : Calls Tryd.prog 41 #[.pointer p] w fun e w' => e = .returned (.agg (vecA xs)) ∧ Rdd w w' p s' := by
  have := rvec_r h
  rw [vecV_eq, e.1, e.2] at this
  exact this
theorem rnum_c {m n : Nat} {M : Int} (h : RdP w p st) (e : rnumS st m = (n, s')) (hM : M = (m : Nat)) : Calls Tryd.prog 38 #[.pointer p, .int .u64 M] w fun e w' => e = .returned (.int .u64 (n : Nat)) ∧ Rdd w w' p s' := by
  have := rnum_r h m
  rw [e, ← hM] at this
  exact this
theorem short_c {g bx n : Nat} (h : RdP w (some ⟨g, 0, none⟩) st) (kb : Blk w bx 68 #[.pointer (some ⟨g, 0, none⟩)]) (e : rnumS st 255 = (n, s')) : Calls Tryd.prog 37 #[.pointer (some ⟨bx, 0, none⟩)] w fun e w' => e = .returned (.int .u8 (n : Nat)) ∧ Rdd w w' (some ⟨g, 0, none⟩) s' := by
  have := short_any h kb
  rw [e] at this
  exact this
theorem word_c {g bx n : Nat} (h : RdP w (some ⟨g, 0, none⟩) st) (kb : Blk w bx 68 #[.pointer (some ⟨g, 0, none⟩)]) (e : rnumS st 4294967295 = (n, s')) : Calls Tryd.prog 39 #[.pointer (some ⟨bx, 0, none⟩)] w fun e w' => e = .returned (.int .u32 (n : Nat)) ∧ Rdd w w' (some ⟨g, 0, none⟩) s' := by
  have := word_any h kb
  rw [e] at this
  exact this
end
set_option maxRecDepth 100000 in
theorem rdO_steps (st : Option (List UInt8)) : ∃ (d1 : Nat × Nat) (s1 : Option (List UInt8)) (v2 : List Nat) (s2 : Option (List UInt8)) (n3 : Nat) (s3 : Option (List UInt8)) (n4 : Nat) (s4 : Option (List UInt8)) (d5 : Nat × Nat) (s5 : Option (List UInt8)) (n6 : Nat) (s6 : Option (List UInt8)) (d7 : Nat × Nat) (s7 : Option (List UInt8)) (n8 : Nat) (s8 : Option (List UInt8)) (n9 : Nat) (s9 : Option (List UInt8)) (n10 : Nat) (s10 : Option (List UInt8)) (n11 : Nat) (s11 : Option (List UInt8)) (d12 : Nat × Nat) (s12 : Option (List UInt8)) (d13 : Nat × Nat) (s13 : Option (List UInt8)) (n14 : Nat) (s14 : Option (List UInt8)) (n15 : Nat) (s15 : Option (List UInt8)) (n16 : Nat) (s16 : Option (List UInt8)) (n17 : Nat) (s17 : Option (List UInt8)),
    (dotZ st = d1 ∧ (rdotS st).2 = s1) ∧ (vecZ s1 = v2 ∧ (rvecS s1 8).2 = s2) ∧ (rnumS s2 18446744073709551615 = (n3, s3)) ∧ (rnumS s3 4294967295 = (n4, s4)) ∧ (dotZ s4 = d5 ∧ (rdotS s4).2 = s5) ∧ (rnumS s5 255 = (n6, s6)) ∧ (dotZ s6 = d7 ∧ (rdotS s6).2 = s7) ∧ (rnumS s7 4294967295 = (n8, s8)) ∧ (rnumS s8 255 = (n9, s9)) ∧ (rnumS s9 255 = (n10, s10)) ∧ (rnumS s10 18446744073709551615 = (n11, s11)) ∧ (dotZ s11 = d12 ∧ (rdotS s11).2 = s12) ∧ (dotZ s12 = d13 ∧ (rdotS s12).2 = s13) ∧ (rnumS s13 4294967295 = (n14, s14)) ∧ (rnumS s14 4294967295 = (n15, s15)) ∧ (rnumS s15 4294967295 = (n16, s16)) ∧ (rnumS s16 16 = (n17, s17)) ∧ rdO st = ((NOp.mk d1.1 d1.2 v2 n3 n4 d5.1 d5.2 n6 d7.1 d7.2 n8 n9 n10 n11 d12.1 d12.2 d13.1 d13.2 n14 n15 n16 (rdLines s17 n17).1), (rdLines s17 n17).2) :=
  ⟨_, _, _, _, _, _, _, _, _, _, _, _, _, _, _, _, _, _, _, _, _, _, _, _, _, _, _, _, _, _, _, _, _, _, ⟨rfl, rfl⟩, ⟨rfl, rfl⟩, rfl, rfl, ⟨rfl, rfl⟩, rfl, ⟨rfl, rfl⟩, rfl, rfl, rfl, rfl, ⟨rfl, rfl⟩, ⟨rfl, rfl⟩, rfl, rfl, rfl, rfl, rfl⟩
end Go.Proofs.YtfojjklohbiffaaDoor
