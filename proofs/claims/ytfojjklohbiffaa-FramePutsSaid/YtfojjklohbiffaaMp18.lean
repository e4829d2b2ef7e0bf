/- Operations: their bytes and back, plain. -/
import Derived.Deep.CutRange
import Derived.Test.YtfojjklohbiffaaMp12
import Derived.Test.YtfojjklohbiffaaMp13
import Derived.Test.YtfojjklohbiffaaMp17
namespace Go.Proofs.Ytfojjklohbiffaa
open Go.RowKit Tran Tran.Wire
set_option linter.unusedVariables false
set_option linter.unusedSimpArgs false
theorem rnum_nm (n m : Nat) (hn : n ≤ m) (h64 : n < 2 ^ 64) (x : List UInt8) : rnumS (some (numF n ++ x)) m = (n, some x) := by
  unfold rnumS
  rw [numS_numF n h64 x]
  simp [hn]
theorem dotZ_of {st : Option (List UInt8)} {r n : Nat} {t : List UInt8} (h : rdotS st = ((r, n), some t)) : dotZ st = (r, n) := by simp [dotZ, h]
theorem vecZ_of {st : Option (List UInt8)} {xs : List Nat} {t : List UInt8} (h : rvecS st 8 = (xs, some t)) : vecZ st = xs := by simp [vecZ, h]
theorem num_some {st : Option (List UInt8)} {m : Nat} {l : List UInt8} (h : (rnumS st m).2 = some l) : st = some (numF (rnumS st m).1 ++ l) :=
  (rnumS_some (x := (rnumS st m).1) (Prod.ext rfl h)).1
theorem dot_some {st : Option (List UInt8)} {l : List UInt8} (h : (rdotS st).2 = some l) : st = some (dotF (dotZ st).1 (dotZ st).2 ++ l) := by
  have h2 := num_some h
  have h1 := num_some h2
  have e : dotZ st = (rdotS st).1 := by unfold dotZ; rw [h]; rfl
  rw [e]
  refine h1.trans ?_
  simp [dotF, rdotS, List.append_assoc]
theorem vec_back (st : Option (List UInt8)) : ∀ (k : Nat) {l : List UInt8}, (rvecS st k).2 = some l → st = some (vecF (rvecS st k).1 ++ l)
  | 0, l, h => by simpa [rvecS, vecF] using h
  | k + 1, l, h => by
    have h1 := vec_back st k (num_some h)
    refine h1.trans ?_
    simp [rvecS, vecF, List.append_assoc]
theorem vec_some {st : Option (List UInt8)} {l : List UInt8} (h : (rvecS st 8).2 = some l) : st = some (vecF (vecZ st) ++ l) := by
  have e : vecZ st = (rvecS st 8).1 := by unfold vecZ; rw [h]; rfl
  rw [e]
  exact vec_back st 8 h
theorem lines_some (st : Option (List UInt8)) : ∀ (k : Nat) {l : List UInt8}, (rdLines st k).2 = some l → st = some (linesF (rdLines st k).1 ++ l)
  | 0, l, h => by simpa [rdLines, linesF] using h
  | k + 1, l, h => by
    have h2 := dot_some h
    have h1 := dot_some h2
    have h0 := lines_some st k h1
    refine h0.trans ?_
    simp [rdLines, linesF, rdClaim, List.append_assoc]
theorem rdot_dot (r n : Nat) (hr : r < 256) (hn : n < 4294967296) (x : List UInt8) : rdotS (some (dotF r n ++ x)) = ((r, n), some x) := by
  have h1 : rnumS (some (dotF r n ++ x)) 255 = (r, some (numF n ++ x)) := by
    rw [dotF, List.append_assoc]; exact rnum_nm r 255 (by omega) (by omega) _
  have h2 := rnum_nm n 4294967295 (by omega) (by omega) x
  simp [rdotS, h1, h2]
theorem rvec_vec (xs : List Nat) (h : ∀ y ∈ xs, y < 4294967296) (x : List UInt8) : ∀ k, k ≤ xs.length → rvecS (some (vecF xs ++ x)) k = (xs.take k, some (vecF (xs.drop k) ++ x))
  | 0, _ => by simp [rvecS]
  | k + 1, hk => by
    have hk' : k < xs.length := hk
    have e : xs.drop k = xs[k] :: xs.drop (k + 1) := List.drop_eq_getElem_cons hk'
    have hy := h xs[k] (List.getElem_mem hk')
    have h1 := rnum_nm xs[k] 4294967295 (by omega) (by omega) (vecF (xs.drop (k + 1)) ++ x)
    have e3 : vecF (xs.drop k) ++ x = numF xs[k] ++ (vecF (xs.drop (k + 1)) ++ x) := by rw [e]; simp only [vecF, List.flatMap_cons, List.append_assoc]
    rw [rvecS, rvec_vec xs h x k (by omega)]
    simp only [e3, h1]
    rw [List.take_succ_eq_append_getElem hk']
theorem rdLines_lines (ls : List NClaim) (h : ∀ c ∈ ls, c.ok) (x : List UInt8) : ∀ k, k ≤ ls.length → rdLines (some (linesF ls ++ x)) k = (ls.take k, some (linesF (ls.drop k) ++ x))
  | 0, _ => by simp [rdLines]
  | k + 1, hk => by
    have hk' : k < ls.length := hk
    have e : ls.drop k = ls[k] :: ls.drop (k + 1) := List.drop_eq_getElem_cons hk'
    obtain ⟨o1, o2, o3, o4⟩ := h ls[k] (List.getElem_mem hk')
    have e2 : linesF (ls.drop k) ++ x = dotF ls[k].lr ls[k].ln ++ (dotF ls[k].vr ls[k].vn ++ (linesF (ls.drop (k + 1)) ++ x)) := by
      rw [e]; simp only [linesF, List.flatMap_cons, List.append_assoc]
    have h1 := rdot_dot ls[k].lr ls[k].ln o1 o2 (dotF ls[k].vr ls[k].vn ++ (linesF (ls.drop (k + 1)) ++ x))
    have h2 := rdot_dot ls[k].vr ls[k].vn o3 o4 (linesF (ls.drop (k + 1)) ++ x)
    simp only [rdLines, rdLines_lines ls h x k (by omega), rdClaim, rdClaimS, e2, h1, h2, dotZ_of h1, dotZ_of h2]
    rw [List.take_succ_eq_append_getElem hk']
theorem rdO_of (x : NOp) {st : Option (List UInt8)} {t1 t2 t3 t4 t5 t6 t7 t8 t9 t10 t11 t12 t13 t14 t15 t16 t17 tl : List UInt8} (h1 : rdotS st = ((x.dr, x.dn), some t1)) (h2 : rvecS (some t1) 8 = (x.dep, some t2))
    (h3 : rnumS (some t2) 18446744073709551615 = (x.time, some t3)) (h4 : rnumS (some t3) 4294967295 = (x.who, some t4)) (h5 : rdotS (some t4) = ((x.cr, x.cn), some t5)) (h6 : rnumS (some t5) 255 = (x.kind, some t6))
    (h7 : rdotS (some t6) = ((x.er, x.en), some t7)) (h8 : rnumS (some t7) 4294967295 = (x.to, some t8)) (h9 : rnumS (some t8) 255 = (x.roles, some t9)) (h10 : rnumS (some t9) 255 = (x.depth, some t10))
    (h11 : rnumS (some t10) 18446744073709551615 = (x.cap, some t11)) (h12 : rdotS (some t11) = ((x.ar, x.an), some t12)) (h13 : rdotS (some t12) = ((x.vr, x.vn), some t13)) (h14 : rnumS (some t13) 4294967295 = (x.item, some t14))
    (h15 : rnumS (some t14) 4294967295 = (x.qty, some t15)) (h16 : rnumS (some t15) 4294967295 = (x.price, some t16)) (h17 : rnumS (some t16) 16 = (x.lines.length, some t17)) (h18 : rdLines (some t17) x.lines.length = (x.lines, some tl)) :
    rdO st = (x, some tl) := by
  simp only [rdO, dotZ_of h1, h1, vecZ_of h2, h2, h3, h4, dotZ_of h5, h5, h6, dotZ_of h7, h7, h8, h9, h10, h11, dotZ_of h12, h12, dotZ_of h13, h13, h14, h15, h16, h17, h18]
theorem putO_split (x : NOp) (r : List UInt8) : putO x ++ r = dotF x.dr x.dn ++ (vecF x.dep ++ (numF x.time ++ (numF x.who ++ (dotF x.cr x.cn ++ (numF x.kind ++ (dotF x.er x.en ++ (numF x.to ++ (numF x.roles ++ (numF x.depth ++ (numF x.cap ++ (dotF x.ar x.an ++ (dotF x.vr x.vn ++ (numF x.item ++ (numF x.qty ++ (numF x.price ++ (numF x.lines.length ++ (linesF x.lines ++ r))))))))))))))))) := by
  simp only [putO, List.append_assoc]
  simp only [vecF, List.flatMap_cons, List.flatMap_nil, List.append_assoc, List.nil_append, List.append_nil]
/-- an operation's bytes are read back -/
theorem rdO_put (x : NOp) (hx : x.ok) (hl : x.lines.length ≤ 16) (r : List UInt8) : rdO (some (putO x ++ r)) = (x, some r) := by
  rw [putO_split]
  refine rdO_of x (t17 := linesF x.lines ++ r) (rdot_dot _ _ hx.dr hx.dn _) ?_ (rnum_nm _ _ (by have := hx.time; omega) (by have := hx.time; omega) _) (rnum_nm _ _ (by have := hx.who; omega) (by have := hx.who; omega) _) (rdot_dot _ _ hx.cr hx.cn _)
    (rnum_nm _ _ (by have := hx.kind; omega) (by have := hx.kind; omega) _) (rdot_dot _ _ hx.er hx.en _) (rnum_nm _ _ (by have := hx.to; omega) (by have := hx.to; omega) _) (rnum_nm _ _ (by have := hx.roles; omega) (by have := hx.roles; omega) _)
    (rnum_nm _ _ (by have := hx.depth; omega) (by have := hx.depth; omega) _) (rnum_nm _ _ (by have := hx.cap; omega) (by have := hx.cap; omega) _) (rdot_dot _ _ hx.ar hx.an _) (rdot_dot _ _ hx.vr hx.vn _)
    (rnum_nm _ _ (by have := hx.item; omega) (by have := hx.item; omega) _) (rnum_nm _ _ (by have := hx.qty; omega) (by have := hx.qty; omega) _) (rnum_nm _ _ (by have := hx.price; omega) (by have := hx.price; omega) _)
    (rnum_nm _ _ hl (by omega) _) ?_
  · have h := rvec_vec x.dep hx.dep (numF x.time ++ (numF x.who ++ (dotF x.cr x.cn ++ (numF x.kind ++ (dotF x.er x.en ++ (numF x.to ++ (numF x.roles ++ (numF x.depth ++ (numF x.cap ++ (dotF x.ar x.an ++ (dotF x.vr x.vn ++ (numF x.item ++ (numF x.qty ++ (numF x.price ++ (numF x.lines.length ++ (linesF x.lines ++ r)))))))))))))))) 8 (by rw [hx.dep8]; omega)
    rw [h, List.take_of_length_le (by rw [hx.dep8]; omega), List.drop_of_length_le (by rw [hx.dep8]; omega)]
    rfl
  · rw [rdLines_lines x.lines hx.lines r _ (Nat.le_refl _), List.take_length, List.drop_length]
    rfl
theorem putO_inj {x y : NOp} (hx : x.ok) (hy : y.ok) (hxl : x.lines.length ≤ 16) (hyl : y.lines.length ≤ 16) {r s : List UInt8} (h : putO x ++ r = putO y ++ s) : x = y ∧ r = s := by
  have h1 := rdO_put x hx hxl r
  rw [h, rdO_put y hy hyl s] at h1
  injection h1 with h1 h2
  injection h2 with h2
  exact ⟨h1.symm, h2.symm⟩
set_option maxRecDepth 100000 in
/-- what is read is an operation's bytes -/
theorem rdO_some {st : Option (List UInt8)} {l : List UInt8} (h : (rdO st).2 = some l) : st = some (putO (rdO st).1 ++ l) := by
  unfold rdO at h
  simp only at h
  have a17 := lines_some _ _ h
  have a16 := num_some a17
  have a15 := num_some a16
  have a14 := num_some a15
  have a13 := num_some a14
  have a12 := dot_some a13
  have a11 := dot_some a12
  have a10 := num_some a11
  have a9 := num_some a10
  have a8 := num_some a9
  have a7 := num_some a8
  have a6 := dot_some a7
  have a5 := num_some a6
  have a4 := dot_some a5
  have a3 := num_some a4
  have a2 := num_some a3
  have a1 := vec_some a2
  have a0 := dot_some a1
  rw [putO_split]
  refine a0.trans ?_
  unfold rdO
  simp only [rdLines_len]
theorem putO_len (x : NOp) (hx : x.ok) (hl : x.lines.length ≤ 16) : (putO x).length ≤ 900 := by
  have q1 := dotF_len x.dr x.dn hx.dr hx.dn
  have q2 := vecF_le x.dep (fun n hn => by have := hx.dep n hn; omega)
  have q3 := vecF_len2 [x.time, x.who] (by have h1 := hx.time; have h2 := hx.who; simp; omega)
  have q4 := dotF_len x.cr x.cn hx.cr hx.cn
  have q5 := vecF_len2 [x.kind] (by have h1 := hx.kind; simp; omega)
  have q6 := dotF_len x.er x.en hx.er hx.en
  have q7 := vecF_len2 [x.to, x.roles, x.depth, x.cap] (by have h1 := hx.to; have h2 := hx.roles; have h3 := hx.depth; have h4 := hx.cap; simp; omega)
  have q8 := dotF_len x.ar x.an hx.ar hx.an
  have q9 := dotF_len x.vr x.vn hx.vr hx.vn
  have q10 := vecF_len2 [x.item, x.qty, x.price, x.lines.length] (by have h1 := hx.item; have h2 := hx.qty; have h3 := hx.price; simp; omega)
  have q11 := linesF_len x.lines hx.lines
  rw [hx.dep8] at q2
  simp only [List.length_cons, List.length_nil] at q3 q5 q7 q10
  simp only [putO, List.length_append]
  omega
end Go.Proofs.Ytfojjklohbiffaa
/- Operations read: op.Get: the worlds between; what is read, step by step. -/
namespace Go.Proofs.Ytfojjklohbiffaa
open Go.RowKit Tran Tran.Wire
set_option linter.unusedVariables false
set_option linter.unusedSimpArgs false
/-- the worlds within op.Get: the result, the reader, its box, the operation -/
structure GoW (w0 W : World) (st : Option (List UInt8)) (X : Array Value) : Prop where
  kr : Blk W w0.heap.size 122 (opA zeroO (.slice none 0 0))
  kb : Blk W (w0.heap.size + 1 + 1) 86 #[.pointer (some ⟨w0.heap.size + 1, 0, none⟩)]
  ko : Blk W (w0.heap.size + 1 + 1 + 1) 122 X
  rd : RdP W (some ⟨w0.heap.size + 1, 0, none⟩) st
  b : Below w0.heap.size w0 W
theorem GoW.box {w0 W : World} {st : Option (List UInt8)} {X : Array Value} (h : GoW w0 W st X) : W.cell? ⟨w0.heap.size + 1 + 1, 0, none⟩ = some (.pointer (some ⟨w0.heap.size + 1, 0, none⟩)) := h.kb.cell 0
theorem GoW.drew {w0 W : World} {st : Option (List UInt8)} {X : Array Value} (h : GoW w0 W st X) : GoW w0 W.drew st X := ⟨h.kr, h.kb, h.ko, h.rd, below_drew h.b⟩
theorem GoW.rdd {w0 W W' : World} {st st' : Option (List UInt8)} {X : Array Value} (h : GoW w0 W st X) (r : Rdd W W' (some ⟨w0.heap.size + 1, 0, none⟩) st') : GoW w0 W' st' X := by
  refine ⟨h.kr.chg r.ch ?_, h.kb.chg r.ch ?_, h.ko.chg r.ch ?_, r.rd, h.b.trans (r.toBelow (by omega) h.b.size)⟩
  all_goals (intro e; injection e with e; injection e with e; omega)
theorem GoW.set {w0 W : World} {st : Option (List UInt8)} {X : Array Value} (h : GoW w0 W st X) (i : Nat) (u : Value) : GoW w0 (W.setCell ⟨w0.heap.size + 1 + 1 + 1, i, none⟩ u) st (X.setIfInBounds i u) :=
  ⟨h.kr.far (p := ⟨w0.heap.size + 1 + 1 + 1, i, none⟩) (show w0.heap.size ≠ w0.heap.size + 1 + 1 + 1 by omega) u, h.kb.far (p := ⟨w0.heap.size + 1 + 1 + 1, i, none⟩) (show w0.heap.size + 1 + 1 ≠ w0.heap.size + 1 + 1 + 1 by omega) u,
    h.ko.set_ i u, h.rd.far (fun k e => by injection e with e; injection e with e; show k ≠ w0.heap.size + 1 + 1 + 1; omega) u, h.b.setCell (p := ⟨w0.heap.size + 1 + 1 + 1, i, none⟩) (show w0.heap.size ≤ w0.heap.size + 1 + 1 + 1 by omega) u⟩
theorem RdP.offCells {w : World} {p : Option Addr} {st : Option (List UInt8)} (h : RdP w p st) {k : Nat} (hk : ∀ g, p = some ⟨g, 0, none⟩ → g ≠ k) (o : Nat) (vs : List Value) : RdP (w.setCells k o vs) p st := by
  rcases h with h | ⟨g, hp, s, pos, ok, hkk, h1⟩
  · exact .inl h
  · exact .inr ⟨g, hp, s, pos, ok, hkk.farCells (hk g hp) o vs, h1⟩
theorem zO_eq : opA zeroO (.slice none 0 0) = #[.int .u8 0, .int .u32 0, .int .u32 0, .int .u32 0, .int .u32 0, .int .u32 0, .int .u32 0, .int .u32 0, .int .u32 0, .int .u32 0, .int .u64 0, .int .u32 0, .int .u8 0, .int .u32 0, .int .u8 0, .int .u8 0, .int .u32 0, .int .u32 0, .int .u8 0, .int .u8 0, .int .u64 0, .int .u8 0, .int .u32 0, .int .u8 0, .int .u32 0, .int .u32 0, .int .u32 0, .int .u32 0, .slice none 0 0] := rfl
theorem GoW.sets {w0 W : World} {st : Option (List UInt8)} {X : Array Value} (h : GoW w0 W st X) (o : Nat) (vs : List Value) : GoW w0 (W.setCells (w0.heap.size + 1 + 1 + 1) o vs) st (putAt X o vs) :=
  ⟨h.kr.farCells (by omega) o vs, h.kb.farCells (by omega) o vs, h.ko.setCells o vs, h.rd.offCells (fun k e => by injection e with e; injection e with e; omega) o vs, below_setCells h.b (by omega) o vs⟩
theorem GoW.below {w0 W W' : World} {st : Option (List UInt8)} {X : Array Value} (h : GoW w0 W st X) (hb : Below W.heap.size W W') : GoW w0 W' st X :=
  ⟨h.kr.below hb h.kr.lt, h.kb.below hb h.kb.lt, h.ko.below hb h.ko.lt, h.rd.below hb, h.b.trans (hb.mono h.b.size)⟩
theorem GoW.start (w : World) (l : List UInt8) (hl : l.length ≤ 140737488355328) : GoW w ((((w.alloc (.cells (opA zeroO (.slice none 0 0)) 122)).alloc (.cells #[.string ⟨l.toArray⟩, .int .i64 0, .bool true] 146)).alloc (.cells #[.pointer (some ⟨w.heap.size + 1, 0, none⟩)] 86)).alloc (.cells (opA zeroO (.slice none 0 0)) 122)) (some l) (opA zeroO (.slice none 0 0)) := by
  have kd := ((Blk.new (w.alloc (.cells (opA zeroO (.slice none 0 0)) 122)) 146 #[.string ⟨l.toArray⟩, .int .i64 0, .bool true]).alloc (.cells #[.pointer (some ⟨w.heap.size + 1, 0, none⟩)] 86)).alloc (.cells (opA zeroO (.slice none 0 0)) 122)
  have kb := (Blk.new ((w.alloc (.cells (opA zeroO (.slice none 0 0)) 122)).alloc (.cells #[.string ⟨l.toArray⟩, .int .i64 0, .bool true] 146)) 86 #[.pointer (some ⟨w.heap.size + 1, 0, none⟩)]).alloc (.cells (opA zeroO (.slice none 0 0)) 122)
  have ko := Blk.new (((w.alloc (.cells (opA zeroO (.slice none 0 0)) 122)).alloc (.cells #[.string ⟨l.toArray⟩, .int .i64 0, .bool true] 146)).alloc (.cells #[.pointer (some ⟨w.heap.size + 1, 0, none⟩)] 86)) 122 (opA zeroO (.slice none 0 0))
  simp only [World.size_alloc] at kd kb ko
  exact ⟨(((Blk.new w 122 _).alloc _).alloc _).alloc _, kb, ko, .inr ⟨_, rfl, l, 0, true, kd, by omega, hl, by simp⟩, ((((Below.refl _ w).alloc (Nat.le_refl _) _).alloc (by simp) _).alloc (by simp; omega) _).alloc (by simp; omega) _⟩
theorem GoW.chg {w0 W W' : World} {st : Option (List UInt8)} {X : Array Value} {S : Nat → Prop} (h : GoW w0 W st X) (c : Chg S W W') (hS : ∀ k, S k → w0.heap.size + 1 + 1 + 1 < k) : GoW w0 W' st X :=
  ⟨h.kr.chg c (fun k => by have := hS _ k; omega), h.kb.chg c (fun k => by have := hS _ k; omega), h.ko.chg c (fun k => by have := hS _ k; omega),
    h.rd.chg c (fun k e k2 => by injection e with e; injection e with e; have := hS _ k2; omega), h.b.trans (c.toBelow h.b.size (fun k _ k2 => by have := hS _ k2; omega))⟩
theorem info177 : (Try.prog.info? 177).map (fun i => (i.zero, i.size, i.bytes)) = some (some (.agg #[.int .u8 0, .int .u32 0, .int .u8 0, .int .u32 0]), 4, 16) := by kernel_rfl
theorem bs120 (W : World) (a b c d : Value) (ha : a.oneCell' = true) (hb : b.oneCell' = true) (hc : c.oneCell' = true) (hd : d.oneCell' = true) : (Instr.buildSlice 120 1 #[(0, .agg #[a, b, c, d])]).run Try.prog W = .ok (.slice (some ⟨W.heap.size, 0, none⟩) 1 1) (W.alloc (.cells #[a, b, c, d] 177)) := by go_simp
theorem claim_built (a b c d : Int) : Try.prog.built 177 [(0, .agg #[.int .u8 a, .int .u32 b]), (1, .agg #[.int .u8 c, .int .u32 d])] = some #[.int .u8 a, .int .u32 b, .int .u8 c, .int .u32 d] := by kernel_rfl
theorem exec_bsl {P : Program} {o : Oper} {a : Act} {w w' : World} (t : TypeId) (n : Nat) (parts : Array (Nat × Operand)) (ho : o.op = .buildSlice t n parts) {vs : Array (Nat × Value)} {v : Value} (hv : (parts.map fun (i, x) => (i, a.eval x)) = vs)
    (hr : (Instr.buildSlice t n vs).run P w = .ok v w') : (execOp a.eval o).run P w = .ok (.value v) w' := by
  have hr' : (Instr.buildSlice t n (parts.map fun (i, x) => (i, a.eval x))).run P w = .ok v w' := by rw [hv]; exact hr
  unfold execOp
  simp only [ho, Sem.run_bind, hr', Result.andThen_ok]
  rfl
theorem exec_append {P : Program} {o : Oper} {a : Act} {w w' : World} {s x : Operand} {t : TypeId} {v u v' : Value} (ho : o.op = .call { callee := .builtin .append, args := #[s, x], argTypes := #[t, t] }) (hs : a.eval s = v) (hx : a.eval x = u)
    (hr : (Builtin.append_ #[t, t] o.type #[v, u]).run P w = .ok v' w') : (execOp a.eval o).run P w = .ok (.value v') w' := by
  simp [execOp, ho, resolve, invoke, builtin, hs, hx, hr, Result.andThen]
section
variable {P : Program} {ops : Array Oper} {Q : Exit → Act → World → Prop} {S : World → Prop}
theorem reg_two {i j : Nat} {fuel : Nat} {listed : Array Bool} {a : Act} {w : World} (hr : Region.ready .any ops listed = [i, j])
    (h1 : wpOp P ops Q i (fun a' w' => S w' ∧ wpAnyH P .any ops Q S fuel (listed.setIfInBounds i true) a' w') a w) (h2 : wpOp P ops Q j (fun a' w' => S w' ∧ wpAnyH P .any ops Q S fuel (listed.setIfInBounds j true) a' w') a w) :
    wpAnyH P .any ops Q S (fuel + 1) listed a w := by
  refine wpAnyH_all hr (by simp) fun k hk => ?_
  rcases (by simpa using hk : k = i ∨ k = j) with rfl | rfl
  · exact h1
  · exact h2
theorem op_run (d : Option Tmp) {i : Nat} {oi : Oper} {K : Act → World → Prop} {a : Act} {w w' : World} {v : Value} (hi : ops[i]? = some oi) (hd : oi.dst = d) (hw : Region.wanted oi (yielded ops a.tmps) = true)
    (hrun : (execOp a.eval oi).run P w = .ok (.value v) w') (hS : S w') (h : K (a.put d v) w') : wpOp P ops Q i (fun a' w' => S w' ∧ K a' w') a w := by
  subst hd
  unfold wpOp
  simp only [hi, hw, if_true, Oper.wp, hrun, Oper.upon]
  exact .inl ⟨hS, h⟩
theorem op_call (d : Option Tmp) {i : Nat} {oi : Oper} {K : Act → World → Prop} {a : Act} {w : World} {f : FuncId} {args : Array Value} (hi : ops[i]? = some oi) (hd : oi.dst = d) (hw : Region.wanted oi (yielded ops a.tmps) = true)
    (hrun : (execOp a.eval oi).run P w = .ok (.enter f args) w) (h : Calls P f args w fun e w' => ∃ v, e = .returned v ∧ S w' ∧ K (a.put d v) w') : wpOp P ops Q i (fun a' w' => S w' ∧ K a' w') a w := by
  subst hd
  unfold wpOp
  simp only [hi, hw, if_true, Oper.wp, hrun, Oper.upon]
  refine .inl (h.mono ?_)
  rintro e w' ⟨v, rfl, hS, hh⟩
  exact ⟨hS, hh⟩
end
section
variable {w : World} {p : Option Addr} {st s' : Option (List UInt8)}
theorem rdot_c {d : Nat × Nat} (h : RdP w p st) (e : dotZ st = d ∧ (rdotS st).2 = s') : Calls Try.prog 67 #[.pointer p] w fun e w' => e = .returned (.agg #[.int .u8 (d.1 : Nat), .int .u32 (d.2 : Nat)]) ∧ Rdd w w' p s' := by
  have := rdot_r h
  rw [dotV_eq, e.1, e.2] at this
  exact this
theorem rvec_c {xs : List Nat} (h : RdP w p st) (e : vecZ st = xs ∧ (rvecS st 8).2 = s') : Calls Try.prog 68 #[.pointer p] w fun e w' => e = .returned (.agg (vecA xs)) ∧ Rdd w w' p s' := by
  have := rvec_r h
  rw [vecV_eq, e.1, e.2] at this
  exact this
theorem rnum_c {m n : Nat} {M : Int} (h : RdP w p st) (e : rnumS st m = (n, s')) (hM : M = (m : Nat)) : Calls Try.prog 65 #[.pointer p, .int .u64 M] w fun e w' => e = .returned (.int .u64 (n : Nat)) ∧ Rdd w w' p s' := by
  have := rnum_r h m
  rw [e, ← hM] at this
  exact this
theorem short_c {g bx n : Nat} (h : RdP w (some ⟨g, 0, none⟩) st) (kb : Blk w bx 86 #[.pointer (some ⟨g, 0, none⟩)]) (e : rnumS st 255 = (n, s')) : Calls Try.prog 130 #[.pointer (some ⟨bx, 0, none⟩)] w fun e w' => e = .returned (.int .u8 (n : Nat)) ∧ Rdd w w' (some ⟨g, 0, none⟩) s' := by
  have := short_any h kb
  rw [e] at this
  exact this
theorem word_c {g bx n : Nat} (h : RdP w (some ⟨g, 0, none⟩) st) (kb : Blk w bx 86 #[.pointer (some ⟨g, 0, none⟩)]) (e : rnumS st 4294967295 = (n, s')) : Calls Try.prog 131 #[.pointer (some ⟨bx, 0, none⟩)] w fun e w' => e = .returned (.int .u32 (n : Nat)) ∧ Rdd w w' (some ⟨g, 0, none⟩) s' := by
  have := word_any h kb
  rw [e] at this
  exact this
end
set_option maxRecDepth 100000 in
theorem rdO_steps (st : Option (List UInt8)) : ∃ (d1 : Nat × Nat) (s1 : Option (List UInt8)) (v2 : List Nat) (s2 : Option (List UInt8)) (n3 : Nat) (s3 : Option (List UInt8)) (n4 : Nat) (s4 : Option (List UInt8)) (d5 : Nat × Nat) (s5 : Option (List UInt8)) (n6 : Nat) (s6 : Option (List UInt8)) (d7 : Nat × Nat) (s7 : Option (List UInt8)) (n8 : Nat) (s8 : Option (List UInt8)) (n9 : Nat) (s9 : Option (List UInt8)) (n10 : Nat) (s10 : Option (List UInt8)) (n11 : Nat) (s11 : Option (List UInt8)) (d12 : Nat × Nat) (s12 : Option (List UInt8)) (d13 : Nat × Nat) (s13 : Option (List UInt8)) (n14 : Nat) (s14 : Option (List UInt8)) (n15 : Nat) (s15 : Option (List UInt8)) (n16 : Nat) (s16 : Option (List UInt8)) (n17 : Nat) (s17 : Option (List UInt8)),
    (dotZ st = d1 ∧ (rdotS st).2 = s1) ∧ (vecZ s1 = v2 ∧ (rvecS s1 8).2 = s2) ∧ (rnumS s2 18446744073709551615 = (n3, s3)) ∧ (rnumS s3 4294967295 = (n4, s4)) ∧ (dotZ s4 = d5 ∧ (rdotS s4).2 = s5) ∧ (rnumS s5 255 = (n6, s6)) ∧ (dotZ s6 = d7 ∧ (rdotS s6).2 = s7) ∧ (rnumS s7 4294967295 = (n8, s8)) ∧ (rnumS s8 255 = (n9, s9)) ∧ (rnumS s9 255 = (n10, s10)) ∧ (rnumS s10 18446744073709551615 = (n11, s11)) ∧ (dotZ s11 = d12 ∧ (rdotS s11).2 = s12) ∧ (dotZ s12 = d13 ∧ (rdotS s12).2 = s13) ∧ (rnumS s13 4294967295 = (n14, s14)) ∧ (rnumS s14 4294967295 = (n15, s15)) ∧ (rnumS s15 4294967295 = (n16, s16)) ∧ (rnumS s16 16 = (n17, s17)) ∧ rdO st = ((NOp.mk d1.1 d1.2 v2 n3 n4 d5.1 d5.2 n6 d7.1 d7.2 n8 n9 n10 n11 d12.1 d12.2 d13.1 d13.2 n14 n15 n16 (rdLines s17 n17).1), (rdLines s17 n17).2) :=
  ⟨_, _, _, _, _, _, _, _, _, _, _, _, _, _, _, _, _, _, _, _, _, _, _, _, _, _, _, _, _, _, _, _, _, _, ⟨rfl, rfl⟩, ⟨rfl, rfl⟩, rfl, rfl, ⟨rfl, rfl⟩, rfl, ⟨rfl, rfl⟩, rfl, rfl, rfl, rfl, ⟨rfl, rfl⟩, ⟨rfl, rfl⟩, rfl, rfl, rfl, rfl, rfl⟩
end Go.Proofs.Ytfojjklohbiffaa
