/- Records: scanning a row of bytes: the texts, the bytes they take, the state. -/
import Derived.Test.YtfojjklohbiffaaRecE
import Derived.Test.YtfojjklohbiffaaOwn
namespace Tran
open Go Go.RowKit
theorem wpListIn_append_Own {F : Fence} {nF : Nat} {P : Program} (w : World) {ops : Array Oper} {rest : List Oper} {o : Oper} {a : Act} {Q : Exit → Act → World → Prop} (hgd : o.guard = none) (s x : Operand) (t : TypeId)
    (ho : o.op = .call { callee := .builtin .append, args := #[s, x], argTypes := #[t, t] })
    (B : Nat) (e : TypeId) (i : TypeInfo) (z : Value) (size bytes : Nat) (ht : P.underlying t = some (.slice e)) (hi : P.info? e = some i) (hz : i.zero = some z)
    (hsize : i.size = size) (hby : i.bytes = bytes) (hzs : z.cells.size = size) (hsz : 0 < size)
    (v : Value) (n : Nat) (xs : List Value) (hs : a.eval s = v) (hown : Own w B e size v n xs)
    (A : Option Addr) (m c : Nat) (news : List Value) (hx : a.eval x = .slice A m c) (hr : Rd w A m size news) (h1 : ∀ u ∈ news, u.oneCell' = true)
    (h63 : n + m ≤ maxLen) (hbytes : (n + m) * bytes ≤ 140737488355328) (hbase : B ≤ w.heap.size)
    (h : ∀ v' w', Own w' B e size v' (n + m) (xs ++ news) → w.grownBy w' (blkOf v) → (blkOf v' = blkOf v ∨ blkOf v' = some w.heap.size) → wpListIn F nF P ops Q rest (a.put o.dst v') w') : wpListIn F nF P ops Q (o :: rest) a w := by
  refine wpListIn_plain hgd fun K hK => ?_
  obtain ⟨v', w', hrun, h2, h3, h4⟩ := run_append_Own (P := P) w B t o.type e i z size bytes ht hi hz hsize hby hzs hsz v n xs hown A m c news hr h1 h63 hbytes hbase
  unfold Oper.wpIn
  refine ⟨by simp [Oper.about, ho, resolve, Target.leads, Sem.run_pure], ?_⟩
  rw [Oper.semAt_plain F _ _ (by rw [ho]; intro c hc'; cases hc')]
  simp [execOp, ho, resolve, invoke, builtin, hs, hx, hrun, Result.andThen]
  exact hK _ _ (h v' w' h2 h3 h4)
end Tran
namespace Tran
open Go Go.RowKit
theorem Own.cells {w : World} {B : Nat} {e : TypeId} {size : Nat} {v : Value} {n : Nat} {xs : List Value} (h : Tran.Own w B e size v n xs) : ∀ k, blkOf v = some k → ∃ o : Obj, w.heap[k]? = some o ∧ o.isCells = true := by
  intro k hk
  rcases h.2 with ⟨A, rfl, _⟩ | ⟨g, cap, cur, fz, rfl, hb, hg, _⟩
  · cases A <;> simp [blkOf] at hk
  · simp [blkOf] at hk
    subst hk
    exact ⟨_, hg, rfl⟩
theorem Own.put {w : World} {B : Nat} {e : TypeId} {size : Nat} {v : Value} {n : Nat} {xs : List Value} (h : Tran.Own w B e size v n xs) {l : Nat} {o o' : Obj} (hl : w.heap[l]? = some o) (ho : o.isCells = false) : Tran.Own (w.putObj l o') B e size v n xs :=
  Own.sameBlock h fun g hg => World.putObj_heap_other (by
    rintro rfl
    obtain ⟨o2, h2, h3⟩ := Own.cells h _ hg
    rw [hl] at h2; cases h2; rw [ho] at h3; cases h3)
theorem Blk.put {w : World} {g l : Nat} {t : TypeId} {cs : Array Value} (h : Blk w g t cs) (hl : g ≠ l) (o' : Obj) : Blk (w.putObj l o') g t cs := (World.putObj_heap_other (by omega)).trans h
end Tran
namespace Go.Proofs.Ytfojjklohbiffaa
open Go.RowKit Tran Tran.Wire
attribute [local go_sem] Oper.semAt_some
set_option linter.unusedVariables false
set_option maxRecDepth 100000 in
set_option maxHeartbeats 1000000 in
theorem records_any (s : List UInt8) (bt : Nat) (w : World) : Calls Try.prog 122 #[.string ⟨s.toArray⟩, .pointer (some ⟨bt, 0, none⟩)] w fun e w' =>
    e = .returned (.func (.func 138) #[] #[.pointer (some ⟨w.heap.size, 0, none⟩), .pointer (some ⟨w.heap.size + 1, 0, none⟩)]) ∧ w' = (w.alloc (.cells #[.string ⟨s.toArray⟩] 9)).alloc (.cells #[.pointer (some ⟨bt, 0, none⟩)] 170) := by
  go_enter Try.func122, Try.ntmps122
  go_wp2_with fail
  go_ret
  exact ⟨rfl, rfl⟩
theorem info9_ : (Try.prog.info? 9).map (fun i => (i.zero, i.size, i.bytes)) = some (some (.string ⟨#[]⟩), 1, 16) := by kernel_rfl
def taken (l : List (List UInt8 × Nat)) : Nat := (l.map (·.2)).sum
theorem taken_snoc (l : List (List UInt8 × Nat)) (x : List UInt8 × Nat) : taken (l ++ [x]) = taken l + x.2 := by simp [taken]
theorem taken_pre {l m : List (List UInt8 × Nat)} (h : l <+: m) : taken l ≤ taken m := by
  obtain ⟨r, rfl⟩ := h
  simp [taken]
theorem scanF_le (s : List UInt8) : taken (scanF s).1 ≤ s.length ∧ (scanF s).1.length ≤ s.length ∧ (scanF s).2 ≤ 2 := by
  induction s using scanF.induct with
  | case1 => simp [scanF, taken]
  | case2 b r h ih =>
    have := firstF_own h
    rw [scanF, dif_pos h]
    simp only [taken, List.map_cons, List.sum_cons, List.length_cons, List.length_drop] at ih ⊢
    omega
  | case3 b r h =>
    rw [scanF, dif_neg h]
    have := firstF_st b r
    simp only [taken, List.map_nil, List.sum_nil, List.length_nil, List.length_cons]
    omega
def Scanned (w : World) (q : List (List UInt8 × Nat) × Nat) (e : Ending) (w' : World) : Prop :=
  ∃ v, e = .returned (.tuple #[v, .int .i64 (taken q.1 : Nat), .int .u8 (q.2 : Nat)]) ∧ Tran.Own w' w.heap.size 9 1 v q.1.length (strs (q.1.map (·.1))) ∧ Below w.heap.size w w'
set_option maxRecDepth 100000 in
set_option maxHeartbeats 8000000 in
theorem scan_any (s : List UInt8) (hs : s.length ≤ 1000000) (w : World) : Calls Try.prog 80 #[.string ⟨s.toArray⟩] w (Scanned w (scanF s)) := by
  refine (callsIn_wide (n := 9)).1 ?_
  refine callsIn_of_wp_marks Try.func80 rfl trivial ?_ rfl
  simp only [Try.ntmps80, List.size_toArray, List.length_cons, List.length_nil, Nat.reduceAdd, Nat.reduceSub, Array.replicate_succ, Array.replicate_zero, List.push_toArray, List.append_toArray, List.nil_append, List.cons_append]
  gi_wp2
  refine ⟨trivial, (callsIn_wide.2 (records_any s _ _)).mono ?_⟩
  rintro e w1 ⟨rfl, h1⟩
  have e0 : w1.heap.size = w.heap.size + 5 := by rw [h1]; simp
  have q2 : Blk w1 w.heap.size 43 #[.slice none 0 0] := by
    rw [h1]; exact ((((Blk.new w 43 _).alloc _).alloc _).alloc _).alloc _
  have q3 : Blk w1 (w.heap.size + 1) 3 #[.int .i64 0] := by
    rw [h1]; have := Blk.new (w.alloc (.cells #[.slice none 0 0] 43)) 3 #[.int .i64 0]
    rw [World.size_alloc] at this
    exact ((this.alloc _).alloc _).alloc _
  have q4 : Blk w1 (w.heap.size + 1 + 1) 5 #[.int .u8 0] := by
    rw [h1]; have := Blk.new ((w.alloc (.cells #[.slice none 0 0] 43)).alloc (.cells #[.int .i64 0] 3)) 5 #[.int .u8 0]
    rw [World.size_alloc, World.size_alloc] at this
    exact (this.alloc _).alloc _
  have q5 : Blk w1 (w.heap.size + 1 + 1 + 1) 9 #[.string ⟨s.toArray⟩] := by
    rw [h1]; have := Blk.new (((w.alloc (.cells #[.slice none 0 0] 43)).alloc (.cells #[.int .i64 0] 3)).alloc (.cells #[.int .u8 0] 5)) 9 #[.string ⟨s.toArray⟩]
    rw [World.size_alloc, World.size_alloc, World.size_alloc] at this
    exact this.alloc _
  have q6 : Blk w1 (w.heap.size + 1 + 1 + 1 + 1) 170 #[.pointer (some ⟨w.heap.size + 1 + 1, 0, none⟩)] := by
    rw [h1]; have := Blk.new ((((w.alloc (.cells #[.slice none 0 0] 43)).alloc (.cells #[.int .i64 0] 3)).alloc (.cells #[.int .u8 0] 5)).alloc (.cells #[.string ⟨s.toArray⟩] 9)) 170 #[.pointer (some ⟨w.heap.size + 1 + 1, 0, none⟩)]
    rw [World.size_alloc, World.size_alloc, World.size_alloc, World.size_alloc] at this
    exact this
  have B1 : Below w.heap.size w w1 := by
    rw [h1]; exact (((((Below.refl _ w).alloc (Nat.le_refl _) _).alloc (by simp) _).alloc (by simp; omega) _).alloc (by simp; omega) _).alloc (by simp; omega) _
  simp only [World.size_alloc] at h1 ⊢
  clear h1
  gi_wp2
  obtain ⟨i0, hi, hz0, hz1, hz2⟩ := info_parts info9_
  have hLE := scanF_le s
  refine wpIn_rangeFunc_mine rfl (by decide) (gf := 138) (lb := #[.pointer (some ⟨w.heap.size + 1 + 1 + 1, 0, none⟩), .pointer (some ⟨w.heap.size + 1 + 1 + 1 + 1, 0, none⟩)]) rfl trivial (enters_of Try.func138 (by kernel_rfl) rfl)
    (records1_own 8 (w.heap.size + 1 + 1 + 1) (w.heap.size + 1 + 1 + 1 + 1) (w.heap.size + 1 + 1) s hs (by omega) (by omega) (by omega))
    (fun h k => ⟨k.1.trans h.1, k.2.1.trans h.2.1, k.2.2.trans h.2.2⟩)
    (fun W l o o' hl h1 h2 => ⟨World.putObj_heap_other (by omega), World.putObj_heap_other (by omega), World.putObj_heap_other (by omega)⟩)
    (fun W W' k hk hk2 hc => hc.block k hk2 (by omega))
    (fun o1 o2 => ⟨(q5.alloc _).alloc _, (q6.alloc _).alloc _, (q4.alloc _).alloc _⟩)
    (fun xs W l o o' hl h1 h2 hS => ⟨hS.1, hS.2.put (by omega) o'⟩)
    (fun _ => rfl)
    (fun pre W => (∃ v, Blk W w.heap.size 43 #[v] ∧ Tran.Own W (w.heap.size + 5) 9 1 v pre.length (strs (pre.map (·.1)))) ∧ Blk W (w.heap.size + 1) 3 #[.int .i64 (taken pre : Nat)] ∧ Below w.heap.size w1 W)
    (fun pre W l o o' hl h1 h2 ⟨⟨v, hv, ho⟩, h3, h4⟩ => ⟨⟨v, hv.put (by omega) o', ho.put h1 h2⟩, h3.put (by omega) o', h4.trans ((Below.refl w.heap.size W).grown (grownBy_putObj' W l o') (by have := (Array.getElem?_eq_some_iff.1 h1).1; omega) (fun k e => by cases e; omega))⟩)
    (fun pre W W' ⟨⟨v, hv, ho⟩, h3, h4⟩ hc => ⟨⟨v, hv.chg hc (by omega), ho.chg hc (fun g hg => by have := ho.lt g hg; omega)⟩, h3.chg hc (by omega), h4.trans (hc.toBelow (by have := h4.size; omega) (fun k _ hk => by omega))⟩)
    (fun o1 o2 => ⟨⟨_, (q2.alloc _).alloc _, Own.nil _ _ _ _⟩, (q3.alloc _).alloc _, ((Below.refl _ w1).alloc (by omega) _).alloc (by simp; omega) _⟩)
    (fun x => { tmps := #[.string ⟨s.toArray⟩, undef, .pointer (some ⟨w.heap.size, 0, none⟩), .pointer (some ⟨w.heap.size + 1, 0, none⟩), .pointer (some ⟨w.heap.size + 1 + 1, 0, none⟩), .string ⟨x.1.toArray⟩, .int .i64 (x.2 : Nat), .string ⟨s.toArray⟩,
      .func (.func 138) #[] #[.pointer (some ⟨w.heap.size + 1 + 1 + 1, 0, none⟩), .pointer (some ⟨w.heap.size + 1 + 1 + 1 + 1, 0, none⟩)], .string ⟨x.1.toArray⟩, .int .i64 (x.2 : Nat), undef, undef, undef, undef, undef, undef, undef, undef, undef, undef], defers := [] }) ?assign ?body ?done
  case assign =>
    intro l x W K hK
    unfold encTN
    gi_wp2
    exact hK
  case body =>
    rintro l pre x W hok ⟨⟨v, hv, ho⟩, h3, h4⟩
    have hpl := hok.length_le
    have htk := taken_pre hok
    rw [taken_snoc] at htk
    rw [List.length_append, List.length_singleton] at hpl
    have c1 := hv.cell 0
    have c2 := h3.cell 0
    have f1 := hv.frozen 0
    have f2 := h3.frozen 0
    have k3 := Lib.hid h3
    have HO := Lib.hid ho
    have HV := Lib.hid hv
    have HB := Lib.hid h4
    have hsz := h4.size
    have hadd : IntKind.i64.wrap (((taken pre : Nat) : Int) + (x.2 : Nat)) = ((taken pre + x.2 : Nat) : Int) := by rw [IntWalk.i64_in _ (by omega)]; omega
    clear h3 ho hv h4
    gi_wp2_with (gi_at_builtin; refine wpListIn_append_Own _ rfl (.tmp 11) (.tmp 13) 43 rfl (w.heap.size + 5) 9 i0 _ 1 16 Try.underlying43 hi hz0 hz1 hz2 rfl (by decide) v _ _ (by simp [Act.eval]) (HO.out.alloc _) (some ⟨W.heap.size, 0, none⟩) 1 1 _ (by simp [Act.eval]) (Rd.one _ _ _) (by simp [Value.oneCell']) (by unfold maxLen; omega) (by omega) (by simp; omega) ?_; intro v' w3 ho4 hg4 hat4; obtain ⟨A3, cap3, rfl, _, _, _⟩ := ho4.slice; have hv3 := (HV.out.alloc _).grown hg4 (fun e => by have := (HO.out.lt _ e.symm).1; omega); have h33 := (k3.out.alloc _).grown hg4 (fun e => by have := (HO.out.lt _ e.symm).1; omega); have d1 := hv3.cell 0; have d2 := h33.cell 0; have g1 := hv3.frozen 0; have g2 := h33.frozen 0)
    have hrow : ∀ j o, blkOf v = some j → (W.alloc (.cells #[.string ⟨x.1.toArray⟩] 9)).heap[j]? = some o → o.isCells = true := fun j o hj ho => by
      obtain ⟨o2, h2, h3⟩ := Own.cells (HO.out.alloc (.cells #[.string ⟨x.1.toArray⟩] 9)) j hj
      rw [ho] at h2; cases h2; exact h3
    have hkeep : ∀ k, k < w.heap.size + 5 → k ≠ w.heap.size → k ≠ w.heap.size + 1 → ((w3.setCell ⟨w.heap.size, 0, none⟩ (.slice A3 (pre.length + 1) cap3)).setCell ⟨w.heap.size + 1, 0, none⟩ (.int .i64 (((taken pre : Nat) : Int) + (x.2 : Nat)))).heap[k]? = W.heap[k]? := fun k hk h2 h3 =>
      (Below.heap_setCell _ _ _ k h3).trans ((Below.heap_setCell _ _ _ k h2).trans ((hg4.block k (by simp; omega) (fun e => by have := (HO.out.lt _ e.symm).1; omega)).trans (Below.heap_alloc W _ k (by omega))))
    have hb4 : ∀ g, blkOf (.slice A3 (pre.length + 1) cap3) = some g → w.heap.size + 5 ≤ g := fun g hg => (ho4.lt g hg).1
    have hlen : (pre ++ [x]).length = pre.length + 1 := by simp
    have hstr : strs ((pre ++ [x]).map (·.1)) = strs (pre.map (·.1)) ++ [.string ⟨x.1.toArray⟩] := by simp [strs]
    refine ⟨(((KeepsOthers.alloc W _).trans (KeepsOthers.of_grownBy hg4 (fun j o hj ho => hrow j o hj ho))).trans (KeepsOthers.setCell _ _ _)).trans (KeepsOthers.setCell _ _ _),
      ⟨hkeep _ (by omega) (by omega) (by omega), hkeep _ (by omega) (by omega) (by omega), hkeep _ (by omega) (by omega) (by omega)⟩,
      ⟨_, by simpa using (hv3.set_ 0 (.slice A3 (pre.length + 1) cap3)).far (p := ⟨w.heap.size + 1, 0, none⟩) (by simp) _, ?_⟩, ?_, ?_⟩
    · rw [hlen, hstr]
      exact (ho4.far (fun e => by have := hb4 _ e; simp at this; omega) _).far (fun e => by have := hb4 _ e; simp at this) _
    · rw [taken_snoc]
      have := (h33.far (p := ⟨w.heap.size, 0, none⟩) (by simp) (.slice A3 (pre.length + 1) cap3)).set_ 0 (.int .i64 (((taken pre : Nat) : Int) + (x.2 : Nat)))
      simpa using this
    · have hsz3 := hg4.size
      rw [World.size_alloc] at hsz3
      exact (((HB.out.alloc (by omega) _).grown hg4 (by simp; omega) (fun k hk => by have := (HO.out.lt _ hk).1; omega)).setCell (by simp) _).setCell (by simp) _
  case done =>
    rintro D xs W hD ⟨rfl, hS⟩ ⟨⟨v, hv, ho⟩, h3, h4⟩ hK
    have c1 := hv.cell 0
    have c2 := h3.cell 0
    have c3 := hS.cell 0
    have f1 := hv.frozen 0
    have f2 := h3.frozen 0
    have f3 := hS.frozen 0
    obtain ⟨A, cap, rfl, _, _, _⟩ := ho.slice
    have k1 := Lib.hid hv
    have k2 := Lib.hid h3
    have k3 := Lib.hid hS
    have HO := Lib.hid ho
    have HB := Lib.hid h4
    have HL := Lib.hid hLE
    have HK := Lib.hid hK
    clear hv h3 hS ho h4 hLE hK q2 q3 q4 q5 q6 hi hz0 hz1 hz2
    gi_wp2
    refine wpIn_wide.2 ?_
    go_region
    gi_wp2
    have hK3 : ((((W.setCell ⟨w.heap.size, 0, none⟩ (.slice A (scanF s).1.length cap)).setCell ⟨w.heap.size + 1, 0, none⟩ (.int .i64 (taken (scanF s).1 : Nat))).setCell ⟨w.heap.size + 1 + 1, 0, none⟩ (.int .u8 ((scanF s).2 : Nat))).drew).heap[D]? = some (.deferred (some [])) :=
      (KeepsOthers.drew _).same D _ ((KeepsOthers.setCell _ _ _).same D _ ((KeepsOthers.setCell _ _ _).same D _ ((KeepsOthers.setCell _ _ _).same D _ HK.out rfl) rfl) rfl) rfl
    refine ⟨by simp, .inl ⟨_, _, rfl, run_takeDeferred hK3, ?_⟩⟩
    have hDg : w1.heap.size ≤ D := hD
    obtain ⟨WF, hWF⟩ : ∃ WF, ((((W.setCell ⟨w.heap.size, 0, none⟩ (.slice A (scanF s).1.length cap)).setCell ⟨w.heap.size + 1, 0, none⟩ (.int .i64 (taken (scanF s).1 : Nat))).setCell ⟨w.heap.size + 1 + 1, 0, none⟩ (.int .u8 ((scanF s).2 : Nat))).drew).putObj D (.deferred none) = WF := ⟨_, rfl⟩
    have m1 : Blk WF w.heap.size 43 #[.slice A (scanF s).1.length cap] := by
      rw [← hWF]
      exact Blk.put (by simpa using (((k1.out.set_ 0 (.slice A (scanF s).1.length cap)).far (p := ⟨w.heap.size + 1, 0, none⟩) (by simp) (.int .i64 (taken (scanF s).1 : Nat))).far (p := ⟨w.heap.size + 1 + 1, 0, none⟩) (by simp; omega) (.int .u8 ((scanF s).2 : Nat))).drew) (by omega) _
    have m2 : Blk WF (w.heap.size + 1) 3 #[.int .i64 (taken (scanF s).1 : Nat)] := by
      rw [← hWF]
      exact Blk.put (by simpa using (((k2.out.far (p := ⟨w.heap.size, 0, none⟩) (by simp) (.slice A (scanF s).1.length cap)).set_ 0 (.int .i64 (taken (scanF s).1 : Nat))).far (p := ⟨w.heap.size + 1 + 1, 0, none⟩) (by simp) (.int .u8 ((scanF s).2 : Nat))).drew) (by omega) _
    have m3 : Blk WF (w.heap.size + 1 + 1) 5 #[.int .u8 ((scanF s).2 : Nat)] := by
      rw [← hWF]
      exact Blk.put (by simpa using (((k3.out.far (p := ⟨w.heap.size, 0, none⟩) (by simp; omega) (.slice A (scanF s).1.length cap)).far (p := ⟨w.heap.size + 1, 0, none⟩) (by simp) (.int .i64 (taken (scanF s).1 : Nat))).set_ 0 (.int .u8 ((scanF s).2 : Nat))).drew) (by omega) _
    have HO2 : Tran.Own WF (w.heap.size + 5) 9 1 (.slice A (scanF s).1.length cap) (scanF s).1.length (strs ((scanF s).1.map (·.1))) := by
      rw [← hWF]
      have hlt := HO.out.lt
      exact Own.put (((HO.out.far (p := ⟨w.heap.size, 0, none⟩) (fun e => by have := (hlt _ e).1; have e2 : w.heap.size + 5 ≤ w.heap.size := this; omega) _).far (p := ⟨w.heap.size + 1, 0, none⟩) (fun e => by have := (hlt _ e).1; simp at this) _).far (p := ⟨w.heap.size + 1 + 1, 0, none⟩) (fun e => by have := hlt _ e; simp at this; omega) _).drew hK3 rfl
    have HB2 : Below w.heap.size w WF := by
      rw [← hWF]
      refine B1.trans ((((HB.out.setCell (p := ⟨w.heap.size, 0, none⟩) (by simp) _).setCell (p := ⟨w.heap.size + 1, 0, none⟩) (by simp) _).setCell (p := ⟨w.heap.size + 1 + 1, 0, none⟩) (by simp; omega) _).drew.trans ((Below.refl w.heap.size _).grown (grownBy_putObj' _ D _) (by have := (Array.getElem?_eq_some_iff.1 hK3).1; omega) (fun k e => by cases e; omega)))
    rw [hWF]
    have r1 := m1.cell 0
    have r2 := m2.cell 0
    have r3 := m3.cell 0
    refine ⟨.tuple #[.slice A (scanF s).1.length cap, .int .i64 (taken (scanF s).1 : Nat), .int .u8 ((scanF s).2 : Nat)], ?_, _, rfl, ?_, HB2⟩
    · simp at r1 r2 r3
      simp [results, Try.f80, asAddr, go_sem, r1, r2, r3, Result.andThen]
    · obtain ⟨h1, h2⟩ := HO2
      refine ⟨h1, ?_⟩
      rcases h2 with h2 | ⟨g, c, cur, fz, hv, hb, rest⟩
      · exact .inl h2
      · exact .inr ⟨g, c, cur, fz, hv, by omega, rest⟩
end Go.Proofs.Ytfojjklohbiffaa
