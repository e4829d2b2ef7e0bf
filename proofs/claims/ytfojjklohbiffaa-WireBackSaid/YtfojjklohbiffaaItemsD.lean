/- Items read, by the code and by the document. -/
import Derived.Test.YtfojjklohbiffaaItemsC
import Derived.Test.YtfojjklohbiffaaWireL
import Derived.Test.YtfojjklohbiffaaEqs
namespace Go.Proofs.Ytfojjklohbiffaa
open Go.RowKit Tran Tran.Wire
set_option linter.unusedVariables false
theorem size22 : ∀ w, (Go.sizeOf 22).run Try.prog w = .ok 1 w := by
  have h : (Try.prog.info? 22).map (fun i => i.size) = some 1 := by kernel_rfl
  intro w
  cases hq : Try.prog.info? 22 with
  | none => rw [hq] at h; simp at h
  | some i =>
    have hs : i.size = 1 := by rw [hq] at h; simpa using h
    simp [Go.sizeOf, typeInfo, hq, hs]
theorem vec_eql (xs ys : List Nat) (hx : xs.length = 8) (hy : ys.length = 8) (W : World) : (binOp .eql 54 (.agg (vecA xs)) (.agg (vecA ys))).run Try.prog W = .ok (.bool (xs == ys)) W :=
  run_eql_nats W 54 22 .u32 8 Try.underlying54 Try.underlying22 size22 xs ys hx hy
/-- what is left behind an item -/
def itemT (st : Option (List UInt8)) (x : NItem) : Option (List UInt8) :=
  if x.kind % 4 = 0 then (rnumS st x.most).2 else if x.kind % 4 = 1 then (rtextS st (((x.most % 5000 : Nat) : Int) - 10)).2 else if x.kind % 4 = 2 then (rdotS st).2 else (rvecS st 8).2
/-- the worlds within law02's reading of an item -/
structure TiI (w : World) (p : Option Addr) (st : Option (List UInt8)) (A : Array Value) (W : World) : Prop where
  rd : Rdd w W p st
  kI : Blk W (w.heap.size + 1) 84 A
  kR : Blk W (w.heap.size + 2) 89 (rowC none)
theorem TiI.below {w W W' : World} {p : Option Addr} {st : Option (List UInt8)} {A : Array Value} (h : TiI w p st A W) (k : Below W.heap.size W W') : TiI w p st A W' :=
  ⟨h.rd.below k, h.kI.below k h.kI.lt, h.kR.below k h.kR.lt⟩
theorem TiI.rdd {w W W' : World} {p : Option Addr} {st st' : Option (List UInt8)} {A : Array Value} (hp : ∀ k, p = some ⟨k, 0, none⟩ → k < w.heap.size) (h : TiI w p st A W) (k : Rdd W W' p st') : TiI w p st' A W' :=
  ⟨h.rd.trans k, h.kI.chg k.ch (fun e => by have := hp _ e; omega), h.kR.chg k.ch (fun e => by have := hp _ e; omega)⟩
theorem TiI.res {w W : World} {p : Option Addr} {st : Option (List UInt8)} {A : Array Value} (hp : ∀ k, p = some ⟨k, 0, none⟩ → k < w.heap.size) (h : TiI w p st A W) (u v : Value) :
    Rdd w ((W.setCell ⟨w.heap.size + 2, 0, none⟩ u).setCell ⟨w.heap.size + 2, 1, none⟩ v) p st ∧ Blk ((W.setCell ⟨w.heap.size + 2, 0, none⟩ u).setCell ⟨w.heap.size + 2, 1, none⟩ v) (w.heap.size + 2) 89 #[u, v] :=
  ⟨(h.rd.far hp (show w.heap.size ≤ w.heap.size + 2 by omega) u).far hp (show w.heap.size ≤ w.heap.size + 2 by omega) v, (h.kR.set_ 0 u).set_ 1 v⟩
theorem TiI.drew {w W : World} {p : Option Addr} {st : Option (List UInt8)} {A : Array Value} (h : TiI w p st A W) : TiI w p st A W.drew := ⟨h.rd.drew, h.kI, h.kR⟩
theorem TiI.start {w : World} {p : Option Addr} {st : Option (List UInt8)} (h : RdP w p st) (R A : Array Value) : TiI w p st A (((w.alloc (.cells R 89)).alloc (.cells A 84)).alloc (.cells (rowC none) 89)) := by
  obtain ⟨k1, k2, _, b⟩ := three_blocks w R A (rowC none) 89 84 89
  exact ⟨(Rdd.refl h).below b, k1, k2⟩
def Read (w : World) (p : Option Addr) (st : Option (List UInt8)) (e : Ending) (w' : World) : Prop := e = .returned (.tuple #[.agg (rowC st), .bool true]) ∧ Rdd w w' p st
set_option maxRecDepth 100000 in
set_option maxHeartbeats 8000000 in
theorem take02_num {w : World} {p : Option Addr} {st : Option (List UInt8)} (h : RdP w p st) (x : NItem) (hx : x.ok) (hk : x.kind % 4 = 0) :
    Calls Try.prog 61 #[.pointer p, .agg (rowC st), .agg (itemA x)] w (Read w p (rnumS st x.most).2) := by
  have hs : ∀ l, st = some l → l.length ≤ 140737488355328 := fun l e => by have := h.left_le; rw [e] at this; exact this
  have T := tknum_any st hs x.most
  have hp := fun k => h.lt (k := k)
  have N := Lib.hid (fun W (hr : RdP W p st) => rnum_r hr x.most)
  have I0 := TiI.start h (rowC st) (itemA x)
  generalize rnumS st x.most = q at *
  obtain ⟨y, s2⟩ := q
  obtain ⟨s, f, hsf⟩ := rowC_form st
  obtain ⟨s', f', hsf'⟩ := rowC_form s2
  unfold Took at T
  rw [hsf] at T I0 ⊢
  simp only [hsf'] at T
  replace T := Lib.hid T
  have hm : (x.kind : Int) % 4 = 0 := by omega
  have hc0 := (I0.kI.cell 0).trans (item_c0 x)
  have hc13 := (I0.kI.cell 13).trans (item_c13 x hx)
  dsimp only [rowC] at hc0 hc13
  replace I0 := Lib.hid I0
  have HX := Lib.hid (item_c13 x hx)
  have HSF := Lib.hid hsf'
  have HP := Lib.hid hp
  clear hs hsf hsf' hk hp hx h
  go_enter Try.func61, Try.ntmps61
  go_wp2_with fail
  refine (T.out _).mono ?_
  rintro e w1 ⟨rfl, b1⟩
  have I1 := I0.out.below b1
  have I2 := I1.below ((Below.refl w1.heap.size w1).alloc (Nat.le_refl _) (.cells #[.string s', .bool f'] 89))
  have k9 := Blk.new w1 89 #[.string s', .bool f']
  have HLT := I1.kR.lt
  clear b1 I1 I0 T hc0 hc13
  go_wp2_with fail
  obtain ⟨w3, hw3⟩ : ∃ w3, w3 = w1.alloc (.cells #[.string s', .bool f'] 89) := ⟨_, rfl⟩
  rw [← hw3] at I2 k9 ⊢
  clear hw3
  have hw1 : w.heap.size + 2 < w1.heap.size := HLT
  have k9 := k9.drew
  have I2 := I2.drew
  have e0 := k9.cell 0
  have e1 := k9.cell 1
  have e2 := (I2.kI.cell 13).trans HX.out
  have q0 : _ = some (Value.string ⟨#[]⟩) := I2.kR.cell 0
  have q1 : _ = some (Value.bool false) := I2.kR.cell 1
  have z0 := I2.kR.frozen 0
  have z1 := I2.kR.frozen 1
  have HI := Lib.hid I2
  have HK := Lib.hid k9
  have n1 : w1.heap.size ≠ w.heap.size + 2 := by omega
  clear I2 k9
  go_region_with ((go_at_call 65; refine (N.out _ HI.out.rd.rd).mono ?_; rintro e w4 ⟨rfl, r4⟩; have I4 := HI.out.rdd HP.out r4; have k9' := HK.out.chg r4.ch (fun e => by have := HP.out _ e; omega); have e0' := k9'.cell 0; have e1' := k9'.cell 1; have q0' : _ = some (Value.string ⟨#[]⟩) := I4.kR.cell 0; have q1' : _ = some (Value.bool false) := I4.kR.cell 1; have z0' := I4.kR.frozen 0; have z1' := I4.kR.frozen 1))
  all_goals
    go_wp2
    obtain ⟨r5, k5⟩ := I4.res HP.out (.string s') (.bool f')
    refine bodyPost_ret (results_row_tmp rfl _ _ (w.heap.size + 2) 89 #[.string s', .bool f'] (0, 0) _ (.bool true) rfl rfl k5 Try.underlying89 rfl size89) rfl ?_
    refine ⟨?_, r5⟩
    show _ = Ending.returned (.tuple #[.agg (rowC s2), .bool true])
    rw [HSF.out]
set_option maxRecDepth 100000 in
set_option maxHeartbeats 8000000 in
theorem take02_text {w : World} {p : Option Addr} {st : Option (List UInt8)} (h : RdP w p st) (x : NItem) (hx : x.ok) (hk : x.kind % 4 = 1) :
    Calls Try.prog 61 #[.pointer p, .agg (rowC st), .agg (itemA x)] w (Read w p (rtextS st (((x.most % 5000 : Nat) : Int) - 10)).2) := by
  have hs : ∀ l, st = some l → l.length ≤ 140737488355328 := fun l e => by have := h.left_le; rw [e] at this; exact this
  have T := ttaketext_any st hs (((x.most % 5000 : Nat) : Int) - 10) (by omega) (by omega)
  have hp := fun k => h.lt (k := k)
  have N := (fun W (hr : RdP W p st) => rtext_r hr (((x.most % 5000 : Nat) : Int) - 10) (by omega))
  have I0 := TiI.start h (rowC st) (itemA x)
  generalize rtextS st (((x.most % 5000 : Nat) : Int) - 10) = q at *
  obtain ⟨y, s2⟩ := q
  obtain ⟨s, f, hsf⟩ := rowC_form st
  obtain ⟨s', f', hsf'⟩ := rowC_form s2
  unfold Took at T
  rw [hsf] at T I0 ⊢
  simp only [hsf'] at T
  have hm : (x.kind : Int) % 4 = 1 := by omega
  have em : (((x.most % 5000 : Nat) : Int) - 10) = (x.most : Int) % 5000 - 10 := by omega
  rw [em] at T N
  replace N := Lib.hid N
  replace em := trivial
  have hmr := Int.emod_lt_of_pos (x.most : Int) (show (0 : Int) < 5000 by omega)
  have hmr0 := Int.emod_nonneg (x.most : Int) (show (5000 : Int) ≠ 0 by omega)
  replace T := Lib.hid T
  have hc0 := (I0.kI.cell 0).trans (item_c0 x)
  have hc13 := (I0.kI.cell 13).trans (item_c13 x hx)
  dsimp only [rowC] at hc0 hc13
  replace I0 := Lib.hid I0
  have HX := Lib.hid (item_c13 x hx)
  have HSF := Lib.hid hsf'
  have HP := Lib.hid hp
  clear hs hsf hsf' hk hp hx h
  go_enter Try.func61, Try.ntmps61
  go_wp2_with fail
  refine (T.out _).mono ?_
  rintro e w1 ⟨rfl, b1⟩
  have I1 := I0.out.below b1
  have I2 := I1.below ((Below.refl w1.heap.size w1).alloc (Nat.le_refl _) (.cells #[.string s', .bool f'] 89))
  have k9 := Blk.new w1 89 #[.string s', .bool f']
  have HLT := I1.kR.lt
  clear b1 I1 I0 T hc0 hc13
  go_wp2_with fail
  obtain ⟨w3, hw3⟩ : ∃ w3, w3 = w1.alloc (.cells #[.string s', .bool f'] 89) := ⟨_, rfl⟩
  rw [← hw3] at I2 k9 ⊢
  clear hw3
  have hw1 : w.heap.size + 2 < w1.heap.size := HLT
  have k9 := k9.drew
  have I2 := I2.drew
  have e0 := k9.cell 0
  have e1 := k9.cell 1
  have e2 := (I2.kI.cell 13).trans HX.out
  have q0 : _ = some (Value.string ⟨#[]⟩) := I2.kR.cell 0
  have q1 : _ = some (Value.bool false) := I2.kR.cell 1
  have z0 := I2.kR.frozen 0
  have z1 := I2.kR.frozen 1
  have HI := Lib.hid I2
  have HK := Lib.hid k9
  have n1 : w1.heap.size ≠ w.heap.size + 2 := by omega
  clear I2 k9
  have g1 : IntKind.u64.wrap ((x.most : Int).tmod 5000) = (x.most : Int) % 5000 := by
    rw [Int.tmod_eq_emod_of_nonneg (by omega)]; exact IntWalk.u64_in _ (by omega)
  have g2 : IntKind.i64.wrap ((x.most : Int) % 5000) = (x.most : Int) % 5000 := IntWalk.i64_in _ (by omega)
  have g3 : IntKind.i64.wrap ((x.most : Int) % 5000 - 10) = (x.most : Int) % 5000 - 10 := IntWalk.i64_in _ (by omega)
  have g4 : (x.most : Int).tmod 5000 = (x.most : Int) % 5000 := Int.tmod_eq_emod_of_nonneg (by omega)
  go_region_with ((go_at_call 66; refine (N.out _ HI.out.rd.rd).mono ?_; rintro e w4 ⟨rfl, r4⟩; have I4 := HI.out.rdd HP.out r4; have k9' := HK.out.chg r4.ch (fun e => by have := HP.out _ e; omega); have e0' := k9'.cell 0; have e1' := k9'.cell 1; have q0' : _ = some (Value.string ⟨#[]⟩) := I4.kR.cell 0; have q1' : _ = some (Value.bool false) := I4.kR.cell 1; have z0' := I4.kR.frozen 0; have z1' := I4.kR.frozen 1))
  all_goals
    go_wp2
    obtain ⟨r5, k5⟩ := I4.res HP.out (.string s') (.bool f')
    refine bodyPost_ret (results_row_tmp rfl _ _ (w.heap.size + 2) 89 #[.string s', .bool f'] (0, 0) _ (.bool true) rfl rfl k5 Try.underlying89 rfl size89) rfl ?_
    refine ⟨?_, r5⟩
    show _ = Ending.returned (.tuple #[.agg (rowC s2), .bool true])
    rw [HSF.out]
theorem dotV_form (st : Option (List UInt8)) : ∃ a b : Nat, dotV st = .agg #[.int .u8 (a : Nat), .int .u32 (b : Nat)] := by
  unfold dotV
  cases (rdotS st).2 with
  | none => exact ⟨0, 0, rfl⟩
  | some l => exact ⟨_, _, rfl⟩
theorem vecV_list (st : Option (List UInt8)) : ∃ xs : List Nat, xs.length = 8 ∧ vecV st = .agg (vecA xs) := by
  unfold vecV
  cases (rvecS st 8).2 with
  | none => exact ⟨zer8, rfl, rfl⟩
  | some l => exact ⟨_, rvecS_len st 8, rfl⟩
set_option maxRecDepth 100000 in
theorem vecV_form (st : Option (List UInt8)) : ∃ x0 x1 x2 x3 x4 x5 x6 x7 : Nat, vecV st = .agg #[.int .u32 (x0 : Nat), .int .u32 (x1 : Nat), .int .u32 (x2 : Nat), .int .u32 (x3 : Nat), .int .u32 (x4 : Nat), .int .u32 (x5 : Nat), .int .u32 (x6 : Nat), .int .u32 (x7 : Nat)] ∧
    ∀ W, (binOp .eql 54 (.agg #[.int .u32 (x0 : Nat), .int .u32 (x1 : Nat), .int .u32 (x2 : Nat), .int .u32 (x3 : Nat), .int .u32 (x4 : Nat), .int .u32 (x5 : Nat), .int .u32 (x6 : Nat), .int .u32 (x7 : Nat)]) (.agg #[.int .u32 (x0 : Nat), .int .u32 (x1 : Nat), .int .u32 (x2 : Nat), .int .u32 (x3 : Nat), .int .u32 (x4 : Nat), .int .u32 (x5 : Nat), .int .u32 (x6 : Nat), .int .u32 (x7 : Nat)])).run Try.prog W = .ok (.bool true) W := by
  obtain ⟨xs, hl, hv⟩ := vecV_list st
  have he := vec_eql xs xs hl hl
  match xs, hl with
  | [x0, x1, x2, x3, x4, x5, x6, x7], _ =>
    refine ⟨x0, x1, x2, x3, x4, x5, x6, x7, hv, fun W => ?_⟩
    have := he W
    rw [beq_self_eq_true] at this
    exact this
set_option maxRecDepth 100000 in
set_option maxHeartbeats 8000000 in
theorem take02_dot {w : World} {p : Option Addr} {st : Option (List UInt8)} (h : RdP w p st) (x : NItem) (hx : x.ok) (hk : x.kind % 4 = 2) :
    Calls Try.prog 61 #[.pointer p, .agg (rowC st), .agg (itemA x)] w (Read w p (rdotS st).2) := by
  have hs : ∀ l, st = some l → l.length ≤ 140737488355328 := fun l e => by have := h.left_le; rw [e] at this; exact this
  have T := ttakedot_any st hs
  have hp := fun k => h.lt (k := k)
  have N := (fun W (hr : RdP W p st) => rdot_r hr)
  have I0 := TiI.start h (rowC st) (itemA x)
  obtain ⟨a, b, hab⟩ := dotV_form st
  rw [hab] at T
  simp only [hab] at N
  replace N := Lib.hid N
  clear hab
  generalize (rdotS st).2 = s2 at *
  obtain ⟨s, f, hsf⟩ := rowC_form st
  obtain ⟨s', f', hsf'⟩ := rowC_form s2
  unfold Took at T
  rw [hsf] at T I0 ⊢
  simp only [hsf'] at T
  replace T := Lib.hid T
  have hm : (x.kind : Int) % 4 = 2 := by omega
  have hc0 := (I0.kI.cell 0).trans (item_c0 x)
  dsimp only [rowC] at hc0
  replace I0 := Lib.hid I0
  have HSF := Lib.hid hsf'
  have HP := Lib.hid hp
  clear hs hsf hsf' hk hp hx h
  go_enter Try.func61, Try.ntmps61
  go_wp2_with fail
  refine (T.out _).mono ?_
  rintro e w1 ⟨rfl, b1⟩
  have I1 := I0.out.below b1
  have I2 := I1.below (((Below.refl w1.heap.size w1).alloc (Nat.le_refl _) (.cells #[.int .u8 (a : Nat), .int .u32 (b : Nat)] 82)).alloc (by simp) (.cells #[.string s', .bool f'] 89))
  have k8 := (Blk.new w1 82 #[.int .u8 (a : Nat), .int .u32 (b : Nat)]).alloc (.cells #[.string s', .bool f'] 89)
  have k9 := Blk.new (w1.alloc (.cells #[.int .u8 (a : Nat), .int .u32 (b : Nat)] 82)) 89 #[.string s', .bool f']
  rw [show (w1.alloc (.cells #[.int .u8 (a : Nat), .int .u32 (b : Nat)] 82)).heap.size = w1.heap.size + 1 by simp] at k9
  have HLT := I1.kR.lt
  clear b1 I1 T hc0
  go_wp2_with fail
  obtain ⟨w3, hw3⟩ : ∃ w3, w3 = (w1.alloc (.cells #[.int .u8 (a : Nat), .int .u32 (b : Nat)] 82)).alloc (.cells #[.string s', .bool f'] 89) := ⟨_, rfl⟩
  rw [← hw3] at I2 k9 k8 ⊢
  clear hw3
  have hw1 : w.heap.size + 2 < w1.heap.size := HLT
  have k9 := k9.drew
  have I2 := I2.drew
  have e0 := k9.cell 0
  have e1 := k9.cell 1
  have k8 := k8.drew
  have e2 := k8.cell 0
  have e3 := k8.cell 1
  have HK8 := Lib.hid k8
  have q0 : _ = some (Value.string ⟨#[]⟩) := I2.kR.cell 0
  have q1 : _ = some (Value.bool false) := I2.kR.cell 1
  have z0 := I2.kR.frozen 0
  have z1 := I2.kR.frozen 1
  have HI := Lib.hid I2
  have HK := Lib.hid k9
  have n1 : w1.heap.size ≠ w.heap.size + 2 := by omega
  have n2 : w1.heap.size + 1 ≠ w.heap.size + 2 := by omega
  clear k8
  clear I2 k9
  go_region_with ((go_at_call 67; refine (N.out _ HI.out.rd.rd).mono ?_; rintro e w4 ⟨rfl, r4⟩; have I4 := HI.out.rdd HP.out r4; have k9' := HK.out.chg r4.ch (fun e => by have := HP.out _ e; omega); have e0' := k9'.cell 0; have e1' := k9'.cell 1; have k8' := HK8.out.chg r4.ch (fun e => by have := HP.out _ e; omega); have e2' := k8'.cell 0; have e3' := k8'.cell 1; have q0' : _ = some (Value.string ⟨#[]⟩) := I4.kR.cell 0; have q1' : _ = some (Value.bool false) := I4.kR.cell 1; have z0' := I4.kR.frozen 0; have z1' := I4.kR.frozen 1))
  all_goals
    go_wp2
    obtain ⟨r5, k5⟩ := I4.res HP.out (.string s') (.bool f')
    refine bodyPost_ret (results_row_tmp rfl _ _ (w.heap.size + 2) 89 #[.string s', .bool f'] (0, 0) _ (.bool true) rfl rfl k5 Try.underlying89 rfl size89) rfl ?_
    refine ⟨?_, r5⟩
    show _ = Ending.returned (.tuple #[.agg (rowC s2), .bool true])
    rw [HSF.out]
set_option maxRecDepth 100000 in
set_option maxHeartbeats 8000000 in
theorem take02_vec {w : World} {p : Option Addr} {st : Option (List UInt8)} (h : RdP w p st) (x : NItem) (hx : x.ok) (hk : x.kind % 4 = 3) :
    Calls Try.prog 61 #[.pointer p, .agg (rowC st), .agg (itemA x)] w (Read w p (rvecS st 8).2) := by
  have hs : ∀ l, st = some l → l.length ≤ 140737488355328 := fun l e => by have := h.left_le; rw [e] at this; exact this
  have T := ttakevec_any st hs
  have hp := fun k => h.lt (k := k)
  have N := (fun W (hr : RdP W p st) => rvec_r hr)
  have I0 := TiI.start h (rowC st) (itemA x)
  obtain ⟨x0, x1, x2, x3, x4, x5, x6, x7, hab, heq⟩ := vecV_form st
  rw [hab] at T
  simp only [hab] at N
  replace N := Lib.hid N
  clear hab
  generalize (rvecS st 8).2 = s2 at *
  obtain ⟨s, f, hsf⟩ := rowC_form st
  obtain ⟨s', f', hsf'⟩ := rowC_form s2
  unfold Took at T
  rw [hsf] at T I0 ⊢
  simp only [hsf'] at T
  replace T := Lib.hid T
  have hm : (x.kind : Int) % 4 = 3 := by omega
  have hc0 := (I0.kI.cell 0).trans (item_c0 x)
  dsimp only [rowC] at hc0
  replace I0 := Lib.hid I0
  have HSF := Lib.hid hsf'
  have HP := Lib.hid hp
  clear hs hsf hsf' hk hp hx h
  go_enter Try.func61, Try.ntmps61
  go_wp2_with fail
  refine (T.out _).mono ?_
  rintro e w1 ⟨rfl, b1⟩
  have I1 := I0.out.below b1
  have I2 := I1.below (((Below.refl w1.heap.size w1).alloc (Nat.le_refl _) (.cells #[.int .u32 (x0 : Nat), .int .u32 (x1 : Nat), .int .u32 (x2 : Nat), .int .u32 (x3 : Nat), .int .u32 (x4 : Nat), .int .u32 (x5 : Nat), .int .u32 (x6 : Nat), .int .u32 (x7 : Nat)] 54)).alloc (by simp) (.cells #[.string s', .bool f'] 89))
  have k8 := (Blk.new w1 54 #[.int .u32 (x0 : Nat), .int .u32 (x1 : Nat), .int .u32 (x2 : Nat), .int .u32 (x3 : Nat), .int .u32 (x4 : Nat), .int .u32 (x5 : Nat), .int .u32 (x6 : Nat), .int .u32 (x7 : Nat)]).alloc (.cells #[.string s', .bool f'] 89)
  have k9 := Blk.new (w1.alloc (.cells #[.int .u32 (x0 : Nat), .int .u32 (x1 : Nat), .int .u32 (x2 : Nat), .int .u32 (x3 : Nat), .int .u32 (x4 : Nat), .int .u32 (x5 : Nat), .int .u32 (x6 : Nat), .int .u32 (x7 : Nat)] 54)) 89 #[.string s', .bool f']
  rw [show (w1.alloc (.cells #[.int .u32 (x0 : Nat), .int .u32 (x1 : Nat), .int .u32 (x2 : Nat), .int .u32 (x3 : Nat), .int .u32 (x4 : Nat), .int .u32 (x5 : Nat), .int .u32 (x6 : Nat), .int .u32 (x7 : Nat)] 54)).heap.size = w1.heap.size + 1 by simp] at k9
  have HLT := I1.kR.lt
  clear b1 I1 T hc0
  go_wp2_with fail
  obtain ⟨w3, hw3⟩ : ∃ w3, w3 = (w1.alloc (.cells #[.int .u32 (x0 : Nat), .int .u32 (x1 : Nat), .int .u32 (x2 : Nat), .int .u32 (x3 : Nat), .int .u32 (x4 : Nat), .int .u32 (x5 : Nat), .int .u32 (x6 : Nat), .int .u32 (x7 : Nat)] 54)).alloc (.cells #[.string s', .bool f'] 89) := ⟨_, rfl⟩
  rw [← hw3] at I2 k9 k8 ⊢
  clear hw3
  have hw1 : w.heap.size + 2 < w1.heap.size := HLT
  have k9 := k9.drew
  have I2 := I2.drew
  have e0 := k9.cell 0
  have e1 := k9.cell 1
  have k8 := k8.drew
  have f0 := k8.cell 0
  have f1 := k8.cell 1
  have f2 := k8.cell 2
  have f3 := k8.cell 3
  have f4 := k8.cell 4
  have f5 := k8.cell 5
  have f6 := k8.cell 6
  have f7 := k8.cell 7
  have HK8 := Lib.hid k8
  have q0 : _ = some (Value.string ⟨#[]⟩) := I2.kR.cell 0
  have q1 : _ = some (Value.bool false) := I2.kR.cell 1
  have z0 := I2.kR.frozen 0
  have z1 := I2.kR.frozen 1
  have HI := Lib.hid I2
  have HK := Lib.hid k9
  have n1 : w1.heap.size ≠ w.heap.size + 2 := by omega
  have n2 : w1.heap.size + 1 ≠ w.heap.size + 2 := by omega
  clear k8
  clear I2 k9
  go_region_with ((go_at_call 68; refine (N.out _ HI.out.rd.rd).mono ?_; rintro e w4 ⟨rfl, r4⟩; have I4 := HI.out.rdd HP.out r4; have k9' := HK.out.chg r4.ch (fun e => by have := HP.out _ e; omega); have e0' := k9'.cell 0; have e1' := k9'.cell 1; have k8' := HK8.out.chg r4.ch (fun e => by have := HP.out _ e; omega); have f0' := k8'.cell 0; have f1' := k8'.cell 1; have f2' := k8'.cell 2; have f3' := k8'.cell 3; have f4' := k8'.cell 4; have f5' := k8'.cell 5; have f6' := k8'.cell 6; have f7' := k8'.cell 7; have q0' : _ = some (Value.string ⟨#[]⟩) := I4.kR.cell 0; have q1' : _ = some (Value.bool false) := I4.kR.cell 1; have z0' := I4.kR.frozen 0; have z1' := I4.kR.frozen 1))
  all_goals
    go_wp2
    obtain ⟨r5, k5⟩ := I4.res HP.out (.string s') (.bool f')
    refine bodyPost_ret (results_row_tmp rfl _ _ (w.heap.size + 2) 89 #[.string s', .bool f'] (0, 0) _ (.bool true) rfl rfl k5 Try.underlying89 rfl size89) rfl ?_
    refine ⟨?_, r5⟩
    show _ = Ending.returned (.tuple #[.agg (rowC s2), .bool true])
    rw [HSF.out]
theorem take02_any {w : World} {p : Option Addr} {st : Option (List UInt8)} (h : RdP w p st) (x : NItem) (hx : x.ok) :
    Calls Try.prog 61 #[.pointer p, .agg (rowC st), .agg (itemA x)] w (Read w p (itemT st x)) := by
  unfold itemT
  by_cases h0 : x.kind % 4 = 0
  · rw [if_pos h0]; exact take02_num h x hx h0
  · rw [if_neg h0]
    by_cases h1 : x.kind % 4 = 1
    · rw [if_pos h1]; exact take02_text h x hx h1
    · rw [if_neg h1]
      by_cases h2 : x.kind % 4 = 2
      · rw [if_pos h2]; exact take02_dot h x hx h2
      · rw [if_neg h2]; exact take02_vec h x hx (by omega)
end Go.Proofs.Ytfojjklohbiffaa
