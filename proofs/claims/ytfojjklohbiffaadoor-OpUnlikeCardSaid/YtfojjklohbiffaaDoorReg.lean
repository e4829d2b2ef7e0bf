/- Regions that draw their order, walked by hand: an operation is taken, run or called by one line. Nothing of the program. -/
import Derived.Test.YtfojjklohbiffaaDoorRes
import Derived.OrdersHeld
import Derived.Shelf.Abstract
import Derived.Great.Frames
import Derived.Deep.RegionHeld3
import Derived.Deep.MidRow
namespace Tran
open Go Go.RowKit
section
variable {P : Program} {ops : Array Oper} {Q : Exit → Act → World → Prop} {S : World → Prop}
theorem reg_begin (S : World → Prop) {id : Nat} {l : List Oper} {a : Act} {w : World} (hm : P.follows .mixedOrders = true)
    (h : wpAnyH P .any l.toArray Q S l.length (Array.replicate l.length false) a w.drew) : (Code.region id l.toArray true).wp P Q a w :=
  wp_region_held (S := S) hm (by simpa using h)
theorem reg_begin_ (S : World → Prop) {id : Nat} {l : List Oper} {a : Act} {w : World} (hm : P.follows .mixedOrders = true)
    (h : ∀ A : Act, A = a → wpAnyH P .any l.toArray Q S l.length (Array.replicate l.length false) A w.drew) : (Code.region id l.toArray true).wp P Q a w :=
  reg_begin S hm (h a rfl)
theorem ev_ne {a : Act} {d j : Tmp} {v u : Value} (h : (d == j) = false) (k : a.eval (.tmp j) = u) : (a.put (some d) v).eval (.tmp j) = u := by
  rw [← k]
  have h : d ≠ j := by simpa using h
  simp [Act.put, Act.eval, Array.getD_eq_getD_getElem?, h]
theorem ev_none {a : Act} {j : Tmp} {v u : Value} (k : a.eval (.tmp j) = u) : (a.put none v).eval (.tmp j) = u := k
theorem ev_eq {a : Act} {j : Tmp} {v : Value} (h : j < a.tmps.size) : (a.put (some j) v).eval (.tmp j) = v := by
  simp [Act.put, Act.eval, Array.getD_eq_getD_getElem?, h]
theorem exec_move {o : Oper} {a : Act} {w : World} (x : Operand) (ho : o.op = .move x) {v : Value} (hx : a.eval x = v) : (execOp a.eval o).run P w = .ok (.value v) w := by
  unfold execOp
  simp only [ho, hx, Sem.run_pure]
theorem exec_load1 {o : Oper} {a : Act} {w : World} (ty : TypeId) (x : Operand) (ho : o.op = .load ty x) {ad : Addr} (hx : a.eval x = .pointer (some ad)) {v : Value}
    (hl : (loadVar ty ad).run P w = .ok v w) : (execOp a.eval o).run P w = .ok (.value v) w := by
  unfold execOp
  simp only [ho, hx, Instr.loadAt, Instr.sureAddr, Sem.run_bind, Sem.run_pure, Result.andThen_ok, hl]
theorem exec_addr {o : Oper} {a : Act} {w : World} (T : TypeId) (x : Operand) (i : Nat) (ho : o.op = .fieldAddr T x i) {p u : Value} (hx : a.eval x = p)
    (hr : (Instr.fieldAt T p i).run P w = .ok u w) : (execOp a.eval o).run P w = .ok (.value u) w := by
  unfold execOp
  simp only [ho, hx, Sem.run_bind, Sem.run_pure, Result.andThen_ok, hr]
theorem exec_store1 {o : Oper} {a : Act} {w w' : World} (ty : TypeId) (x y : Operand) (ho : o.op = .store ty x y) {ad : Addr} {v : Value} (hx : a.eval x = .pointer (some ad)) (hy : a.eval y = v)
    (hr : (storeVar ty ad v).run P w = .ok () w') : (execOp a.eval o).run P w = .ok .skip w' := by
  unfold execOp
  simp only [ho, hx, hy, Instr.storeAt, Instr.sureAddr, Sem.run_bind, Sem.run_pure, Result.andThen_ok, hr]
theorem exec_call {o : Oper} {a : Act} {w : World} {x : Operand} {os : Array Operand} {tys : Array TypeId} (ho : o.op = .call { callee := .value x, args := os, argTypes := tys }) {f : FuncId} {lb vs : Array Value}
    (hx : a.eval x = .func (.func f) #[] lb) (hv : os.map a.eval = vs) (eg : ∀ (args : Array Value) (w : World), (callFunc f args).run P w = .ok (.enter f args) w) : (execOp a.eval o).run P w = .ok (.enter f (vs ++ lb)) w := by
  generalize a.eval = ev at *
  unfold execOp
  simp [ho, resolve, invoke, hx, hv, eg, go_sem]
theorem exec_call0 {o : Oper} {a : Act} {w : World} {x : Operand} {os : Array Operand} {tys : Array TypeId} (ho : o.op = .call { callee := .value x, args := os, argTypes := tys }) {f : FuncId} {vs : Array Value}
    (hx : a.eval x = .func (.func f) #[] #[]) (hv : os.map a.eval = vs) (eg : ∀ (args : Array Value) (w : World), (callFunc f args).run P w = .ok (.enter f args) w) : (execOp a.eval o).run P w = .ok (.enter f vs) w := by
  simpa using exec_call (w := w) ho hx hv eg
theorem exec_callc {o : Oper} {a : Act} {w : World} {x : Operand} {tys : Array TypeId} (ho : o.op = .call { callee := .value x, args := #[], argTypes := tys }) {f : FuncId} {lb : Array Value}
    (hx : a.eval x = .func (.func f) #[] lb) (eg : ∀ (args : Array Value) (w : World), (callFunc f args).run P w = .ok (.enter f args) w) : (execOp a.eval o).run P w = .ok (.enter f lb) w := by
  simpa using exec_call (w := w) (vs := #[]) ho hx (by simp) eg
theorem map1 {a : Act} {x : Operand} {u : Value} (h : a.eval x = u) : (#[x]).map a.eval = #[u] := by simp [h]
theorem map2 {a : Act} {x y : Operand} {u v : Value} (h : a.eval x = u) (k : a.eval y = v) : (#[x, y]).map a.eval = #[u, v] := by simp [h, k]
theorem reg_take (d : Option Tmp) {i : Nat} {oi : Oper} {fuel : Nat} {listed : Array Bool} {a : Act} {w : World} (v : Value) (hi : ops[i]? = some oi) (hd : oi.dst = d)
    (hb : (Region.noSelect ops && Region.free .any ops listed i && (Region.ready .any ops listed).contains i) = true)
    (hQ : ∀ c a w, Q (.panic c) (a.put oi.dst v) w → Q (.panic c) a w) (hw : Region.wanted oi (yielded ops a.tmps) = true)
    (hy : ∀ w, S w → (execOp a.eval oi).run P w = .ok (.value v) w) (hS : S w)
    (h : wpAnyH P .any ops Q S fuel (listed.setIfInBounds i true) (a.put d v) w) : wpAnyH P .any ops Q S (fuel + 1) listed a w := by
  subst hd
  simp only [Bool.and_eq_true] at hb
  exact wpAnyH_take hi hb.1.1 hb.1.2 hb.2 hQ (.inl ⟨hw, hy⟩) hS h
theorem reg_run (d : Option Tmp) {i : Nat} {oi : Oper} {fuel : Nat} {listed : Array Bool} {a : Act} {w w' : World} {v : Value} (hi : ops[i]? = some oi) (hd : oi.dst = d) (hr : Region.ready .any ops listed = [i])
    (hw : Region.wanted oi (yielded ops a.tmps) = true) (hrun : (execOp a.eval oi).run P w = .ok (.value v) w') (hS : S w')
    (h : wpAnyH P .any ops Q S fuel (listed.setIfInBounds i true) (a.put d v) w') : wpAnyH P .any ops Q S (fuel + 1) listed a w := by
  subst hd
  refine wpAnyH_all hr (by simp) fun j hj => ?_
  obtain rfl : j = i := by simpa using hj
  unfold wpOp
  simp only [hi, hw, if_true, Oper.wp, hrun, Oper.upon]
  exact .inl ⟨hS, h⟩
theorem reg_skip (d : Option Tmp) {i : Nat} {oi : Oper} {fuel : Nat} {listed : Array Bool} {a : Act} {w w' : World} (hi : ops[i]? = some oi) (hd : oi.dst = d) (hr : Region.ready .any ops listed = [i])
    (hw : Region.wanted oi (yielded ops a.tmps) = true) (hrun : (execOp a.eval oi).run P w = .ok .skip w') (hS : S w')
    (h : wpAnyH P .any ops Q S fuel (listed.setIfInBounds i true) (a.put d undef) w') : wpAnyH P .any ops Q S (fuel + 1) listed a w := by
  subst hd
  refine wpAnyH_all hr (by simp) fun j hj => ?_
  obtain rfl : j = i := by simpa using hj
  unfold wpOp
  simp only [hi, hw, if_true, Oper.wp, hrun, Oper.upon]
  exact .inl ⟨hS, h⟩
theorem reg_call (d : Option Tmp) {i : Nat} {oi : Oper} {fuel : Nat} {listed : Array Bool} {a : Act} {w : World} {f : FuncId} {args : Array Value} (hi : ops[i]? = some oi) (hd : oi.dst = d) (hr : Region.ready .any ops listed = [i])
    (hw : Region.wanted oi (yielded ops a.tmps) = true) (hrun : (execOp a.eval oi).run P w = .ok (.enter f args) w)
    (h : Calls P f args w fun e w' => ∃ v, e = .returned v ∧ S w' ∧ wpAnyH P .any ops Q S fuel (listed.setIfInBounds i true) (a.put d v) w') : wpAnyH P .any ops Q S (fuel + 1) listed a w := by
  subst hd
  refine wpAnyH_all hr (by simp) fun j hj => ?_
  obtain rfl : j = i := by simpa using hj
  unfold wpOp
  simp only [hi, hw, if_true, Oper.wp, hrun, Oper.upon]
  refine .inl (h.mono ?_)
  rintro e w' ⟨v, rfl, hS, hh⟩
  exact ⟨hS, hh⟩
theorem reg_end_any (I : World → Prop) {listed : Array Bool} {a : Act} {w : World} (hr : Region.ready .any ops listed = []) (hI : I w) (h : ∀ W, I W → Q .normal a W) : wpAnyH P .any ops Q S 0 listed a w :=
  ⟨hr, h w hI⟩
theorem reg_end {listed : Array Bool} {a : Act} {w : World} (hr : Region.ready .any ops listed = []) (h : Q .normal a w) : wpAnyH P .any ops Q S 0 listed a w :=
  ⟨hr, h⟩
end
end Tran
namespace Tran
open Go Go.RowKit
/-- the cells vs written from o on -/
def putAt (cs : Array Value) : Nat → List Value → Array Value
  | _, [] => cs
  | o, v :: r => putAt (cs.setIfInBounds o v) (o + 1) r
theorem putAt_size (cs : Array Value) (o : Nat) (vs : List Value) : (putAt cs o vs).size = cs.size := by
  induction vs generalizing cs o with
  | nil => rfl
  | cons v r ih => rw [putAt, ih]; simp
section
variable {w w' : World} {g : Nat} {t : TypeId} {cs : Array Value}
theorem Blk.setCells (h : Blk w g t cs) (o : Nat) (vs : List Value) : Blk (w.setCells g o vs) g t (putAt cs o vs) := by
  induction vs generalizing w cs o with
  | nil => exact h
  | cons v r ih => exact ih (h.set_ o v) (o + 1)
theorem Blk.farCells (h : Blk w g t cs) {k : Nat} (hk : g ≠ k) (o : Nat) (vs : List Value) : Blk (w.setCells k o vs) g t cs := by
  induction vs generalizing w o with
  | nil => exact h
  | cons v r ih => exact ih (h.far (p := ⟨k, o, none⟩) hk v) (o + 1)
theorem Blk.there (h : Blk w g t cs) {o n : Nat} (hn : o + n ≤ cs.size) : w.there g o n := fun j hj =>
  ⟨by rw [h.cell, Array.getElem?_eq_getElem (show o + j < cs.size by omega)]; rfl, h.frozen _⟩
theorem Chg.setCells {S : Nat → Prop} {w0 : World} (h : Chg S w0 w) {k : Nat} (hp : S k ∨ w0.heap.size ≤ k) (o : Nat) (vs : List Value) : Chg S w0 (w.setCells k o vs) := by
  induction vs generalizing w o with
  | nil => exact h
  | cons v r ih => exact ih (h.setCell (p := ⟨k, o, none⟩) hp v) (o + 1)
theorem below_setCells {B k : Nat} {w0 : World} (hb : Below B w0 w) (hk : B ≤ k) (o : Nat) (vs : List Value) : Below B w0 (w.setCells k o vs) := by
  induction vs generalizing w o with
  | nil => exact hb
  | cons v r ih => exact ih (hb.setCell (p := ⟨k, o, none⟩) hk v) (o + 1)
theorem size_setCells (w : World) (k o : Nat) (vs : List Value) : (w.setCells k o vs).heap.size = w.heap.size := by
  induction vs generalizing w o with
  | nil => rfl
  | cons v r ih => rw [World.setCells, ih]; simp [World.setCell]
theorem exec_store_mid {P : Program} {o : Oper} {a : Act} (ty : TypeId) (x y : Operand) (ho : o.op = .store ty x y) {off : Nat} {xs : Array Value} (hx : a.eval x = .pointer (some ⟨g, off, none⟩)) (hy : a.eval y = .agg xs)
    (hb : Blk w g t cs) (hs : off + xs.size ≤ cs.size) (hi : (P.info? ty).map (·.size) = some xs.size) (h1 : xs.all (·.oneCell') = true) :
    (execOp a.eval o).run P w = .ok .skip (w.setCells g off xs.toList) := by
  unfold execOp
  simp only [ho, hx, hy, Sem.run_bind, run_storeAt_mid w g off ty xs (hb.there hs) hi h1, Result.andThen_ok, Sem.run_pure]
end
end Tran
namespace Tran
open Go Go.RowKit
section
variable {P : Program} {ops : Array Oper} {rest : List Oper} {Q : Exit → Act → World → Prop} {o : Oper} {a : Act} {w w' : World}
/-- a plain region walked by hand -/
theorem lst_val (d : Option Tmp) {v : Value} (hd : o.dst = d) (hgd : o.guard = none) (hrun : (execOp a.eval o).run P w = .ok (.value v) w') (h : wpList P ops Q rest (a.put d v) w') : wpList P ops Q (o :: rest) a w := by
  subst hd
  refine wpList_plain hgd fun K hK => ?_
  unfold Oper.wp
  simp only [hrun, Oper.upon]
  exact hK _ _ h
theorem lst_skip (d : Option Tmp) (hd : o.dst = d) (hgd : o.guard = none) (hrun : (execOp a.eval o).run P w = .ok .skip w') (h : wpList P ops Q rest (a.put d undef) w') : wpList P ops Q (o :: rest) a w := by
  subst hd
  refine wpList_plain hgd fun K hK => ?_
  unfold Oper.wp
  simp only [hrun, Oper.upon]
  exact hK _ _ h
theorem lst_call (d : Option Tmp) {f : FuncId} {args : Array Value} (hd : o.dst = d) (hgd : o.guard = none) (hrun : (execOp a.eval o).run P w = .ok (.enter f args) w)
    (h : Calls P f args w fun e w' => ∃ v, e = .returned v ∧ wpList P ops Q rest (a.put d v) w') : wpList P ops Q (o :: rest) a w := by
  subst hd
  refine wpList_plain hgd fun K hK => ?_
  unfold Oper.wp
  simp only [hrun, Oper.upon]
  refine h.mono ?_
  rintro e w' ⟨v, rfl, hh⟩
  exact hK _ _ hh
theorem lst_begin {id : Nat} {l : List Oper} {Q : Exit → Act → World → Prop} (h : ∀ A : Act, A = a → wpList P l.toArray Q l A w) : (Code.region id l.toArray false).wp P Q a w := wp_region_lit (h a rfl)
theorem lst_nil (h : Q .normal a w) : wpList P ops Q [] a w := h
theorem exec_build (t : TypeId) (parts : Array (Nat × Operand)) (ho : o.op = .build t parts) {vs : List (Nat × Value)} {cells : Array Value} (hv : (parts.map fun (i, x) => (i, a.eval x)).toList = vs) (hc : P.built t vs = some cells) :
    (execOp a.eval o).run P w = .ok (.value (.agg cells)) w := by
  have hc' : P.built t (parts.map fun (i, x) => (i, a.eval x)).toList = some cells := by rw [hv]; exact hc
  unfold execOp
  simp only [ho, Sem.run_bind, run_build w t _ cells hc', Result.andThen_ok]
  rfl
theorem exec_store_row {g : Nat} {t : TypeId} {old cs : Array Value} (ty : TypeId) (x y : Operand) (ho : o.op = .store ty x y) (hx : a.eval x = .pointer (some ⟨g, 0, none⟩)) (hy : a.eval y = .agg cs)
    (hg : w.heap[g]? = some (.cells old t (0, 0))) (hi : (P.info? ty).map (·.size) = some cs.size) (hold : old.size = cs.size) (h1 : cs.all (·.oneCell') = true) : (execOp a.eval o).run P w = .ok .skip (w.setRow g cs) := by
  unfold execOp
  simp only [ho, hx, hy, Sem.run_bind, Instr.storeAt, Instr.sureAddr, Sem.run_pure, Result.andThen_ok, run_storeVar_row w g t ty old cs hg hi hold h1]
theorem exec_bin (op : BinOp) (t ot : TypeId) (x y : Operand) (ho : o.op = .binOp op t x y ot) {u v r : Value} (hx : a.eval x = u) (hy : a.eval y = v) (hg : (eqGuard op t x y u v).run P w = .ok () w) (hr : (binOp op t u v).run P w = .ok r w) :
    (execOp a.eval o).run P w = .ok (.value r) w := by
  unfold execOp
  simp only [ho, hx, hy, Sem.run_bind, hg, hr, Result.andThen_ok]
  rfl
theorem exec_un (op : UnOp) (t : TypeId) (x : Operand) (ho : o.op = .unOp op t x) {u r : Value} (hx : a.eval x = u) (hr : (Op.unary op u).run P w = .ok r w) :
    (execOp a.eval o).run P w = .ok (.value r) w := by
  unfold execOp
  simp only [ho, hx, Sem.run_bind, hr, Result.andThen_ok]
  rfl
theorem exec_assign (x : Operand) (ho : o.op = .assign x) {v : Value} (hx : a.eval x = v) : (execOp a.eval o).run P w = .ok (.value v) w := by
  unfold execOp
  simp only [ho, hx, Sem.run_pure]
theorem exec_pick (x y z : Operand) (ho : o.op = .pick x y z) {b : Bool} {u v : Value} (hx : a.eval x = .bool b) (hy : a.eval y = u) (hz : a.eval z = v) : (execOp a.eval o).run P w = .ok (.value (if b = true then u else v)) w := by
  unfold execOp
  simp only [ho, hx, hy, hz, asBool, Sem.run_bind, Sem.run_pure, Result.andThen_ok]
theorem exec_iaddr (t : TypeId) (x y : Operand) (ho : o.op = .indexAddr t x y) {u v r : Value} (hx : a.eval x = u) (hy : a.eval y = v) (hr : (Instr.indexAt t u v).run P w = .ok r w) : (execOp a.eval o).run P w = .ok (.value r) w := by
  unfold execOp
  simp only [ho, hx, hy, Sem.run_bind, hr, Result.andThen_ok]
  rfl
theorem map3 {x y z : Operand} {u v s : Value} (h : a.eval x = u) (k : a.eval y = v) (l : a.eval z = s) : (#[x, y, z]).map a.eval = #[u, v, s] := by simp [h, k, l]
theorem exec_alloc (ty : TypeId) (ho : o.op = .alloc ty) {z : Value} (hz : ((P.info? ty).bind (·.zero)) = some z) : (execOp a.eval o).run P w = .ok (.value (.pointer (some ⟨w.heap.size, 0, none⟩))) (w.alloc (.cells z.cells ty)) := by
  cases hi : P.info? ty with
  | none => simp [hi] at hz
  | some i =>
    simp [hi] at hz
    unfold execOp
    simp [ho, go_sem, typeInfo, zeroValue, hi, hz]
end
end Tran
namespace Tran
open Go Go.RowKit
section
variable {P : Program} {ops : Array Oper} {rest : List Oper} {Q : Exit → Act → World → Prop} {o : Oper} {a : Act} {w w' : World}
/-- a guarded operation that is wanted, or is not -/
theorem wanted_of {j : Nat} {oj : Oper} {d : Tmp} {b c : Bool} (hg : o.guard = some (j, c)) (hj : ops[j]? = some oj) (hd : oj.dst = some d) (hv : a.eval (.tmp d) = .bool b) : Region.wanted o (yielded ops a.tmps) = (b == c) := by
  have hv' : a.tmps.getD d undef = .bool b := hv
  have h : a.tmps[d]? = some (.bool b) := by
    cases hq : a.tmps[d]? with
    | none => simp [Array.getD_eq_getD_getElem?, hq, undef] at hv'
    | some u => simpa [Array.getD_eq_getD_getElem?, hq] using hv'
  simp [Region.wanted, hg, yielded, hj, hd, h]
theorem lst_val_if {v : Value} (d : Option Tmp) (hd : o.dst = d) (hw : Region.wanted o (yielded ops a.tmps) = true) (hrun : (execOp a.eval o).run P w = .ok (.value v) w') (h : wpList P ops Q rest (a.put d v) w') : wpList P ops Q (o :: rest) a w := by
  subst hd
  refine wpList_step fun K hK => ?_
  rw [if_pos hw]
  unfold Oper.wp
  simp only [hrun, Oper.upon]
  exact hK _ _ h
theorem lst_un (d : Option Tmp) (hd : o.dst = d) (hw : Region.wanted o (yielded ops a.tmps) = false) (h : wpList P ops Q rest (a.put d undef) w) : wpList P ops Q (o :: rest) a w := by
  subst hd
  refine wpList_step fun K hK => ?_
  rw [if_neg (by rw [hw]; simp)]
  exact hK _ _ h
/-- an operation of a region: what it does, where its value goes, its guard -/
def Is (o : Oper) (op : Op) (d : Tmp) (g : Option (Nat × Bool)) : Prop := o.op = op ∧ o.dst = some d ∧ o.guard = g
theorem put_defers (a : Act) (d : Option Tmp) (v : Value) : (a.put d v).defers = a.defers := by cases d <;> rfl
/-- one more field compared behind '&&': the seven operations from slot t + 1 on -/
theorem and_step {o1 o2 o3 o4 o5 o6 o7 : Oper} {t j : Nat} {T ty ty2 : TypeId} {f n : Nat} {p2 p3 u v : Value} {ad2 ad3 : Addr} {b r : Bool}
    (h1 : Is o1 (.move (.tmp t)) (t + 1) none) (h2 : Is o2 (.fieldAddr T (.tmp 2) f) (t + 2) (some (j, true))) (h3 : Is o3 (.load ty (.tmp (t + 2))) (t + 3) (some (j, true)))
    (h4 : Is o4 (.fieldAddr T (.tmp 3) f) (t + 4) (some (j, true))) (h5 : Is o5 (.load ty (.tmp (t + 4))) (t + 5) (some (j, true))) (h6 : Is o6 (.binOp .eql ty (.tmp (t + 3)) (.tmp (t + 5)) ty2) (t + 6) (some (j, true)))
    (h7 : Is o7 (.pick (.tmp (t + 1)) (.tmp (t + 6)) (.const (.bool false))) (t + 7) none) (hj : ops[j]? = some o1) (hsz : a.tmps.size = n) (hdf : a.defers = []) (hn : t + 7 < n) (ht3 : 3 < t)
    (ht : a.eval (.tmp t) = .bool b) (e2 : a.eval (.tmp 2) = p2) (e3 : a.eval (.tmp 3) = p3)
    (fa : (Instr.fieldAt T p2 f).run P w = .ok (.pointer (some ad2)) w) (fb : (Instr.fieldAt T p3 f).run P w = .ok (.pointer (some ad3)) w)
    (la : (loadVar ty ad2).run P w = .ok u w) (lb : (loadVar ty ad3).run P w = .ok v w) (hg : (eqGuard .eql ty (.tmp (t + 3)) (.tmp (t + 5)) u v).run P w = .ok () w) (he : (binOp .eql ty u v).run P w = .ok (.bool r) w)
    (h : ∀ A : Act, A.tmps.size = n → A.defers = [] → A.eval (.tmp 2) = p2 → A.eval (.tmp 3) = p3 → A.eval (.tmp (t + 7)) = .bool (b && r) → wpList P ops Q rest A w) :
    wpList P ops Q (o1 :: o2 :: o3 :: o4 :: o5 :: o6 :: o7 :: rest) a w := by
  have N : ∀ (i k : Nat), i ≠ k → ((t + i) == (t + k)) = false := fun i k h => by simpa using h
  have N2 : ∀ (i : Nat), ((t + i) == 2) = false := fun i => by rw [beq_eq_false_iff_ne]; omega
  have N3 : ∀ (i : Nat), ((t + i) == 3) = false := fun i => by rw [beq_eq_false_iff_ne]; omega
  have S : ∀ (a : Act) (d : Option Tmp) (v : Value), a.tmps.size = n → (a.put d v).tmps.size = n := fun a d v h => by rw [Act.size_put]; exact h
  have D : ∀ (a : Act) (d : Option Tmp) (v : Value), (a.put d v).defers = a.defers := fun a d v => by cases d <;> rfl
  have LT : ∀ i, i ≤ 7 → t + i < n := fun i hi => by omega
  refine lst_val (some (t + 1)) (v := .bool b) h1.2.1 h1.2.2 (exec_move _ h1.1 ht) ?_
  have s1 := S a (some (t + 1)) (.bool b) hsz
  have d1 := (D a (some (t + 1)) (.bool b)).trans hdf
  have m1 : (a.put (some (t + 1)) (.bool b)).eval (.tmp (t + 1)) = .bool b := ev_eq (by rw [hsz]; exact LT 1 (by omega))
  have e2 := ev_ne (a := a) (v := .bool b) (N2 1) e2
  have e3 := ev_ne (a := a) (v := .bool b) (N3 1) e3
  generalize a.put (some (t + 1)) (.bool b) = a1 at *
  clear ht hsz hdf
  cases b with
  | false =>
    refine lst_un (some (t + 2)) h2.2.1 (wanted_of h2.2.2 hj h1.2.1 m1) ?_
    have m1 := ev_ne (v := undef) (N 2 1 (by omega)) m1
    have e2 := ev_ne (v := undef) (N2 2) e2
    have e3 := ev_ne (v := undef) (N3 2) e3
    have s1 := S _ (some (t + 2)) undef s1
    have d1 := (D _ (some (t + 2)) undef).trans d1
    generalize a1.put (some (t + 2)) undef = a1 at *
    refine lst_un (some (t + 3)) h3.2.1 (wanted_of h3.2.2 hj h1.2.1 m1) ?_
    have m1 := ev_ne (v := undef) (N 3 1 (by omega)) m1
    have e2 := ev_ne (v := undef) (N2 3) e2
    have e3 := ev_ne (v := undef) (N3 3) e3
    have s1 := S _ (some (t + 3)) undef s1
    have d1 := (D _ (some (t + 3)) undef).trans d1
    generalize a1.put (some (t + 3)) undef = a1 at *
    refine lst_un (some (t + 4)) h4.2.1 (wanted_of h4.2.2 hj h1.2.1 m1) ?_
    have m1 := ev_ne (v := undef) (N 4 1 (by omega)) m1
    have e2 := ev_ne (v := undef) (N2 4) e2
    have e3 := ev_ne (v := undef) (N3 4) e3
    have s1 := S _ (some (t + 4)) undef s1
    have d1 := (D _ (some (t + 4)) undef).trans d1
    generalize a1.put (some (t + 4)) undef = a1 at *
    refine lst_un (some (t + 5)) h5.2.1 (wanted_of h5.2.2 hj h1.2.1 m1) ?_
    have m1 := ev_ne (v := undef) (N 5 1 (by omega)) m1
    have e2 := ev_ne (v := undef) (N2 5) e2
    have e3 := ev_ne (v := undef) (N3 5) e3
    have s1 := S _ (some (t + 5)) undef s1
    have d1 := (D _ (some (t + 5)) undef).trans d1
    generalize a1.put (some (t + 5)) undef = a1 at *
    refine lst_un (some (t + 6)) h6.2.1 (wanted_of h6.2.2 hj h1.2.1 m1) ?_
    have m1 := ev_ne (v := undef) (N 6 1 (by omega)) m1
    have e2 := ev_ne (v := undef) (N2 6) e2
    have e3 := ev_ne (v := undef) (N3 6) e3
    have s1 := S _ (some (t + 6)) undef s1
    have d1 := (D _ (some (t + 6)) undef).trans d1
    generalize a1.put (some (t + 6)) undef = a1 at *
    refine lst_val (some (t + 7)) (v := .bool false) h7.2.1 h7.2.2 (by
      have h := exec_pick (P := P) (w := w) (.tmp (t + 1)) (.tmp (t + 6)) (.const (.bool false)) h7.1 m1 rfl (v := .bool false) rfl
      simpa using h) ?_
    exact h _ (S _ _ _ s1) ((D _ _ _).trans d1) (ev_ne (N2 7) e2) (ev_ne (N3 7) e3) (by rw [Bool.false_and]; exact ev_eq (by rw [s1]; exact LT 7 (by omega)))
  | true =>
    refine lst_val_if (some (t + 2)) (v := .pointer (some ad2)) h2.2.1 (wanted_of h2.2.2 hj h1.2.1 m1) (exec_addr T _ f h2.1 e2 fa) ?_
    have p2 := ev_eq (a := a1) (j := t + 2) (v := .pointer (some ad2)) (by rw [s1]; exact LT 2 (by omega))
    have m1 := ev_ne (v := .pointer (some ad2)) (N 2 1 (by omega)) m1
    have e2 := ev_ne (v := .pointer (some ad2)) (N2 2) e2
    have e3 := ev_ne (v := .pointer (some ad2)) (N3 2) e3
    have s1 := S _ (some (t + 2)) (.pointer (some ad2)) s1
    have d1 := (D _ (some (t + 2)) (.pointer (some ad2))).trans d1
    generalize a1.put (some (t + 2)) (.pointer (some ad2)) = a1 at *
    refine lst_val_if (some (t + 3)) (v := u) h3.2.1 (wanted_of h3.2.2 hj h1.2.1 m1) (exec_load1 ty _ h3.1 p2 la) ?_
    have p3 := ev_eq (a := a1) (j := t + 3) (v := u) (by rw [s1]; exact LT 3 (by omega))
    have m1 := ev_ne (v := u) (N 3 1 (by omega)) m1
    have e2 := ev_ne (v := u) (N2 3) e2
    have e3 := ev_ne (v := u) (N3 3) e3
    have s1 := S _ (some (t + 3)) u s1
    have d1 := (D _ (some (t + 3)) u).trans d1
    generalize a1.put (some (t + 3)) u = a1 at *
    refine lst_val_if (some (t + 4)) (v := .pointer (some ad3)) h4.2.1 (wanted_of h4.2.2 hj h1.2.1 m1) (exec_addr T _ f h4.1 e3 fb) ?_
    have p4 := ev_eq (a := a1) (j := t + 4) (v := .pointer (some ad3)) (by rw [s1]; exact LT 4 (by omega))
    have p3 := ev_ne (v := .pointer (some ad3)) (N 4 3 (by omega)) p3
    have m1 := ev_ne (v := .pointer (some ad3)) (N 4 1 (by omega)) m1
    have e2 := ev_ne (v := .pointer (some ad3)) (N2 4) e2
    have e3 := ev_ne (v := .pointer (some ad3)) (N3 4) e3
    have s1 := S _ (some (t + 4)) (.pointer (some ad3)) s1
    have d1 := (D _ (some (t + 4)) (.pointer (some ad3))).trans d1
    generalize a1.put (some (t + 4)) (.pointer (some ad3)) = a1 at *
    refine lst_val_if (some (t + 5)) (v := v) h5.2.1 (wanted_of h5.2.2 hj h1.2.1 m1) (exec_load1 ty _ h5.1 p4 lb) ?_
    have p5 := ev_eq (a := a1) (j := t + 5) (v := v) (by rw [s1]; exact LT 5 (by omega))
    have p3 := ev_ne (v := v) (N 5 3 (by omega)) p3
    have m1 := ev_ne (v := v) (N 5 1 (by omega)) m1
    have e2 := ev_ne (v := v) (N2 5) e2
    have e3 := ev_ne (v := v) (N3 5) e3
    have s1 := S _ (some (t + 5)) v s1
    have d1 := (D _ (some (t + 5)) v).trans d1
    generalize a1.put (some (t + 5)) v = a1 at *
    refine lst_val_if (some (t + 6)) (v := .bool r) h6.2.1 (wanted_of h6.2.2 hj h1.2.1 m1) (exec_bin .eql ty ty2 _ _ h6.1 p3 p5 hg he) ?_
    have p6 := ev_eq (a := a1) (j := t + 6) (v := .bool r) (by rw [s1]; exact LT 6 (by omega))
    have m1 := ev_ne (v := .bool r) (N 6 1 (by omega)) m1
    have e2 := ev_ne (v := .bool r) (N2 6) e2
    have e3 := ev_ne (v := .bool r) (N3 6) e3
    have s1 := S _ (some (t + 6)) (.bool r) s1
    have d1 := (D _ (some (t + 6)) (.bool r)).trans d1
    generalize a1.put (some (t + 6)) (.bool r) = a1 at *
    refine lst_val (some (t + 7)) (v := .bool r) h7.2.1 h7.2.2 (by
      have h := exec_pick (P := P) (w := w) (.tmp (t + 1)) (.tmp (t + 6)) (.const (.bool false)) h7.1 m1 p6 (v := .bool false) rfl
      simpa using h) ?_
    exact h _ (S _ _ _ s1) ((D _ _ _).trans d1) (ev_ne (N2 7) e2) (ev_ne (N3 7) e3) (by rw [Bool.true_and]; exact ev_eq (by rw [s1]; exact LT 7 (by omega)))
end
end Tran
