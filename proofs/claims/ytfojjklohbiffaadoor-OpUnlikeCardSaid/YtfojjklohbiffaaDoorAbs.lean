/- A region's list walked by what is known of its slots: the plumbing of '&&' and '||' is reckoned. -/
import Derived.Test.YtfojjklohbiffaaDoorReg
namespace Tran
open Go Go.RowKit
set_option linter.unusedVariables false
set_option linter.unusedSimpArgs false
/-- what a slot holds: a value, nothing, or what a slot held at the start -/
inductive AV where
  | v (x : Value)
  | u
  | s (t : Tmp)
def AV.val (a : Act) : AV → Value
  | .v x => x
  | .u => undef
  | .s t => a.eval (.tmp t)
/-- the value, reckoned first -/
def AV.force {α : Type} (x : AV) (f : AV → α) : α :=
  match x with
  | .v y => f (.v y)
  | .u => f .u
  | .s t => f (.s t)
theorem AV.force_eq {α : Type} (x : AV) (f : AV → α) : x.force f = f x := by cases x <;> rfl
def look : List (Tmp × AV) → Tmp → AV
  | [], t => .s t
  | (d, x) :: K, t => bif Nat.beq d t then x else look K t
def absOpnd (K : List (Tmp × AV)) : Operand → Option AV
  | .tmp t => some (look K t)
  | .const x => some (.v x)
  | _ => none
/-- is an operation wanted? -/
def absWanted (ops : Array Oper) (K : List (Tmp × AV)) (o : Oper) : Option Bool :=
  match o.guard with
  | none => some true
  | some (j, c) =>
    match (ops[j]?).bind (·.dst) with
    | some dj =>
      match look K dj with
      | .v (.bool x) => some (x == c)
      | .u => some false
      | _ => none
    | none => none
/-- the plumbing: moves, picks, what is passed over -/
def absStep (ops : Array Oper) (n : Nat) (K : List (Tmp × AV)) (o : Oper) : Option (List (Tmp × AV)) :=
  match o.dst with
  | none => none
  | some d =>
    bif Nat.blt d n then
      match absWanted ops K o with
      | some true =>
        match o.op with
        | .move x => (match absOpnd K x with | some v => v.force fun v => some ((d, v) :: K) | none => none)
        | .assign x => (match absOpnd K x with | some v => v.force fun v => some ((d, v) :: K) | none => none)
        | .pick x y z =>
          match absOpnd K x with
          | some (.v (.bool c)) => (match absOpnd K (bif c then y else z) with | some v => v.force fun v => some ((d, v) :: K) | none => none)
          | _ => none
        | _ => none
      | some false => some ((d, .u) :: K)
      | none => none
    else none
/-- an act of which so much is known -/
structure Rep (n : Nat) (a0 : Act) (K : List (Tmp × AV)) (a : Act) : Prop where
  ev : ∀ t, a.eval (.tmp t) = (look K t).val a0
  sz : a.tmps.size = n
  df : a.defers = []
theorem Rep.start {n : Nat} {a : Act} (h : a.tmps.size = n) (hd : a.defers = []) : Rep n a [] a := ⟨fun _ => rfl, h, hd⟩
theorem Rep.put {n : Nat} {a0 a : Act} {K : List (Tmp × AV)} (h : Rep n a0 K a) {d : Tmp} (hd : d < n) {x : AV} {v : Value} (hv : v = x.val a0) : Rep n a0 ((d, x) :: K) (a.put (some d) v) := by
  refine ⟨fun t => ?_, by rw [Act.size_put]; exact h.sz, by rw [put_defers]; exact h.df⟩
  unfold look
  by_cases e : d = t
  · subst e
    rw [ev_eq (by rw [h.sz]; exact hd)]
    simp [hv]
  · have hb : Nat.beq d t = false := by
      cases hq : Nat.beq d t with
      | false => rfl
      | true => exact absurd (Nat.eq_of_beq_eq_true hq) e
    rw [hb]
    exact ev_ne (beq_eq_false_iff_ne.2 e) (h.ev t)
theorem lst_call_if_ {P : Program} {ops : Array Oper} {rest : List Oper} {Q : Exit → Act → World → Prop} {o : Oper} {a : Act} {w : World} (d : Option Tmp) {f : FuncId} {args : Array Value} (hd : o.dst = d) (hw : Region.wanted o (yielded ops a.tmps) = true) (hrun : (execOp a.eval o).run P w = .ok (.enter f args) w)
    (h : Calls P f args w fun e w' => ∃ v, e = .returned v ∧ wpList P ops Q rest (a.put d v) w') : wpList P ops Q (o :: rest) a w := by
  subst hd
  refine wpList_step fun K hK => ?_
  rw [if_pos hw]
  unfold Oper.wp
  simp only [hrun, Oper.upon]
  refine h.mono ?_
  rintro e w' ⟨v, rfl, hh⟩
  exact hK _ _ hh
variable {P : Program} {ops : Array Oper} {Q : Exit → Act → World → Prop} {rest : List Oper} {o : Oper} {n : Nat} {a0 a : Act} {K K' : List (Tmp × AV)} {w : World}
theorem Rep.opnd (h : Rep n a0 K a) {x : Operand} {v : AV} (hx : absOpnd K x = some v) : a.eval x = v.val a0 := by
  cases x with
  | tmp t => injection hx with hx; subst hx; exact h.ev t
  | const c => injection hx with hx; subst hx; rfl
  | _ => cases hx
theorem Rep.wanted (h : Rep n a0 K a) {b : Bool} (hw : absWanted ops K o = some b) : Region.wanted o (yielded ops a.tmps) = b := by
  unfold absWanted at hw
  unfold Region.wanted
  cases hg : o.guard with
  | none => rw [hg] at hw; injection hw
  | some g =>
    obtain ⟨j, c⟩ := g
    rw [hg] at hw
    simp only at hw ⊢
    cases ho : (ops[j]?).bind (·.dst) with
    | none => rw [ho] at hw; cases hw
    | some dj =>
      rw [ho] at hw
      simp only at hw
      have he := h.ev dj
      unfold yielded
      rw [ho]
      have he' : a.tmps.getD dj undef = (look K dj).val a0 := he
      cases hl : look K dj with
      | s t => rw [hl] at hw; cases hw
      | u =>
        rw [hl] at hw he'
        injection hw with hw
        subst hw
        have hq : a.tmps[dj]? = none ∨ a.tmps[dj]? = some undef := by
          cases hq : a.tmps[dj]? with
          | none => exact .inl rfl
          | some u => rw [Array.getD_eq_getD_getElem?, hq] at he'; exact .inr (congrArg some he')
        rcases hq with hq | hq <;> simp [hq, undef]
      | v x =>
        rw [hl] at hw he'
        cases x with
        | bool y =>
          injection hw with hw
          have hq : a.tmps[dj]? = some (.bool y) := by
            cases hq : a.tmps[dj]? with
            | none => rw [Array.getD_eq_getD_getElem?, hq] at he'; simp [undef, AV.val] at he'
            | some u => rw [Array.getD_eq_getD_getElem?, hq] at he'; exact congrArg some he'
          simp [hq, ← hw]
        | _ => cases hw
theorem abs_step (hs : absStep ops n K o = some K') (h : Rep n a0 K a) (hr : ∀ A, Rep n a0 K' A → wpList P ops Q rest A w) : wpList P ops Q (o :: rest) a w := by
  unfold absStep at hs
  cases hd : o.dst with
  | none => rw [hd] at hs; cases hs
  | some d =>
    rw [hd] at hs
    simp only at hs
    cases hn : Nat.blt d n with
    | false => rw [hn] at hs; cases hs
    | true =>
      have hlt : d < n := by simpa using hn
      rw [hn] at hs
      simp only [cond_true] at hs
      cases hw : absWanted ops K o with
      | none => rw [hw] at hs; cases hs
      | some b =>
        rw [hw] at hs
        cases b with
        | false =>
          injection hs with hs
          subst hs
          exact lst_un (some d) hd (h.wanted hw) (hr _ (h.put hlt rfl))
        | true =>
          simp only at hs
          cases ho : o.op with
          | move x =>
            rw [ho] at hs
            simp only at hs
            cases hx : absOpnd K x with
            | none => rw [hx] at hs; cases hs
            | some v =>
              rw [hx] at hs
              simp only [AV.force_eq] at hs
              injection hs with hs
              subst hs
              exact lst_val_if (some d) hd (h.wanted hw) (exec_move x ho (h.opnd hx)) (hr _ (h.put hlt rfl))
          | assign x =>
            rw [ho] at hs
            simp only at hs
            cases hx : absOpnd K x with
            | none => rw [hx] at hs; cases hs
            | some v =>
              rw [hx] at hs
              simp only [AV.force_eq] at hs
              injection hs with hs
              subst hs
              exact lst_val_if (some d) hd (h.wanted hw) (exec_assign x ho (h.opnd hx)) (hr _ (h.put hlt rfl))
          | pick x y z =>
            rw [ho] at hs
            simp only at hs
            cases hx : absOpnd K x with
            | none => rw [hx] at hs; cases hs
            | some v =>
              rw [hx] at hs
              cases v with
              | s t => cases hs
              | u => cases hs
              | v c =>
                cases c with
                | bool c =>
                  simp only at hs
                  have e1 : a.eval x = .bool c := h.opnd hx
                  cases hyz : absOpnd K (bif c then y else z) with
                  | none => rw [hyz] at hs; cases hs
                  | some v2 =>
                    rw [hyz] at hs
                    simp only [AV.force_eq] at hs
                    injection hs with hs
                    subst hs
                    have e2 := exec_pick (P := P) (w := w) x y z ho e1 rfl rfl
                    refine lst_val_if (some d) hd (h.wanted hw) e2 (hr _ (h.put hlt ?_))
                    have e3 := h.opnd hyz
                    cases c <;> simpa using e3
                | _ => cases hs
          | _ => rw [ho] at hs; cases hs
/-- an operation that is wanted and yields a value -/
theorem abs_val {d : Tmp} (v : Value) (hd : o.dst = some d) (hn : Nat.blt d n = true) (hw : absWanted ops K o = some true) (h : Rep n a0 K a) {w' : World} (hrun : (execOp a.eval o).run P w = .ok (.value v) w')
    (hr : ∀ A, Rep n a0 ((d, .v v) :: K) A → wpList P ops Q rest A w') : wpList P ops Q (o :: rest) a w :=
  lst_val_if (some d) hd (h.wanted hw) hrun (hr _ (h.put (by simpa using hn) rfl))
/-- a call that is wanted -/
theorem abs_call {d : Tmp} {f : FuncId} {args : Array Value} (hd : o.dst = some d) (hn : Nat.blt d n = true) (hw : absWanted ops K o = some true) (h : Rep n a0 K a) (hrun : (execOp a.eval o).run P w = .ok (.enter f args) w)
    (hc : Calls P f args w fun e w' => ∃ v, e = .returned v ∧ ∀ A, Rep n a0 ((d, .v v) :: K) A → wpList P ops Q rest A w') : wpList P ops Q (o :: rest) a w := by
  refine lst_call_if_ (some d) hd (h.wanted hw) hrun (hc.mono ?_)
  rintro e w' ⟨v, he, hh⟩
  exact ⟨v, he, hh _ (h.put (by simpa using hn) rfl)⟩
/-- a store -/
theorem abs_skip (hd : o.dst = none) (hg : o.guard = none) (h : Rep n a0 K a) {w' : World} (hrun : (execOp a.eval o).run P w = .ok .skip w') (hr : ∀ A, Rep n a0 K A → wpList P ops Q rest A w') : wpList P ops Q (o :: rest) a w :=
  lst_skip none hd hg hrun (hr _ ⟨fun t => ev_none (h.ev t), by rw [Act.size_put]; exact h.sz, by rw [put_defers]; exact h.df⟩)
end Tran
