/- A region that draws its order, and whose operations only read, its calls only making memory: walked by what is known of its slots. -/
import Derived.Test.YtfojjklohbiffaaDoorAbs
import Derived.Test.YtfojjklohbiffaaDoorKa
import Derived.Test.YtfojjklohbiffaaDoorOpC
import Derived.Test.YtfojjklohbiffaaDoorSameD
namespace Tran
open Go Go.RowKit
set_option linter.unusedVariables false
set_option linter.unusedSimpArgs false
variable {P : Program} {ops : Array Oper} {I : World → Prop} {Q : Act → Prop} {rest : List Oper} {o : Oper} {n : Nat} {a0 a : Act} {K K' : List (Tmp × AV)} {w : World}
/-- the region: its operations answer alike in every world that meets I -/
theorem wp_region_I {id : Nat} {Q : Exit → Act → World → Prop} {l : List Oper} (I : World → Prop) (hm : P.follows .mixedOrders = true) (hB : Region.lexB .any l.toArray = true) (hI : I w.drew)
    (h : ∀ A : Act, A = a → wpQuiet P l.toArray I (fun a' => ∀ w', I w' → Q .normal a' w') l A) : (Code.region id l.toArray true).wp P Q a w :=
  wp_region_quiet (C := I) hm hB hI (by simpa using h a rfl)
theorem q_nil (h : Q a) : wpQuiet P ops I Q [] a := h
theorem q_un (hw : Region.wanted o (yielded ops a.tmps) = false) (h : wpQuiet P ops I Q rest (a.put o.dst undef)) : wpQuiet P ops I Q (o :: rest) a := by
  unfold wpQuiet
  rw [if_neg (by rw [hw]; simp)]
  exact h
theorem q_val {v : Value} (hw : Region.wanted o (yielded ops a.tmps) = true) (hrun : ∀ W, I W → (execOp a.eval o).run P W = .ok (.value v) W) (h : wpQuiet P ops I Q rest (a.put o.dst v)) : wpQuiet P ops I Q (o :: rest) a := by
  unfold wpQuiet
  rw [if_pos hw]
  exact ⟨v, fun W hW => by unfold Oper.quietAt; rw [hrun W hW]; exact ⟨rfl, rfl⟩, h⟩
theorem q_call {v : Value} {f : FuncId} {args : Array Value} (hw : Region.wanted o (yielded ops a.tmps) = true) (hrun : ∀ W, I W → (execOp a.eval o).run P W = .ok (.enter f args) W)
    (hc : ∀ W, I W → Calls P f args W fun e w' => e = .returned v ∧ I w') (h : wpQuiet P ops I Q rest (a.put o.dst v)) : wpQuiet P ops I Q (o :: rest) a := by
  unfold wpQuiet
  rw [if_pos hw]
  exact ⟨v, fun W hW => by unfold Oper.quietAt; rw [hrun W hW]; exact ⟨rfl, hc W hW⟩, h⟩
theorem absq_step (hs : absStep ops n K o = some K') (h : Rep n a0 K a) (hr : ∀ A, Rep n a0 K' A → wpQuiet P ops I Q rest A) : wpQuiet P ops I Q (o :: rest) a := by
  unfold absStep at hs
  cases hd : o.dst with
  | none => rw [hd] at hs; cases hs
  | some d =>
    rw [hd] at hs
    simp only at hs
    cases hn : Nat.blt d n with
    | false => rw [hn] at hs; cases hs
    | true =>
      have hlt : d < n := by simpa using hn
      rw [hn] at hs
      simp only [cond_true] at hs
      cases hw : absWanted ops K o with
      | none => rw [hw] at hs; cases hs
      | some b =>
        rw [hw] at hs
        cases b with
        | false =>
          injection hs with hs
          subst hs
          exact q_un (h.wanted hw) (by rw [hd]; exact hr _ (h.put hlt rfl))
        | true =>
          simp only at hs
          cases ho : o.op with
          | move x =>
            rw [ho] at hs
            simp only at hs
            cases hx : absOpnd K x with
            | none => rw [hx] at hs; cases hs
            | some v =>
              rw [hx] at hs
              simp only [AV.force_eq] at hs
              injection hs with hs
              subst hs
              exact q_val (h.wanted hw) (fun W _ => exec_move x ho (h.opnd hx)) (by rw [hd]; exact hr _ (h.put hlt rfl))
          | assign x =>
            rw [ho] at hs
            simp only at hs
            cases hx : absOpnd K x with
            | none => rw [hx] at hs; cases hs
            | some v =>
              rw [hx] at hs
              simp only [AV.force_eq] at hs
              injection hs with hs
              subst hs
              exact q_val (h.wanted hw) (fun W _ => exec_assign x ho (h.opnd hx)) (by rw [hd]; exact hr _ (h.put hlt rfl))
          | pick x y z =>
            rw [ho] at hs
            simp only at hs
            cases hx : absOpnd K x with
            | none => rw [hx] at hs; cases hs
            | some v =>
              rw [hx] at hs
              cases v with
              | s t => cases hs
              | u => cases hs
              | v c =>
                cases c with
                | bool c =>
                  simp only at hs
                  have e1 : a.eval x = .bool c := h.opnd hx
                  cases hyz : absOpnd K (bif c then y else z) with
                  | none => rw [hyz] at hs; cases hs
                  | some v2 =>
                    rw [hyz] at hs
                    simp only [AV.force_eq] at hs
                    injection hs with hs
                    subst hs
                    refine q_val (h.wanted hw) (fun W _ => exec_pick (P := P) (w := W) x y z ho e1 rfl rfl) ?_
                    rw [hd]
                    refine hr _ (h.put hlt ?_)
                    have e3 := h.opnd hyz
                    cases c <;> simpa using e3
                | _ => cases hs
          | _ => rw [ho] at hs; cases hs
theorem absq_val {d : Tmp} (v : Value) (hd : o.dst = some d) (hn : Nat.blt d n = true) (hw : absWanted ops K o = some true) (h : Rep n a0 K a) (hrun : ∀ W, I W → (execOp a.eval o).run P W = .ok (.value v) W)
    (hr : ∀ A, Rep n a0 ((d, .v v) :: K) A → wpQuiet P ops I Q rest A) : wpQuiet P ops I Q (o :: rest) a :=
  q_val (h.wanted hw) hrun (by rw [hd]; exact hr _ (h.put (by simpa using hn) rfl))
theorem absq_call {d : Tmp} {f : FuncId} {args : Array Value} {v : Value} (hd : o.dst = some d) (hn : Nat.blt d n = true) (hw : absWanted ops K o = some true) (h : Rep n a0 K a) (hrun : ∀ W, I W → (execOp a.eval o).run P W = .ok (.enter f args) W)
    (hc : ∀ W, I W → Calls P f args W fun e w' => e = .returned v ∧ I w') (hr : ∀ A, Rep n a0 ((d, .v v) :: K) A → wpQuiet P ops I Q rest A) : wpQuiet P ops I Q (o :: rest) a :=
  q_call (h.wanted hw) hrun hc (by rw [hd]; exact hr _ (h.put (by simpa using hn) rfl))
theorem cutq_at {l : List Oper} (k : Nat) (Φ : Act → Prop) (h2 : ∀ A, Φ A → wpQuiet P ops I Q (l.drop k) A) (h1 : (∀ A, Φ A → wpQuiet P ops I Q (l.drop k) A) → wpQuiet P ops I Q l a) : wpQuiet P ops I Q l a := h1 h2
/-- an act by its slots -/
theorem act_fn {A : Act} {n : Nat} (hz : A.tmps.size = n) (hd : A.defers = []) : ∃ f : Nat → Value, (∀ t, t < n → A.eval (.tmp t) = f t) ∧ A = ⟨((List.range n).map f).toArray, []⟩ := by
  refine ⟨fun t => A.eval (.tmp t), fun _ _ => rfl, ?_⟩
  obtain ⟨tm, df⟩ := A
  simp only at hz hd
  subst hd hz
  congr 1
  apply Array.ext
  · simp
  · intro i h1 h2
    simp [Act.eval, h1]
/-- the slots that a region wrote over those that it found -/
def mergeL : List (Option Value) → List Value → List Value
  | some x :: m, _ :: l => x :: mergeL m l
  | none :: m, v :: l => v :: mergeL m l
  | _, _ => []
def Agree (A A0 : Act) : Nat → List (Option Value) → Prop
  | _, [] => True
  | i, none :: m => A.eval (.tmp i) = A0.eval (.tmp i) ∧ Agree A A0 (i + 1) m
  | i, some v :: m => A.eval (.tmp i) = v ∧ Agree A A0 (i + 1) m
theorem mergeL_at {A A0 : Act} : ∀ (m : List (Option Value)) (l : List Value) (i : Nat), m.length = l.length → Agree A A0 i m → (∀ j, j < l.length → A0.eval (.tmp (i + j)) = l.getD j undef) → ∀ j, j < l.length → (mergeL m l).length = l.length ∧ A.eval (.tmp (i + j)) = (mergeL m l).getD j undef
  | [], [], _, _, _, _ => fun j hj => absurd hj (by simp)
  | [], _ :: _, _, h, _, _ => by simp at h
  | _ :: _, [], _, h, _, _ => by simp at h
  | o :: m, v :: l, i, hl, ha, h0 => by
    have hlen : m.length = l.length := by simpa using hl
    have h0' : ∀ j, j < l.length → A0.eval (.tmp (i + 1 + j)) = l.getD j undef := fun j hj => by
      have := h0 (j + 1) (by simp; omega)
      rw [show i + (j + 1) = i + 1 + j by omega] at this
      simpa using this
    have hA : Agree A A0 (i + 1) m := by
      cases o with
      | none => exact ha.2
      | some x => exact ha.2
    have ih := mergeL_at m l (i + 1) hlen hA h0'
    have hL : (mergeL m l).length = l.length := by
      cases l with
      | nil => cases m with
        | nil => rfl
        | cons _ _ => simp at hlen
      | cons a l => exact (ih 0 (by simp)).1
    intro j hj
    refine ⟨by cases o <;> simp [mergeL, hL], ?_⟩
    cases j with
    | zero =>
      cases o with
      | none =>
        have e := ha.1
        have e0 := h0 0 (by simp)
        simp [mergeL] at e0 ⊢
        exact e.trans e0
      | some x => simpa [mergeL] using ha.1
    | succ j =>
      have := (ih j (by simpa using hj)).2
      rw [show i + (j + 1) = i + 1 + j by omega, this]
      cases o <;> simp [mergeL]
theorem act_merge {A A0 : Act} {l : List Value} {n : Nat} {df : List Deferred} (h0 : A0 = ⟨l.toArray, df⟩) (m : List (Option Value)) (hz : A.tmps.size = n) (hd : A.defers = []) (hl : l.length = n) (hm : m.length = l.length) (h : Agree A A0 0 m) : A = ⟨(mergeL m l).toArray, []⟩ := by
  have h1 := mergeL_at m l 0 hm h (fun j hj => by subst h0; simp [Act.eval])
  obtain ⟨tm, dd⟩ := A
  simp only at hz hd
  subst hd
  congr 1
  have hL : (mergeL m l).length = l.length := by
    cases l with
    | nil => cases m with
      | nil => rfl
      | cons _ _ => simp at hm
    | cons a l => exact (h1 0 (by simp)).1
  apply Array.ext
  · simp [hL]; omega
  · intro i i1 i2
    have := (h1 i (by omega)).2
    simp [Act.eval] at this
    simp [i1] at this
    simp
    rw [this, List.getElem?_eq_getElem (by simpa using i2)]
    rfl
end Tran
namespace Go.Proofs.YtfojjklohbiffaaDoor
open Go.RowKit Tran Tran.Wire
set_option linter.unusedVariables false
set_option linter.unusedSimpArgs false
instance (x : NOp) (n : Nat) : Decidable (headP x n) := by unfold headP; infer_instance
instance (x : NOp) : Decidable (startP x) := by unfold startP; infer_instance
instance (x : NOp) : Decidable (linesP x) := by unfold linesP; infer_instance
instance (x : NOp) : Decidable (rightP x) := by unfold rightP; infer_instance
instance (x : NOp) : Decidable (bareN x = x) := decidable_of_iff' _ (bare_iff x)
/-- is an operation's form right? -/
def formP (x : NOp) (n : Nat) : Prop := headP x n ∧ bareN x = x ∧ rightP x
instance (x : NOp) (n : Nat) : Decidable (formP x n) := by unfold formP; infer_instance
/-- what Check tells -/
def chkF (x : NOp) (n : Int) : Nat := if n < 1 ∨ 8 < n then 2 else if formP x n.toNat then 0 else 5
theorem bareN_ok {x : NOp} (h : x.ok) : (bareN x).ok := by
  have q : ∀ (c : Bool) (a m : Nat), 0 < m → a < m → (if c = true then a else 0) < m := by
    intro c a m h0 h1
    cases c <;> simp [h0, h1]
  refine ⟨h.dr, h.dn, h.dep8, h.dep, h.time, h.who, h.cr, h.cn, h.kind, q _ _ _ (by omega) h.er, q _ _ _ (by omega) h.en, q _ _ _ (by omega) h.dest, q _ _ _ (by omega) h.roles, q _ _ _ (by omega) h.depth, q _ _ _ (by omega) h.cap, q _ _ _ (by omega) h.ar, q _ _ _ (by omega) h.an, q _ _ _ (by omega) h.vr, q _ _ _ (by omega) h.vn, q _ _ _ (by omega) h.item, q _ _ _ (by omega) h.qty, q _ _ _ (by omega) h.price, ?_⟩
  intro c hc
  unfold bareN at hc
  simp only at hc
  split at hc
  · exact h.lines c hc
  · cases hc
theorem bareN_lines (x : NOp) (hk : x.kind ≤ 8) : (bareN x).lines = if x.kind = 8 then x.lines else [] := by
  unfold bareN
  obtain h | h | h | h | h | h | h | h | h : x.kind = 0 ∨ x.kind = 1 ∨ x.kind = 2 ∨ x.kind = 3 ∨ x.kind = 4 ∨ x.kind = 5 ∨ x.kind = 6 ∨ x.kind = 7 ∨ x.kind = 8 := by omega
  all_goals (rw [h]; simp [hasF])
theorem bare_lns {w : World} {x : NOp} {A : Option Addr} {cap : Nat} (hk : x.kind ≤ 8) (hL : Lns w (.slice A x.lines.length cap) x.lines) :
    Lns w (if x.kind = 8 then .slice A x.lines.length cap else .slice none 0 0) (bareN x).lines := by
  rw [bareN_lines x hk]
  by_cases h : x.kind = 8
  · rw [if_pos h, if_pos h]; exact hL
  · rw [if_neg h, if_neg h]; exact Lns.nil w
theorem exec_not {P : Program} {o : Oper} {a : Act} {w : World} {t : TypeId} {x : Operand} (ho : o.op = .unOp .not t x) {b : Bool} (hx : a.eval x = .bool b) : (execOp a.eval o).run P w = .ok (.value (.bool (!b))) w := by
  unfold execOp
  simp only [ho, hx]
  go_simp
theorem en18 (args : Array Value) (W : World) : (callFunc 18 args).run Tryd.prog W = .ok (.enter 18 args) W := enters_of Tryd.func18 (by kernel_rfl) rfl args W
theorem en19 (args : Array Value) (W : World) : (callFunc 19 args).run Tryd.prog W = .ok (.enter 19 args) W := enters_of Tryd.func19 (by kernel_rfl) rfl args W
theorem en20 (args : Array Value) (W : World) : (callFunc 20 args).run Tryd.prog W = .ok (.enter 20 args) W := enters_of Tryd.func20 (by kernel_rfl) rfl args W
theorem en16 (args : Array Value) (W : World) : (callFunc 16 args).run Tryd.prog W = .ok (.enter 16 args) W := enters_of Tryd.func16 (by kernel_rfl) rfl args W
/-- the worlds within Check -/
structure CkI (w0 : World) (X : Array Value) (W : World) : Prop where
  k : Blk W w0.heap.size 30 X
  b : Below w0.heap.size w0 W
theorem CkI.below {w0 W W' : World} {X : Array Value} (s : CkI w0 X W) (hb : Below W.heap.size W W') : CkI w0 X W' := ⟨s.k.below hb s.k.lt, s.b.trans (hb.mono s.b.size)⟩
theorem CkI.drew {w0 W : World} {X : Array Value} (s : CkI w0 X W) : CkI w0 X W.drew := ⟨s.k, below_drew s.b⟩
theorem CkI.start (w : World) (X : Array Value) : CkI w X (w.alloc (.cells X 30)) := ⟨Blk.new w 30 X, (Below.refl w.heap.size w).alloc (Nat.le_refl _) _⟩
set_option maxRecDepth 100000 in
set_option maxHeartbeats 16000000 in
theorem check_any (w : World) (x : NOp) (A : Option Addr) (cap : Nat) (n : Int) (hx : x.ok) (hL : Lns w (.slice A x.lines.length cap) x.lines) (hg : Glob w) :
    Calls Tryd.prog 7 #[.agg (opA x (.slice A x.lines.length cap)), .int .i64 n] w fun e w' => e = .returned (.int .i64 (chkF x n : Nat)) ∧ Below w.heap.size w w' := by
  have S := Lib.hid (CkI.start w (opA x (.slice A x.lines.length cap)))
  by_cases h1 : n < 1
  · have HF := Lib.hid (show chkF x n = 2 by unfold chkF; rw [if_pos (.inl h1)])
    have e1 : decide (n < 1) = true := decide_eq_true h1
    generalize opA x (.slice A x.lines.length cap) = X at *
    clear h1 hx hL hg
    go_enter Tryd.func7, Tryd.ntmps7
    go_wp2_with fail
    go_ret
    rw [HF.out]
    exact ⟨rfl, S.out.b⟩
  by_cases h2 : 8 < n
  · have HF := Lib.hid (show chkF x n = 2 by unfold chkF; rw [if_pos (.inr h2)])
    have e1 : decide (n < 1) = false := decide_eq_false h1
    have e2 : decide (8 < n) = true := decide_eq_true h2
    generalize opA x (.slice A x.lines.length cap) = X at *
    clear h1 h2 hx hL hg
    go_enter Tryd.func7, Tryd.ntmps7
    go_wp2_with fail
    go_ret
    rw [HF.out]
    exact ⟨rfl, S.out.b⟩
  have HF := Lib.hid (show chkF x n = if formP x n.toNat then 0 else 5 by unfold chkF; rw [if_neg (by omega)])
  have e1 : decide (n < 1) = false := decide_eq_false h1
  have e2 : decide (8 < n) = false := decide_eq_false h2
  obtain ⟨m, rfl⟩ : ∃ m : Nat, n = m := ⟨n.toNat, by omega⟩
  have hm1 : 1 ≤ m := by omega
  have hm8 : m ≤ 8 := by omega
  rw [Int.toNat_natCast] at HF
  have HK : Hid (headP x m → x.kind ≤ 8) := Lib.hid (fun h => h.2.2.2.2.2.2.2)
  have HH := Lib.hid (fun W (r : Bool) (hr : r = true ↔ headP x m) => (head_any W x A x.lines.length cap m hx hm1 hm8).mono fun e w' h => h.fixed hr)
  have HB := Lib.hid (fun W (hW : Below w.heap.size w W) (hk : x.kind ≤ 8) => bare_any W x A x.lines.length cap hx (hg.later hW) hk)
  have HS := Lib.hid (fun W (hW : Below w.heap.size w W) (hk : x.kind ≤ 8) (r : Bool) (hr : r = true ↔ bareN x = x) => (same_any W (bareN x) x _ _ (bareN_ok hx) hx (bare_lns hk (hL.later hW)) (hL.later hW)).mono fun e w' h => h.fixed hr)
  have HR := Lib.hid (fun W (hW : Below w.heap.size w W) (hk : x.kind ≤ 8) (r : Bool) (hr : r = true ↔ rightP x) => (right_any W x A cap hx (hL.later hW) (hg.later hW) hk).mono fun e w' h => h.fixed hr)
  have HSX := Lib.hid (opA_size x (.slice A x.lines.length cap) hx.dep8)
  generalize opA x (.slice A x.lines.length cap) = X at *
  generalize opA (bareN x) (if x.kind = 8 then .slice A x.lines.length cap else .slice none 0 0) = Y at *
  clear h1 h2 hm1 hm8 hx hL hg
  go_enter Tryd.func7, Tryd.ntmps7
  go_upto_region 3 with (fail)
  refine wp_region_I (CkI w X) (by kernel_rfl) (by kernel_rfl) (CkI.drew S.out) ?_
  intro A0 hA
  have h2 : A0.eval (.tmp 2) = .pointer (some ⟨w.heap.size, 0, none⟩) := by rw [hA]; rfl
  have h1 : A0.eval (.tmp 1) = .int .i64 (m : Int) := by rw [hA]; rfl
  have hrep : Rep 29 A0 [] A0 := Rep.start (by rw [hA] <;> rfl) (by rw [hA] <;> rfl)
  have HA := Lib.hid hA
  clear hA
  refine absq_val (.agg X) rfl rfl rfl hrep (fun W hW => exec_load1 30 _ rfl ((hrep.ev 2).trans h2) (ld122 hW.k HSX.out)) ?_
  clear hrep; intro A1 hrep
  refine absq_step (by rfl) hrep ?_
  clear hrep; intro A1 hrep
  by_cases p1 : headP x m
  case neg =>
    refine absq_call rfl rfl rfl hrep (fun W hW => exec_call0 rfl rfl (map2 (hrep.ev 13) ((hrep.ev 14).trans h1)) en18) (v := .bool false) (fun W hW => (HH.out W false (by simp [p1])).mono fun e w' h => ⟨h.1, hW.below h.2⟩) ?_
    clear hrep; intro A1 hrep
    refine absq_val (.bool true) rfl rfl rfl hrep (fun W hW => exec_not (b := false) rfl (hrep.ev 15)) ?_
    clear hrep; intro A1 hrep
    repeat (refine absq_step (by rfl) hrep ?_; clear hrep; intro A1 hrep)
    refine q_nil ?_
    intro w' hI
    have hv : A1.eval (.tmp 12) = .bool true := hrep.ev 12
    have hd := hrep.df
    have hz := hrep.sz
    clear hrep
    obtain ⟨f, hf, hfa⟩ := act_fn hz hd
    rw [show (List.range 29).map f = [f 0, f 1, f 2, f 3, f 4, f 5, f 6, f 7, f 8, f 9, f 10, f 11, f 12, f 13, f 14, f 15, f 16, f 17, f 18, f 19, f 20, f 21, f 22, f 23, f 24, f 25, f 26, f 27, f 28] from rfl] at hfa
    rw [show f 12 = .bool true from (hf 12 (by decide)).symm.trans (hv)] at hfa
    subst hfa
    clear hv hd hz hf
    have HI := Lib.hid hI
    clear hI
    go_wp2_with fail
    go_ret
    refine ⟨?_, HI.out.b⟩
    rw [HF.out, if_neg (fun h => p1 h.1)]
    rfl
  have hk := HK.out p1
  refine absq_call rfl rfl rfl hrep (fun W hW => exec_call0 rfl rfl (map2 (hrep.ev 13) ((hrep.ev 14).trans h1)) en18) (v := .bool true) (fun W hW => (HH.out W true (by simp [p1])).mono fun e w' h => ⟨h.1, hW.below h.2⟩) ?_
  clear hrep; intro A1 hrep
  refine absq_val (.bool false) rfl rfl rfl hrep (fun W hW => exec_not (b := true) rfl (hrep.ev 15)) ?_
  clear hrep; intro A1 hrep
  refine absq_step (by rfl) hrep ?_
  clear hrep; intro A1 hrep
  refine absq_val (.agg X) rfl rfl rfl hrep (fun W hW => exec_load1 30 _ rfl ((hrep.ev 2).trans h2) (ld122 hW.k HSX.out)) ?_
  clear hrep; intro A1 hrep
  refine absq_call rfl rfl rfl hrep (fun W hW => exec_call0 rfl rfl (map1 (hrep.ev 18)) en19) (v := .agg Y) (fun W hW => (HB.out W hW.b hk).mono fun e w' h => ⟨h.1, hW.below h.2⟩) ?_
  clear hrep; intro A1 hrep
  refine absq_val (.agg X) rfl rfl rfl hrep (fun W hW => exec_load1 30 _ rfl ((hrep.ev 2).trans h2) (ld122 hW.k HSX.out)) ?_
  clear hrep; intro A1 hrep
  by_cases p2 : bareN x = x
  case neg =>
    refine absq_call rfl rfl rfl hrep (fun W hW => exec_call0 rfl rfl (map2 (hrep.ev 19) (hrep.ev 20)) en16) (v := .bool false) (fun W hW => (HS.out W hW.b hk false (by simp [p2])).mono fun e w' h => ⟨h.1, hW.below h.2⟩) ?_
    clear hrep; intro A1 hrep
    refine absq_val (.bool true) rfl rfl rfl hrep (fun W hW => exec_not (b := false) rfl (hrep.ev 21)) ?_
    clear hrep; intro A1 hrep
    repeat (refine absq_step (by rfl) hrep ?_; clear hrep; intro A1 hrep)
    refine q_nil ?_
    intro w' hI
    have hv : A1.eval (.tmp 12) = .bool true := hrep.ev 12
    have hd := hrep.df
    have hz := hrep.sz
    clear hrep
    obtain ⟨f, hf, hfa⟩ := act_fn hz hd
    rw [show (List.range 29).map f = [f 0, f 1, f 2, f 3, f 4, f 5, f 6, f 7, f 8, f 9, f 10, f 11, f 12, f 13, f 14, f 15, f 16, f 17, f 18, f 19, f 20, f 21, f 22, f 23, f 24, f 25, f 26, f 27, f 28] from rfl] at hfa
    rw [show f 12 = .bool true from (hf 12 (by decide)).symm.trans (hv)] at hfa
    subst hfa
    clear hv hd hz hf
    have HI := Lib.hid hI
    clear hI
    go_wp2_with fail
    go_ret
    refine ⟨?_, HI.out.b⟩
    rw [HF.out, if_neg (fun h => p2 h.2.1)]
    rfl
  refine absq_call rfl rfl rfl hrep (fun W hW => exec_call0 rfl rfl (map2 (hrep.ev 19) (hrep.ev 20)) en16) (v := .bool true) (fun W hW => (HS.out W hW.b hk true (by simp [p2])).mono fun e w' h => ⟨h.1, hW.below h.2⟩) ?_
  clear hrep; intro A1 hrep
  refine absq_val (.bool false) rfl rfl rfl hrep (fun W hW => exec_not (b := true) rfl (hrep.ev 21)) ?_
  clear hrep; intro A1 hrep
  refine absq_step (by rfl) hrep ?_
  clear hrep; intro A1 hrep
  refine absq_step (by rfl) hrep ?_
  clear hrep; intro A1 hrep
  refine absq_val (.agg X) rfl rfl rfl hrep (fun W hW => exec_load1 30 _ rfl ((hrep.ev 2).trans h2) (ld122 hW.k HSX.out)) ?_
  clear hrep; intro A1 hrep
  by_cases p3 : rightP x
  case neg =>
    refine absq_call rfl rfl rfl hrep (fun W hW => exec_call0 rfl rfl (map1 (hrep.ev 25)) en20) (v := .bool false) (fun W hW => (HR.out W hW.b hk false (by simp [p3])).mono fun e w' h => ⟨h.1, hW.below h.2⟩) ?_
    clear hrep; intro A1 hrep
    refine absq_val (.bool true) rfl rfl rfl hrep (fun W hW => exec_not (b := false) rfl (hrep.ev 26)) ?_
    clear hrep; intro A1 hrep
    repeat (refine absq_step (by rfl) hrep ?_; clear hrep; intro A1 hrep)
    refine q_nil ?_
    intro w' hI
    have hv : A1.eval (.tmp 12) = .bool true := hrep.ev 12
    have hd := hrep.df
    have hz := hrep.sz
    clear hrep
    obtain ⟨f, hf, hfa⟩ := act_fn hz hd
    rw [show (List.range 29).map f = [f 0, f 1, f 2, f 3, f 4, f 5, f 6, f 7, f 8, f 9, f 10, f 11, f 12, f 13, f 14, f 15, f 16, f 17, f 18, f 19, f 20, f 21, f 22, f 23, f 24, f 25, f 26, f 27, f 28] from rfl] at hfa
    rw [show f 12 = .bool true from (hf 12 (by decide)).symm.trans (hv)] at hfa
    subst hfa
    clear hv hd hz hf
    have HI := Lib.hid hI
    clear hI
    go_wp2_with fail
    go_ret
    refine ⟨?_, HI.out.b⟩
    rw [HF.out, if_neg (fun h => p3 h.2.2)]
    rfl
  refine absq_call rfl rfl rfl hrep (fun W hW => exec_call0 rfl rfl (map1 (hrep.ev 25)) en20) (v := .bool true) (fun W hW => (HR.out W hW.b hk true (by simp [p3])).mono fun e w' h => ⟨h.1, hW.below h.2⟩) ?_
  clear hrep; intro A1 hrep
  refine absq_val (.bool false) rfl rfl rfl hrep (fun W hW => exec_not (b := true) rfl (hrep.ev 26)) ?_
  clear hrep; intro A1 hrep
  repeat (refine absq_step (by rfl) hrep ?_; clear hrep; intro A1 hrep)
  refine q_nil ?_
  intro w' hI
  have hv : A1.eval (.tmp 12) = .bool false := hrep.ev 12
  have hd := hrep.df
  have hz := hrep.sz
  clear hrep
  obtain ⟨f, hf, hfa⟩ := act_fn hz hd
  rw [show (List.range 29).map f = [f 0, f 1, f 2, f 3, f 4, f 5, f 6, f 7, f 8, f 9, f 10, f 11, f 12, f 13, f 14, f 15, f 16, f 17, f 18, f 19, f 20, f 21, f 22, f 23, f 24, f 25, f 26, f 27, f 28] from rfl] at hfa
  rw [show f 12 = .bool false from (hf 12 (by decide)).symm.trans (hv)] at hfa
  subst hfa
  clear hv hd hz hf
  have HI := Lib.hid hI
  clear hI
  go_wp2_with fail
  go_ret
  refine ⟨?_, HI.out.b⟩
  rw [HF.out, if_pos ⟨p1, p2, p3⟩]
  rfl
end Go.Proofs.YtfojjklohbiffaaDoor
namespace Go.Proofs.YtfojjklohbiffaaDoor
open Go.RowKit Tran Tran.Wire
set_option linter.unusedVariables false
set_option linter.unusedSimpArgs false
theorem en10 (args : Array Value) (W : World) : (callFunc 10 args).run Tryd.prog W = .ok (.enter 10 args) W := enters_of Tryd.func10 (by kernel_rfl) rfl args W
theorem fc0 {p : Addr} {W : World} : (Instr.fieldAt 63 (.pointer (some p)) 0).run Tryd.prog W = .ok (.pointer (some (p.add 0))) W := by go_simp
theorem fc1 {p : Addr} {W : World} : (Instr.fieldAt 63 (.pointer (some p)) 1).run Tryd.prog W = .ok (.pointer (some (p.add 2))) W := by go_simp
theorem addr_add2 (p : Addr) (a b : Nat) : (p.add a).add b = p.add (a + b) := by
  by_cases h1 : a = 0
  · subst h1; simp [Addr.add]
  · by_cases h2 : b = 0
    · subst h2; simp [Addr.add]
    · simp [Addr.add, h1, h2, Nat.add_assoc]
theorem tcov_b (w : World) (x : NOp) (lv : Value) (r n : Nat) (hx : x.ok) (hr : r < 256) (hn : n < 4294967296) (b : Bool) (hb : decide (cov x r n) = b) : Calls Tryd.prog 10 #[.agg (opA x lv), .agg #[.int .u8 (r : Int), .int .u32 (n : Int)]] w fun e w' => e = .returned (.bool b) ∧ Below w.heap.size w w' := by
  have h := tcov_any w x lv r n hx hr hn
  rw [hb] at h
  exact h
theorem ldc {p : Addr} {a : Nat} {u v : Value} {W : World} (h0 : W.cell? (p.add a) = some u) (h1 : W.cell? (p.add (a + 1)) = some v) : (loadVar 24 (p.add a)).run Tryd.prog W = .ok (.agg #[u, v]) W := by
  refine run_load_cells W (p.add a) 24 #[u, v] _ (fun j x hj => ?_) Tryd.underlying24 rfl size82
  rw [addr_add2]
  match j, hj with
  | 0, hj => simp at hj; subst hj; exact h0
  | 1, hj => simp at hj; subst hj; exact h1
set_option maxRecDepth 100000 in
set_option maxHeartbeats 16000000 in
theorem tlines_any (w : World) (x : NOp) (A : Option Addr) (cap : Nat) (hx : x.ok) (hL : Lns w (.slice A x.lines.length cap) x.lines) : Calls Tryd.prog 24 #[.agg (opA x (.slice A x.lines.length cap))] w (Tells w (linesP x)) := by
  have S := Lib.hid (CkI.start w (opA x (.slice A x.lines.length cap)))
  obtain ⟨A', cap', e1, hr, hll⟩ := hL
  injection e1 with e1 e2 e3
  subst e1 e3
  have C28 := Lib.hid (op_c28 x (.slice A x.lines.length cap) hx.dep8)
  have HA0 := Lib.hid (fun W (h : Below w.heap.size w W) k (hk : k < x.lines.length) => line_at (hr.later h) hk)
  have CV1 := Lib.hid (fun W (c : NClaim) (hc : c.ok) b hb => tcov_b W x (.slice A x.lines.length cap) c.lr c.ln hx hc.1 hc.2.1 b hb)
  have CV2 := Lib.hid (fun W (c : NClaim) (hc : c.ok) b hb => tcov_b W x (.slice A x.lines.length cap) c.vr c.vn hx hc.2.2.1 hc.2.2.2 b hb)
  have OK := Lib.hid hx.lines
  have HSX := Lib.hid (opA_size x (.slice A x.lines.length cap) hx.dep8)
  have HLL := Lib.hid hll
  generalize opA x (.slice A x.lines.length cap) = X at *
  have HLP : Hid (linesP x ↔ (1 ≤ x.lines.length ∧ x.lines.length ≤ 16 ∧ goodL x x.lines)) := Lib.hid Iff.rfl
  generalize x.lines = ls at *
  have NO : Hid (∀ (e : Ending) (w' : World), ¬ linesP x → e = .returned (.bool false) → Below w.heap.size w w' → Tells w (linesP x) e w') := Lib.hid (fun e w' h1 h2 h3 => ⟨false, h2, by simp [h1], h3⟩)
  clear hr hx hll
  have c28 := (S.out.k.cell 28).trans C28.out
  by_cases hn1 : 1 ≤ ls.length
  case neg =>
    have e1 : decide ((ls.length : Int) < 1) = true := decide_eq_true (by omega)
    have HN := Lib.hid (fun h => hn1 (HLP.out.1 h).1)
    clear hn1
    go_enter Tryd.func24, Tryd.ntmps24
    go_wp2_with fail
    go_ret
    exact NO.out _ _ HN.out rfl S.out.b
  by_cases hn2 : ls.length ≤ 16
  case neg =>
    have e1 : decide ((ls.length : Int) < 1) = false := decide_eq_false (by omega)
    have e2 : decide ((16 : Int) < (ls.length : Int)) = true := decide_eq_true (by omega)
    have f2 : decide (16 < ls.length) = true := decide_eq_true (by omega)
    have HN := Lib.hid (fun h => hn2 (HLP.out.1 h).2.1)
    clear hn1 hn2
    go_enter Tryd.func24, Tryd.ntmps24
    go_wp2_with fail
    go_ret
    exact NO.out _ _ HN.out rfl S.out.b
  have e1 : decide ((ls.length : Int) < 1) = false := decide_eq_false (by omega)
  have e2 : decide ((16 : Int) < (ls.length : Int)) = false := decide_eq_false (by omega)
  have f2 : decide (16 < ls.length) = false := decide_eq_false (by omega)
  have HN12 := Lib.hid (And.intro hn1 hn2)
  clear hn1 hn2
  go_enter Tryd.func24, Tryd.ntmps24
  go_wp2_with fail
  go_loopw [3] (fun i wr => ∃ k : Nat, k ≤ ls.length ∧ i = .int .i64 (k : Int) ∧ CkI w X wr ∧ goodL x (ls.take k)) (fun i _ => ls.length - (intOf i).toNat)
  case atStart => exact ⟨0, by omega, rfl, S.out, by simp [goodL]⟩
  case round =>
    obtain ⟨k, hk, rfl, hS, hgd⟩ := hrel
    have S := Lib.hid hS
    have GD := Lib.hid hgd
    clear hS hgd c28 e1 e2 f2
    have c28 := (S.out.k.cell 28).trans C28.out
    by_cases hlt : k < ls.length
    · obtain ⟨ad, rfl, hcell⟩ := HA0.out _ S.out.b k hlt
      have hd : decide ((k : Int) < (ls.length : Int)) = true := decide_eq_true (by omega)
      have hd2 : decide (k < ls.length) = true := decide_eq_true hlt
      have HOK := Lib.hid (OK.out _ (List.getElem_mem hlt))
      have HTK := Lib.hid (show ls.take (k + 1) = ls.take k ++ [ls[k]] by rw [List.take_add_one, List.getElem?_eq_getElem hlt]; rfl)
      have HWR := Lib.hid (show wrap64 ((k : Int) + 1) = ((k + 1 : Nat) : Int) by rw [IntWalk.wrap64_in _ (by have := HLL.out; omega)]; omega)
      have HMEM := Lib.hid (List.getElem_mem hlt)
      have HNG : Hid (∀ c, c ∈ ls → ¬ (cov x c.lr c.ln ∧ cov x c.vr c.vn) → ¬ linesP x) := Lib.hid (fun c hc h1 h2 => h1 ((HLP.out.1 h2).2.2.1 c hc))
      have HDP : Hid ((∃ d ∈ ls.take k, d.lr = ls[k].lr ∧ d.ln = ls[k].ln) → ¬ linesP x) := Lib.hid (by
        rintro ⟨d, hd, h1, h2⟩ h3
        have h4 := (HLP.out.1 h3).2.2.2
        have h5 : ls = ls.take k ++ ls[k] :: ls.drop (k + 1) := by rw [← List.drop_eq_getElem_cons hlt, List.take_append_drop]
        rw [h5, List.map_append, List.map_cons, List.nodup_append] at h4
        exact h4.2.2 (d.lr, d.ln) (List.mem_map_of_mem hd) (ls[k].lr, ls[k].ln) (by simp) (by rw [h1, h2]))
      have HCA : Hid (∀ W, Below w.heap.size w W → ∀ (j : Nat) (hj : j < ls.length) (i : Nat) u, (claimA ls[j])[i]? = some u → W.cell? ((ad.add (j * 4)).add i) = some u) := Lib.hid (fun W hW j hj i u hu => by
        obtain ⟨ad2, e2, h2⟩ := HA0.out W hW j hj
        injection e2 with e2
        subst e2
        exact h2 i u hu)
      have HCL := Lib.hid (fun W hW i u hu => HCA.out W hW k hlt i u hu)
      clear hcell
      generalize hc : ls[k] = c at *
      clear hc
      go_upto_region 6 with (fail)
      refine wp_region_I (CkI w X) (by kernel_rfl) (by kernel_rfl) (CkI.drew S.out) ?_
      intro A0 hA
      have h1 : A0.eval (.tmp 1) = .pointer (some ⟨w.heap.size, 0, none⟩) := by rw [hA]; rfl
      have h3 : A0.eval (.tmp 3) = .int .i64 (k : Int) := by rw [hA]; rfl
      have hrep : Rep 60 A0 [] A0 := Rep.start (by rw [hA] <;> rfl) (by rw [hA] <;> rfl)
      have HA := Lib.hid hA
      clear hA
      refine absq_val (.agg X) rfl rfl rfl hrep (fun W hW => exec_load1 30 _ rfl ((hrep.ev 1).trans h1) (ld122 hW.k HSX.out)) ?_
      clear hrep; intro A1 hrep
      refine absq_val (.pointer (some ⟨w.heap.size, 28, none⟩)) rfl rfl rfl hrep (fun W hW => exec_addr 30 _ 16 rfl ((hrep.ev 1).trans h1) fa16) ?_
      clear hrep; intro A1 hrep
      refine absq_val (.slice (some ad) ls.length cap) rfl rfl rfl hrep (fun W hW => exec_load1 28 _ rfl (hrep.ev 23) (ld120 ((hW.k.cell 28).trans C28.out))) ?_
      clear hrep; intro A1 hrep
      refine absq_step (by rfl) hrep ?_
      clear hrep; intro A1 hrep
      refine absq_val (.pointer (some (ad.add (k * 4)))) rfl rfl rfl hrep (fun W hW => exec_iaddr 28 _ _ rfl (hrep.ev 24) ((hrep.ev 25).trans h3) (ix120 hlt HLL.out)) ?_
      clear hrep; intro A1 hrep
      refine absq_val (.pointer (some ((ad.add (k * 4)).add 0))) rfl rfl rfl hrep (fun W hW => exec_addr 63 _ 0 rfl (hrep.ev 26) fc0) ?_
      clear hrep; intro A1 hrep
      refine absq_val (.agg #[.int .u8 (c.lr : Int), .int .u32 (c.ln : Int)]) rfl rfl rfl hrep (fun W hW => exec_load1 24 _ rfl (hrep.ev 27) (ldc (HCL.out W hW.b 0 _ rfl) (HCL.out W hW.b 1 _ rfl))) ?_
      clear hrep; intro A1 hrep
      by_cases p0 : cov x c.lr c.ln
      case neg =>
        refine absq_call rfl rfl rfl hrep (fun W hW => exec_call0 rfl rfl (map2 (hrep.ev 22) (hrep.ev 28)) en10) (v := .bool false) (fun W hW => (CV1.out W c HOK.out false (decide_eq_false p0)).mono fun e w' h => ⟨h.1, hW.below h.2⟩) ?_
        clear hrep; intro A1 hrep
        refine absq_val (.bool true) rfl rfl rfl hrep (fun W hW => exec_not (b := false) rfl (hrep.ev 29)) ?_
        clear hrep; intro A1 hrep
        refine absq_step (by rfl) hrep ?_
        clear hrep; intro A1 hrep
        refine absq_step (by rfl) hrep ?_
        clear hrep; intro A1 hrep
        refine absq_step (by rfl) hrep ?_
        clear hrep; intro A1 hrep
        refine absq_step (by rfl) hrep ?_
        clear hrep; intro A1 hrep
        refine absq_step (by rfl) hrep ?_
        clear hrep; intro A1 hrep
        refine absq_step (by rfl) hrep ?_
        clear hrep; intro A1 hrep
        refine absq_step (by rfl) hrep ?_
        clear hrep; intro A1 hrep
        refine absq_step (by rfl) hrep ?_
        clear hrep; intro A1 hrep
        refine absq_step (by rfl) hrep ?_
        clear hrep; intro A1 hrep
        refine absq_step (by rfl) hrep ?_
        clear hrep; intro A1 hrep
        refine absq_step (by rfl) hrep ?_
        clear hrep; intro A1 hrep
        refine q_nil ?_
        intro w' hI
        have hd := hrep.df
        have hz := hrep.sz
        have hA := HA.out
        obtain ⟨f, hf⟩ : ∃ f : Nat → Value, ∀ t, A1.eval (.tmp t) = f t := ⟨_, fun _ => rfl⟩
        have hfa := act_merge hA [none, none, none, none, none, none, none, none, none, none, none, none, none, none, none, none, none, none, none, none, none, none, some (f 22), some (f 23), some (f 24), some (f 25), some (f 26), some (f 27), some (f 28), some (f 29), some (f 30), some (f 31), some (f 32), some (f 33), some (f 34), some (f 35), some (f 36), some (f 37), some (f 38), some (f 39), some (f 40), some (.bool true), none, none, none, none, none, none, none, none, none, none, none, none, none, none, none, none, none, none] hz hd rfl rfl ⟨hrep.ev 0, hrep.ev 1, hrep.ev 2, hrep.ev 3, hrep.ev 4, hrep.ev 5, hrep.ev 6, hrep.ev 7, hrep.ev 8, hrep.ev 9, hrep.ev 10, hrep.ev 11, hrep.ev 12, hrep.ev 13, hrep.ev 14, hrep.ev 15, hrep.ev 16, hrep.ev 17, hrep.ev 18, hrep.ev 19, hrep.ev 20, hrep.ev 21, hf 22, hf 23, hf 24, hf 25, hf 26, hf 27, hf 28, hf 29, hf 30, hf 31, hf 32, hf 33, hf 34, hf 35, hf 36, hf 37, hf 38, hf 39, hf 40, hrep.ev 41, hrep.ev 42, hrep.ev 43, hrep.ev 44, hrep.ev 45, hrep.ev 46, hrep.ev 47, hrep.ev 48, hrep.ev 49, hrep.ev 50, hrep.ev 51, hrep.ev 52, hrep.ev 53, hrep.ev 54, hrep.ev 55, hrep.ev 56, hrep.ev 57, hrep.ev 58, hrep.ev 59, trivial⟩
        simp only [mergeL] at hfa
        clear hf hd hz hrep HA
        subst hfa
        subst hA
        have HI := Lib.hid hI
        clear hI
        have HN := Lib.hid (HNG.out c HMEM.out (fun h => p0 h.1))
        go_wp2_with fail
        go_ret
        exact NO.out _ _ HN.out rfl HI.out.b
      refine absq_call rfl rfl rfl hrep (fun W hW => exec_call0 rfl rfl (map2 (hrep.ev 22) (hrep.ev 28)) en10) (v := .bool true) (fun W hW => (CV1.out W c HOK.out true (decide_eq_true p0)).mono fun e w' h => ⟨h.1, hW.below h.2⟩) ?_
      clear hrep; intro A1 hrep
      refine absq_val (.bool false) rfl rfl rfl hrep (fun W hW => exec_not (b := true) rfl (hrep.ev 29)) ?_
      clear hrep; intro A1 hrep
      refine absq_step (by rfl) hrep ?_
      clear hrep; intro A1 hrep
      refine absq_val (.agg X) rfl rfl rfl hrep (fun W hW => exec_load1 30 _ rfl ((hrep.ev 1).trans h1) (ld122 hW.k HSX.out)) ?_
      clear hrep; intro A1 hrep
      refine absq_val (.pointer (some ⟨w.heap.size, 28, none⟩)) rfl rfl rfl hrep (fun W hW => exec_addr 30 _ 16 rfl ((hrep.ev 1).trans h1) fa16) ?_
      clear hrep; intro A1 hrep
      refine absq_val (.slice (some ad) ls.length cap) rfl rfl rfl hrep (fun W hW => exec_load1 28 _ rfl (hrep.ev 33) (ld120 ((hW.k.cell 28).trans C28.out))) ?_
      clear hrep; intro A1 hrep
      refine absq_step (by rfl) hrep ?_
      clear hrep; intro A1 hrep
      refine absq_val (.pointer (some (ad.add (k * 4)))) rfl rfl rfl hrep (fun W hW => exec_iaddr 28 _ _ rfl (hrep.ev 34) ((hrep.ev 35).trans h3) (ix120 hlt HLL.out)) ?_
      clear hrep; intro A1 hrep
      refine absq_val (.pointer (some ((ad.add (k * 4)).add 2))) rfl rfl rfl hrep (fun W hW => exec_addr 63 _ 1 rfl (hrep.ev 36) fc1) ?_
      clear hrep; intro A1 hrep
      refine absq_val (.agg #[.int .u8 (c.vr : Int), .int .u32 (c.vn : Int)]) rfl rfl rfl hrep (fun W hW => exec_load1 24 _ rfl (hrep.ev 37) (ldc (HCL.out W hW.b 2 _ rfl) (HCL.out W hW.b 3 _ rfl))) ?_
      clear hrep; intro A1 hrep
      by_cases p1 : cov x c.vr c.vn
      case neg =>
        refine absq_call rfl rfl rfl hrep (fun W hW => exec_call0 rfl rfl (map2 (hrep.ev 32) (hrep.ev 38)) en10) (v := .bool false) (fun W hW => (CV2.out W c HOK.out false (decide_eq_false p1)).mono fun e w' h => ⟨h.1, hW.below h.2⟩) ?_
        clear hrep; intro A1 hrep
        refine absq_val (.bool true) rfl rfl rfl hrep (fun W hW => exec_not (b := false) rfl (hrep.ev 39)) ?_
        clear hrep; intro A1 hrep
        refine absq_step (by rfl) hrep ?_
        clear hrep; intro A1 hrep
        refine q_nil ?_
        intro w' hI
        have hd := hrep.df
        have hz := hrep.sz
        have hA := HA.out
        obtain ⟨f, hf⟩ : ∃ f : Nat → Value, ∀ t, A1.eval (.tmp t) = f t := ⟨_, fun _ => rfl⟩
        have hfa := act_merge hA [none, none, none, none, none, none, none, none, none, none, none, none, none, none, none, none, none, none, none, none, none, none, some (f 22), some (f 23), some (f 24), some (f 25), some (f 26), some (f 27), some (f 28), some (f 29), some (f 30), some (f 31), some (f 32), some (f 33), some (f 34), some (f 35), some (f 36), some (f 37), some (f 38), some (f 39), some (f 40), some (.bool true), none, none, none, none, none, none, none, none, none, none, none, none, none, none, none, none, none, none] hz hd rfl rfl ⟨hrep.ev 0, hrep.ev 1, hrep.ev 2, hrep.ev 3, hrep.ev 4, hrep.ev 5, hrep.ev 6, hrep.ev 7, hrep.ev 8, hrep.ev 9, hrep.ev 10, hrep.ev 11, hrep.ev 12, hrep.ev 13, hrep.ev 14, hrep.ev 15, hrep.ev 16, hrep.ev 17, hrep.ev 18, hrep.ev 19, hrep.ev 20, hrep.ev 21, hf 22, hf 23, hf 24, hf 25, hf 26, hf 27, hf 28, hf 29, hf 30, hf 31, hf 32, hf 33, hf 34, hf 35, hf 36, hf 37, hf 38, hf 39, hf 40, hrep.ev 41, hrep.ev 42, hrep.ev 43, hrep.ev 44, hrep.ev 45, hrep.ev 46, hrep.ev 47, hrep.ev 48, hrep.ev 49, hrep.ev 50, hrep.ev 51, hrep.ev 52, hrep.ev 53, hrep.ev 54, hrep.ev 55, hrep.ev 56, hrep.ev 57, hrep.ev 58, hrep.ev 59, trivial⟩
        simp only [mergeL] at hfa
        clear hf hd hz hrep HA
        subst hfa
        subst hA
        have HI := Lib.hid hI
        clear hI
        have HN := Lib.hid (HNG.out c HMEM.out (fun h => p1 h.2))
        go_wp2_with fail
        go_ret
        exact NO.out _ _ HN.out rfl HI.out.b
      refine absq_call rfl rfl rfl hrep (fun W hW => exec_call0 rfl rfl (map2 (hrep.ev 32) (hrep.ev 38)) en10) (v := .bool true) (fun W hW => (CV2.out W c HOK.out true (decide_eq_true p1)).mono fun e w' h => ⟨h.1, hW.below h.2⟩) ?_
      clear hrep; intro A1 hrep
      refine absq_val (.bool false) rfl rfl rfl hrep (fun W hW => exec_not (b := true) rfl (hrep.ev 39)) ?_
      clear hrep; intro A1 hrep
      refine absq_step (by rfl) hrep ?_
      clear hrep; intro A1 hrep
      refine q_nil ?_
      intro w' hI
      have hd := hrep.df
      have hz := hrep.sz
      have hA := HA.out
      obtain ⟨f, hf⟩ : ∃ f : Nat → Value, ∀ t, A1.eval (.tmp t) = f t := ⟨_, fun _ => rfl⟩
      have hfa := act_merge hA [none, none, none, none, none, none, none, none, none, none, none, none, none, none, none, none, none, none, none, none, none, none, some (f 22), some (f 23), some (f 24), some (f 25), some (f 26), some (f 27), some (f 28), some (f 29), some (f 30), some (f 31), some (f 32), some (f 33), some (f 34), some (f 35), some (f 36), some (f 37), some (f 38), some (f 39), some (f 40), some (.bool false), none, none, none, none, none, none, none, none, none, none, none, none, none, none, none, none, none, none] hz hd rfl rfl ⟨hrep.ev 0, hrep.ev 1, hrep.ev 2, hrep.ev 3, hrep.ev 4, hrep.ev 5, hrep.ev 6, hrep.ev 7, hrep.ev 8, hrep.ev 9, hrep.ev 10, hrep.ev 11, hrep.ev 12, hrep.ev 13, hrep.ev 14, hrep.ev 15, hrep.ev 16, hrep.ev 17, hrep.ev 18, hrep.ev 19, hrep.ev 20, hrep.ev 21, hf 22, hf 23, hf 24, hf 25, hf 26, hf 27, hf 28, hf 29, hf 30, hf 31, hf 32, hf 33, hf 34, hf 35, hf 36, hf 37, hf 38, hf 39, hf 40, hrep.ev 41, hrep.ev 42, hrep.ev 43, hrep.ev 44, hrep.ev 45, hrep.ev 46, hrep.ev 47, hrep.ev 48, hrep.ev 49, hrep.ev 50, hrep.ev 51, hrep.ev 52, hrep.ev 53, hrep.ev 54, hrep.ev 55, hrep.ev 56, hrep.ev 57, hrep.ev 58, hrep.ev 59, trivial⟩
      simp only [mergeL] at hfa
      clear hf hd hz hrep HA
      subst hfa
      subst hA
      have HI := Lib.hid hI
      clear hI
      have P0 := Lib.hid p0
      have P1 := Lib.hid p1
      clear p0 p1 S

      go_wp2_with fail
      go_loopw [4] (fun i wr => ∃ j : Nat, j ≤ k ∧ i = .int .i64 (j : Int) ∧ CkI w X wr ∧ (∀ d ∈ ls.take j, ¬ (d.lr = c.lr ∧ d.ln = c.ln))) (fun i _ => k - (intOf i).toNat)
      case atStart => exact ⟨0, by omega, rfl, HI.out, by simp⟩
      case round =>
        obtain ⟨j, hj, rfl, hS, hnd⟩ := hrel
        have S := Lib.hid hS
        have HND := Lib.hid hnd
        clear hS hnd HI c28
        have c28 := (S.out.k.cell 28).trans C28.out
        by_cases hjk : j < k
        · have hdj : decide ((j : Int) < (k : Int)) = true := decide_eq_true (by omega)
          have hdj2 : decide (j < k) = true := decide_eq_true hjk
          have hjl : j < ls.length := by omega
          have HOD := Lib.hid (OK.out _ (List.getElem_mem hjl))
          have HTJ := Lib.hid (show ls.take (j + 1) = ls.take j ++ [ls[j]] by rw [List.take_add_one, List.getElem?_eq_getElem hjl]; rfl)
          have HWJ := Lib.hid (show wrap64 ((j : Int) + 1) = ((j + 1 : Nat) : Int) by rw [IntWalk.wrap64_in _ (by have := HLL.out; omega)]; omega)
          have HDL := Lib.hid (fun W hW i u hu => HCA.out W hW j hjl i u hu)
          have HDUP : Hid (ls[j].lr = c.lr ∧ ls[j].ln = c.ln → ¬ linesP x) := Lib.hid (fun h => HDP.out ⟨ls[j], by rw [List.mem_take_iff_getElem]; exact ⟨j, by omega, rfl⟩, h⟩)
          generalize ls[j] = d at *
          go_upto_region 11 with (fail)
          refine wp_region_I (CkI w X) (by kernel_rfl) (by kernel_rfl) (CkI.drew S.out) ?_
          intro A0 hA
          have h1 : A0.eval (.tmp 1) = .pointer (some ⟨w.heap.size, 0, none⟩) := by rw [hA]; rfl
          have h3 : A0.eval (.tmp 3) = .int .i64 (k : Int) := by rw [hA]; rfl
          have h4 : A0.eval (.tmp 4) = .int .i64 (j : Int) := by rw [hA]; rfl
          have hrep : Rep 60 A0 [] A0 := Rep.start (by rw [hA] <;> rfl) (by rw [hA] <;> rfl)
          have HA := Lib.hid hA
          clear hA
          refine absq_val (.pointer (some ⟨w.heap.size, 28, none⟩)) rfl rfl rfl hrep (fun W hW => exec_addr 30 _ 16 rfl ((hrep.ev 1).trans h1) fa16) ?_
          clear hrep; intro A1 hrep
          refine absq_val (.slice (some ad) ls.length cap) rfl rfl rfl hrep (fun W hW => exec_load1 28 _ rfl (hrep.ev 47) (ld120 ((hW.k.cell 28).trans C28.out))) ?_
          clear hrep; intro A1 hrep
          refine absq_step (by rfl) hrep ?_
          clear hrep; intro A1 hrep
          refine absq_val (.pointer (some (ad.add (j * 4)))) rfl rfl rfl hrep (fun W hW => exec_iaddr 28 _ _ rfl (hrep.ev 48) ((hrep.ev 49).trans h4) (ix120 hjl HLL.out)) ?_
          clear hrep; intro A1 hrep
          refine absq_val (.pointer (some ((ad.add (j * 4)).add 0))) rfl rfl rfl hrep (fun W hW => exec_addr 63 _ 0 rfl (hrep.ev 50) fc0) ?_
          clear hrep; intro A1 hrep
          refine absq_val (.agg #[.int .u8 (d.lr : Int), .int .u32 (d.ln : Int)]) rfl rfl rfl hrep (fun W hW => exec_load1 24 _ rfl (hrep.ev 51) (ldc (HDL.out W hW.b 0 _ rfl) (HDL.out W hW.b 1 _ rfl))) ?_
          clear hrep; intro A1 hrep
          refine absq_val (.pointer (some ⟨w.heap.size, 28, none⟩)) rfl rfl rfl hrep (fun W hW => exec_addr 30 _ 16 rfl ((hrep.ev 1).trans h1) fa16) ?_
          clear hrep; intro A1 hrep
          refine absq_val (.slice (some ad) ls.length cap) rfl rfl rfl hrep (fun W hW => exec_load1 28 _ rfl (hrep.ev 53) (ld120 ((hW.k.cell 28).trans C28.out))) ?_
          clear hrep; intro A1 hrep
          refine absq_step (by rfl) hrep ?_
          clear hrep; intro A1 hrep
          refine absq_val (.pointer (some (ad.add (k * 4)))) rfl rfl rfl hrep (fun W hW => exec_iaddr 28 _ _ rfl (hrep.ev 54) ((hrep.ev 55).trans h3) (ix120 hlt HLL.out)) ?_
          clear hrep; intro A1 hrep
          refine absq_val (.pointer (some ((ad.add (k * 4)).add 0))) rfl rfl rfl hrep (fun W hW => exec_addr 63 _ 0 rfl (hrep.ev 56) fc0) ?_
          clear hrep; intro A1 hrep
          refine absq_val (.agg #[.int .u8 (c.lr : Int), .int .u32 (c.ln : Int)]) rfl rfl rfl hrep (fun W hW => exec_load1 24 _ rfl (hrep.ev 57) (ldc (HCL.out W hW.b 0 _ rfl) (HCL.out W hW.b 1 _ rfl))) ?_
          clear hrep; intro A1 hrep
          by_cases pe : d.lr = c.lr ∧ d.ln = c.ln
          · refine absq_val (.bool true) rfl rfl rfl hrep (fun W hW => exec_bin .eql 24 24 _ _ rfl (hrep.ev 52) (hrep.ev 58) (eqg_agg _ _ _ _ _ _ _ eqt82) (eql_dot d.lr d.ln c.lr c.ln HOD.out.1 HOD.out.2.1 HOK.out.1 HOK.out.2.1 true (by simp [pe]) W)) ?_
            clear hrep; intro A1 hrep
            refine q_nil ?_
            intro w' hI
            have hd := hrep.df
            have hz := hrep.sz
            have hA := HA.out
            obtain ⟨f, hf⟩ : ∃ f : Nat → Value, ∀ t, A1.eval (.tmp t) = f t := ⟨_, fun _ => rfl⟩
            have hfa := act_merge hA [none, none, none, none, none, none, none, none, none, none, none, none, none, none, none, none, none, none, none, none, none, none, none, none, none, none, none, none, none, none, none, none, none, none, none, none, none, none, none, none, none, none, none, none, none, none, none, some (f 47), some (f 48), some (f 49), some (f 50), some (f 51), some (f 52), some (f 53), some (f 54), some (f 55), some (f 56), some (f 57), some (f 58), some (.bool true)] hz hd rfl rfl ⟨hrep.ev 0, hrep.ev 1, hrep.ev 2, hrep.ev 3, hrep.ev 4, hrep.ev 5, hrep.ev 6, hrep.ev 7, hrep.ev 8, hrep.ev 9, hrep.ev 10, hrep.ev 11, hrep.ev 12, hrep.ev 13, hrep.ev 14, hrep.ev 15, hrep.ev 16, hrep.ev 17, hrep.ev 18, hrep.ev 19, hrep.ev 20, hrep.ev 21, hrep.ev 22, hrep.ev 23, hrep.ev 24, hrep.ev 25, hrep.ev 26, hrep.ev 27, hrep.ev 28, hrep.ev 29, hrep.ev 30, hrep.ev 31, hrep.ev 32, hrep.ev 33, hrep.ev 34, hrep.ev 35, hrep.ev 36, hrep.ev 37, hrep.ev 38, hrep.ev 39, hrep.ev 40, hrep.ev 41, hrep.ev 42, hrep.ev 43, hrep.ev 44, hrep.ev 45, hrep.ev 46, hf 47, hf 48, hf 49, hf 50, hf 51, hf 52, hf 53, hf 54, hf 55, hf 56, hf 57, hf 58, hrep.ev 59, trivial⟩
            simp only [mergeL] at hfa
            clear hf hd hz hrep HA
            subst hfa
            subst hA
            have HI := Lib.hid hI
            clear hI
            have HN := Lib.hid (HDUP.out pe)
            go_wp2_with fail
            go_ret
            exact NO.out _ _ HN.out rfl HI.out.b
          · refine absq_val (.bool false) rfl rfl rfl hrep (fun W hW => exec_bin .eql 24 24 _ _ rfl (hrep.ev 52) (hrep.ev 58) (eqg_agg _ _ _ _ _ _ _ eqt82) (eql_dot d.lr d.ln c.lr c.ln HOD.out.1 HOD.out.2.1 HOK.out.1 HOK.out.2.1 false (by simp; exact fun h1 h2 => pe ⟨h1, h2⟩) W)) ?_
            clear hrep; intro A1 hrep
            refine q_nil ?_
            intro w' hI
            have hd := hrep.df
            have hz := hrep.sz
            have hA := HA.out
            obtain ⟨f, hf⟩ : ∃ f : Nat → Value, ∀ t, A1.eval (.tmp t) = f t := ⟨_, fun _ => rfl⟩
            have hfa := act_merge hA [none, none, none, none, none, none, none, none, none, none, none, none, none, none, none, none, none, none, none, none, none, none, none, none, none, none, none, none, none, none, none, none, none, none, none, none, none, none, none, none, none, none, none, none, none, none, none, some (f 47), some (f 48), some (f 49), some (f 50), some (f 51), some (f 52), some (f 53), some (f 54), some (f 55), some (f 56), some (f 57), some (f 58), some (.bool false)] hz hd rfl rfl ⟨hrep.ev 0, hrep.ev 1, hrep.ev 2, hrep.ev 3, hrep.ev 4, hrep.ev 5, hrep.ev 6, hrep.ev 7, hrep.ev 8, hrep.ev 9, hrep.ev 10, hrep.ev 11, hrep.ev 12, hrep.ev 13, hrep.ev 14, hrep.ev 15, hrep.ev 16, hrep.ev 17, hrep.ev 18, hrep.ev 19, hrep.ev 20, hrep.ev 21, hrep.ev 22, hrep.ev 23, hrep.ev 24, hrep.ev 25, hrep.ev 26, hrep.ev 27, hrep.ev 28, hrep.ev 29, hrep.ev 30, hrep.ev 31, hrep.ev 32, hrep.ev 33, hrep.ev 34, hrep.ev 35, hrep.ev 36, hrep.ev 37, hrep.ev 38, hrep.ev 39, hrep.ev 40, hrep.ev 41, hrep.ev 42, hrep.ev 43, hrep.ev 44, hrep.ev 45, hrep.ev 46, hf 47, hf 48, hf 49, hf 50, hf 51, hf 52, hf 53, hf 54, hf 55, hf 56, hf 57, hf 58, hrep.ev 59, trivial⟩
            simp only [mergeL] at hfa
            clear hf hd hz hrep HA
            subst hfa
            subst hA
            have HI := Lib.hid hI
            clear hI
            have PE := Lib.hid pe
            clear pe
            go_wp2_with fail
            go_roundw
            case rel =>
              refine ⟨j + 1, by omega, by rw [HWJ.out], HI.out, fun e he => ?_⟩
              rw [HTJ.out] at he
              rcases List.mem_append.1 he with he | he
              · exact HND.out e he
              · simp at he; subst he; exact PE.out
            case measure => rw [HWJ.out]; simp [intOf]; omega
        · have hdj : decide ((j : Int) < (k : Int)) = false := decide_eq_false (by omega)
          have hdj2 : decide (j < k) = false := decide_eq_false hjk
          obtain rfl : j = k := by omega
          go_wp2_with fail
          go_roundw
          case rel =>
            refine ⟨j + 1, by omega, by rw [HWR.out], S.out, ?_⟩
            rw [HTK.out]
            refine ⟨fun d hd => ?_, ?_⟩
            · rcases List.mem_append.1 hd with hd | hd
              · exact GD.out.1 d hd
              · simp at hd; subst hd; exact ⟨P0.out, P1.out⟩
            · rw [List.map_append, List.nodup_append]
              refine ⟨GD.out.2, by simp, ?_⟩
              intro a ha b hb e
              obtain ⟨d, hd, rfl⟩ := List.mem_map.1 ha
              simp at hb
              rw [hb] at e
              simp at e
              exact HND.out d hd e
          case measure => rw [HWR.out]; simp [intOf]; omega
    · obtain rfl : k = ls.length := by omega
      have hd : decide ((ls.length : Int) < (ls.length : Int)) = false := decide_eq_false (by omega)
      rw [List.take_length] at GD
      have HY := Lib.hid (HLP.out.2 ⟨HN12.out.1, HN12.out.2, GD.out⟩)
      go_wp2_with fail
      go_ret
      exact ⟨true, rfl, by simp [HY.out], S.out.b⟩
end Go.Proofs.YtfojjklohbiffaaDoor
namespace Go.Proofs.YtfojjklohbiffaaDoor
open Go.RowKit Tran Tran.Wire
set_option linter.unusedVariables false
set_option linter.unusedSimpArgs false
theorem en21 (args : Array Value) (W : World) : (callFunc 21 args).run Tryd.prog W = .ok (.enter 21 args) W := enters_of Tryd.func21 (by kernel_rfl) rfl args W
theorem en24 (args : Array Value) (W : World) : (callFunc 24 args).run Tryd.prog W = .ok (.enter 24 args) W := enters_of Tryd.func24 (by kernel_rfl) rfl args W
theorem fd0 {g o : Nat} {W : World} : (Instr.fieldAt 24 (.pointer (some ⟨g, o, none⟩)) 0).run Tryd.prog W = .ok (.pointer (some ⟨g, o, none⟩)) W := by go_simp
theorem fd1 {g o : Nat} {W : World} : (Instr.fieldAt 24 (.pointer (some ⟨g, o, none⟩)) 1).run Tryd.prog W = .ok (.pointer (some ⟨g, o + 1, none⟩)) W := by go_simp
theorem cv3 {n : Nat} (h : n < 256) (W : World) : (convert 5 3 (.int .u8 (n : Int))).run Tryd.prog W = .ok (.int .i64 (n : Int)) W := by
  have hw : IntKind.i64.wrap (n : Int) = n := IntWalk.i64_in _ (by omega)
  go_simp
theorem sub1 {n : Nat} (h1 : 1 ≤ n) (h : n < 4294967296) (W : World) : (binOp .sub 22 (.int .u32 (n : Int)) (.int .u32 1)).run Tryd.prog W = .ok (.int .u32 ((n - 1 : Nat) : Int)) W := by
  have hw : IntKind.u32.wrap ((n : Int) - 1) = ((n - 1 : Nat) : Int) := by rw [IntWalk.u32_in _ (by omega)]; omega
  go_simp
theorem ge_int (t : TypeId) (k : IntKind) (a b : Int) (r : Bool) (ht : Tryd.prog.underlying t = some (.int k)) (h : decide (b ≤ a) = r) (w : World) : (binOp .geq t (.int k a) (.int k b)).run Tryd.prog w = .ok (.bool r) w := by
  subst h
  go_simp
theorem eq_int (t : TypeId) (k : IntKind) (a b : Int) (r : Bool) (ht : Tryd.prog.underlying t = some (.int k)) (h : (a == b) = r) (w : World) : (binOp .eql t (.int k a) (.int k b)).run Tryd.prog w = .ok (.bool r) w := by
  subst h
  go_simp
theorem ne_int (t : TypeId) (k : IntKind) (a b : Int) (r : Bool) (ht : Tryd.prog.underlying t = some (.int k)) (h : (a != b) = r) (w : World) : (binOp .neq t (.int k a) (.int k b)).run Tryd.prog w = .ok (.bool r) w := by
  subst h
  go_simp
theorem ne_dot (a b c d : Nat) (ha : a < 256) (hb : b < 4294967296) (hc : c < 256) (hd : d < 4294967296) (r : Bool) (hr : r = true ↔ ¬ (a = c ∧ b = d)) (w : World) :
    (binOp .neq 24 (.agg #[.int .u8 (a : Int), .int .u32 (b : Int)]) (.agg #[.int .u8 (c : Int), .int .u32 (d : Int)])).run Tryd.prog w = .ok (.bool r) w := by
  have h := (eql_lits keyT82 (by omega) (by simp [Value.formed, Tryd.underlying24, opcells82]) (by simp [Value.formed, Tryd.underlying24, opcells82]) (key_dot 0 a b ha hb) (key_dot 0 c d hc hd) (!r) (by
    cases r <;> simp at hr ⊢ <;> omega) w).2
  simpa using h
theorem eqg_agg2 (t : TypeId) (x y : Operand) (a b : Array Value) (w : World) (h : Tryd.prog.eqGuardType Tryd.prog.depth t = false) : (eqGuard .neq t x y (.agg a) (.agg b)).run Tryd.prog w = .ok () w := by
  unfold eqGuard
  simp [h]
theorem ix26i {g o : Nat} {r : Nat} (hr : r < 8) (W : World) : (Instr.indexAt 26 (.pointer (some ⟨g, o, none⟩)) (.int .i64 (r : Int))).run Tryd.prog W = .ok (.pointer (some ⟨g, o + r, none⟩)) W := by
  have h1 : (0 : Int) ≤ (r : Int) := by omega
  have h2 : (r : Int) < 8 := by omega
  go_simp
theorem drop_zero_iff (dep : List Nat) (n : Nat) (h8 : dep.length = 8) : dep.drop n = zer8.drop n ↔ ∀ j, n ≤ j → j < 8 → dep.getD j 0 = 0 := by
  have hz : ∀ j, zer8.getD j 0 = 0 := by
    intro j
    rcases j with _ | _ | _ | _ | _ | _ | _ | _ | j <;> simp [zer8]
  constructor
  · intro h j h1 h2
    have e : (dep.drop n)[j - n]? = (zer8.drop n)[j - n]? := by rw [h]
    rw [List.getElem?_drop, List.getElem?_drop, show n + (j - n) = j by omega] at e
    have := hz j
    rw [List.getD_eq_getElem?_getD] at this ⊢
    rw [e, this]
  · intro h
    apply List.ext_getElem?
    intro i
    rw [List.getElem?_drop, List.getElem?_drop]
    by_cases hi : n + i < 8
    · have h1 := h (n + i) (by omega) hi
      have h2 := hz (n + i)
      have l1 : n + i < dep.length := by omega
      have l2 : n + i < zer8.length := by simpa [zer8] using hi
      rw [List.getD_eq_getElem?_getD, List.getElem?_eq_getElem l1] at h1
      rw [List.getD_eq_getElem?_getD, List.getElem?_eq_getElem l2] at h2
      rw [List.getElem?_eq_getElem l1, List.getElem?_eq_getElem l2]
      simp at h1 h2
      rw [h1, h2]
    · rw [List.getElem?_eq_none (by omega), List.getElem?_eq_none (by simp [zer8]; omega)]
theorem zb_all (x : NOp) (hk : x.kind ≤ 8) : (zb x 1 = true ↔ (hasF x.kind).contains 99 = false) ∧ (zb x 4 = true ↔ (hasF x.kind).contains 97 = false) ∧ (zb x 8 = true ↔ (hasF x.kind).contains 118 = false) ∧ (zb x 2 = true ↔ (hasF x.kind).contains 116 = false) ∧ (zb x 32 = true ↔ (hasF x.kind).contains 113 = false) ∧ (zb x 64 = true ↔ (hasF x.kind).contains 108 = false) := by
  unfold zb
  obtain h | h | h | h | h | h | h | h | h : x.kind = 0 ∨ x.kind = 1 ∨ x.kind = 2 ∨ x.kind = 3 ∨ x.kind = 4 ∨ x.kind = 5 ∨ x.kind = 6 ∨ x.kind = 7 ∨ x.kind = 8 := by omega
  all_goals (rw [h]; decide)
theorem nz_of {z c : Bool} {p : Prop} (h : z = true ↔ c = false) : c = true → ¬ p → ¬ (z = true ∨ p) := by
  rintro h1 h2 (h3 | h3)
  · rw [h.1 h3] at h1; cases h1
  · exact h2 h3
theorem has_len : ∀ k, (hasF k).length ≤ 1000 := by
  intro k
  unfold hasF
  split <;> simp
theorem in_b (w : World) (kd : Nat) (c : UInt8) (k : Int) (hk : (c.toNat : Int) = k) (b : Bool) (hb : (hasF kd).contains c = b) : Calls Tryd.prog 23 #[.string ⟨(hasF kd).toArray⟩, .int .u8 k] w fun e w' => e = .returned (.bool b) ∧ Below w.heap.size w w' := by
  subst hk hb
  exact in_any w (hasF kd) c (has_len kd)
/-- where the document's ways meet -/
structure TcA (w0 : World) (X : Array Value) (s : ByteArray) (A : Act) (W : World) : Prop where
  sz : A.tmps.size = 186
  df : A.defers = []
  t2 : A.eval (.tmp 2) = .pointer (some ⟨w0.heap.size, 0, none⟩)
  t6 : A.eval (.tmp 6) = .string s
  wk : CkI w0 X W
set_option maxRecDepth 100000 in
set_option maxHeartbeats 64000000 in
theorem tcheck_any (w : World) (x : NOp) (A : Option Addr) (cap : Nat) (n : Int) (hx : x.ok) (hL : Lns w (.slice A x.lines.length cap) x.lines) :
    Calls Tryd.prog 8 #[.agg (opA x (.slice A x.lines.length cap)), .int .i64 n] w fun e w' => e = .returned (.int .i64 (chkF x n : Nat)) ∧ Below w.heap.size w w' := by
  have S := Lib.hid (CkI.start w (opA x (.slice A x.lines.length cap)))
  by_cases h1 : n < 1
  · have HF := Lib.hid (show chkF x n = 2 by unfold chkF; rw [if_pos (.inl h1)])
    have e1 : decide (n < 1) = true := decide_eq_true h1
    generalize opA x (.slice A x.lines.length cap) = X at *
    clear h1 hx hL
    go_enter Tryd.func8, Tryd.ntmps8
    go_wp2_with fail
    go_ret
    rw [HF.out]
    exact ⟨rfl, S.out.b⟩
  by_cases h2 : 8 < n
  · have HF := Lib.hid (show chkF x n = 2 by unfold chkF; rw [if_pos (.inr h2)])
    have e1 : decide (n < 1) = false := decide_eq_false h1
    have e2 : decide (8 < n) = true := decide_eq_true h2
    generalize opA x (.slice A x.lines.length cap) = X at *
    clear h1 h2 hx hL
    go_enter Tryd.func8, Tryd.ntmps8
    go_wp2_with fail
    go_ret
    rw [HF.out]
    exact ⟨rfl, S.out.b⟩
  have HF := Lib.hid (show chkF x n = if formP x n.toNat then 0 else 5 by unfold chkF; rw [if_neg (by omega)])
  have e1 : decide (n < 1) = false := decide_eq_false h1
  have e2 : decide (8 < n) = false := decide_eq_false h2
  obtain ⟨m, rfl⟩ : ∃ m : Nat, n = m := ⟨n.toNat, by omega⟩
  have HM := Lib.hid (And.intro (show 1 ≤ m by omega) (show m ≤ 8 by omega))
  rw [Int.toNat_natCast] at HF
  have NF : Hid (¬ formP x m → chkF x (m : Int) = 5) := Lib.hid (fun h => by rw [HF.out, if_neg h])
  have YF : Hid (formP x m → chkF x (m : Int) = 0) := Lib.hid (fun h => by rw [HF.out, if_pos h])
  have HP : Hid (formP x m → headP x m ∧ bareN x = x ∧ rightP x) := Lib.hid (fun h => h)
  have HR : Hid (rightP x ↔ (startP x ∧ (zb x 1 = true ∨ cov x x.er x.en) ∧ (zb x 4 = true ∨ cov x x.ar x.an) ∧ (zb x 8 = true ∨ cov x x.vr x.vn) ∧ (zb x 2 = true ∨ grantP x) ∧ (zb x 32 = true ∨ qtyP x) ∧ x.price ≤ 16777215 ∧ (zb x 64 = true ∨ linesP x))) := Lib.hid Iff.rfl
  have HDZ := Lib.hid (drop_zero_iff x.dep m hx.dep8)
  have ZR := Lib.hid (fun W (hW : Below w.heap.size w W) (hk : x.kind ≤ 8) (r : Bool) (hr : r = true ↔ bareN x = x) => (zero_any W x A cap hx hk).mono fun e w' h => h.fixed hr)
  have LI := Lib.hid (fun W (hW : Below w.heap.size w W) (r : Bool) (hr : r = true ↔ linesP x) => (tlines_any W x A cap hx (hL.later hW)).mono fun e w' h => h.fixed hr)
  have CV := Lib.hid (fun W (r n : Nat) (hr : r < 256) (hn : n < 4294967296) b hb => tcov_b W x (.slice A x.lines.length cap) r n hx hr hn b hb)
  have HAS := Lib.hid (fun W (hk : x.kind ≤ 8) => has_any W x.kind hk)
  have XD := Lib.hid (fun (r : Nat) (hr : r < 8) => dep_at (.slice A x.lines.length cap) hx.dep8 hr)
  have HBD := Lib.hid (And.intro hx.dr (And.intro hx.dn (And.intro hx.time (And.intro hx.who (And.intro hx.cr (And.intro hx.cn (And.intro hx.er (And.intro hx.en (And.intro hx.ar (And.intro hx.an (And.intro hx.vr hx.vn)))))))))))
  have HSX := Lib.hid (opA_size x (.slice A x.lines.length cap) hx.dep8)
  have X0 := Lib.hid (op_c0 x (.slice A x.lines.length cap))
  have X1 := Lib.hid (op_c1 x (.slice A x.lines.length cap))
  have X10 := Lib.hid (op_c10 x (.slice A x.lines.length cap) hx.dep8)
  have X11 := Lib.hid (op_c11 x (.slice A x.lines.length cap) hx.dep8)
  have X12 := Lib.hid (op_c12 x (.slice A x.lines.length cap) hx.dep8)
  have X13 := Lib.hid (op_c13 x (.slice A x.lines.length cap) hx.dep8)
  have X14 := Lib.hid (op_c14 x (.slice A x.lines.length cap) hx.dep8)
  have X15 := Lib.hid (op_c15 x (.slice A x.lines.length cap) hx.dep8)
  have X16 := Lib.hid (op_c16 x (.slice A x.lines.length cap) hx.dep8)
  have X17 := Lib.hid (op_c17 x (.slice A x.lines.length cap) hx.dep8)
  have X18 := Lib.hid (op_c18 x (.slice A x.lines.length cap) hx.dep8)
  have X19 := Lib.hid (op_c19 x (.slice A x.lines.length cap) hx.dep8)
  have X20 := Lib.hid (op_c20 x (.slice A x.lines.length cap) hx.dep8)
  have X21 := Lib.hid (op_c21 x (.slice A x.lines.length cap) hx.dep8)
  have X22 := Lib.hid (op_c22 x (.slice A x.lines.length cap) hx.dep8)
  have X23 := Lib.hid (op_c23 x (.slice A x.lines.length cap) hx.dep8)
  have X24 := Lib.hid (op_c24 x (.slice A x.lines.length cap) hx.dep8)
  have X26 := Lib.hid (op_c26 x (.slice A x.lines.length cap) hx.dep8)
  have X27 := Lib.hid (op_c27 x (.slice A x.lines.length cap) hx.dep8)
  generalize opA x (.slice A x.lines.length cap) = X at *
  clear h1 h2 hx hL HF
  go_enter Tryd.func8, Tryd.ntmps8
  go_upto_region 3 with (fail)
  refine wp_region_I (CkI w X) (by kernel_rfl) (by kernel_rfl) (CkI.drew S.out) ?_
  intro A0 hA
  (try simp only [List.append_eq, List.cons_append, List.nil_append] at hA)
  have h1 : A0.eval (.tmp 1) = .int .i64 (m : Int) := by rw [hA]; rfl
  have h2 : A0.eval (.tmp 2) = .pointer (some ⟨w.heap.size, 0, none⟩) := by rw [hA]; rfl
  have hrep : Rep 186 A0 [] A0 := Rep.start (by rw [hA] <;> rfl) (by rw [hA] <;> rfl)
  have HA := Lib.hid hA
  clear hA
  refine absq_val (.pointer (some ⟨w.heap.size, 0, none⟩)) rfl rfl rfl hrep (fun W hW => exec_addr 30 _ 0 rfl ((hrep.ev 2).trans h2) fa0) ?_
  clear hrep; intro A1 hrep
  refine absq_val (.pointer (some ⟨w.heap.size, 0, none⟩)) rfl rfl rfl hrep (fun W hW => exec_addr 24 _ 0 rfl (hrep.ev 13) fd0) ?_
  clear hrep; intro A1 hrep
  refine absq_val (.int .u8 (x.dr : Int)) rfl rfl rfl hrep (fun W hW => exec_load1 5 _ rfl (hrep.ev 14) (ld5 ((hW.k.cell 0).trans X0.out))) ?_
  clear hrep; intro A1 hrep
  refine absq_val (.int .i64 (x.dr : Int)) rfl rfl rfl hrep (fun W hW => exec_cv 5 3 _ rfl (hrep.ev 15) (cv3 HBD.out.1 _)) ?_
  clear hrep; intro A1 hrep
  refine absq_step (by rfl) hrep ?_
  clear hrep; intro A1 hrep
  by_cases c0 : x.dr < m
  case neg =>
    refine absq_val (.bool true) rfl rfl rfl hrep (fun W hW => exec_bin .geq 3 3 _ _ rfl (hrep.ev 16) ((hrep.ev 17).trans h1) (eqg_gt _ _ _ _ _ _ _ _) (ge_int 3 .i64 _ _ _ Tryd.underlying3 (show decide ((m : Int) ≤ (x.dr : Int)) = true from decide_eq_true (by omega)) _)) ?_
    clear hrep; intro A1 hrep
    refine absq_step (by rfl) hrep ?_
    clear hrep; intro A1 hrep
    refine absq_step (by rfl) hrep ?_
    clear hrep; intro A1 hrep
    refine absq_step (by rfl) hrep ?_
    clear hrep; intro A1 hrep
    refine absq_step (by rfl) hrep ?_
    clear hrep; intro A1 hrep
    refine absq_step (by rfl) hrep ?_
    clear hrep; intro A1 hrep
    refine absq_step (by rfl) hrep ?_
    clear hrep; intro A1 hrep
    refine absq_step (by rfl) hrep ?_
    clear hrep; intro A1 hrep
    refine absq_step (by rfl) hrep ?_
    clear hrep; intro A1 hrep
    refine absq_step (by rfl) hrep ?_
    clear hrep; intro A1 hrep
    refine absq_step (by rfl) hrep ?_
    clear hrep; intro A1 hrep
    refine absq_step (by rfl) hrep ?_
    clear hrep; intro A1 hrep
    refine absq_step (by rfl) hrep ?_
    clear hrep; intro A1 hrep
    refine absq_step (by rfl) hrep ?_
    clear hrep; intro A1 hrep
    refine absq_step (by rfl) hrep ?_
    clear hrep; intro A1 hrep
    refine absq_step (by rfl) hrep ?_
    clear hrep; intro A1 hrep
    refine absq_step (by rfl) hrep ?_
    clear hrep; intro A1 hrep
    refine absq_step (by rfl) hrep ?_
    clear hrep; intro A1 hrep
    refine absq_step (by rfl) hrep ?_
    clear hrep; intro A1 hrep
    refine absq_step (by rfl) hrep ?_
    clear hrep; intro A1 hrep
    refine absq_step (by rfl) hrep ?_
    clear hrep; intro A1 hrep
    refine absq_step (by rfl) hrep ?_
    clear hrep; intro A1 hrep
    refine absq_step (by rfl) hrep ?_
    clear hrep; intro A1 hrep
    refine absq_step (by rfl) hrep ?_
    clear hrep; intro A1 hrep
    refine absq_step (by rfl) hrep ?_
    clear hrep; intro A1 hrep
    refine absq_step (by rfl) hrep ?_
    clear hrep; intro A1 hrep
    refine absq_step (by rfl) hrep ?_
    clear hrep; intro A1 hrep
    refine absq_step (by rfl) hrep ?_
    clear hrep; intro A1 hrep
    refine absq_step (by rfl) hrep ?_
    clear hrep; intro A1 hrep
    refine absq_step (by rfl) hrep ?_
    clear hrep; intro A1 hrep
    refine absq_step (by rfl) hrep ?_
    clear hrep; intro A1 hrep
    refine absq_step (by rfl) hrep ?_
    clear hrep; intro A1 hrep
    refine absq_step (by rfl) hrep ?_
    clear hrep; intro A1 hrep
    refine absq_step (by rfl) hrep ?_
    clear hrep; intro A1 hrep
    refine absq_step (by rfl) hrep ?_
    clear hrep; intro A1 hrep
    refine absq_step (by rfl) hrep ?_
    clear hrep; intro A1 hrep
    refine absq_step (by rfl) hrep ?_
    clear hrep; intro A1 hrep
    refine absq_step (by rfl) hrep ?_
    clear hrep; intro A1 hrep
    refine absq_step (by rfl) hrep ?_
    clear hrep; intro A1 hrep
    refine absq_step (by rfl) hrep ?_
    clear hrep; intro A1 hrep
    refine absq_step (by rfl) hrep ?_
    clear hrep; intro A1 hrep
    refine absq_step (by rfl) hrep ?_
    clear hrep; intro A1 hrep
    refine absq_step (by rfl) hrep ?_
    clear hrep; intro A1 hrep
    refine absq_step (by rfl) hrep ?_
    clear hrep; intro A1 hrep
    refine absq_step (by rfl) hrep ?_
    clear hrep; intro A1 hrep
    refine q_nil ?_
    intro w' hI
    have hd := hrep.df
    have hz := hrep.sz
    have hA := HA.out
    obtain ⟨f, hf⟩ : ∃ f : Nat → Value, ∀ t, A1.eval (.tmp t) = f t := ⟨_, fun _ => rfl⟩
    have hfa := act_merge hA [none, none, none, none, none, none, none, none, none, none, none, none, none, some (f 13), some (f 14), some (f 15), some (f 16), some (f 17), some (f 18), some (f 19), some (f 20), some (f 21), some (f 22), some (f 23), some (f 24), some (f 25), some (f 26), some (f 27), some (f 28), some (f 29), some (f 30), some (f 31), some (f 32), some (f 33), some (f 34), some (f 35), some (f 36), some (f 37), some (f 38), some (f 39), some (f 40), some (f 41), some (f 42), some (f 43), some (f 44), some (f 45), some (f 46), some (f 47), some (f 48), some (f 49), some (f 50), some (f 51), some (f 52), some (f 53), some (f 54), some (f 55), some (f 56), some (f 57), some (f 58), some (f 59), some (f 60), some (f 61), some (.bool true), none, none, none, none, none, none, none, none, none, none, none, none, none, none, none, none, none, none, none, none, none, none, none, none, none, none, none, none, none, none, none, none, none, none, none, none, none, none, none, none, none, none, none, none, none, none, none, none, none, none, none, none, none, none, none, none, none, none, none, none, none, none, none, none, none, none, none, none, none, none, none, none, none, none, none, none, none, none, none, none, none, none, none, none, none, none, none, none, none, none, none, none, none, none, none, none, none, none, none, none, none, none, none, none, none, none, none, none, none, none, none, none, none, none, none, none, none, none, none, none, none, none, none] hz hd rfl rfl ⟨hrep.ev 0, hrep.ev 1, hrep.ev 2, hrep.ev 3, hrep.ev 4, hrep.ev 5, hrep.ev 6, hrep.ev 7, hrep.ev 8, hrep.ev 9, hrep.ev 10, hrep.ev 11, hrep.ev 12, hf 13, hf 14, hf 15, hf 16, hf 17, hf 18, hf 19, hf 20, hf 21, hf 22, hf 23, hf 24, hf 25, hf 26, hf 27, hf 28, hf 29, hf 30, hf 31, hf 32, hf 33, hf 34, hf 35, hf 36, hf 37, hf 38, hf 39, hf 40, hf 41, hf 42, hf 43, hf 44, hf 45, hf 46, hf 47, hf 48, hf 49, hf 50, hf 51, hf 52, hf 53, hf 54, hf 55, hf 56, hf 57, hf 58, hf 59, hf 60, hf 61, hrep.ev 62, hrep.ev 63, hrep.ev 64, hrep.ev 65, hrep.ev 66, hrep.ev 67, hrep.ev 68, hrep.ev 69, hrep.ev 70, hrep.ev 71, hrep.ev 72, hrep.ev 73, hrep.ev 74, hrep.ev 75, hrep.ev 76, hrep.ev 77, hrep.ev 78, hrep.ev 79, hrep.ev 80, hrep.ev 81, hrep.ev 82, hrep.ev 83, hrep.ev 84, hrep.ev 85, hrep.ev 86, hrep.ev 87, hrep.ev 88, hrep.ev 89, hrep.ev 90, hrep.ev 91, hrep.ev 92, hrep.ev 93, hrep.ev 94, hrep.ev 95, hrep.ev 96, hrep.ev 97, hrep.ev 98, hrep.ev 99, hrep.ev 100, hrep.ev 101, hrep.ev 102, hrep.ev 103, hrep.ev 104, hrep.ev 105, hrep.ev 106, hrep.ev 107, hrep.ev 108, hrep.ev 109, hrep.ev 110, hrep.ev 111, hrep.ev 112, hrep.ev 113, hrep.ev 114, hrep.ev 115, hrep.ev 116, hrep.ev 117, hrep.ev 118, hrep.ev 119, hrep.ev 120, hrep.ev 121, hrep.ev 122, hrep.ev 123, hrep.ev 124, hrep.ev 125, hrep.ev 126, hrep.ev 127, hrep.ev 128, hrep.ev 129, hrep.ev 130, hrep.ev 131, hrep.ev 132, hrep.ev 133, hrep.ev 134, hrep.ev 135, hrep.ev 136, hrep.ev 137, hrep.ev 138, hrep.ev 139, hrep.ev 140, hrep.ev 141, hrep.ev 142, hrep.ev 143, hrep.ev 144, hrep.ev 145, hrep.ev 146, hrep.ev 147, hrep.ev 148, hrep.ev 149, hrep.ev 150, hrep.ev 151, hrep.ev 152, hrep.ev 153, hrep.ev 154, hrep.ev 155, hrep.ev 156, hrep.ev 157, hrep.ev 158, hrep.ev 159, hrep.ev 160, hrep.ev 161, hrep.ev 162, hrep.ev 163, hrep.ev 164, hrep.ev 165, hrep.ev 166, hrep.ev 167, hrep.ev 168, hrep.ev 169, hrep.ev 170, hrep.ev 171, hrep.ev 172, hrep.ev 173, hrep.ev 174, hrep.ev 175, hrep.ev 176, hrep.ev 177, hrep.ev 178, hrep.ev 179, hrep.ev 180, hrep.ev 181, hrep.ev 182, hrep.ev 183, hrep.ev 184, hrep.ev 185, trivial⟩
    simp only [mergeL] at hfa
    clear hf hd hz hrep HA
    subst hfa
    subst hA
    have HI := Lib.hid hI
    clear hI
    have HN := Lib.hid (fun h => c0 (HP.out h).1.1)
    go_wp2_with fail
    go_ret
    exact ⟨by rw [NF.out HN.out]; rfl, HI.out.b⟩
  refine absq_val (.bool false) rfl rfl rfl hrep (fun W hW => exec_bin .geq 3 3 _ _ rfl (hrep.ev 16) ((hrep.ev 17).trans h1) (eqg_gt _ _ _ _ _ _ _ _) (ge_int 3 .i64 _ _ _ Tryd.underlying3 (show decide ((m : Int) ≤ (x.dr : Int)) = false from decide_eq_false (by omega)) _)) ?_
  clear hrep; intro A1 hrep
  refine absq_step (by rfl) hrep ?_
  clear hrep; intro A1 hrep
  refine absq_val (.pointer (some ⟨w.heap.size, 0, none⟩)) rfl rfl rfl hrep (fun W hW => exec_addr 30 _ 0 rfl ((hrep.ev 2).trans h2) fa0) ?_
  clear hrep; intro A1 hrep
  refine absq_val (.pointer (some ⟨w.heap.size, 1, none⟩)) rfl rfl rfl hrep (fun W hW => exec_addr 24 _ 1 rfl (hrep.ev 20) fd1) ?_
  clear hrep; intro A1 hrep
  refine absq_val (.int .u32 (x.dn : Int)) rfl rfl rfl hrep (fun W hW => exec_load1 22 _ rfl (hrep.ev 21) (ld22 ((hW.k.cell 1).trans X1.out))) ?_
  clear hrep; intro A1 hrep
  by_cases c1 : 1 ≤ x.dn
  case neg =>
    refine absq_val (.bool true) rfl rfl rfl hrep (fun W hW => exec_bin .eql 22 22 _ (.const (.int .u32 0)) rfl (hrep.ev 22) rfl (eqg_gt _ _ _ _ _ _ _ _) (eq_int 22 .u32 _ _ _ Tryd.underlying22 (show ((x.dn : Int) == (0 : Int)) = true from by (try simp only [bne]); (try rw [Bool.not_eq_true']); (try rw [Bool.not_eq_false']); rw [beq_iff_eq]; omega) _)) ?_
    clear hrep; intro A1 hrep
    refine absq_step (by rfl) hrep ?_
    clear hrep; intro A1 hrep
    refine absq_step (by rfl) hrep ?_
    clear hrep; intro A1 hrep
    refine absq_step (by rfl) hrep ?_
    clear hrep; intro A1 hrep
    refine absq_step (by rfl) hrep ?_
    clear hrep; intro A1 hrep
    refine absq_step (by rfl) hrep ?_
    clear hrep; intro A1 hrep
    refine absq_step (by rfl) hrep ?_
    clear hrep; intro A1 hrep
    refine absq_step (by rfl) hrep ?_
    clear hrep; intro A1 hrep
    refine absq_step (by rfl) hrep ?_
    clear hrep; intro A1 hrep
    refine absq_step (by rfl) hrep ?_
    clear hrep; intro A1 hrep
    refine absq_step (by rfl) hrep ?_
    clear hrep; intro A1 hrep
    refine absq_step (by rfl) hrep ?_
    clear hrep; intro A1 hrep
    refine absq_step (by rfl) hrep ?_
    clear hrep; intro A1 hrep
    refine absq_step (by rfl) hrep ?_
    clear hrep; intro A1 hrep
    refine absq_step (by rfl) hrep ?_
    clear hrep; intro A1 hrep
    refine absq_step (by rfl) hrep ?_
    clear hrep; intro A1 hrep
    refine absq_step (by rfl) hrep ?_
    clear hrep; intro A1 hrep
    refine absq_step (by rfl) hrep ?_
    clear hrep; intro A1 hrep
    refine absq_step (by rfl) hrep ?_
    clear hrep; intro A1 hrep
    refine absq_step (by rfl) hrep ?_
    clear hrep; intro A1 hrep
    refine absq_step (by rfl) hrep ?_
    clear hrep; intro A1 hrep
    refine absq_step (by rfl) hrep ?_
    clear hrep; intro A1 hrep
    refine absq_step (by rfl) hrep ?_
    clear hrep; intro A1 hrep
    refine absq_step (by rfl) hrep ?_
    clear hrep; intro A1 hrep
    refine absq_step (by rfl) hrep ?_
    clear hrep; intro A1 hrep
    refine absq_step (by rfl) hrep ?_
    clear hrep; intro A1 hrep
    refine absq_step (by rfl) hrep ?_
    clear hrep; intro A1 hrep
    refine absq_step (by rfl) hrep ?_
    clear hrep; intro A1 hrep
    refine absq_step (by rfl) hrep ?_
    clear hrep; intro A1 hrep
    refine absq_step (by rfl) hrep ?_
    clear hrep; intro A1 hrep
    refine absq_step (by rfl) hrep ?_
    clear hrep; intro A1 hrep
    refine absq_step (by rfl) hrep ?_
    clear hrep; intro A1 hrep
    refine absq_step (by rfl) hrep ?_
    clear hrep; intro A1 hrep
    refine absq_step (by rfl) hrep ?_
    clear hrep; intro A1 hrep
    refine absq_step (by rfl) hrep ?_
    clear hrep; intro A1 hrep
    refine absq_step (by rfl) hrep ?_
    clear hrep; intro A1 hrep
    refine absq_step (by rfl) hrep ?_
    clear hrep; intro A1 hrep
    refine absq_step (by rfl) hrep ?_
    clear hrep; intro A1 hrep
    refine absq_step (by rfl) hrep ?_
    clear hrep; intro A1 hrep
    refine absq_step (by rfl) hrep ?_
    clear hrep; intro A1 hrep
    refine q_nil ?_
    intro w' hI
    have hd := hrep.df
    have hz := hrep.sz
    have hA := HA.out
    obtain ⟨f, hf⟩ : ∃ f : Nat → Value, ∀ t, A1.eval (.tmp t) = f t := ⟨_, fun _ => rfl⟩
    have hfa := act_merge hA [none, none, none, none, none, none, none, none, none, none, none, none, none, some (f 13), some (f 14), some (f 15), some (f 16), some (f 17), some (f 18), some (f 19), some (f 20), some (f 21), some (f 22), some (f 23), some (f 24), some (f 25), some (f 26), some (f 27), some (f 28), some (f 29), some (f 30), some (f 31), some (f 32), some (f 33), some (f 34), some (f 35), some (f 36), some (f 37), some (f 38), some (f 39), some (f 40), some (f 41), some (f 42), some (f 43), some (f 44), some (f 45), some (f 46), some (f 47), some (f 48), some (f 49), some (f 50), some (f 51), some (f 52), some (f 53), some (f 54), some (f 55), some (f 56), some (f 57), some (f 58), some (f 59), some (f 60), some (f 61), some (.bool true), none, none, none, none, none, none, none, none, none, none, none, none, none, none, none, none, none, none, none, none, none, none, none, none, none, none, none, none, none, none, none, none, none, none, none, none, none, none, none, none, none, none, none, none, none, none, none, none, none, none, none, none, none, none, none, none, none, none, none, none, none, none, none, none, none, none, none, none, none, none, none, none, none, none, none, none, none, none, none, none, none, none, none, none, none, none, none, none, none, none, none, none, none, none, none, none, none, none, none, none, none, none, none, none, none, none, none, none, none, none, none, none, none, none, none, none, none, none, none, none, none, none, none] hz hd rfl rfl ⟨hrep.ev 0, hrep.ev 1, hrep.ev 2, hrep.ev 3, hrep.ev 4, hrep.ev 5, hrep.ev 6, hrep.ev 7, hrep.ev 8, hrep.ev 9, hrep.ev 10, hrep.ev 11, hrep.ev 12, hf 13, hf 14, hf 15, hf 16, hf 17, hf 18, hf 19, hf 20, hf 21, hf 22, hf 23, hf 24, hf 25, hf 26, hf 27, hf 28, hf 29, hf 30, hf 31, hf 32, hf 33, hf 34, hf 35, hf 36, hf 37, hf 38, hf 39, hf 40, hf 41, hf 42, hf 43, hf 44, hf 45, hf 46, hf 47, hf 48, hf 49, hf 50, hf 51, hf 52, hf 53, hf 54, hf 55, hf 56, hf 57, hf 58, hf 59, hf 60, hf 61, hrep.ev 62, hrep.ev 63, hrep.ev 64, hrep.ev 65, hrep.ev 66, hrep.ev 67, hrep.ev 68, hrep.ev 69, hrep.ev 70, hrep.ev 71, hrep.ev 72, hrep.ev 73, hrep.ev 74, hrep.ev 75, hrep.ev 76, hrep.ev 77, hrep.ev 78, hrep.ev 79, hrep.ev 80, hrep.ev 81, hrep.ev 82, hrep.ev 83, hrep.ev 84, hrep.ev 85, hrep.ev 86, hrep.ev 87, hrep.ev 88, hrep.ev 89, hrep.ev 90, hrep.ev 91, hrep.ev 92, hrep.ev 93, hrep.ev 94, hrep.ev 95, hrep.ev 96, hrep.ev 97, hrep.ev 98, hrep.ev 99, hrep.ev 100, hrep.ev 101, hrep.ev 102, hrep.ev 103, hrep.ev 104, hrep.ev 105, hrep.ev 106, hrep.ev 107, hrep.ev 108, hrep.ev 109, hrep.ev 110, hrep.ev 111, hrep.ev 112, hrep.ev 113, hrep.ev 114, hrep.ev 115, hrep.ev 116, hrep.ev 117, hrep.ev 118, hrep.ev 119, hrep.ev 120, hrep.ev 121, hrep.ev 122, hrep.ev 123, hrep.ev 124, hrep.ev 125, hrep.ev 126, hrep.ev 127, hrep.ev 128, hrep.ev 129, hrep.ev 130, hrep.ev 131, hrep.ev 132, hrep.ev 133, hrep.ev 134, hrep.ev 135, hrep.ev 136, hrep.ev 137, hrep.ev 138, hrep.ev 139, hrep.ev 140, hrep.ev 141, hrep.ev 142, hrep.ev 143, hrep.ev 144, hrep.ev 145, hrep.ev 146, hrep.ev 147, hrep.ev 148, hrep.ev 149, hrep.ev 150, hrep.ev 151, hrep.ev 152, hrep.ev 153, hrep.ev 154, hrep.ev 155, hrep.ev 156, hrep.ev 157, hrep.ev 158, hrep.ev 159, hrep.ev 160, hrep.ev 161, hrep.ev 162, hrep.ev 163, hrep.ev 164, hrep.ev 165, hrep.ev 166, hrep.ev 167, hrep.ev 168, hrep.ev 169, hrep.ev 170, hrep.ev 171, hrep.ev 172, hrep.ev 173, hrep.ev 174, hrep.ev 175, hrep.ev 176, hrep.ev 177, hrep.ev 178, hrep.ev 179, hrep.ev 180, hrep.ev 181, hrep.ev 182, hrep.ev 183, hrep.ev 184, hrep.ev 185, trivial⟩
    simp only [mergeL] at hfa
    clear hf hd hz hrep HA
    subst hfa
    subst hA
    have HI := Lib.hid hI
    clear hI
    have HN := Lib.hid (fun h => c1 (HP.out h).1.2.1)
    go_wp2_with fail
    go_ret
    exact ⟨by rw [NF.out HN.out]; rfl, HI.out.b⟩
  refine absq_val (.bool false) rfl rfl rfl hrep (fun W hW => exec_bin .eql 22 22 _ (.const (.int .u32 0)) rfl (hrep.ev 22) rfl (eqg_gt _ _ _ _ _ _ _ _) (eq_int 22 .u32 _ _ _ Tryd.underlying22 (show ((x.dn : Int) == (0 : Int)) = false from by (try simp only [bne]); (try rw [Bool.not_eq_true']); (try rw [Bool.not_eq_false']); rw [beq_eq_false_iff_ne]; omega) _)) ?_
  clear hrep; intro A1 hrep
  refine absq_step (by rfl) hrep ?_
  clear hrep; intro A1 hrep
  refine absq_step (by rfl) hrep ?_
  clear hrep; intro A1 hrep
  refine absq_val (.pointer (some ⟨w.heap.size, 0, none⟩)) rfl rfl rfl hrep (fun W hW => exec_addr 30 _ 0 rfl ((hrep.ev 2).trans h2) fa0) ?_
  clear hrep; intro A1 hrep
  refine absq_val (.pointer (some ⟨w.heap.size, 0, none⟩)) rfl rfl rfl hrep (fun W hW => exec_addr 24 _ 0 rfl (hrep.ev 26) fd0) ?_
  clear hrep; intro A1 hrep
  refine absq_val (.int .u8 (x.dr : Int)) rfl rfl rfl hrep (fun W hW => exec_load1 5 _ rfl (hrep.ev 27) (ld5 ((hW.k.cell 0).trans X0.out))) ?_
  clear hrep; intro A1 hrep
  refine absq_val (.pointer (some ⟨w.heap.size, 2, none⟩)) rfl rfl rfl hrep (fun W hW => exec_addr 30 _ 1 rfl ((hrep.ev 2).trans h2) fa1) ?_
  clear hrep; intro A1 hrep
  refine absq_val (.pointer (some ⟨w.heap.size, 2 + x.dr, none⟩)) rfl rfl rfl hrep (fun W hW => exec_iaddr 26 _ _ rfl (hrep.ev 29) (hrep.ev 28) (ix26 (Nat.lt_of_lt_of_le c0 HM.out.2) _)) ?_
  clear hrep; intro A1 hrep
  refine absq_val (.int .u32 ((x.dep.getD x.dr 0 : Nat) : Int)) rfl rfl rfl hrep (fun W hW => exec_load1 22 _ rfl (hrep.ev 30) (ld22 ((hW.k.cell (2 + x.dr)).trans (XD.out _ (Nat.lt_of_lt_of_le c0 HM.out.2))))) ?_
  clear hrep; intro A1 hrep
  refine absq_val (.pointer (some ⟨w.heap.size, 0, none⟩)) rfl rfl rfl hrep (fun W hW => exec_addr 30 _ 0 rfl ((hrep.ev 2).trans h2) fa0) ?_
  clear hrep; intro A1 hrep
  refine absq_val (.pointer (some ⟨w.heap.size, 1, none⟩)) rfl rfl rfl hrep (fun W hW => exec_addr 24 _ 1 rfl (hrep.ev 32) fd1) ?_
  clear hrep; intro A1 hrep
  refine absq_val (.int .u32 (x.dn : Int)) rfl rfl rfl hrep (fun W hW => exec_load1 22 _ rfl (hrep.ev 33) (ld22 ((hW.k.cell 1).trans X1.out))) ?_
  clear hrep; intro A1 hrep
  refine absq_val (.int .u32 ((x.dn - 1 : Nat) : Int)) rfl rfl rfl hrep (fun W hW => exec_bin .sub 22 22 _ (.const (.int .u32 1)) rfl (hrep.ev 34) rfl (eqg_gt _ _ _ _ _ _ _ _) (sub1 c1 HBD.out.2.1 _)) ?_
  clear hrep; intro A1 hrep
  by_cases c2 : x.dep.getD x.dr 0 = x.dn - 1
  case neg =>
    refine absq_val (.bool true) rfl rfl rfl hrep (fun W hW => exec_bin .neq 22 22 _ _ rfl (hrep.ev 31) (hrep.ev 35) (eqg_gt _ _ _ _ _ _ _ _) (ne_int 22 .u32 _ _ _ Tryd.underlying22 (show (((x.dep.getD x.dr 0 : Nat) : Int) != ((x.dn - 1 : Nat) : Int)) = true from by (try simp only [bne]); (try rw [Bool.not_eq_true']); (try rw [Bool.not_eq_false']); rw [beq_eq_false_iff_ne]; omega) _)) ?_
    clear hrep; intro A1 hrep
    refine absq_step (by rfl) hrep ?_
    clear hrep; intro A1 hrep
    refine absq_step (by rfl) hrep ?_
    clear hrep; intro A1 hrep
    refine absq_step (by rfl) hrep ?_
    clear hrep; intro A1 hrep
    refine absq_step (by rfl) hrep ?_
    clear hrep; intro A1 hrep
    refine absq_step (by rfl) hrep ?_
    clear hrep; intro A1 hrep
    refine absq_step (by rfl) hrep ?_
    clear hrep; intro A1 hrep
    refine absq_step (by rfl) hrep ?_
    clear hrep; intro A1 hrep
    refine absq_step (by rfl) hrep ?_
    clear hrep; intro A1 hrep
    refine absq_step (by rfl) hrep ?_
    clear hrep; intro A1 hrep
    refine absq_step (by rfl) hrep ?_
    clear hrep; intro A1 hrep
    refine absq_step (by rfl) hrep ?_
    clear hrep; intro A1 hrep
    refine absq_step (by rfl) hrep ?_
    clear hrep; intro A1 hrep
    refine absq_step (by rfl) hrep ?_
    clear hrep; intro A1 hrep
    refine absq_step (by rfl) hrep ?_
    clear hrep; intro A1 hrep
    refine absq_step (by rfl) hrep ?_
    clear hrep; intro A1 hrep
    refine absq_step (by rfl) hrep ?_
    clear hrep; intro A1 hrep
    refine absq_step (by rfl) hrep ?_
    clear hrep; intro A1 hrep
    refine absq_step (by rfl) hrep ?_
    clear hrep; intro A1 hrep
    refine absq_step (by rfl) hrep ?_
    clear hrep; intro A1 hrep
    refine absq_step (by rfl) hrep ?_
    clear hrep; intro A1 hrep
    refine absq_step (by rfl) hrep ?_
    clear hrep; intro A1 hrep
    refine absq_step (by rfl) hrep ?_
    clear hrep; intro A1 hrep
    refine absq_step (by rfl) hrep ?_
    clear hrep; intro A1 hrep
    refine absq_step (by rfl) hrep ?_
    clear hrep; intro A1 hrep
    refine absq_step (by rfl) hrep ?_
    clear hrep; intro A1 hrep
    refine absq_step (by rfl) hrep ?_
    clear hrep; intro A1 hrep
    refine q_nil ?_
    intro w' hI
    have hd := hrep.df
    have hz := hrep.sz
    have hA := HA.out
    obtain ⟨f, hf⟩ : ∃ f : Nat → Value, ∀ t, A1.eval (.tmp t) = f t := ⟨_, fun _ => rfl⟩
    have hfa := act_merge hA [none, none, none, none, none, none, none, none, none, none, none, none, none, some (f 13), some (f 14), some (f 15), some (f 16), some (f 17), some (f 18), some (f 19), some (f 20), some (f 21), some (f 22), some (f 23), some (f 24), some (f 25), some (f 26), some (f 27), some (f 28), some (f 29), some (f 30), some (f 31), some (f 32), some (f 33), some (f 34), some (f 35), some (f 36), some (f 37), some (f 38), some (f 39), some (f 40), some (f 41), some (f 42), some (f 43), some (f 44), some (f 45), some (f 46), some (f 47), some (f 48), some (f 49), some (f 50), some (f 51), some (f 52), some (f 53), some (f 54), some (f 55), some (f 56), some (f 57), some (f 58), some (f 59), some (f 60), some (f 61), some (.bool true), none, none, none, none, none, none, none, none, none, none, none, none, none, none, none, none, none, none, none, none, none, none, none, none, none, none, none, none, none, none, none, none, none, none, none, none, none, none, none, none, none, none, none, none, none, none, none, none, none, none, none, none, none, none, none, none, none, none, none, none, none, none, none, none, none, none, none, none, none, none, none, none, none, none, none, none, none, none, none, none, none, none, none, none, none, none, none, none, none, none, none, none, none, none, none, none, none, none, none, none, none, none, none, none, none, none, none, none, none, none, none, none, none, none, none, none, none, none, none, none, none, none, none] hz hd rfl rfl ⟨hrep.ev 0, hrep.ev 1, hrep.ev 2, hrep.ev 3, hrep.ev 4, hrep.ev 5, hrep.ev 6, hrep.ev 7, hrep.ev 8, hrep.ev 9, hrep.ev 10, hrep.ev 11, hrep.ev 12, hf 13, hf 14, hf 15, hf 16, hf 17, hf 18, hf 19, hf 20, hf 21, hf 22, hf 23, hf 24, hf 25, hf 26, hf 27, hf 28, hf 29, hf 30, hf 31, hf 32, hf 33, hf 34, hf 35, hf 36, hf 37, hf 38, hf 39, hf 40, hf 41, hf 42, hf 43, hf 44, hf 45, hf 46, hf 47, hf 48, hf 49, hf 50, hf 51, hf 52, hf 53, hf 54, hf 55, hf 56, hf 57, hf 58, hf 59, hf 60, hf 61, hrep.ev 62, hrep.ev 63, hrep.ev 64, hrep.ev 65, hrep.ev 66, hrep.ev 67, hrep.ev 68, hrep.ev 69, hrep.ev 70, hrep.ev 71, hrep.ev 72, hrep.ev 73, hrep.ev 74, hrep.ev 75, hrep.ev 76, hrep.ev 77, hrep.ev 78, hrep.ev 79, hrep.ev 80, hrep.ev 81, hrep.ev 82, hrep.ev 83, hrep.ev 84, hrep.ev 85, hrep.ev 86, hrep.ev 87, hrep.ev 88, hrep.ev 89, hrep.ev 90, hrep.ev 91, hrep.ev 92, hrep.ev 93, hrep.ev 94, hrep.ev 95, hrep.ev 96, hrep.ev 97, hrep.ev 98, hrep.ev 99, hrep.ev 100, hrep.ev 101, hrep.ev 102, hrep.ev 103, hrep.ev 104, hrep.ev 105, hrep.ev 106, hrep.ev 107, hrep.ev 108, hrep.ev 109, hrep.ev 110, hrep.ev 111, hrep.ev 112, hrep.ev 113, hrep.ev 114, hrep.ev 115, hrep.ev 116, hrep.ev 117, hrep.ev 118, hrep.ev 119, hrep.ev 120, hrep.ev 121, hrep.ev 122, hrep.ev 123, hrep.ev 124, hrep.ev 125, hrep.ev 126, hrep.ev 127, hrep.ev 128, hrep.ev 129, hrep.ev 130, hrep.ev 131, hrep.ev 132, hrep.ev 133, hrep.ev 134, hrep.ev 135, hrep.ev 136, hrep.ev 137, hrep.ev 138, hrep.ev 139, hrep.ev 140, hrep.ev 141, hrep.ev 142, hrep.ev 143, hrep.ev 144, hrep.ev 145, hrep.ev 146, hrep.ev 147, hrep.ev 148, hrep.ev 149, hrep.ev 150, hrep.ev 151, hrep.ev 152, hrep.ev 153, hrep.ev 154, hrep.ev 155, hrep.ev 156, hrep.ev 157, hrep.ev 158, hrep.ev 159, hrep.ev 160, hrep.ev 161, hrep.ev 162, hrep.ev 163, hrep.ev 164, hrep.ev 165, hrep.ev 166, hrep.ev 167, hrep.ev 168, hrep.ev 169, hrep.ev 170, hrep.ev 171, hrep.ev 172, hrep.ev 173, hrep.ev 174, hrep.ev 175, hrep.ev 176, hrep.ev 177, hrep.ev 178, hrep.ev 179, hrep.ev 180, hrep.ev 181, hrep.ev 182, hrep.ev 183, hrep.ev 184, hrep.ev 185, trivial⟩
    simp only [mergeL] at hfa
    clear hf hd hz hrep HA
    subst hfa
    subst hA
    have HI := Lib.hid hI
    clear hI
    have HN := Lib.hid (fun h => c2 (HP.out h).1.2.2.1)
    go_wp2_with fail
    go_ret
    exact ⟨by rw [NF.out HN.out]; rfl, HI.out.b⟩
  refine absq_val (.bool false) rfl rfl rfl hrep (fun W hW => exec_bin .neq 22 22 _ _ rfl (hrep.ev 31) (hrep.ev 35) (eqg_gt _ _ _ _ _ _ _ _) (ne_int 22 .u32 _ _ _ Tryd.underlying22 (show (((x.dep.getD x.dr 0 : Nat) : Int) != ((x.dn - 1 : Nat) : Int)) = false from by (try simp only [bne]); (try rw [Bool.not_eq_true']); (try rw [Bool.not_eq_false']); rw [beq_iff_eq]; omega) _)) ?_
  clear hrep; intro A1 hrep
  refine absq_step (by rfl) hrep ?_
  clear hrep; intro A1 hrep
  refine absq_step (by rfl) hrep ?_
  clear hrep; intro A1 hrep
  refine absq_val (.pointer (some ⟨w.heap.size, 10, none⟩)) rfl rfl rfl hrep (fun W hW => exec_addr 30 _ 2 rfl ((hrep.ev 2).trans h2) fa2) ?_
  clear hrep; intro A1 hrep
  refine absq_val (.int .u64 (x.time : Int)) rfl rfl rfl hrep (fun W hW => exec_load1 27 _ rfl (hrep.ev 39) (ld80 ((hW.k.cell 10).trans X10.out))) ?_
  clear hrep; intro A1 hrep
  by_cases c3 : 1 ≤ x.time
  case neg =>
    refine absq_val (.bool true) rfl rfl rfl hrep (fun W hW => exec_bin .lss 27 27 _ (.const (.int .u64 1)) rfl (hrep.ev 40) rfl (eqg_gt _ _ _ _ _ _ _ _) (lt_int 27 .u64 _ _ _ Tryd.underlying27 (show decide ((x.time : Int) < (1 : Int)) = true from decide_eq_true (by omega)) _)) ?_
    clear hrep; intro A1 hrep
    refine absq_step (by rfl) hrep ?_
    clear hrep; intro A1 hrep
    refine absq_step (by rfl) hrep ?_
    clear hrep; intro A1 hrep
    refine absq_step (by rfl) hrep ?_
    clear hrep; intro A1 hrep
    refine absq_step (by rfl) hrep ?_
    clear hrep; intro A1 hrep
    refine absq_step (by rfl) hrep ?_
    clear hrep; intro A1 hrep
    refine absq_step (by rfl) hrep ?_
    clear hrep; intro A1 hrep
    refine absq_step (by rfl) hrep ?_
    clear hrep; intro A1 hrep
    refine absq_step (by rfl) hrep ?_
    clear hrep; intro A1 hrep
    refine absq_step (by rfl) hrep ?_
    clear hrep; intro A1 hrep
    refine absq_step (by rfl) hrep ?_
    clear hrep; intro A1 hrep
    refine absq_step (by rfl) hrep ?_
    clear hrep; intro A1 hrep
    refine absq_step (by rfl) hrep ?_
    clear hrep; intro A1 hrep
    refine absq_step (by rfl) hrep ?_
    clear hrep; intro A1 hrep
    refine absq_step (by rfl) hrep ?_
    clear hrep; intro A1 hrep
    refine absq_step (by rfl) hrep ?_
    clear hrep; intro A1 hrep
    refine absq_step (by rfl) hrep ?_
    clear hrep; intro A1 hrep
    refine absq_step (by rfl) hrep ?_
    clear hrep; intro A1 hrep
    refine absq_step (by rfl) hrep ?_
    clear hrep; intro A1 hrep
    refine absq_step (by rfl) hrep ?_
    clear hrep; intro A1 hrep
    refine absq_step (by rfl) hrep ?_
    clear hrep; intro A1 hrep
    refine absq_step (by rfl) hrep ?_
    clear hrep; intro A1 hrep
    refine q_nil ?_
    intro w' hI
    have hd := hrep.df
    have hz := hrep.sz
    have hA := HA.out
    obtain ⟨f, hf⟩ : ∃ f : Nat → Value, ∀ t, A1.eval (.tmp t) = f t := ⟨_, fun _ => rfl⟩
    have hfa := act_merge hA [none, none, none, none, none, none, none, none, none, none, none, none, none, some (f 13), some (f 14), some (f 15), some (f 16), some (f 17), some (f 18), some (f 19), some (f 20), some (f 21), some (f 22), some (f 23), some (f 24), some (f 25), some (f 26), some (f 27), some (f 28), some (f 29), some (f 30), some (f 31), some (f 32), some (f 33), some (f 34), some (f 35), some (f 36), some (f 37), some (f 38), some (f 39), some (f 40), some (f 41), some (f 42), some (f 43), some (f 44), some (f 45), some (f 46), some (f 47), some (f 48), some (f 49), some (f 50), some (f 51), some (f 52), some (f 53), some (f 54), some (f 55), some (f 56), some (f 57), some (f 58), some (f 59), some (f 60), some (f 61), some (.bool true), none, none, none, none, none, none, none, none, none, none, none, none, none, none, none, none, none, none, none, none, none, none, none, none, none, none, none, none, none, none, none, none, none, none, none, none, none, none, none, none, none, none, none, none, none, none, none, none, none, none, none, none, none, none, none, none, none, none, none, none, none, none, none, none, none, none, none, none, none, none, none, none, none, none, none, none, none, none, none, none, none, none, none, none, none, none, none, none, none, none, none, none, none, none, none, none, none, none, none, none, none, none, none, none, none, none, none, none, none, none, none, none, none, none, none, none, none, none, none, none, none, none, none] hz hd rfl rfl ⟨hrep.ev 0, hrep.ev 1, hrep.ev 2, hrep.ev 3, hrep.ev 4, hrep.ev 5, hrep.ev 6, hrep.ev 7, hrep.ev 8, hrep.ev 9, hrep.ev 10, hrep.ev 11, hrep.ev 12, hf 13, hf 14, hf 15, hf 16, hf 17, hf 18, hf 19, hf 20, hf 21, hf 22, hf 23, hf 24, hf 25, hf 26, hf 27, hf 28, hf 29, hf 30, hf 31, hf 32, hf 33, hf 34, hf 35, hf 36, hf 37, hf 38, hf 39, hf 40, hf 41, hf 42, hf 43, hf 44, hf 45, hf 46, hf 47, hf 48, hf 49, hf 50, hf 51, hf 52, hf 53, hf 54, hf 55, hf 56, hf 57, hf 58, hf 59, hf 60, hf 61, hrep.ev 62, hrep.ev 63, hrep.ev 64, hrep.ev 65, hrep.ev 66, hrep.ev 67, hrep.ev 68, hrep.ev 69, hrep.ev 70, hrep.ev 71, hrep.ev 72, hrep.ev 73, hrep.ev 74, hrep.ev 75, hrep.ev 76, hrep.ev 77, hrep.ev 78, hrep.ev 79, hrep.ev 80, hrep.ev 81, hrep.ev 82, hrep.ev 83, hrep.ev 84, hrep.ev 85, hrep.ev 86, hrep.ev 87, hrep.ev 88, hrep.ev 89, hrep.ev 90, hrep.ev 91, hrep.ev 92, hrep.ev 93, hrep.ev 94, hrep.ev 95, hrep.ev 96, hrep.ev 97, hrep.ev 98, hrep.ev 99, hrep.ev 100, hrep.ev 101, hrep.ev 102, hrep.ev 103, hrep.ev 104, hrep.ev 105, hrep.ev 106, hrep.ev 107, hrep.ev 108, hrep.ev 109, hrep.ev 110, hrep.ev 111, hrep.ev 112, hrep.ev 113, hrep.ev 114, hrep.ev 115, hrep.ev 116, hrep.ev 117, hrep.ev 118, hrep.ev 119, hrep.ev 120, hrep.ev 121, hrep.ev 122, hrep.ev 123, hrep.ev 124, hrep.ev 125, hrep.ev 126, hrep.ev 127, hrep.ev 128, hrep.ev 129, hrep.ev 130, hrep.ev 131, hrep.ev 132, hrep.ev 133, hrep.ev 134, hrep.ev 135, hrep.ev 136, hrep.ev 137, hrep.ev 138, hrep.ev 139, hrep.ev 140, hrep.ev 141, hrep.ev 142, hrep.ev 143, hrep.ev 144, hrep.ev 145, hrep.ev 146, hrep.ev 147, hrep.ev 148, hrep.ev 149, hrep.ev 150, hrep.ev 151, hrep.ev 152, hrep.ev 153, hrep.ev 154, hrep.ev 155, hrep.ev 156, hrep.ev 157, hrep.ev 158, hrep.ev 159, hrep.ev 160, hrep.ev 161, hrep.ev 162, hrep.ev 163, hrep.ev 164, hrep.ev 165, hrep.ev 166, hrep.ev 167, hrep.ev 168, hrep.ev 169, hrep.ev 170, hrep.ev 171, hrep.ev 172, hrep.ev 173, hrep.ev 174, hrep.ev 175, hrep.ev 176, hrep.ev 177, hrep.ev 178, hrep.ev 179, hrep.ev 180, hrep.ev 181, hrep.ev 182, hrep.ev 183, hrep.ev 184, hrep.ev 185, trivial⟩
    simp only [mergeL] at hfa
    clear hf hd hz hrep HA
    subst hfa
    subst hA
    have HI := Lib.hid hI
    clear hI
    have HN := Lib.hid (fun h => c3 (HP.out h).1.2.2.2.2.1)
    go_wp2_with fail
    go_ret
    exact ⟨by rw [NF.out HN.out]; rfl, HI.out.b⟩
  refine absq_val (.bool false) rfl rfl rfl hrep (fun W hW => exec_bin .lss 27 27 _ (.const (.int .u64 1)) rfl (hrep.ev 40) rfl (eqg_gt _ _ _ _ _ _ _ _) (lt_int 27 .u64 _ _ _ Tryd.underlying27 (show decide ((x.time : Int) < (1 : Int)) = false from decide_eq_false (by omega)) _)) ?_
  clear hrep; intro A1 hrep
  refine absq_step (by rfl) hrep ?_
  clear hrep; intro A1 hrep
  refine absq_step (by rfl) hrep ?_
  clear hrep; intro A1 hrep
  refine absq_val (.pointer (some ⟨w.heap.size, 10, none⟩)) rfl rfl rfl hrep (fun W hW => exec_addr 30 _ 2 rfl ((hrep.ev 2).trans h2) fa2) ?_
  clear hrep; intro A1 hrep
  refine absq_val (.int .u64 (x.time : Int)) rfl rfl rfl hrep (fun W hW => exec_load1 27 _ rfl (hrep.ev 44) (ld80 ((hW.k.cell 10).trans X10.out))) ?_
  clear hrep; intro A1 hrep
  by_cases c4 : x.time ≤ 281474976710656
  case neg =>
    refine absq_val (.bool true) rfl rfl rfl hrep (fun W hW => exec_bin .gtr 27 27 _ (.const (.int .u64 281474976710656)) rfl (hrep.ev 45) rfl (eqg_gt _ _ _ _ _ _ _ _) (gt_int 27 .u64 _ _ _ Tryd.underlying27 (show decide ((281474976710656 : Int) < (x.time : Int)) = true from decide_eq_true (by omega)) _)) ?_
    clear hrep; intro A1 hrep
    refine absq_step (by rfl) hrep ?_
    clear hrep; intro A1 hrep
    refine absq_step (by rfl) hrep ?_
    clear hrep; intro A1 hrep
    refine absq_step (by rfl) hrep ?_
    clear hrep; intro A1 hrep
    refine absq_step (by rfl) hrep ?_
    clear hrep; intro A1 hrep
    refine absq_step (by rfl) hrep ?_
    clear hrep; intro A1 hrep
    refine absq_step (by rfl) hrep ?_
    clear hrep; intro A1 hrep
    refine absq_step (by rfl) hrep ?_
    clear hrep; intro A1 hrep
    refine absq_step (by rfl) hrep ?_
    clear hrep; intro A1 hrep
    refine absq_step (by rfl) hrep ?_
    clear hrep; intro A1 hrep
    refine absq_step (by rfl) hrep ?_
    clear hrep; intro A1 hrep
    refine absq_step (by rfl) hrep ?_
    clear hrep; intro A1 hrep
    refine absq_step (by rfl) hrep ?_
    clear hrep; intro A1 hrep
    refine absq_step (by rfl) hrep ?_
    clear hrep; intro A1 hrep
    refine absq_step (by rfl) hrep ?_
    clear hrep; intro A1 hrep
    refine absq_step (by rfl) hrep ?_
    clear hrep; intro A1 hrep
    refine absq_step (by rfl) hrep ?_
    clear hrep; intro A1 hrep
    refine q_nil ?_
    intro w' hI
    have hd := hrep.df
    have hz := hrep.sz
    have hA := HA.out
    obtain ⟨f, hf⟩ : ∃ f : Nat → Value, ∀ t, A1.eval (.tmp t) = f t := ⟨_, fun _ => rfl⟩
    have hfa := act_merge hA [none, none, none, none, none, none, none, none, none, none, none, none, none, some (f 13), some (f 14), some (f 15), some (f 16), some (f 17), some (f 18), some (f 19), some (f 20), some (f 21), some (f 22), some (f 23), some (f 24), some (f 25), some (f 26), some (f 27), some (f 28), some (f 29), some (f 30), some (f 31), some (f 32), some (f 33), some (f 34), some (f 35), some (f 36), some (f 37), some (f 38), some (f 39), some (f 40), some (f 41), some (f 42), some (f 43), some (f 44), some (f 45), some (f 46), some (f 47), some (f 48), some (f 49), some (f 50), some (f 51), some (f 52), some (f 53), some (f 54), some (f 55), some (f 56), some (f 57), some (f 58), some (f 59), some (f 60), some (f 61), some (.bool true), none, none, none, none, none, none, none, none, none, none, none, none, none, none, none, none, none, none, none, none, none, none, none, none, none, none, none, none, none, none, none, none, none, none, none, none, none, none, none, none, none, none, none, none, none, none, none, none, none, none, none, none, none, none, none, none, none, none, none, none, none, none, none, none, none, none, none, none, none, none, none, none, none, none, none, none, none, none, none, none, none, none, none, none, none, none, none, none, none, none, none, none, none, none, none, none, none, none, none, none, none, none, none, none, none, none, none, none, none, none, none, none, none, none, none, none, none, none, none, none, none, none, none] hz hd rfl rfl ⟨hrep.ev 0, hrep.ev 1, hrep.ev 2, hrep.ev 3, hrep.ev 4, hrep.ev 5, hrep.ev 6, hrep.ev 7, hrep.ev 8, hrep.ev 9, hrep.ev 10, hrep.ev 11, hrep.ev 12, hf 13, hf 14, hf 15, hf 16, hf 17, hf 18, hf 19, hf 20, hf 21, hf 22, hf 23, hf 24, hf 25, hf 26, hf 27, hf 28, hf 29, hf 30, hf 31, hf 32, hf 33, hf 34, hf 35, hf 36, hf 37, hf 38, hf 39, hf 40, hf 41, hf 42, hf 43, hf 44, hf 45, hf 46, hf 47, hf 48, hf 49, hf 50, hf 51, hf 52, hf 53, hf 54, hf 55, hf 56, hf 57, hf 58, hf 59, hf 60, hf 61, hrep.ev 62, hrep.ev 63, hrep.ev 64, hrep.ev 65, hrep.ev 66, hrep.ev 67, hrep.ev 68, hrep.ev 69, hrep.ev 70, hrep.ev 71, hrep.ev 72, hrep.ev 73, hrep.ev 74, hrep.ev 75, hrep.ev 76, hrep.ev 77, hrep.ev 78, hrep.ev 79, hrep.ev 80, hrep.ev 81, hrep.ev 82, hrep.ev 83, hrep.ev 84, hrep.ev 85, hrep.ev 86, hrep.ev 87, hrep.ev 88, hrep.ev 89, hrep.ev 90, hrep.ev 91, hrep.ev 92, hrep.ev 93, hrep.ev 94, hrep.ev 95, hrep.ev 96, hrep.ev 97, hrep.ev 98, hrep.ev 99, hrep.ev 100, hrep.ev 101, hrep.ev 102, hrep.ev 103, hrep.ev 104, hrep.ev 105, hrep.ev 106, hrep.ev 107, hrep.ev 108, hrep.ev 109, hrep.ev 110, hrep.ev 111, hrep.ev 112, hrep.ev 113, hrep.ev 114, hrep.ev 115, hrep.ev 116, hrep.ev 117, hrep.ev 118, hrep.ev 119, hrep.ev 120, hrep.ev 121, hrep.ev 122, hrep.ev 123, hrep.ev 124, hrep.ev 125, hrep.ev 126, hrep.ev 127, hrep.ev 128, hrep.ev 129, hrep.ev 130, hrep.ev 131, hrep.ev 132, hrep.ev 133, hrep.ev 134, hrep.ev 135, hrep.ev 136, hrep.ev 137, hrep.ev 138, hrep.ev 139, hrep.ev 140, hrep.ev 141, hrep.ev 142, hrep.ev 143, hrep.ev 144, hrep.ev 145, hrep.ev 146, hrep.ev 147, hrep.ev 148, hrep.ev 149, hrep.ev 150, hrep.ev 151, hrep.ev 152, hrep.ev 153, hrep.ev 154, hrep.ev 155, hrep.ev 156, hrep.ev 157, hrep.ev 158, hrep.ev 159, hrep.ev 160, hrep.ev 161, hrep.ev 162, hrep.ev 163, hrep.ev 164, hrep.ev 165, hrep.ev 166, hrep.ev 167, hrep.ev 168, hrep.ev 169, hrep.ev 170, hrep.ev 171, hrep.ev 172, hrep.ev 173, hrep.ev 174, hrep.ev 175, hrep.ev 176, hrep.ev 177, hrep.ev 178, hrep.ev 179, hrep.ev 180, hrep.ev 181, hrep.ev 182, hrep.ev 183, hrep.ev 184, hrep.ev 185, trivial⟩
    simp only [mergeL] at hfa
    clear hf hd hz hrep HA
    subst hfa
    subst hA
    have HI := Lib.hid hI
    clear hI
    have HN := Lib.hid (fun h => c4 (HP.out h).1.2.2.2.2.2.1)
    go_wp2_with fail
    go_ret
    exact ⟨by rw [NF.out HN.out]; rfl, HI.out.b⟩
  refine absq_val (.bool false) rfl rfl rfl hrep (fun W hW => exec_bin .gtr 27 27 _ (.const (.int .u64 281474976710656)) rfl (hrep.ev 45) rfl (eqg_gt _ _ _ _ _ _ _ _) (gt_int 27 .u64 _ _ _ Tryd.underlying27 (show decide ((281474976710656 : Int) < (x.time : Int)) = false from decide_eq_false (by omega)) _)) ?_
  clear hrep; intro A1 hrep
  refine absq_step (by rfl) hrep ?_
  clear hrep; intro A1 hrep
  refine absq_step (by rfl) hrep ?_
  clear hrep; intro A1 hrep
  refine absq_val (.pointer (some ⟨w.heap.size, 11, none⟩)) rfl rfl rfl hrep (fun W hW => exec_addr 30 _ 3 rfl ((hrep.ev 2).trans h2) fa3) ?_
  clear hrep; intro A1 hrep
  refine absq_val (.int .u32 (x.who : Int)) rfl rfl rfl hrep (fun W hW => exec_load1 22 _ rfl (hrep.ev 49) (ld22 ((hW.k.cell 11).trans X11.out))) ?_
  clear hrep; intro A1 hrep
  by_cases c5 : 1 ≤ x.who
  case neg =>
    refine absq_val (.bool true) rfl rfl rfl hrep (fun W hW => exec_bin .eql 22 22 _ (.const (.int .u32 0)) rfl (hrep.ev 50) rfl (eqg_gt _ _ _ _ _ _ _ _) (eq_int 22 .u32 _ _ _ Tryd.underlying22 (show ((x.who : Int) == (0 : Int)) = true from by (try simp only [bne]); (try rw [Bool.not_eq_true']); (try rw [Bool.not_eq_false']); rw [beq_iff_eq]; omega) _)) ?_
    clear hrep; intro A1 hrep
    refine absq_step (by rfl) hrep ?_
    clear hrep; intro A1 hrep
    refine absq_step (by rfl) hrep ?_
    clear hrep; intro A1 hrep
    refine absq_step (by rfl) hrep ?_
    clear hrep; intro A1 hrep
    refine absq_step (by rfl) hrep ?_
    clear hrep; intro A1 hrep
    refine absq_step (by rfl) hrep ?_
    clear hrep; intro A1 hrep
    refine absq_step (by rfl) hrep ?_
    clear hrep; intro A1 hrep
    refine absq_step (by rfl) hrep ?_
    clear hrep; intro A1 hrep
    refine absq_step (by rfl) hrep ?_
    clear hrep; intro A1 hrep
    refine absq_step (by rfl) hrep ?_
    clear hrep; intro A1 hrep
    refine absq_step (by rfl) hrep ?_
    clear hrep; intro A1 hrep
    refine absq_step (by rfl) hrep ?_
    clear hrep; intro A1 hrep
    refine q_nil ?_
    intro w' hI
    have hd := hrep.df
    have hz := hrep.sz
    have hA := HA.out
    obtain ⟨f, hf⟩ : ∃ f : Nat → Value, ∀ t, A1.eval (.tmp t) = f t := ⟨_, fun _ => rfl⟩
    have hfa := act_merge hA [none, none, none, none, none, none, none, none, none, none, none, none, none, some (f 13), some (f 14), some (f 15), some (f 16), some (f 17), some (f 18), some (f 19), some (f 20), some (f 21), some (f 22), some (f 23), some (f 24), some (f 25), some (f 26), some (f 27), some (f 28), some (f 29), some (f 30), some (f 31), some (f 32), some (f 33), some (f 34), some (f 35), some (f 36), some (f 37), some (f 38), some (f 39), some (f 40), some (f 41), some (f 42), some (f 43), some (f 44), some (f 45), some (f 46), some (f 47), some (f 48), some (f 49), some (f 50), some (f 51), some (f 52), some (f 53), some (f 54), some (f 55), some (f 56), some (f 57), some (f 58), some (f 59), some (f 60), some (f 61), some (.bool true), none, none, none, none, none, none, none, none, none, none, none, none, none, none, none, none, none, none, none, none, none, none, none, none, none, none, none, none, none, none, none, none, none, none, none, none, none, none, none, none, none, none, none, none, none, none, none, none, none, none, none, none, none, none, none, none, none, none, none, none, none, none, none, none, none, none, none, none, none, none, none, none, none, none, none, none, none, none, none, none, none, none, none, none, none, none, none, none, none, none, none, none, none, none, none, none, none, none, none, none, none, none, none, none, none, none, none, none, none, none, none, none, none, none, none, none, none, none, none, none, none, none, none] hz hd rfl rfl ⟨hrep.ev 0, hrep.ev 1, hrep.ev 2, hrep.ev 3, hrep.ev 4, hrep.ev 5, hrep.ev 6, hrep.ev 7, hrep.ev 8, hrep.ev 9, hrep.ev 10, hrep.ev 11, hrep.ev 12, hf 13, hf 14, hf 15, hf 16, hf 17, hf 18, hf 19, hf 20, hf 21, hf 22, hf 23, hf 24, hf 25, hf 26, hf 27, hf 28, hf 29, hf 30, hf 31, hf 32, hf 33, hf 34, hf 35, hf 36, hf 37, hf 38, hf 39, hf 40, hf 41, hf 42, hf 43, hf 44, hf 45, hf 46, hf 47, hf 48, hf 49, hf 50, hf 51, hf 52, hf 53, hf 54, hf 55, hf 56, hf 57, hf 58, hf 59, hf 60, hf 61, hrep.ev 62, hrep.ev 63, hrep.ev 64, hrep.ev 65, hrep.ev 66, hrep.ev 67, hrep.ev 68, hrep.ev 69, hrep.ev 70, hrep.ev 71, hrep.ev 72, hrep.ev 73, hrep.ev 74, hrep.ev 75, hrep.ev 76, hrep.ev 77, hrep.ev 78, hrep.ev 79, hrep.ev 80, hrep.ev 81, hrep.ev 82, hrep.ev 83, hrep.ev 84, hrep.ev 85, hrep.ev 86, hrep.ev 87, hrep.ev 88, hrep.ev 89, hrep.ev 90, hrep.ev 91, hrep.ev 92, hrep.ev 93, hrep.ev 94, hrep.ev 95, hrep.ev 96, hrep.ev 97, hrep.ev 98, hrep.ev 99, hrep.ev 100, hrep.ev 101, hrep.ev 102, hrep.ev 103, hrep.ev 104, hrep.ev 105, hrep.ev 106, hrep.ev 107, hrep.ev 108, hrep.ev 109, hrep.ev 110, hrep.ev 111, hrep.ev 112, hrep.ev 113, hrep.ev 114, hrep.ev 115, hrep.ev 116, hrep.ev 117, hrep.ev 118, hrep.ev 119, hrep.ev 120, hrep.ev 121, hrep.ev 122, hrep.ev 123, hrep.ev 124, hrep.ev 125, hrep.ev 126, hrep.ev 127, hrep.ev 128, hrep.ev 129, hrep.ev 130, hrep.ev 131, hrep.ev 132, hrep.ev 133, hrep.ev 134, hrep.ev 135, hrep.ev 136, hrep.ev 137, hrep.ev 138, hrep.ev 139, hrep.ev 140, hrep.ev 141, hrep.ev 142, hrep.ev 143, hrep.ev 144, hrep.ev 145, hrep.ev 146, hrep.ev 147, hrep.ev 148, hrep.ev 149, hrep.ev 150, hrep.ev 151, hrep.ev 152, hrep.ev 153, hrep.ev 154, hrep.ev 155, hrep.ev 156, hrep.ev 157, hrep.ev 158, hrep.ev 159, hrep.ev 160, hrep.ev 161, hrep.ev 162, hrep.ev 163, hrep.ev 164, hrep.ev 165, hrep.ev 166, hrep.ev 167, hrep.ev 168, hrep.ev 169, hrep.ev 170, hrep.ev 171, hrep.ev 172, hrep.ev 173, hrep.ev 174, hrep.ev 175, hrep.ev 176, hrep.ev 177, hrep.ev 178, hrep.ev 179, hrep.ev 180, hrep.ev 181, hrep.ev 182, hrep.ev 183, hrep.ev 184, hrep.ev 185, trivial⟩
    simp only [mergeL] at hfa
    clear hf hd hz hrep HA
    subst hfa
    subst hA
    have HI := Lib.hid hI
    clear hI
    have HN := Lib.hid (fun h => c5 (HP.out h).1.2.2.2.2.2.2.1)
    go_wp2_with fail
    go_ret
    exact ⟨by rw [NF.out HN.out]; rfl, HI.out.b⟩
  refine absq_val (.bool false) rfl rfl rfl hrep (fun W hW => exec_bin .eql 22 22 _ (.const (.int .u32 0)) rfl (hrep.ev 50) rfl (eqg_gt _ _ _ _ _ _ _ _) (eq_int 22 .u32 _ _ _ Tryd.underlying22 (show ((x.who : Int) == (0 : Int)) = false from by (try simp only [bne]); (try rw [Bool.not_eq_true']); (try rw [Bool.not_eq_false']); rw [beq_eq_false_iff_ne]; omega) _)) ?_
  clear hrep; intro A1 hrep
  refine absq_step (by rfl) hrep ?_
  clear hrep; intro A1 hrep
  refine absq_step (by rfl) hrep ?_
  clear hrep; intro A1 hrep
  refine absq_val (.pointer (some ⟨w.heap.size, 14, none⟩)) rfl rfl rfl hrep (fun W hW => exec_addr 30 _ 5 rfl ((hrep.ev 2).trans h2) fa5) ?_
  clear hrep; intro A1 hrep
  refine absq_val (.int .u8 (x.kind : Int)) rfl rfl rfl hrep (fun W hW => exec_load1 5 _ rfl (hrep.ev 54) (ld5 ((hW.k.cell 14).trans X14.out))) ?_
  clear hrep; intro A1 hrep
  by_cases c6 : x.kind ≤ 8
  case neg =>
    refine absq_val (.bool true) rfl rfl rfl hrep (fun W hW => exec_bin .gtr 5 5 _ (.const (.int .u8 8)) rfl (hrep.ev 55) rfl (eqg_gt _ _ _ _ _ _ _ _) (gt_int 5 .u8 _ _ _ Tryd.underlying5 (show decide ((8 : Int) < (x.kind : Int)) = true from decide_eq_true (by omega)) _)) ?_
    clear hrep; intro A1 hrep
    refine absq_step (by rfl) hrep ?_
    clear hrep; intro A1 hrep
    refine absq_step (by rfl) hrep ?_
    clear hrep; intro A1 hrep
    refine absq_step (by rfl) hrep ?_
    clear hrep; intro A1 hrep
    refine absq_step (by rfl) hrep ?_
    clear hrep; intro A1 hrep
    refine absq_step (by rfl) hrep ?_
    clear hrep; intro A1 hrep
    refine absq_step (by rfl) hrep ?_
    clear hrep; intro A1 hrep
    refine q_nil ?_
    intro w' hI
    have hd := hrep.df
    have hz := hrep.sz
    have hA := HA.out
    obtain ⟨f, hf⟩ : ∃ f : Nat → Value, ∀ t, A1.eval (.tmp t) = f t := ⟨_, fun _ => rfl⟩
    have hfa := act_merge hA [none, none, none, none, none, none, none, none, none, none, none, none, none, some (f 13), some (f 14), some (f 15), some (f 16), some (f 17), some (f 18), some (f 19), some (f 20), some (f 21), some (f 22), some (f 23), some (f 24), some (f 25), some (f 26), some (f 27), some (f 28), some (f 29), some (f 30), some (f 31), some (f 32), some (f 33), some (f 34), some (f 35), some (f 36), some (f 37), some (f 38), some (f 39), some (f 40), some (f 41), some (f 42), some (f 43), some (f 44), some (f 45), some (f 46), some (f 47), some (f 48), some (f 49), some (f 50), some (f 51), some (f 52), some (f 53), some (f 54), some (f 55), some (f 56), some (f 57), some (f 58), some (f 59), some (f 60), some (f 61), some (.bool true), none, none, none, none, none, none, none, none, none, none, none, none, none, none, none, none, none, none, none, none, none, none, none, none, none, none, none, none, none, none, none, none, none, none, none, none, none, none, none, none, none, none, none, none, none, none, none, none, none, none, none, none, none, none, none, none, none, none, none, none, none, none, none, none, none, none, none, none, none, none, none, none, none, none, none, none, none, none, none, none, none, none, none, none, none, none, none, none, none, none, none, none, none, none, none, none, none, none, none, none, none, none, none, none, none, none, none, none, none, none, none, none, none, none, none, none, none, none, none, none, none, none, none] hz hd rfl rfl ⟨hrep.ev 0, hrep.ev 1, hrep.ev 2, hrep.ev 3, hrep.ev 4, hrep.ev 5, hrep.ev 6, hrep.ev 7, hrep.ev 8, hrep.ev 9, hrep.ev 10, hrep.ev 11, hrep.ev 12, hf 13, hf 14, hf 15, hf 16, hf 17, hf 18, hf 19, hf 20, hf 21, hf 22, hf 23, hf 24, hf 25, hf 26, hf 27, hf 28, hf 29, hf 30, hf 31, hf 32, hf 33, hf 34, hf 35, hf 36, hf 37, hf 38, hf 39, hf 40, hf 41, hf 42, hf 43, hf 44, hf 45, hf 46, hf 47, hf 48, hf 49, hf 50, hf 51, hf 52, hf 53, hf 54, hf 55, hf 56, hf 57, hf 58, hf 59, hf 60, hf 61, hrep.ev 62, hrep.ev 63, hrep.ev 64, hrep.ev 65, hrep.ev 66, hrep.ev 67, hrep.ev 68, hrep.ev 69, hrep.ev 70, hrep.ev 71, hrep.ev 72, hrep.ev 73, hrep.ev 74, hrep.ev 75, hrep.ev 76, hrep.ev 77, hrep.ev 78, hrep.ev 79, hrep.ev 80, hrep.ev 81, hrep.ev 82, hrep.ev 83, hrep.ev 84, hrep.ev 85, hrep.ev 86, hrep.ev 87, hrep.ev 88, hrep.ev 89, hrep.ev 90, hrep.ev 91, hrep.ev 92, hrep.ev 93, hrep.ev 94, hrep.ev 95, hrep.ev 96, hrep.ev 97, hrep.ev 98, hrep.ev 99, hrep.ev 100, hrep.ev 101, hrep.ev 102, hrep.ev 103, hrep.ev 104, hrep.ev 105, hrep.ev 106, hrep.ev 107, hrep.ev 108, hrep.ev 109, hrep.ev 110, hrep.ev 111, hrep.ev 112, hrep.ev 113, hrep.ev 114, hrep.ev 115, hrep.ev 116, hrep.ev 117, hrep.ev 118, hrep.ev 119, hrep.ev 120, hrep.ev 121, hrep.ev 122, hrep.ev 123, hrep.ev 124, hrep.ev 125, hrep.ev 126, hrep.ev 127, hrep.ev 128, hrep.ev 129, hrep.ev 130, hrep.ev 131, hrep.ev 132, hrep.ev 133, hrep.ev 134, hrep.ev 135, hrep.ev 136, hrep.ev 137, hrep.ev 138, hrep.ev 139, hrep.ev 140, hrep.ev 141, hrep.ev 142, hrep.ev 143, hrep.ev 144, hrep.ev 145, hrep.ev 146, hrep.ev 147, hrep.ev 148, hrep.ev 149, hrep.ev 150, hrep.ev 151, hrep.ev 152, hrep.ev 153, hrep.ev 154, hrep.ev 155, hrep.ev 156, hrep.ev 157, hrep.ev 158, hrep.ev 159, hrep.ev 160, hrep.ev 161, hrep.ev 162, hrep.ev 163, hrep.ev 164, hrep.ev 165, hrep.ev 166, hrep.ev 167, hrep.ev 168, hrep.ev 169, hrep.ev 170, hrep.ev 171, hrep.ev 172, hrep.ev 173, hrep.ev 174, hrep.ev 175, hrep.ev 176, hrep.ev 177, hrep.ev 178, hrep.ev 179, hrep.ev 180, hrep.ev 181, hrep.ev 182, hrep.ev 183, hrep.ev 184, hrep.ev 185, trivial⟩
    simp only [mergeL] at hfa
    clear hf hd hz hrep HA
    subst hfa
    subst hA
    have HI := Lib.hid hI
    clear hI
    have HN := Lib.hid (fun h => c6 (HP.out h).1.2.2.2.2.2.2.2)
    go_wp2_with fail
    go_ret
    exact ⟨by rw [NF.out HN.out]; rfl, HI.out.b⟩
  refine absq_val (.bool false) rfl rfl rfl hrep (fun W hW => exec_bin .gtr 5 5 _ (.const (.int .u8 8)) rfl (hrep.ev 55) rfl (eqg_gt _ _ _ _ _ _ _ _) (gt_int 5 .u8 _ _ _ Tryd.underlying5 (show decide ((8 : Int) < (x.kind : Int)) = false from decide_eq_false (by omega)) _)) ?_
  clear hrep; intro A1 hrep
  refine absq_step (by rfl) hrep ?_
  clear hrep; intro A1 hrep
  refine absq_step (by rfl) hrep ?_
  clear hrep; intro A1 hrep
  refine absq_val (.agg X) rfl rfl rfl hrep (fun W hW => exec_load1 30 _ rfl ((hrep.ev 2).trans h2) (ld122 hW.k HSX.out)) ?_
  clear hrep; intro A1 hrep
  by_cases c7 : bareN x = x
  case neg =>
    refine absq_call rfl rfl rfl hrep (fun W hW => exec_call0 rfl rfl (map1 (hrep.ev 59)) en21) (v := .bool false) (fun W hW => (ZR.out W hW.b c6 false (by simp [c7])).mono fun e w' h => ⟨h.1, hW.below h.2⟩) ?_
    clear hrep; intro A1 hrep
    refine absq_val (.bool true) rfl rfl rfl hrep (fun W hW => exec_not (b := false) rfl (hrep.ev 60)) ?_
    clear hrep; intro A1 hrep
    refine absq_step (by rfl) hrep ?_
    clear hrep; intro A1 hrep
    refine q_nil ?_
    intro w' hI
    have hd := hrep.df
    have hz := hrep.sz
    have hA := HA.out
    obtain ⟨f, hf⟩ : ∃ f : Nat → Value, ∀ t, A1.eval (.tmp t) = f t := ⟨_, fun _ => rfl⟩
    have hfa := act_merge hA [none, none, none, none, none, none, none, none, none, none, none, none, none, some (f 13), some (f 14), some (f 15), some (f 16), some (f 17), some (f 18), some (f 19), some (f 20), some (f 21), some (f 22), some (f 23), some (f 24), some (f 25), some (f 26), some (f 27), some (f 28), some (f 29), some (f 30), some (f 31), some (f 32), some (f 33), some (f 34), some (f 35), some (f 36), some (f 37), some (f 38), some (f 39), some (f 40), some (f 41), some (f 42), some (f 43), some (f 44), some (f 45), some (f 46), some (f 47), some (f 48), some (f 49), some (f 50), some (f 51), some (f 52), some (f 53), some (f 54), some (f 55), some (f 56), some (f 57), some (f 58), some (f 59), some (f 60), some (f 61), some (.bool true), none, none, none, none, none, none, none, none, none, none, none, none, none, none, none, none, none, none, none, none, none, none, none, none, none, none, none, none, none, none, none, none, none, none, none, none, none, none, none, none, none, none, none, none, none, none, none, none, none, none, none, none, none, none, none, none, none, none, none, none, none, none, none, none, none, none, none, none, none, none, none, none, none, none, none, none, none, none, none, none, none, none, none, none, none, none, none, none, none, none, none, none, none, none, none, none, none, none, none, none, none, none, none, none, none, none, none, none, none, none, none, none, none, none, none, none, none, none, none, none, none, none, none] hz hd rfl rfl ⟨hrep.ev 0, hrep.ev 1, hrep.ev 2, hrep.ev 3, hrep.ev 4, hrep.ev 5, hrep.ev 6, hrep.ev 7, hrep.ev 8, hrep.ev 9, hrep.ev 10, hrep.ev 11, hrep.ev 12, hf 13, hf 14, hf 15, hf 16, hf 17, hf 18, hf 19, hf 20, hf 21, hf 22, hf 23, hf 24, hf 25, hf 26, hf 27, hf 28, hf 29, hf 30, hf 31, hf 32, hf 33, hf 34, hf 35, hf 36, hf 37, hf 38, hf 39, hf 40, hf 41, hf 42, hf 43, hf 44, hf 45, hf 46, hf 47, hf 48, hf 49, hf 50, hf 51, hf 52, hf 53, hf 54, hf 55, hf 56, hf 57, hf 58, hf 59, hf 60, hf 61, hrep.ev 62, hrep.ev 63, hrep.ev 64, hrep.ev 65, hrep.ev 66, hrep.ev 67, hrep.ev 68, hrep.ev 69, hrep.ev 70, hrep.ev 71, hrep.ev 72, hrep.ev 73, hrep.ev 74, hrep.ev 75, hrep.ev 76, hrep.ev 77, hrep.ev 78, hrep.ev 79, hrep.ev 80, hrep.ev 81, hrep.ev 82, hrep.ev 83, hrep.ev 84, hrep.ev 85, hrep.ev 86, hrep.ev 87, hrep.ev 88, hrep.ev 89, hrep.ev 90, hrep.ev 91, hrep.ev 92, hrep.ev 93, hrep.ev 94, hrep.ev 95, hrep.ev 96, hrep.ev 97, hrep.ev 98, hrep.ev 99, hrep.ev 100, hrep.ev 101, hrep.ev 102, hrep.ev 103, hrep.ev 104, hrep.ev 105, hrep.ev 106, hrep.ev 107, hrep.ev 108, hrep.ev 109, hrep.ev 110, hrep.ev 111, hrep.ev 112, hrep.ev 113, hrep.ev 114, hrep.ev 115, hrep.ev 116, hrep.ev 117, hrep.ev 118, hrep.ev 119, hrep.ev 120, hrep.ev 121, hrep.ev 122, hrep.ev 123, hrep.ev 124, hrep.ev 125, hrep.ev 126, hrep.ev 127, hrep.ev 128, hrep.ev 129, hrep.ev 130, hrep.ev 131, hrep.ev 132, hrep.ev 133, hrep.ev 134, hrep.ev 135, hrep.ev 136, hrep.ev 137, hrep.ev 138, hrep.ev 139, hrep.ev 140, hrep.ev 141, hrep.ev 142, hrep.ev 143, hrep.ev 144, hrep.ev 145, hrep.ev 146, hrep.ev 147, hrep.ev 148, hrep.ev 149, hrep.ev 150, hrep.ev 151, hrep.ev 152, hrep.ev 153, hrep.ev 154, hrep.ev 155, hrep.ev 156, hrep.ev 157, hrep.ev 158, hrep.ev 159, hrep.ev 160, hrep.ev 161, hrep.ev 162, hrep.ev 163, hrep.ev 164, hrep.ev 165, hrep.ev 166, hrep.ev 167, hrep.ev 168, hrep.ev 169, hrep.ev 170, hrep.ev 171, hrep.ev 172, hrep.ev 173, hrep.ev 174, hrep.ev 175, hrep.ev 176, hrep.ev 177, hrep.ev 178, hrep.ev 179, hrep.ev 180, hrep.ev 181, hrep.ev 182, hrep.ev 183, hrep.ev 184, hrep.ev 185, trivial⟩
    simp only [mergeL] at hfa
    clear hf hd hz hrep HA
    subst hfa
    subst hA
    have HI := Lib.hid hI
    clear hI
    have HN := Lib.hid (fun h => c7 (HP.out h).2.1)
    go_wp2_with fail
    go_ret
    exact ⟨by rw [NF.out HN.out]; rfl, HI.out.b⟩
  refine absq_call rfl rfl rfl hrep (fun W hW => exec_call0 rfl rfl (map1 (hrep.ev 59)) en21) (v := .bool true) (fun W hW => (ZR.out W hW.b c6 true (by simp [c7])).mono fun e w' h => ⟨h.1, hW.below h.2⟩) ?_
  clear hrep; intro A1 hrep
  refine absq_val (.bool false) rfl rfl rfl hrep (fun W hW => exec_not (b := true) rfl (hrep.ev 60)) ?_
  clear hrep; intro A1 hrep
  refine absq_step (by rfl) hrep ?_
  clear hrep; intro A1 hrep
  refine q_nil ?_
  intro w' hI
  have hd := hrep.df
  have hz := hrep.sz
  have hA := HA.out
  obtain ⟨f, hf⟩ : ∃ f : Nat → Value, ∀ t, A1.eval (.tmp t) = f t := ⟨_, fun _ => rfl⟩
  have hfa := act_merge hA [none, none, none, none, none, none, none, none, none, none, none, none, none, some (f 13), some (f 14), some (f 15), some (f 16), some (f 17), some (f 18), some (f 19), some (f 20), some (f 21), some (f 22), some (f 23), some (f 24), some (f 25), some (f 26), some (f 27), some (f 28), some (f 29), some (f 30), some (f 31), some (f 32), some (f 33), some (f 34), some (f 35), some (f 36), some (f 37), some (f 38), some (f 39), some (f 40), some (f 41), some (f 42), some (f 43), some (f 44), some (f 45), some (f 46), some (f 47), some (f 48), some (f 49), some (f 50), some (f 51), some (f 52), some (f 53), some (f 54), some (f 55), some (f 56), some (f 57), some (f 58), some (f 59), some (f 60), some (f 61), some (.bool false), none, none, none, none, none, none, none, none, none, none, none, none, none, none, none, none, none, none, none, none, none, none, none, none, none, none, none, none, none, none, none, none, none, none, none, none, none, none, none, none, none, none, none, none, none, none, none, none, none, none, none, none, none, none, none, none, none, none, none, none, none, none, none, none, none, none, none, none, none, none, none, none, none, none, none, none, none, none, none, none, none, none, none, none, none, none, none, none, none, none, none, none, none, none, none, none, none, none, none, none, none, none, none, none, none, none, none, none, none, none, none, none, none, none, none, none, none, none, none, none, none, none, none] hz hd rfl rfl ⟨hrep.ev 0, hrep.ev 1, hrep.ev 2, hrep.ev 3, hrep.ev 4, hrep.ev 5, hrep.ev 6, hrep.ev 7, hrep.ev 8, hrep.ev 9, hrep.ev 10, hrep.ev 11, hrep.ev 12, hf 13, hf 14, hf 15, hf 16, hf 17, hf 18, hf 19, hf 20, hf 21, hf 22, hf 23, hf 24, hf 25, hf 26, hf 27, hf 28, hf 29, hf 30, hf 31, hf 32, hf 33, hf 34, hf 35, hf 36, hf 37, hf 38, hf 39, hf 40, hf 41, hf 42, hf 43, hf 44, hf 45, hf 46, hf 47, hf 48, hf 49, hf 50, hf 51, hf 52, hf 53, hf 54, hf 55, hf 56, hf 57, hf 58, hf 59, hf 60, hf 61, hrep.ev 62, hrep.ev 63, hrep.ev 64, hrep.ev 65, hrep.ev 66, hrep.ev 67, hrep.ev 68, hrep.ev 69, hrep.ev 70, hrep.ev 71, hrep.ev 72, hrep.ev 73, hrep.ev 74, hrep.ev 75, hrep.ev 76, hrep.ev 77, hrep.ev 78, hrep.ev 79, hrep.ev 80, hrep.ev 81, hrep.ev 82, hrep.ev 83, hrep.ev 84, hrep.ev 85, hrep.ev 86, hrep.ev 87, hrep.ev 88, hrep.ev 89, hrep.ev 90, hrep.ev 91, hrep.ev 92, hrep.ev 93, hrep.ev 94, hrep.ev 95, hrep.ev 96, hrep.ev 97, hrep.ev 98, hrep.ev 99, hrep.ev 100, hrep.ev 101, hrep.ev 102, hrep.ev 103, hrep.ev 104, hrep.ev 105, hrep.ev 106, hrep.ev 107, hrep.ev 108, hrep.ev 109, hrep.ev 110, hrep.ev 111, hrep.ev 112, hrep.ev 113, hrep.ev 114, hrep.ev 115, hrep.ev 116, hrep.ev 117, hrep.ev 118, hrep.ev 119, hrep.ev 120, hrep.ev 121, hrep.ev 122, hrep.ev 123, hrep.ev 124, hrep.ev 125, hrep.ev 126, hrep.ev 127, hrep.ev 128, hrep.ev 129, hrep.ev 130, hrep.ev 131, hrep.ev 132, hrep.ev 133, hrep.ev 134, hrep.ev 135, hrep.ev 136, hrep.ev 137, hrep.ev 138, hrep.ev 139, hrep.ev 140, hrep.ev 141, hrep.ev 142, hrep.ev 143, hrep.ev 144, hrep.ev 145, hrep.ev 146, hrep.ev 147, hrep.ev 148, hrep.ev 149, hrep.ev 150, hrep.ev 151, hrep.ev 152, hrep.ev 153, hrep.ev 154, hrep.ev 155, hrep.ev 156, hrep.ev 157, hrep.ev 158, hrep.ev 159, hrep.ev 160, hrep.ev 161, hrep.ev 162, hrep.ev 163, hrep.ev 164, hrep.ev 165, hrep.ev 166, hrep.ev 167, hrep.ev 168, hrep.ev 169, hrep.ev 170, hrep.ev 171, hrep.ev 172, hrep.ev 173, hrep.ev 174, hrep.ev 175, hrep.ev 176, hrep.ev 177, hrep.ev 178, hrep.ev 179, hrep.ev 180, hrep.ev 181, hrep.ev 182, hrep.ev 183, hrep.ev 184, hrep.ev 185, trivial⟩
  simp only [mergeL] at hfa
  clear hf hd hz hrep HA
  subst hfa
  subst hA
  have HI := Lib.hid hI
  clear hI
  have H3 := Lib.hid (And.intro c0 (And.intro c1 (And.intro c2 (And.intro c3 (And.intro c4 (And.intro c5 (And.intro c6 c7)))))))
  clear c0 c1 c2 c3 c4 c5 c6 c7 h1 h2 S
  have WI : wrap64 (m : Int) = (m : Int) := IntWalk.wrap64_in _ (by have := HM.out; omega)
  clear WI
  go_wp2_with fail
  go_loopw [5] (fun i wr => ∃ r : Nat, m ≤ r ∧ r ≤ 8 ∧ i = .int .i64 (r : Int) ∧ CkI w X wr ∧ (∀ j, m ≤ j → j < r → x.dep.getD j 0 = 0)) (fun i _ => 8 - (intOf i).toNat)
  case atStart => exact ⟨m, Nat.le_refl m, HM.out.2, rfl, HI.out, by omega⟩
  case round =>
    obtain ⟨r, hmr, hr8, rfl, hS, hz⟩ := hrel
    have S := Lib.hid hS
    have HZ := Lib.hid hz
    clear hS hz HI
    by_cases hlt : r < 8
    · have hd : decide ((r : Int) < 8) = true := decide_eq_true (by omega)
      have hd2 : decide (r < 8) = true := decide_eq_true hlt
      have HWR := Lib.hid (show wrap64 ((r : Int) + 1) = ((r + 1 : Nat) : Int) by rw [IntWalk.wrap64_in _ (by omega)]; omega)
      have IX := fun (W : World) => ix26i (g := w.heap.size) (o := 2) hlt W
      have cr := (S.out.k.cell (2 + r)).trans (XD.out r hlt)
      obtain ⟨d, hdd⟩ : ∃ d : Int, ((x.dep.getD r 0 : Nat) : Int) = d := ⟨_, rfl⟩
      rw [hdd] at cr
      by_cases hne : x.dep.getD r 0 = 0
      · have q1 : (d == 0) = true := by rw [beq_iff_eq]; omega
        have q2 : (d != 0) = false := by simp [bne, q1]
        have HZ2 := Lib.hid hne
        clear hne hdd
        go_wp2_with fail
        go_roundw
        case rel =>
          refine ⟨r + 1, by omega, by omega, by first | rw [HWR.out] | (congr 1), S.out, fun j h1 h2 => ?_⟩
          by_cases hj : j = r
          · rw [hj]; exact HZ2.out
          · exact HZ.out j h1 (by omega)
        case measure => (try rw [HWR.out]); simp [intOf]; omega
      · have q1 : (d == 0) = false := by rw [beq_eq_false_iff_ne]; omega
        have q2 : (d != 0) = true := by simp [bne, q1]
        have HN := Lib.hid (fun h => hne ((HDZ.out.1 (HP.out h).1.2.2.2.1) r hmr hlt))
        clear hne hdd
        go_wp2_with fail
        go_ret
        exact ⟨by rw [NF.out HN.out]; rfl, S.out.b⟩
    · obtain rfl : r = 8 := by omega
      have hd : decide ((8 : Int) < 8) = false := by decide
      have HHD : Hid (headP x m) := Lib.hid ⟨H3.out.1, H3.out.2.1, H3.out.2.2.1, HDZ.out.2 HZ.out, H3.out.2.2.2.1, H3.out.2.2.2.2.1, H3.out.2.2.2.2.2.1, H3.out.2.2.2.2.2.2.1⟩
      have c14 := (S.out.k.cell 14).trans X14.out
      go_upto_region 10 with fail

      have c6 := H3.out.2.2.2.2.2.2.1
      have ZB1 := Lib.hid (zb_all x c6).1
      have ZB4 := Lib.hid (zb_all x c6).2.1
      have ZB8 := Lib.hid (zb_all x c6).2.2.1
      have ZB2 := Lib.hid (zb_all x c6).2.2.2.1
      have ZB32 := Lib.hid (zb_all x c6).2.2.2.2.1
      have ZB64 := Lib.hid (zb_all x c6).2.2.2.2.2
      have IN := Lib.hid (fun W (c : UInt8) (k : Int) (hk : (c.toNat : Int) = k) b (hb : (hasF x.kind).contains c = b) => in_b W x.kind c k hk b hb)
      go_wp2_with (refine (HAS.out _ c6).mono ?_)
      rintro e wh ⟨rfl, hb⟩
      have S := Lib.hid (S.out.below hb)
      clear hb c14
      go_upto_region 11 with fail
      refine lst_begin ?_
      (try simp only [List.append_eq, List.cons_append, List.nil_append])
      intro A0 hA
      (try simp only [List.append_eq, List.cons_append, List.nil_append] at hA)
      have HA : Hid (TcA w X ⟨(hasF x.kind).toArray⟩ A0 wh) := Lib.hid ⟨by rw [hA] <;> rfl, by rw [hA] <;> rfl, by rw [hA]; rfl, by rw [hA]; rfl, S.out⟩
      clear hA S
      refine cut_at 55 (fun A W => ∃ r : Bool, TcA w X ⟨(hasF x.kind).toArray⟩ A W ∧ A.eval (.tmp 130) = .bool r ∧ (r = false → startP x ∧ (zb x 1 = true ∨ cov x x.er x.en) ∧ (zb x 4 = true ∨ cov x x.ar x.an) ∧ (zb x 8 = true ∨ cov x x.vr x.vn)) ∧ (r = true → ¬ rightP x)) ?_ (fun C55 => ?_)
      · intro A0 W0 HH
        (try simp only [List.drop_succ_cons, List.drop_zero, List.drop_nil])
        obtain ⟨r, HA, hs, hT, hF⟩ := HH
        refine lst_nil ?_
        obtain ⟨f, hf, hfa⟩ := act_fn HA.sz HA.df
        rw [show (List.range 186).map f = [f 0, f 1, f 2, f 3, f 4, f 5, f 6, f 7, f 8, f 9, f 10, f 11, f 12, f 13, f 14, f 15, f 16, f 17, f 18, f 19, f 20, f 21, f 22, f 23, f 24, f 25, f 26, f 27, f 28, f 29, f 30, f 31, f 32, f 33, f 34, f 35, f 36, f 37, f 38, f 39, f 40, f 41, f 42, f 43, f 44, f 45, f 46, f 47, f 48, f 49, f 50, f 51, f 52, f 53, f 54, f 55, f 56, f 57, f 58, f 59, f 60, f 61, f 62, f 63, f 64, f 65, f 66, f 67, f 68, f 69, f 70, f 71, f 72, f 73, f 74, f 75, f 76, f 77, f 78, f 79, f 80, f 81, f 82, f 83, f 84, f 85, f 86, f 87, f 88, f 89, f 90, f 91, f 92, f 93, f 94, f 95, f 96, f 97, f 98, f 99, f 100, f 101, f 102, f 103, f 104, f 105, f 106, f 107, f 108, f 109, f 110, f 111, f 112, f 113, f 114, f 115, f 116, f 117, f 118, f 119, f 120, f 121, f 122, f 123, f 124, f 125, f 126, f 127, f 128, f 129, f 130, f 131, f 132, f 133, f 134, f 135, f 136, f 137, f 138, f 139, f 140, f 141, f 142, f 143, f 144, f 145, f 146, f 147, f 148, f 149, f 150, f 151, f 152, f 153, f 154, f 155, f 156, f 157, f 158, f 159, f 160, f 161, f 162, f 163, f 164, f 165, f 166, f 167, f 168, f 169, f 170, f 171, f 172, f 173, f 174, f 175, f 176, f 177, f 178, f 179, f 180, f 181, f 182, f 183, f 184, f 185] from rfl] at hfa
        rw [show f 130 = .bool r from (hf 130 (by decide)).symm.trans (hs)] at hfa
        rw [show f 2 = .pointer (some ⟨w.heap.size, 0, none⟩) from (hf 2 (by decide)).symm.trans (HA.t2)] at hfa
        rw [show f 6 = .string ⟨(hasF x.kind).toArray⟩ from (hf 6 (by decide)).symm.trans (HA.t6)] at hfa
        clear hf
        have S := Lib.hid HA.wk
        have HT := Lib.hid hT
        have HF2 := Lib.hid hF
        clear HA hs hT hF
        cases r
        case true =>
          have HQ := Lib.hid (NF.out (fun h => HF2.out rfl (HP.out h).2.2))
          clear HT HF2
          subst hfa
          go_wp2_with fail
          go_ret
          exact ⟨by rw [HQ.out]; rfl, S.out.b⟩
        case false =>
          have HT11 := Lib.hid (HT.out rfl)
          clear HT HF2
          subst hfa
          go_upto_region 13 with fail
          refine lst_begin ?_
          (try simp only [List.append_eq, List.cons_append, List.nil_append])
          intro A0 hA
          (try simp only [List.append_eq, List.cons_append, List.nil_append] at hA)
          have HA : Hid (TcA w X ⟨(hasF x.kind).toArray⟩ A0 W0) := Lib.hid ⟨by rw [hA] <;> rfl, by rw [hA] <;> rfl, by rw [hA]; rfl, by rw [hA]; rfl, S.out⟩
          clear hA S
          refine cut_at 55 (fun A W => ∃ r : Bool, TcA w X ⟨(hasF x.kind).toArray⟩ A W ∧ A.eval (.tmp 185) = .bool r ∧ (r = false → startP x ∧ (zb x 1 = true ∨ cov x x.er x.en) ∧ (zb x 4 = true ∨ cov x x.ar x.an) ∧ (zb x 8 = true ∨ cov x x.vr x.vn) ∧ (zb x 2 = true ∨ grantP x) ∧ (zb x 32 = true ∨ qtyP x) ∧ x.price ≤ 16777215 ∧ (zb x 64 = true ∨ linesP x)) ∧ (r = true → ¬ rightP x)) ?_ (fun C55 => ?_)
          · intro A0 W0 HH
            (try simp only [List.drop_succ_cons, List.drop_zero, List.drop_nil])
            obtain ⟨r, HA, hs, hT, hF⟩ := HH
            refine lst_nil ?_
            obtain ⟨f, hf, hfa⟩ := act_fn HA.sz HA.df
            rw [show (List.range 186).map f = [f 0, f 1, f 2, f 3, f 4, f 5, f 6, f 7, f 8, f 9, f 10, f 11, f 12, f 13, f 14, f 15, f 16, f 17, f 18, f 19, f 20, f 21, f 22, f 23, f 24, f 25, f 26, f 27, f 28, f 29, f 30, f 31, f 32, f 33, f 34, f 35, f 36, f 37, f 38, f 39, f 40, f 41, f 42, f 43, f 44, f 45, f 46, f 47, f 48, f 49, f 50, f 51, f 52, f 53, f 54, f 55, f 56, f 57, f 58, f 59, f 60, f 61, f 62, f 63, f 64, f 65, f 66, f 67, f 68, f 69, f 70, f 71, f 72, f 73, f 74, f 75, f 76, f 77, f 78, f 79, f 80, f 81, f 82, f 83, f 84, f 85, f 86, f 87, f 88, f 89, f 90, f 91, f 92, f 93, f 94, f 95, f 96, f 97, f 98, f 99, f 100, f 101, f 102, f 103, f 104, f 105, f 106, f 107, f 108, f 109, f 110, f 111, f 112, f 113, f 114, f 115, f 116, f 117, f 118, f 119, f 120, f 121, f 122, f 123, f 124, f 125, f 126, f 127, f 128, f 129, f 130, f 131, f 132, f 133, f 134, f 135, f 136, f 137, f 138, f 139, f 140, f 141, f 142, f 143, f 144, f 145, f 146, f 147, f 148, f 149, f 150, f 151, f 152, f 153, f 154, f 155, f 156, f 157, f 158, f 159, f 160, f 161, f 162, f 163, f 164, f 165, f 166, f 167, f 168, f 169, f 170, f 171, f 172, f 173, f 174, f 175, f 176, f 177, f 178, f 179, f 180, f 181, f 182, f 183, f 184, f 185] from rfl] at hfa
            rw [show f 185 = .bool r from (hf 185 (by decide)).symm.trans (hs)] at hfa
            clear hf
            have S := Lib.hid HA.wk
            have HT := Lib.hid hT
            have HF2 := Lib.hid hF
            subst hfa
            clear HA hs hT hF
            cases r
            · have HQ := Lib.hid (YF.out ⟨HHD.out, H3.out.2.2.2.2.2.2.2, HR.out.2 (HT.out rfl)⟩)
              clear HT HF2
              go_wp2_with fail
              go_ret
              exact ⟨by rw [HQ.out]; rfl, S.out.b⟩
            · have HQ := Lib.hid (NF.out (fun h => HF2.out rfl (HP.out h).2.2))
              clear HT HF2
              go_wp2_with fail
              go_ret
              exact ⟨by rw [HQ.out]; rfl, S.out.b⟩
          (try simp only [List.drop_succ_cons, List.drop_zero, List.drop_nil] at C55)
          refine cut_at 47 (fun A W => ∃ r : Bool, TcA w X ⟨(hasF x.kind).toArray⟩ A W ∧ A.eval (.tmp 177) = .bool r ∧ (r = false → startP x ∧ (zb x 1 = true ∨ cov x x.er x.en) ∧ (zb x 4 = true ∨ cov x x.ar x.an) ∧ (zb x 8 = true ∨ cov x x.vr x.vn) ∧ (zb x 2 = true ∨ grantP x) ∧ (zb x 32 = true ∨ qtyP x) ∧ x.price ≤ 16777215) ∧ (r = true → ¬ rightP x)) ?_ (fun C47 => ?_)
          · intro A0 W0 HH
            (try simp only [List.drop_succ_cons, List.drop_zero, List.drop_nil])
            obtain ⟨r, HA, hs, hT, hF⟩ := HH
            have h2 := HA.t2
            have h6 := HA.t6
            have S := Lib.hid HA.wk
            have hrep : Rep 186 A0 [] A0 := Rep.start HA.sz HA.df
            replace hrep := hrep.know hs
            have HP1 := Lib.hid hT
            have HN := Lib.hid hF
            clear HA hs hT hF
            cases r
            case true =>
              refine abs_step (by rfl) hrep ?_
              clear hrep; intro A1 hrep
              refine abs_step (by rfl) hrep ?_
              clear hrep; intro A1 hrep
              refine abs_step (by rfl) hrep ?_
              clear hrep; intro A1 hrep
              refine abs_step (by rfl) hrep ?_
              clear hrep; intro A1 hrep
              refine abs_step (by rfl) hrep ?_
              clear hrep; intro A1 hrep
              refine abs_step (by rfl) hrep ?_
              clear hrep; intro A1 hrep
              refine abs_step (by rfl) hrep ?_
              clear hrep; intro A1 hrep
              refine abs_step (by rfl) hrep ?_
              clear hrep; intro A1 hrep
              exact C55 _ _ ⟨true, ⟨hrep.sz, hrep.df, (hrep.ev 2).trans h2, (hrep.ev 6).trans h6, S.out⟩, hrep.ev 185, (fun h => by cases h), (fun _ => HN.out rfl)⟩
            case false =>
              cases z108 : (hasF x.kind).contains 108
              case false =>
                refine abs_step (by rfl) hrep ?_
                clear hrep; intro A1 hrep
                refine abs_call rfl rfl rfl hrep (exec_call0 rfl rfl (map2 ((hrep.ev 178).trans h6) rfl) en23) ?_
                refine (IN.out _ 108 108 rfl false z108).mono ?_
                rintro _ wn ⟨rfl, hb⟩
                have S := Lib.hid (S.out.below hb)
                clear hb
                refine ⟨_, rfl, ?_⟩
                clear hrep; intro A1 hrep
                refine abs_step (by rfl) hrep ?_
                clear hrep; intro A1 hrep
                refine abs_step (by rfl) hrep ?_
                clear hrep; intro A1 hrep
                refine abs_step (by rfl) hrep ?_
                clear hrep; intro A1 hrep
                refine abs_step (by rfl) hrep ?_
                clear hrep; intro A1 hrep
                refine abs_step (by rfl) hrep ?_
                clear hrep; intro A1 hrep
                refine abs_step (by rfl) hrep ?_
                clear hrep; intro A1 hrep
                exact C55 _ _ ⟨false, ⟨hrep.sz, hrep.df, (hrep.ev 2).trans h2, (hrep.ev 6).trans h6, S.out⟩, hrep.ev 185, (fun _ => ⟨(HP1.out rfl).1, (HP1.out rfl).2.1, (HP1.out rfl).2.2.1, (HP1.out rfl).2.2.2.1, (HP1.out rfl).2.2.2.2.1, (HP1.out rfl).2.2.2.2.2.1, (HP1.out rfl).2.2.2.2.2.2, Or.inl (ZB64.out.2 z108)⟩), (fun h => by cases h)⟩
              case true =>
                refine abs_step (by rfl) hrep ?_
                clear hrep; intro A1 hrep
                refine abs_call rfl rfl rfl hrep (exec_call0 rfl rfl (map2 ((hrep.ev 178).trans h6) rfl) en23) ?_
                refine (IN.out _ 108 108 rfl true z108).mono ?_
                rintro _ wn ⟨rfl, hb⟩
                have S := Lib.hid (S.out.below hb)
                clear hb
                refine ⟨_, rfl, ?_⟩
                clear hrep; intro A1 hrep
                refine abs_step (by rfl) hrep ?_
                clear hrep; intro A1 hrep
                refine abs_val (.agg X) rfl rfl rfl hrep (exec_load1 30 _ rfl ((hrep.ev 2).trans h2) (ld122 S.out.k HSX.out)) ?_
                clear hrep; intro A1 hrep
                by_cases k2 : linesP x
                case pos =>
                  refine abs_call rfl rfl rfl hrep (exec_call0 rfl rfl (map1 (hrep.ev 181)) en24) ?_
                  refine (LI.out _ S.out.b true (by simp [k2])).mono ?_
                  rintro _ wn ⟨rfl, hb⟩
                  have S := Lib.hid (S.out.below hb)
                  clear hb
                  refine ⟨_, rfl, ?_⟩
                  clear hrep; intro A1 hrep
                  refine abs_val (.bool false) rfl rfl rfl hrep (exec_not (b := true) rfl (hrep.ev 182)) ?_
                  clear hrep; intro A1 hrep
                  refine abs_step (by rfl) hrep ?_
                  clear hrep; intro A1 hrep
                  refine abs_step (by rfl) hrep ?_
                  clear hrep; intro A1 hrep
                  exact C55 _ _ ⟨false, ⟨hrep.sz, hrep.df, (hrep.ev 2).trans h2, (hrep.ev 6).trans h6, S.out⟩, hrep.ev 185, (fun _ => ⟨(HP1.out rfl).1, (HP1.out rfl).2.1, (HP1.out rfl).2.2.1, (HP1.out rfl).2.2.2.1, (HP1.out rfl).2.2.2.2.1, (HP1.out rfl).2.2.2.2.2.1, (HP1.out rfl).2.2.2.2.2.2, Or.inr k2⟩), (fun h => by cases h)⟩
                case neg =>
                  refine abs_call rfl rfl rfl hrep (exec_call0 rfl rfl (map1 (hrep.ev 181)) en24) ?_
                  refine (LI.out _ S.out.b false (by simp [k2])).mono ?_
                  rintro _ wn ⟨rfl, hb⟩
                  have S := Lib.hid (S.out.below hb)
                  clear hb
                  refine ⟨_, rfl, ?_⟩
                  clear hrep; intro A1 hrep
                  refine abs_val (.bool true) rfl rfl rfl hrep (exec_not (b := false) rfl (hrep.ev 182)) ?_
                  clear hrep; intro A1 hrep
                  refine abs_step (by rfl) hrep ?_
                  clear hrep; intro A1 hrep
                  refine abs_step (by rfl) hrep ?_
                  clear hrep; intro A1 hrep
                  exact C55 _ _ ⟨true, ⟨hrep.sz, hrep.df, (hrep.ev 2).trans h2, (hrep.ev 6).trans h6, S.out⟩, hrep.ev 185, (fun h => by cases h), (fun _ h => nz_of ZB64.out z108 k2 (HR.out.1 h).2.2.2.2.2.2.2)⟩
          (try simp only [List.drop_succ_cons, List.drop_zero, List.drop_nil] at C47)
          refine cut_at 42 (fun A W => ∃ r : Bool, TcA w X ⟨(hasF x.kind).toArray⟩ A W ∧ A.eval (.tmp 172) = .bool r ∧ (r = false → startP x ∧ (zb x 1 = true ∨ cov x x.er x.en) ∧ (zb x 4 = true ∨ cov x x.ar x.an) ∧ (zb x 8 = true ∨ cov x x.vr x.vn) ∧ (zb x 2 = true ∨ grantP x) ∧ (zb x 32 = true ∨ qtyP x)) ∧ (r = true → ¬ rightP x)) ?_ (fun C42 => ?_)
          · intro A0 W0 HH
            (try simp only [List.drop_succ_cons, List.drop_zero, List.drop_nil])
            obtain ⟨r, HA, hs, hT, hF⟩ := HH
            have h2 := HA.t2
            have h6 := HA.t6
            have S := Lib.hid HA.wk
            have hrep : Rep 186 A0 [] A0 := Rep.start HA.sz HA.df
            replace hrep := hrep.know hs
            have HP1 := Lib.hid hT
            have HN := Lib.hid hF
            clear HA hs hT hF
            cases r
            case true =>
              refine abs_step (by rfl) hrep ?_
              clear hrep; intro A1 hrep
              refine abs_step (by rfl) hrep ?_
              clear hrep; intro A1 hrep
              refine abs_step (by rfl) hrep ?_
              clear hrep; intro A1 hrep
              refine abs_step (by rfl) hrep ?_
              clear hrep; intro A1 hrep
              refine abs_step (by rfl) hrep ?_
              clear hrep; intro A1 hrep
              exact C47 _ _ ⟨true, ⟨hrep.sz, hrep.df, (hrep.ev 2).trans h2, (hrep.ev 6).trans h6, S.out⟩, hrep.ev 177, (fun h => by cases h), (fun _ => HN.out rfl)⟩
            case false =>
              refine abs_val (.pointer (some ⟨w.heap.size, 27, none⟩)) rfl rfl rfl hrep (exec_addr 30 _ 15 rfl ((hrep.ev 2).trans h2) fa15) ?_
              clear hrep; intro A1 hrep
              refine abs_val (.int .u32 (x.price : Int)) rfl rfl rfl hrep (exec_load1 22 _ rfl (hrep.ev 173) (ld22 ((S.out.k.cell 27).trans X27.out))) ?_
              clear hrep; intro A1 hrep
              by_cases g : x.price ≤ 16777215
              case neg =>
                refine abs_val (.bool true) rfl rfl rfl hrep (exec_bin .gtr 22 22 _ (.const (.int .u32 16777215)) rfl (hrep.ev 174) rfl (eqg_gt _ _ _ _ _ _ _ _) (gt_int 22 .u32 _ _ _ Tryd.underlying22 (show decide ((16777215 : Int) < (x.price : Int)) = true from decide_eq_true (by omega)) _)) ?_
                clear hrep; intro A1 hrep
                refine abs_step (by rfl) hrep ?_
                clear hrep; intro A1 hrep
                refine abs_step (by rfl) hrep ?_
                clear hrep; intro A1 hrep
                exact C47 _ _ ⟨true, ⟨hrep.sz, hrep.df, (hrep.ev 2).trans h2, (hrep.ev 6).trans h6, S.out⟩, hrep.ev 177, (fun h => by cases h), (fun _ h => g (HR.out.1 h).2.2.2.2.2.2.1)⟩
              refine abs_val (.bool false) rfl rfl rfl hrep (exec_bin .gtr 22 22 _ (.const (.int .u32 16777215)) rfl (hrep.ev 174) rfl (eqg_gt _ _ _ _ _ _ _ _) (gt_int 22 .u32 _ _ _ Tryd.underlying22 (show decide ((16777215 : Int) < (x.price : Int)) = false from decide_eq_false (by omega)) _)) ?_
              clear hrep; intro A1 hrep
              refine abs_step (by rfl) hrep ?_
              clear hrep; intro A1 hrep
              refine abs_step (by rfl) hrep ?_
              clear hrep; intro A1 hrep
              exact C47 _ _ ⟨false, ⟨hrep.sz, hrep.df, (hrep.ev 2).trans h2, (hrep.ev 6).trans h6, S.out⟩, hrep.ev 177, (fun _ => ⟨(HP1.out rfl).1, (HP1.out rfl).2.1, (HP1.out rfl).2.2.1, (HP1.out rfl).2.2.2.1, (HP1.out rfl).2.2.2.2.1, (HP1.out rfl).2.2.2.2.2, g⟩), (fun h => by cases h)⟩
          (try simp only [List.drop_succ_cons, List.drop_zero, List.drop_nil] at C42)
          refine cut_at 28 (fun A W => ∃ r : Bool, TcA w X ⟨(hasF x.kind).toArray⟩ A W ∧ A.eval (.tmp 158) = .bool r ∧ (r = false → startP x ∧ (zb x 1 = true ∨ cov x x.er x.en) ∧ (zb x 4 = true ∨ cov x x.ar x.an) ∧ (zb x 8 = true ∨ cov x x.vr x.vn) ∧ (zb x 2 = true ∨ grantP x)) ∧ (r = true → ¬ rightP x)) ?_ (fun C28 => ?_)
          · intro A0 W0 HH
            (try simp only [List.drop_succ_cons, List.drop_zero, List.drop_nil])
            obtain ⟨r, HA, hs, hT, hF⟩ := HH
            have h2 := HA.t2
            have h6 := HA.t6
            have S := Lib.hid HA.wk
            have hrep : Rep 186 A0 [] A0 := Rep.start HA.sz HA.df
            replace hrep := hrep.know hs
            have HP1 := Lib.hid hT
            have HN := Lib.hid hF
            clear HA hs hT hF
            cases r
            case true =>
              refine abs_step (by rfl) hrep ?_
              clear hrep; intro A1 hrep
              refine abs_step (by rfl) hrep ?_
              clear hrep; intro A1 hrep
              refine abs_step (by rfl) hrep ?_
              clear hrep; intro A1 hrep
              refine abs_step (by rfl) hrep ?_
              clear hrep; intro A1 hrep
              refine abs_step (by rfl) hrep ?_
              clear hrep; intro A1 hrep
              refine abs_step (by rfl) hrep ?_
              clear hrep; intro A1 hrep
              refine abs_step (by rfl) hrep ?_
              clear hrep; intro A1 hrep
              refine abs_step (by rfl) hrep ?_
              clear hrep; intro A1 hrep
              refine abs_step (by rfl) hrep ?_
              clear hrep; intro A1 hrep
              refine abs_step (by rfl) hrep ?_
              clear hrep; intro A1 hrep
              refine abs_step (by rfl) hrep ?_
              clear hrep; intro A1 hrep
              refine abs_step (by rfl) hrep ?_
              clear hrep; intro A1 hrep
              refine abs_step (by rfl) hrep ?_
              clear hrep; intro A1 hrep
              refine abs_step (by rfl) hrep ?_
              clear hrep; intro A1 hrep
              exact C42 _ _ ⟨true, ⟨hrep.sz, hrep.df, (hrep.ev 2).trans h2, (hrep.ev 6).trans h6, S.out⟩, hrep.ev 172, (fun h => by cases h), (fun _ => HN.out rfl)⟩
            case false =>
              cases z113 : (hasF x.kind).contains 113
              case false =>
                refine abs_step (by rfl) hrep ?_
                clear hrep; intro A1 hrep
                refine abs_call rfl rfl rfl hrep (exec_call0 rfl rfl (map2 ((hrep.ev 159).trans h6) rfl) en23) ?_
                refine (IN.out _ 113 113 rfl false z113).mono ?_
                rintro _ wn ⟨rfl, hb⟩
                have S := Lib.hid (S.out.below hb)
                clear hb
                refine ⟨_, rfl, ?_⟩
                clear hrep; intro A1 hrep
                refine abs_step (by rfl) hrep ?_
                clear hrep; intro A1 hrep
                refine abs_step (by rfl) hrep ?_
                clear hrep; intro A1 hrep
                refine abs_step (by rfl) hrep ?_
                clear hrep; intro A1 hrep
                refine abs_step (by rfl) hrep ?_
                clear hrep; intro A1 hrep
                refine abs_step (by rfl) hrep ?_
                clear hrep; intro A1 hrep
                refine abs_step (by rfl) hrep ?_
                clear hrep; intro A1 hrep
                refine abs_step (by rfl) hrep ?_
                clear hrep; intro A1 hrep
                refine abs_step (by rfl) hrep ?_
                clear hrep; intro A1 hrep
                refine abs_step (by rfl) hrep ?_
                clear hrep; intro A1 hrep
                refine abs_step (by rfl) hrep ?_
                clear hrep; intro A1 hrep
                refine abs_step (by rfl) hrep ?_
                clear hrep; intro A1 hrep
                refine abs_step (by rfl) hrep ?_
                clear hrep; intro A1 hrep
                exact C42 _ _ ⟨false, ⟨hrep.sz, hrep.df, (hrep.ev 2).trans h2, (hrep.ev 6).trans h6, S.out⟩, hrep.ev 172, (fun _ => ⟨(HP1.out rfl).1, (HP1.out rfl).2.1, (HP1.out rfl).2.2.1, (HP1.out rfl).2.2.2.1, (HP1.out rfl).2.2.2.2, Or.inl (ZB32.out.2 z113)⟩), (fun h => by cases h)⟩
              case true =>
                refine abs_step (by rfl) hrep ?_
                clear hrep; intro A1 hrep
                refine abs_call rfl rfl rfl hrep (exec_call0 rfl rfl (map2 ((hrep.ev 159).trans h6) rfl) en23) ?_
                refine (IN.out _ 113 113 rfl true z113).mono ?_
                rintro _ wn ⟨rfl, hb⟩
                have S := Lib.hid (S.out.below hb)
                clear hb
                refine ⟨_, rfl, ?_⟩
                clear hrep; intro A1 hrep
                refine abs_step (by rfl) hrep ?_
                clear hrep; intro A1 hrep
                refine abs_val (.pointer (some ⟨w.heap.size, 26, none⟩)) rfl rfl rfl hrep (exec_addr 30 _ 14 rfl ((hrep.ev 2).trans h2) fa14) ?_
                clear hrep; intro A1 hrep
                refine abs_val (.int .u32 (x.qty : Int)) rfl rfl rfl hrep (exec_load1 22 _ rfl (hrep.ev 162) (ld22 ((S.out.k.cell 26).trans X26.out))) ?_
                clear hrep; intro A1 hrep
                by_cases g0 : 1 ≤ x.qty
                case neg =>
                  refine abs_val (.bool true) rfl rfl rfl hrep (exec_bin .lss 22 22 _ (.const (.int .u32 1)) rfl (hrep.ev 163) rfl (eqg_gt _ _ _ _ _ _ _ _) (lt_int 22 .u32 _ _ _ Tryd.underlying22 (show decide ((x.qty : Int) < (1 : Int)) = true from decide_eq_true (by omega)) _)) ?_
                  clear hrep; intro A1 hrep
                  refine abs_step (by rfl) hrep ?_
                  clear hrep; intro A1 hrep
                  refine abs_step (by rfl) hrep ?_
                  clear hrep; intro A1 hrep
                  refine abs_step (by rfl) hrep ?_
                  clear hrep; intro A1 hrep
                  refine abs_step (by rfl) hrep ?_
                  clear hrep; intro A1 hrep
                  refine abs_step (by rfl) hrep ?_
                  clear hrep; intro A1 hrep
                  refine abs_step (by rfl) hrep ?_
                  clear hrep; intro A1 hrep
                  refine abs_step (by rfl) hrep ?_
                  clear hrep; intro A1 hrep
                  refine abs_step (by rfl) hrep ?_
                  clear hrep; intro A1 hrep
                  exact C42 _ _ ⟨true, ⟨hrep.sz, hrep.df, (hrep.ev 2).trans h2, (hrep.ev 6).trans h6, S.out⟩, hrep.ev 172, (fun h => by cases h), (fun _ h => nz_of ZB32.out z113 (fun q => g0 q.1) (HR.out.1 h).2.2.2.2.2.1)⟩
                refine abs_val (.bool false) rfl rfl rfl hrep (exec_bin .lss 22 22 _ (.const (.int .u32 1)) rfl (hrep.ev 163) rfl (eqg_gt _ _ _ _ _ _ _ _) (lt_int 22 .u32 _ _ _ Tryd.underlying22 (show decide ((x.qty : Int) < (1 : Int)) = false from decide_eq_false (by omega)) _)) ?_
                clear hrep; intro A1 hrep
                refine abs_step (by rfl) hrep ?_
                clear hrep; intro A1 hrep
                refine abs_val (.pointer (some ⟨w.heap.size, 26, none⟩)) rfl rfl rfl hrep (exec_addr 30 _ 14 rfl ((hrep.ev 2).trans h2) fa14) ?_
                clear hrep; intro A1 hrep
                refine abs_val (.int .u32 (x.qty : Int)) rfl rfl rfl hrep (exec_load1 22 _ rfl (hrep.ev 166) (ld22 ((S.out.k.cell 26).trans X26.out))) ?_
                clear hrep; intro A1 hrep
                by_cases g1 : x.qty ≤ 65535
                case neg =>
                  refine abs_val (.bool true) rfl rfl rfl hrep (exec_bin .gtr 22 22 _ (.const (.int .u32 65535)) rfl (hrep.ev 167) rfl (eqg_gt _ _ _ _ _ _ _ _) (gt_int 22 .u32 _ _ _ Tryd.underlying22 (show decide ((65535 : Int) < (x.qty : Int)) = true from decide_eq_true (by omega)) _)) ?_
                  clear hrep; intro A1 hrep
                  refine abs_step (by rfl) hrep ?_
                  clear hrep; intro A1 hrep
                  refine abs_step (by rfl) hrep ?_
                  clear hrep; intro A1 hrep
                  refine abs_step (by rfl) hrep ?_
                  clear hrep; intro A1 hrep
                  refine abs_step (by rfl) hrep ?_
                  clear hrep; intro A1 hrep
                  exact C42 _ _ ⟨true, ⟨hrep.sz, hrep.df, (hrep.ev 2).trans h2, (hrep.ev 6).trans h6, S.out⟩, hrep.ev 172, (fun h => by cases h), (fun _ h => nz_of ZB32.out z113 (fun q => g1 q.2) (HR.out.1 h).2.2.2.2.2.1)⟩
                refine abs_val (.bool false) rfl rfl rfl hrep (exec_bin .gtr 22 22 _ (.const (.int .u32 65535)) rfl (hrep.ev 167) rfl (eqg_gt _ _ _ _ _ _ _ _) (gt_int 22 .u32 _ _ _ Tryd.underlying22 (show decide ((65535 : Int) < (x.qty : Int)) = false from decide_eq_false (by omega)) _)) ?_
                clear hrep; intro A1 hrep
                refine abs_step (by rfl) hrep ?_
                clear hrep; intro A1 hrep
                refine abs_step (by rfl) hrep ?_
                clear hrep; intro A1 hrep
                refine abs_step (by rfl) hrep ?_
                clear hrep; intro A1 hrep
                refine abs_step (by rfl) hrep ?_
                clear hrep; intro A1 hrep
                exact C42 _ _ ⟨false, ⟨hrep.sz, hrep.df, (hrep.ev 2).trans h2, (hrep.ev 6).trans h6, S.out⟩, hrep.ev 172, (fun _ => ⟨(HP1.out rfl).1, (HP1.out rfl).2.1, (HP1.out rfl).2.2.1, (HP1.out rfl).2.2.2.1, (HP1.out rfl).2.2.2.2, Or.inr ⟨g0, g1⟩⟩), (fun h => by cases h)⟩
          (try simp only [List.drop_succ_cons, List.drop_zero, List.drop_nil] at C28)
          have h2 := HA.out.t2
          have h6 := HA.out.t6
          have S := Lib.hid HA.out.wk
          have hrep : Rep 186 A0 [] A0 := Rep.start HA.out.sz HA.out.df
          clear HA
          cases z116 : (hasF x.kind).contains 116
          case false =>
            refine abs_step (by rfl) hrep ?_
            clear hrep; intro A1 hrep
            refine abs_call rfl rfl rfl hrep (exec_call0 rfl rfl (map2 ((hrep.ev 131).trans h6) rfl) en23) ?_
            refine (IN.out _ 116 116 rfl false z116).mono ?_
            rintro _ wn ⟨rfl, hb⟩
            have S := Lib.hid (S.out.below hb)
            clear hb
            refine ⟨_, rfl, ?_⟩
            clear hrep; intro A1 hrep
            refine abs_step (by rfl) hrep ?_
            clear hrep; intro A1 hrep
            refine abs_step (by rfl) hrep ?_
            clear hrep; intro A1 hrep
            refine abs_step (by rfl) hrep ?_
            clear hrep; intro A1 hrep
            refine abs_step (by rfl) hrep ?_
            clear hrep; intro A1 hrep
            refine abs_step (by rfl) hrep ?_
            clear hrep; intro A1 hrep
            refine abs_step (by rfl) hrep ?_
            clear hrep; intro A1 hrep
            refine abs_step (by rfl) hrep ?_
            clear hrep; intro A1 hrep
            refine abs_step (by rfl) hrep ?_
            clear hrep; intro A1 hrep
            refine abs_step (by rfl) hrep ?_
            clear hrep; intro A1 hrep
            refine abs_step (by rfl) hrep ?_
            clear hrep; intro A1 hrep
            refine abs_step (by rfl) hrep ?_
            clear hrep; intro A1 hrep
            refine abs_step (by rfl) hrep ?_
            clear hrep; intro A1 hrep
            refine abs_step (by rfl) hrep ?_
            clear hrep; intro A1 hrep
            refine abs_step (by rfl) hrep ?_
            clear hrep; intro A1 hrep
            refine abs_step (by rfl) hrep ?_
            clear hrep; intro A1 hrep
            refine abs_step (by rfl) hrep ?_
            clear hrep; intro A1 hrep
            refine abs_step (by rfl) hrep ?_
            clear hrep; intro A1 hrep
            refine abs_step (by rfl) hrep ?_
            clear hrep; intro A1 hrep
            refine abs_step (by rfl) hrep ?_
            clear hrep; intro A1 hrep
            refine abs_step (by rfl) hrep ?_
            clear hrep; intro A1 hrep
            refine abs_step (by rfl) hrep ?_
            clear hrep; intro A1 hrep
            refine abs_step (by rfl) hrep ?_
            clear hrep; intro A1 hrep
            refine abs_step (by rfl) hrep ?_
            clear hrep; intro A1 hrep
            refine abs_step (by rfl) hrep ?_
            clear hrep; intro A1 hrep
            refine abs_step (by rfl) hrep ?_
            clear hrep; intro A1 hrep
            refine abs_step (by rfl) hrep ?_
            clear hrep; intro A1 hrep
            exact C28 _ _ ⟨false, ⟨hrep.sz, hrep.df, (hrep.ev 2).trans h2, (hrep.ev 6).trans h6, S.out⟩, hrep.ev 158, (fun _ => ⟨(HT11.out).1, (HT11.out).2.1, (HT11.out).2.2.1, (HT11.out).2.2.2, Or.inl (ZB2.out.2 z116)⟩), (fun h => by cases h)⟩
          case true =>
            refine abs_step (by rfl) hrep ?_
            clear hrep; intro A1 hrep
            refine abs_call rfl rfl rfl hrep (exec_call0 rfl rfl (map2 ((hrep.ev 131).trans h6) rfl) en23) ?_
            refine (IN.out _ 116 116 rfl true z116).mono ?_
            rintro _ wn ⟨rfl, hb⟩
            have S := Lib.hid (S.out.below hb)
            clear hb
            refine ⟨_, rfl, ?_⟩
            clear hrep; intro A1 hrep
            refine abs_step (by rfl) hrep ?_
            clear hrep; intro A1 hrep
            refine abs_val (.pointer (some ⟨w.heap.size, 17, none⟩)) rfl rfl rfl hrep (exec_addr 30 _ 7 rfl ((hrep.ev 2).trans h2) fa7) ?_
            clear hrep; intro A1 hrep
            refine abs_val (.int .u32 (x.dest : Int)) rfl rfl rfl hrep (exec_load1 22 _ rfl (hrep.ev 134) (ld22 ((S.out.k.cell 17).trans X17.out))) ?_
            clear hrep; intro A1 hrep
            by_cases g0 : 1 ≤ x.dest
            case neg =>
              refine abs_val (.bool true) rfl rfl rfl hrep (exec_bin .eql 22 22 _ (.const (.int .u32 0)) rfl (hrep.ev 135) rfl (eqg_gt _ _ _ _ _ _ _ _) (eq_int 22 .u32 _ _ _ Tryd.underlying22 (show ((x.dest : Int) == (0 : Int)) = true from by (try simp only [bne]); (try rw [Bool.not_eq_true']); (try rw [Bool.not_eq_false']); rw [beq_iff_eq]; omega) _)) ?_
              clear hrep; intro A1 hrep
              refine abs_step (by rfl) hrep ?_
              clear hrep; intro A1 hrep
              refine abs_step (by rfl) hrep ?_
              clear hrep; intro A1 hrep
              refine abs_step (by rfl) hrep ?_
              clear hrep; intro A1 hrep
              refine abs_step (by rfl) hrep ?_
              clear hrep; intro A1 hrep
              refine abs_step (by rfl) hrep ?_
              clear hrep; intro A1 hrep
              refine abs_step (by rfl) hrep ?_
              clear hrep; intro A1 hrep
              refine abs_step (by rfl) hrep ?_
              clear hrep; intro A1 hrep
              refine abs_step (by rfl) hrep ?_
              clear hrep; intro A1 hrep
              refine abs_step (by rfl) hrep ?_
              clear hrep; intro A1 hrep
              refine abs_step (by rfl) hrep ?_
              clear hrep; intro A1 hrep
              refine abs_step (by rfl) hrep ?_
              clear hrep; intro A1 hrep
              refine abs_step (by rfl) hrep ?_
              clear hrep; intro A1 hrep
              refine abs_step (by rfl) hrep ?_
              clear hrep; intro A1 hrep
              refine abs_step (by rfl) hrep ?_
              clear hrep; intro A1 hrep
              refine abs_step (by rfl) hrep ?_
              clear hrep; intro A1 hrep
              refine abs_step (by rfl) hrep ?_
              clear hrep; intro A1 hrep
              refine abs_step (by rfl) hrep ?_
              clear hrep; intro A1 hrep
              refine abs_step (by rfl) hrep ?_
              clear hrep; intro A1 hrep
              refine abs_step (by rfl) hrep ?_
              clear hrep; intro A1 hrep
              refine abs_step (by rfl) hrep ?_
              clear hrep; intro A1 hrep
              refine abs_step (by rfl) hrep ?_
              clear hrep; intro A1 hrep
              refine abs_step (by rfl) hrep ?_
              clear hrep; intro A1 hrep
              exact C28 _ _ ⟨true, ⟨hrep.sz, hrep.df, (hrep.ev 2).trans h2, (hrep.ev 6).trans h6, S.out⟩, hrep.ev 158, (fun h => by cases h), (fun _ h => nz_of ZB2.out z116 (fun q => g0 q.1) (HR.out.1 h).2.2.2.2.1)⟩
            refine abs_val (.bool false) rfl rfl rfl hrep (exec_bin .eql 22 22 _ (.const (.int .u32 0)) rfl (hrep.ev 135) rfl (eqg_gt _ _ _ _ _ _ _ _) (eq_int 22 .u32 _ _ _ Tryd.underlying22 (show ((x.dest : Int) == (0 : Int)) = false from by (try simp only [bne]); (try rw [Bool.not_eq_true']); (try rw [Bool.not_eq_false']); rw [beq_eq_false_iff_ne]; omega) _)) ?_
            clear hrep; intro A1 hrep
            refine abs_step (by rfl) hrep ?_
            clear hrep; intro A1 hrep
            refine abs_val (.pointer (some ⟨w.heap.size, 18, none⟩)) rfl rfl rfl hrep (exec_addr 30 _ 8 rfl ((hrep.ev 2).trans h2) fa8) ?_
            clear hrep; intro A1 hrep
            refine abs_val (.int .u8 (x.roles : Int)) rfl rfl rfl hrep (exec_load1 5 _ rfl (hrep.ev 138) (ld5 ((S.out.k.cell 18).trans X18.out))) ?_
            clear hrep; intro A1 hrep
            by_cases g1 : 1 ≤ x.roles
            case neg =>
              refine abs_val (.bool true) rfl rfl rfl hrep (exec_bin .lss 5 5 _ (.const (.int .u8 1)) rfl (hrep.ev 139) rfl (eqg_gt _ _ _ _ _ _ _ _) (lt_int 5 .u8 _ _ _ Tryd.underlying5 (show decide ((x.roles : Int) < (1 : Int)) = true from decide_eq_true (by omega)) _)) ?_
              clear hrep; intro A1 hrep
              refine abs_step (by rfl) hrep ?_
              clear hrep; intro A1 hrep
              refine abs_step (by rfl) hrep ?_
              clear hrep; intro A1 hrep
              refine abs_step (by rfl) hrep ?_
              clear hrep; intro A1 hrep
              refine abs_step (by rfl) hrep ?_
              clear hrep; intro A1 hrep
              refine abs_step (by rfl) hrep ?_
              clear hrep; intro A1 hrep
              refine abs_step (by rfl) hrep ?_
              clear hrep; intro A1 hrep
              refine abs_step (by rfl) hrep ?_
              clear hrep; intro A1 hrep
              refine abs_step (by rfl) hrep ?_
              clear hrep; intro A1 hrep
              refine abs_step (by rfl) hrep ?_
              clear hrep; intro A1 hrep
              refine abs_step (by rfl) hrep ?_
              clear hrep; intro A1 hrep
              refine abs_step (by rfl) hrep ?_
              clear hrep; intro A1 hrep
              refine abs_step (by rfl) hrep ?_
              clear hrep; intro A1 hrep
              refine abs_step (by rfl) hrep ?_
              clear hrep; intro A1 hrep
              refine abs_step (by rfl) hrep ?_
              clear hrep; intro A1 hrep
              refine abs_step (by rfl) hrep ?_
              clear hrep; intro A1 hrep
              refine abs_step (by rfl) hrep ?_
              clear hrep; intro A1 hrep
              refine abs_step (by rfl) hrep ?_
              clear hrep; intro A1 hrep
              refine abs_step (by rfl) hrep ?_
              clear hrep; intro A1 hrep
              exact C28 _ _ ⟨true, ⟨hrep.sz, hrep.df, (hrep.ev 2).trans h2, (hrep.ev 6).trans h6, S.out⟩, hrep.ev 158, (fun h => by cases h), (fun _ h => nz_of ZB2.out z116 (fun q => g1 q.2.1) (HR.out.1 h).2.2.2.2.1)⟩
            refine abs_val (.bool false) rfl rfl rfl hrep (exec_bin .lss 5 5 _ (.const (.int .u8 1)) rfl (hrep.ev 139) rfl (eqg_gt _ _ _ _ _ _ _ _) (lt_int 5 .u8 _ _ _ Tryd.underlying5 (show decide ((x.roles : Int) < (1 : Int)) = false from decide_eq_false (by omega)) _)) ?_
            clear hrep; intro A1 hrep
            refine abs_step (by rfl) hrep ?_
            clear hrep; intro A1 hrep
            refine abs_step (by rfl) hrep ?_
            clear hrep; intro A1 hrep
            refine abs_val (.pointer (some ⟨w.heap.size, 18, none⟩)) rfl rfl rfl hrep (exec_addr 30 _ 8 rfl ((hrep.ev 2).trans h2) fa8) ?_
            clear hrep; intro A1 hrep
            refine abs_val (.int .u8 (x.roles : Int)) rfl rfl rfl hrep (exec_load1 5 _ rfl (hrep.ev 143) (ld5 ((S.out.k.cell 18).trans X18.out))) ?_
            clear hrep; intro A1 hrep
            by_cases g2 : x.roles ≤ 7
            case neg =>
              refine abs_val (.bool true) rfl rfl rfl hrep (exec_bin .gtr 5 5 _ (.const (.int .u8 7)) rfl (hrep.ev 144) rfl (eqg_gt _ _ _ _ _ _ _ _) (gt_int 5 .u8 _ _ _ Tryd.underlying5 (show decide ((7 : Int) < (x.roles : Int)) = true from decide_eq_true (by omega)) _)) ?_
              clear hrep; intro A1 hrep
              refine abs_step (by rfl) hrep ?_
              clear hrep; intro A1 hrep
              refine abs_step (by rfl) hrep ?_
              clear hrep; intro A1 hrep
              refine abs_step (by rfl) hrep ?_
              clear hrep; intro A1 hrep
              refine abs_step (by rfl) hrep ?_
              clear hrep; intro A1 hrep
              refine abs_step (by rfl) hrep ?_
              clear hrep; intro A1 hrep
              refine abs_step (by rfl) hrep ?_
              clear hrep; intro A1 hrep
              refine abs_step (by rfl) hrep ?_
              clear hrep; intro A1 hrep
              refine abs_step (by rfl) hrep ?_
              clear hrep; intro A1 hrep
              refine abs_step (by rfl) hrep ?_
              clear hrep; intro A1 hrep
              refine abs_step (by rfl) hrep ?_
              clear hrep; intro A1 hrep
              refine abs_step (by rfl) hrep ?_
              clear hrep; intro A1 hrep
              refine abs_step (by rfl) hrep ?_
              clear hrep; intro A1 hrep
              refine abs_step (by rfl) hrep ?_
              clear hrep; intro A1 hrep
              exact C28 _ _ ⟨true, ⟨hrep.sz, hrep.df, (hrep.ev 2).trans h2, (hrep.ev 6).trans h6, S.out⟩, hrep.ev 158, (fun h => by cases h), (fun _ h => nz_of ZB2.out z116 (fun q => g2 q.2.2.1) (HR.out.1 h).2.2.2.2.1)⟩
            refine abs_val (.bool false) rfl rfl rfl hrep (exec_bin .gtr 5 5 _ (.const (.int .u8 7)) rfl (hrep.ev 144) rfl (eqg_gt _ _ _ _ _ _ _ _) (gt_int 5 .u8 _ _ _ Tryd.underlying5 (show decide ((7 : Int) < (x.roles : Int)) = false from decide_eq_false (by omega)) _)) ?_
            clear hrep; intro A1 hrep
            refine abs_step (by rfl) hrep ?_
            clear hrep; intro A1 hrep
            refine abs_step (by rfl) hrep ?_
            clear hrep; intro A1 hrep
            refine abs_val (.pointer (some ⟨w.heap.size, 19, none⟩)) rfl rfl rfl hrep (exec_addr 30 _ 9 rfl ((hrep.ev 2).trans h2) fa9) ?_
            clear hrep; intro A1 hrep
            refine abs_val (.int .u8 (x.depth : Int)) rfl rfl rfl hrep (exec_load1 5 _ rfl (hrep.ev 148) (ld5 ((S.out.k.cell 19).trans X19.out))) ?_
            clear hrep; intro A1 hrep
            by_cases g3 : x.depth ≤ 7
            case neg =>
              refine abs_val (.bool true) rfl rfl rfl hrep (exec_bin .gtr 5 5 _ (.const (.int .u8 7)) rfl (hrep.ev 149) rfl (eqg_gt _ _ _ _ _ _ _ _) (gt_int 5 .u8 _ _ _ Tryd.underlying5 (show decide ((7 : Int) < (x.depth : Int)) = true from decide_eq_true (by omega)) _)) ?_
              clear hrep; intro A1 hrep
              refine abs_step (by rfl) hrep ?_
              clear hrep; intro A1 hrep
              refine abs_step (by rfl) hrep ?_
              clear hrep; intro A1 hrep
              refine abs_step (by rfl) hrep ?_
              clear hrep; intro A1 hrep
              refine abs_step (by rfl) hrep ?_
              clear hrep; intro A1 hrep
              refine abs_step (by rfl) hrep ?_
              clear hrep; intro A1 hrep
              refine abs_step (by rfl) hrep ?_
              clear hrep; intro A1 hrep
              refine abs_step (by rfl) hrep ?_
              clear hrep; intro A1 hrep
              refine abs_step (by rfl) hrep ?_
              clear hrep; intro A1 hrep
              exact C28 _ _ ⟨true, ⟨hrep.sz, hrep.df, (hrep.ev 2).trans h2, (hrep.ev 6).trans h6, S.out⟩, hrep.ev 158, (fun h => by cases h), (fun _ h => nz_of ZB2.out z116 (fun q => g3 q.2.2.2.1) (HR.out.1 h).2.2.2.2.1)⟩
            refine abs_val (.bool false) rfl rfl rfl hrep (exec_bin .gtr 5 5 _ (.const (.int .u8 7)) rfl (hrep.ev 149) rfl (eqg_gt _ _ _ _ _ _ _ _) (gt_int 5 .u8 _ _ _ Tryd.underlying5 (show decide ((7 : Int) < (x.depth : Int)) = false from decide_eq_false (by omega)) _)) ?_
            clear hrep; intro A1 hrep
            refine abs_step (by rfl) hrep ?_
            clear hrep; intro A1 hrep
            refine abs_step (by rfl) hrep ?_
            clear hrep; intro A1 hrep
            refine abs_val (.pointer (some ⟨w.heap.size, 20, none⟩)) rfl rfl rfl hrep (exec_addr 30 _ 10 rfl ((hrep.ev 2).trans h2) fa10) ?_
            clear hrep; intro A1 hrep
            refine abs_val (.int .u64 (x.cap : Int)) rfl rfl rfl hrep (exec_load1 27 _ rfl (hrep.ev 153) (ld80 ((S.out.k.cell 20).trans X20.out))) ?_
            clear hrep; intro A1 hrep
            by_cases g4 : x.cap ≤ 1099511627776
            case neg =>
              refine abs_val (.bool true) rfl rfl rfl hrep (exec_bin .gtr 27 27 _ (.const (.int .u64 1099511627776)) rfl (hrep.ev 154) rfl (eqg_gt _ _ _ _ _ _ _ _) (gt_int 27 .u64 _ _ _ Tryd.underlying27 (show decide ((1099511627776 : Int) < (x.cap : Int)) = true from decide_eq_true (by omega)) _)) ?_
              clear hrep; intro A1 hrep
              refine abs_step (by rfl) hrep ?_
              clear hrep; intro A1 hrep
              refine abs_step (by rfl) hrep ?_
              clear hrep; intro A1 hrep
              refine abs_step (by rfl) hrep ?_
              clear hrep; intro A1 hrep
              exact C28 _ _ ⟨true, ⟨hrep.sz, hrep.df, (hrep.ev 2).trans h2, (hrep.ev 6).trans h6, S.out⟩, hrep.ev 158, (fun h => by cases h), (fun _ h => nz_of ZB2.out z116 (fun q => g4 q.2.2.2.2) (HR.out.1 h).2.2.2.2.1)⟩
            refine abs_val (.bool false) rfl rfl rfl hrep (exec_bin .gtr 27 27 _ (.const (.int .u64 1099511627776)) rfl (hrep.ev 154) rfl (eqg_gt _ _ _ _ _ _ _ _) (gt_int 27 .u64 _ _ _ Tryd.underlying27 (show decide ((1099511627776 : Int) < (x.cap : Int)) = false from decide_eq_false (by omega)) _)) ?_
            clear hrep; intro A1 hrep
            refine abs_step (by rfl) hrep ?_
            clear hrep; intro A1 hrep
            refine abs_step (by rfl) hrep ?_
            clear hrep; intro A1 hrep
            refine abs_step (by rfl) hrep ?_
            clear hrep; intro A1 hrep
            exact C28 _ _ ⟨false, ⟨hrep.sz, hrep.df, (hrep.ev 2).trans h2, (hrep.ev 6).trans h6, S.out⟩, hrep.ev 158, (fun _ => ⟨(HT11.out).1, (HT11.out).2.1, (HT11.out).2.2.1, (HT11.out).2.2.2, Or.inr ⟨g0, g1, g2, g3, g4⟩⟩), (fun h => by cases h)⟩
      (try simp only [List.drop_succ_cons, List.drop_zero, List.drop_nil] at C55)
      refine cut_at 45 (fun A W => ∃ r : Bool, TcA w X ⟨(hasF x.kind).toArray⟩ A W ∧ A.eval (.tmp 120) = .bool r ∧ (r = false → startP x ∧ (zb x 1 = true ∨ cov x x.er x.en) ∧ (zb x 4 = true ∨ cov x x.ar x.an)) ∧ (r = true → ¬ rightP x)) ?_ (fun C45 => ?_)
      · intro A0 W0 HH
        (try simp only [List.drop_succ_cons, List.drop_zero, List.drop_nil])
        obtain ⟨r, HA, hs, hT, hF⟩ := HH
        have h2 := HA.t2
        have h6 := HA.t6
        have S := Lib.hid HA.wk
        have hrep : Rep 186 A0 [] A0 := Rep.start HA.sz HA.df
        replace hrep := hrep.know hs
        have HP1 := Lib.hid hT
        have HN := Lib.hid hF
        clear HA hs hT hF
        cases r
        case true =>
          refine abs_step (by rfl) hrep ?_
          clear hrep; intro A1 hrep
          refine abs_step (by rfl) hrep ?_
          clear hrep; intro A1 hrep
          refine abs_step (by rfl) hrep ?_
          clear hrep; intro A1 hrep
          refine abs_step (by rfl) hrep ?_
          clear hrep; intro A1 hrep
          refine abs_step (by rfl) hrep ?_
          clear hrep; intro A1 hrep
          refine abs_step (by rfl) hrep ?_
          clear hrep; intro A1 hrep
          refine abs_step (by rfl) hrep ?_
          clear hrep; intro A1 hrep
          refine abs_step (by rfl) hrep ?_
          clear hrep; intro A1 hrep
          refine abs_step (by rfl) hrep ?_
          clear hrep; intro A1 hrep
          refine abs_step (by rfl) hrep ?_
          clear hrep; intro A1 hrep
          exact C55 _ _ ⟨true, ⟨hrep.sz, hrep.df, (hrep.ev 2).trans h2, (hrep.ev 6).trans h6, S.out⟩, hrep.ev 130, (fun h => by cases h), (fun _ => HN.out rfl)⟩
        case false =>
          cases z118 : (hasF x.kind).contains 118
          case false =>
            refine abs_step (by rfl) hrep ?_
            clear hrep; intro A1 hrep
            refine abs_call rfl rfl rfl hrep (exec_call0 rfl rfl (map2 ((hrep.ev 121).trans h6) rfl) en23) ?_
            refine (IN.out _ 118 118 rfl false z118).mono ?_
            rintro _ wn ⟨rfl, hb⟩
            have S := Lib.hid (S.out.below hb)
            clear hb
            refine ⟨_, rfl, ?_⟩
            clear hrep; intro A1 hrep
            refine abs_step (by rfl) hrep ?_
            clear hrep; intro A1 hrep
            refine abs_step (by rfl) hrep ?_
            clear hrep; intro A1 hrep
            refine abs_step (by rfl) hrep ?_
            clear hrep; intro A1 hrep
            refine abs_step (by rfl) hrep ?_
            clear hrep; intro A1 hrep
            refine abs_step (by rfl) hrep ?_
            clear hrep; intro A1 hrep
            refine abs_step (by rfl) hrep ?_
            clear hrep; intro A1 hrep
            refine abs_step (by rfl) hrep ?_
            clear hrep; intro A1 hrep
            refine abs_step (by rfl) hrep ?_
            clear hrep; intro A1 hrep
            exact C55 _ _ ⟨false, ⟨hrep.sz, hrep.df, (hrep.ev 2).trans h2, (hrep.ev 6).trans h6, S.out⟩, hrep.ev 130, (fun _ => ⟨(HP1.out rfl).1, (HP1.out rfl).2.1, (HP1.out rfl).2.2, Or.inl (ZB8.out.2 z118)⟩), (fun h => by cases h)⟩
          case true =>
            refine abs_step (by rfl) hrep ?_
            clear hrep; intro A1 hrep
            refine abs_call rfl rfl rfl hrep (exec_call0 rfl rfl (map2 ((hrep.ev 121).trans h6) rfl) en23) ?_
            refine (IN.out _ 118 118 rfl true z118).mono ?_
            rintro _ wn ⟨rfl, hb⟩
            have S := Lib.hid (S.out.below hb)
            clear hb
            refine ⟨_, rfl, ?_⟩
            clear hrep; intro A1 hrep
            refine abs_step (by rfl) hrep ?_
            clear hrep; intro A1 hrep
            refine abs_val (.agg X) rfl rfl rfl hrep (exec_load1 30 _ rfl ((hrep.ev 2).trans h2) (ld122 S.out.k HSX.out)) ?_
            clear hrep; intro A1 hrep
            refine abs_val (.pointer (some ⟨w.heap.size, 23, none⟩)) rfl rfl rfl hrep (exec_addr 30 _ 12 rfl ((hrep.ev 2).trans h2) fa12) ?_
            clear hrep; intro A1 hrep
            refine abs_val (.agg #[.int .u8 (x.vr : Int), .int .u32 (x.vn : Int)]) rfl rfl rfl hrep (exec_load1 24 _ rfl (hrep.ev 125) (ld82 (o := 23) ((S.out.k.cell 23).trans X23.out) ((S.out.k.cell 24).trans X24.out))) ?_
            clear hrep; intro A1 hrep
            by_cases k2 : cov x x.vr x.vn
            case pos =>
              refine abs_call rfl rfl rfl hrep (exec_call0 rfl rfl (map2 (hrep.ev 124) (hrep.ev 126)) en10) ?_
              refine (CV.out _ x.vr x.vn HBD.out.2.2.2.2.2.2.2.2.2.2.1 HBD.out.2.2.2.2.2.2.2.2.2.2.2 true (decide_eq_true k2)).mono ?_
              rintro _ wn ⟨rfl, hb⟩
              have S := Lib.hid (S.out.below hb)
              clear hb
              refine ⟨_, rfl, ?_⟩
              clear hrep; intro A1 hrep
              refine abs_val (.bool false) rfl rfl rfl hrep (exec_not (b := true) rfl (hrep.ev 127)) ?_
              clear hrep; intro A1 hrep
              refine abs_step (by rfl) hrep ?_
              clear hrep; intro A1 hrep
              refine abs_step (by rfl) hrep ?_
              clear hrep; intro A1 hrep
              exact C55 _ _ ⟨false, ⟨hrep.sz, hrep.df, (hrep.ev 2).trans h2, (hrep.ev 6).trans h6, S.out⟩, hrep.ev 130, (fun _ => ⟨(HP1.out rfl).1, (HP1.out rfl).2.1, (HP1.out rfl).2.2, Or.inr k2⟩), (fun h => by cases h)⟩
            case neg =>
              refine abs_call rfl rfl rfl hrep (exec_call0 rfl rfl (map2 (hrep.ev 124) (hrep.ev 126)) en10) ?_
              refine (CV.out _ x.vr x.vn HBD.out.2.2.2.2.2.2.2.2.2.2.1 HBD.out.2.2.2.2.2.2.2.2.2.2.2 false (decide_eq_false k2)).mono ?_
              rintro _ wn ⟨rfl, hb⟩
              have S := Lib.hid (S.out.below hb)
              clear hb
              refine ⟨_, rfl, ?_⟩
              clear hrep; intro A1 hrep
              refine abs_val (.bool true) rfl rfl rfl hrep (exec_not (b := false) rfl (hrep.ev 127)) ?_
              clear hrep; intro A1 hrep
              refine abs_step (by rfl) hrep ?_
              clear hrep; intro A1 hrep
              refine abs_step (by rfl) hrep ?_
              clear hrep; intro A1 hrep
              exact C55 _ _ ⟨true, ⟨hrep.sz, hrep.df, (hrep.ev 2).trans h2, (hrep.ev 6).trans h6, S.out⟩, hrep.ev 130, (fun h => by cases h), (fun _ h => nz_of ZB8.out z118 k2 (HR.out.1 h).2.2.2.1)⟩
      (try simp only [List.drop_succ_cons, List.drop_zero, List.drop_nil] at C45)
      refine cut_at 34 (fun A W => ∃ r : Bool, TcA w X ⟨(hasF x.kind).toArray⟩ A W ∧ A.eval (.tmp 109) = .bool r ∧ (r = false → startP x ∧ (zb x 1 = true ∨ cov x x.er x.en)) ∧ (r = true → ¬ rightP x)) ?_ (fun C34 => ?_)
      · intro A0 W0 HH
        (try simp only [List.drop_succ_cons, List.drop_zero, List.drop_nil])
        obtain ⟨r, HA, hs, hT, hF⟩ := HH
        have h2 := HA.t2
        have h6 := HA.t6
        have S := Lib.hid HA.wk
        have hrep : Rep 186 A0 [] A0 := Rep.start HA.sz HA.df
        replace hrep := hrep.know hs
        have HP1 := Lib.hid hT
        have HN := Lib.hid hF
        clear HA hs hT hF
        cases r
        case true =>
          refine abs_step (by rfl) hrep ?_
          clear hrep; intro A1 hrep
          refine abs_step (by rfl) hrep ?_
          clear hrep; intro A1 hrep
          refine abs_step (by rfl) hrep ?_
          clear hrep; intro A1 hrep
          refine abs_step (by rfl) hrep ?_
          clear hrep; intro A1 hrep
          refine abs_step (by rfl) hrep ?_
          clear hrep; intro A1 hrep
          refine abs_step (by rfl) hrep ?_
          clear hrep; intro A1 hrep
          refine abs_step (by rfl) hrep ?_
          clear hrep; intro A1 hrep
          refine abs_step (by rfl) hrep ?_
          clear hrep; intro A1 hrep
          refine abs_step (by rfl) hrep ?_
          clear hrep; intro A1 hrep
          refine abs_step (by rfl) hrep ?_
          clear hrep; intro A1 hrep
          refine abs_step (by rfl) hrep ?_
          clear hrep; intro A1 hrep
          exact C45 _ _ ⟨true, ⟨hrep.sz, hrep.df, (hrep.ev 2).trans h2, (hrep.ev 6).trans h6, S.out⟩, hrep.ev 120, (fun h => by cases h), (fun _ => HN.out rfl)⟩
        case false =>
          cases z97 : (hasF x.kind).contains 97
          case false =>
            refine abs_step (by rfl) hrep ?_
            clear hrep; intro A1 hrep
            refine abs_call rfl rfl rfl hrep (exec_call0 rfl rfl (map2 ((hrep.ev 110).trans h6) rfl) en23) ?_
            refine (IN.out _ 97 97 rfl false z97).mono ?_
            rintro _ wn ⟨rfl, hb⟩
            have S := Lib.hid (S.out.below hb)
            clear hb
            refine ⟨_, rfl, ?_⟩
            clear hrep; intro A1 hrep
            refine abs_step (by rfl) hrep ?_
            clear hrep; intro A1 hrep
            refine abs_step (by rfl) hrep ?_
            clear hrep; intro A1 hrep
            refine abs_step (by rfl) hrep ?_
            clear hrep; intro A1 hrep
            refine abs_step (by rfl) hrep ?_
            clear hrep; intro A1 hrep
            refine abs_step (by rfl) hrep ?_
            clear hrep; intro A1 hrep
            refine abs_step (by rfl) hrep ?_
            clear hrep; intro A1 hrep
            refine abs_step (by rfl) hrep ?_
            clear hrep; intro A1 hrep
            refine abs_step (by rfl) hrep ?_
            clear hrep; intro A1 hrep
            refine abs_step (by rfl) hrep ?_
            clear hrep; intro A1 hrep
            exact C45 _ _ ⟨false, ⟨hrep.sz, hrep.df, (hrep.ev 2).trans h2, (hrep.ev 6).trans h6, S.out⟩, hrep.ev 120, (fun _ => ⟨(HP1.out rfl).1, (HP1.out rfl).2, Or.inl (ZB4.out.2 z97)⟩), (fun h => by cases h)⟩
          case true =>
            refine abs_step (by rfl) hrep ?_
            clear hrep; intro A1 hrep
            refine abs_call rfl rfl rfl hrep (exec_call0 rfl rfl (map2 ((hrep.ev 110).trans h6) rfl) en23) ?_
            refine (IN.out _ 97 97 rfl true z97).mono ?_
            rintro _ wn ⟨rfl, hb⟩
            have S := Lib.hid (S.out.below hb)
            clear hb
            refine ⟨_, rfl, ?_⟩
            clear hrep; intro A1 hrep
            refine abs_step (by rfl) hrep ?_
            clear hrep; intro A1 hrep
            refine abs_val (.agg X) rfl rfl rfl hrep (exec_load1 30 _ rfl ((hrep.ev 2).trans h2) (ld122 S.out.k HSX.out)) ?_
            clear hrep; intro A1 hrep
            refine abs_val (.pointer (some ⟨w.heap.size, 21, none⟩)) rfl rfl rfl hrep (exec_addr 30 _ 11 rfl ((hrep.ev 2).trans h2) fa11) ?_
            clear hrep; intro A1 hrep
            refine abs_val (.agg #[.int .u8 (x.ar : Int), .int .u32 (x.an : Int)]) rfl rfl rfl hrep (exec_load1 24 _ rfl (hrep.ev 114) (ld82 (o := 21) ((S.out.k.cell 21).trans X21.out) ((S.out.k.cell 22).trans X22.out))) ?_
            clear hrep; intro A1 hrep
            by_cases k2 : cov x x.ar x.an
            case pos =>
              refine abs_call rfl rfl rfl hrep (exec_call0 rfl rfl (map2 (hrep.ev 113) (hrep.ev 115)) en10) ?_
              refine (CV.out _ x.ar x.an HBD.out.2.2.2.2.2.2.2.2.1 HBD.out.2.2.2.2.2.2.2.2.2.1 true (decide_eq_true k2)).mono ?_
              rintro _ wn ⟨rfl, hb⟩
              have S := Lib.hid (S.out.below hb)
              clear hb
              refine ⟨_, rfl, ?_⟩
              clear hrep; intro A1 hrep
              refine abs_val (.bool false) rfl rfl rfl hrep (exec_not (b := true) rfl (hrep.ev 116)) ?_
              clear hrep; intro A1 hrep
              refine abs_step (by rfl) hrep ?_
              clear hrep; intro A1 hrep
              refine abs_step (by rfl) hrep ?_
              clear hrep; intro A1 hrep
              refine abs_step (by rfl) hrep ?_
              clear hrep; intro A1 hrep
              exact C45 _ _ ⟨false, ⟨hrep.sz, hrep.df, (hrep.ev 2).trans h2, (hrep.ev 6).trans h6, S.out⟩, hrep.ev 120, (fun _ => ⟨(HP1.out rfl).1, (HP1.out rfl).2, Or.inr k2⟩), (fun h => by cases h)⟩
            case neg =>
              refine abs_call rfl rfl rfl hrep (exec_call0 rfl rfl (map2 (hrep.ev 113) (hrep.ev 115)) en10) ?_
              refine (CV.out _ x.ar x.an HBD.out.2.2.2.2.2.2.2.2.1 HBD.out.2.2.2.2.2.2.2.2.2.1 false (decide_eq_false k2)).mono ?_
              rintro _ wn ⟨rfl, hb⟩
              have S := Lib.hid (S.out.below hb)
              clear hb
              refine ⟨_, rfl, ?_⟩
              clear hrep; intro A1 hrep
              refine abs_val (.bool true) rfl rfl rfl hrep (exec_not (b := false) rfl (hrep.ev 116)) ?_
              clear hrep; intro A1 hrep
              refine abs_step (by rfl) hrep ?_
              clear hrep; intro A1 hrep
              refine abs_step (by rfl) hrep ?_
              clear hrep; intro A1 hrep
              refine abs_step (by rfl) hrep ?_
              clear hrep; intro A1 hrep
              exact C45 _ _ ⟨true, ⟨hrep.sz, hrep.df, (hrep.ev 2).trans h2, (hrep.ev 6).trans h6, S.out⟩, hrep.ev 120, (fun h => by cases h), (fun _ h => nz_of ZB4.out z97 k2 (HR.out.1 h).2.2.1)⟩
      (try simp only [List.drop_succ_cons, List.drop_zero, List.drop_nil] at C34)
      refine cut_at 23 (fun A W => ∃ r : Bool, TcA w X ⟨(hasF x.kind).toArray⟩ A W ∧ A.eval (.tmp 98) = .bool r ∧ (r = false → startP x) ∧ (r = true → ¬ rightP x)) ?_ (fun C23 => ?_)
      · intro A0 W0 HH
        (try simp only [List.drop_succ_cons, List.drop_zero, List.drop_nil])
        obtain ⟨r, HA, hs, hT, hF⟩ := HH
        have h2 := HA.t2
        have h6 := HA.t6
        have S := Lib.hid HA.wk
        have hrep : Rep 186 A0 [] A0 := Rep.start HA.sz HA.df
        replace hrep := hrep.know hs
        have HP1 := Lib.hid hT
        have HN := Lib.hid hF
        clear HA hs hT hF
        cases r
        case true =>
          refine abs_step (by rfl) hrep ?_
          clear hrep; intro A1 hrep
          refine abs_step (by rfl) hrep ?_
          clear hrep; intro A1 hrep
          refine abs_step (by rfl) hrep ?_
          clear hrep; intro A1 hrep
          refine abs_step (by rfl) hrep ?_
          clear hrep; intro A1 hrep
          refine abs_step (by rfl) hrep ?_
          clear hrep; intro A1 hrep
          refine abs_step (by rfl) hrep ?_
          clear hrep; intro A1 hrep
          refine abs_step (by rfl) hrep ?_
          clear hrep; intro A1 hrep
          refine abs_step (by rfl) hrep ?_
          clear hrep; intro A1 hrep
          refine abs_step (by rfl) hrep ?_
          clear hrep; intro A1 hrep
          refine abs_step (by rfl) hrep ?_
          clear hrep; intro A1 hrep
          refine abs_step (by rfl) hrep ?_
          clear hrep; intro A1 hrep
          exact C34 _ _ ⟨true, ⟨hrep.sz, hrep.df, (hrep.ev 2).trans h2, (hrep.ev 6).trans h6, S.out⟩, hrep.ev 109, (fun h => by cases h), (fun _ => HN.out rfl)⟩
        case false =>
          cases z99 : (hasF x.kind).contains 99
          case false =>
            refine abs_step (by rfl) hrep ?_
            clear hrep; intro A1 hrep
            refine abs_call rfl rfl rfl hrep (exec_call0 rfl rfl (map2 ((hrep.ev 99).trans h6) rfl) en23) ?_
            refine (IN.out _ 99 99 rfl false z99).mono ?_
            rintro _ wn ⟨rfl, hb⟩
            have S := Lib.hid (S.out.below hb)
            clear hb
            refine ⟨_, rfl, ?_⟩
            clear hrep; intro A1 hrep
            refine abs_step (by rfl) hrep ?_
            clear hrep; intro A1 hrep
            refine abs_step (by rfl) hrep ?_
            clear hrep; intro A1 hrep
            refine abs_step (by rfl) hrep ?_
            clear hrep; intro A1 hrep
            refine abs_step (by rfl) hrep ?_
            clear hrep; intro A1 hrep
            refine abs_step (by rfl) hrep ?_
            clear hrep; intro A1 hrep
            refine abs_step (by rfl) hrep ?_
            clear hrep; intro A1 hrep
            refine abs_step (by rfl) hrep ?_
            clear hrep; intro A1 hrep
            refine abs_step (by rfl) hrep ?_
            clear hrep; intro A1 hrep
            refine abs_step (by rfl) hrep ?_
            clear hrep; intro A1 hrep
            exact C34 _ _ ⟨false, ⟨hrep.sz, hrep.df, (hrep.ev 2).trans h2, (hrep.ev 6).trans h6, S.out⟩, hrep.ev 109, (fun _ => ⟨HP1.out rfl, Or.inl (ZB1.out.2 z99)⟩), (fun h => by cases h)⟩
          case true =>
            refine abs_step (by rfl) hrep ?_
            clear hrep; intro A1 hrep
            refine abs_call rfl rfl rfl hrep (exec_call0 rfl rfl (map2 ((hrep.ev 99).trans h6) rfl) en23) ?_
            refine (IN.out _ 99 99 rfl true z99).mono ?_
            rintro _ wn ⟨rfl, hb⟩
            have S := Lib.hid (S.out.below hb)
            clear hb
            refine ⟨_, rfl, ?_⟩
            clear hrep; intro A1 hrep
            refine abs_step (by rfl) hrep ?_
            clear hrep; intro A1 hrep
            refine abs_val (.agg X) rfl rfl rfl hrep (exec_load1 30 _ rfl ((hrep.ev 2).trans h2) (ld122 S.out.k HSX.out)) ?_
            clear hrep; intro A1 hrep
            refine abs_val (.pointer (some ⟨w.heap.size, 15, none⟩)) rfl rfl rfl hrep (exec_addr 30 _ 6 rfl ((hrep.ev 2).trans h2) fa6) ?_
            clear hrep; intro A1 hrep
            refine abs_val (.agg #[.int .u8 (x.er : Int), .int .u32 (x.en : Int)]) rfl rfl rfl hrep (exec_load1 24 _ rfl (hrep.ev 103) (ld82 (o := 15) ((S.out.k.cell 15).trans X15.out) ((S.out.k.cell 16).trans X16.out))) ?_
            clear hrep; intro A1 hrep
            by_cases k2 : cov x x.er x.en
            case pos =>
              refine abs_call rfl rfl rfl hrep (exec_call0 rfl rfl (map2 (hrep.ev 102) (hrep.ev 104)) en10) ?_
              refine (CV.out _ x.er x.en HBD.out.2.2.2.2.2.2.1 HBD.out.2.2.2.2.2.2.2.1 true (decide_eq_true k2)).mono ?_
              rintro _ wn ⟨rfl, hb⟩
              have S := Lib.hid (S.out.below hb)
              clear hb
              refine ⟨_, rfl, ?_⟩
              clear hrep; intro A1 hrep
              refine abs_val (.bool false) rfl rfl rfl hrep (exec_not (b := true) rfl (hrep.ev 105)) ?_
              clear hrep; intro A1 hrep
              refine abs_step (by rfl) hrep ?_
              clear hrep; intro A1 hrep
              refine abs_step (by rfl) hrep ?_
              clear hrep; intro A1 hrep
              refine abs_step (by rfl) hrep ?_
              clear hrep; intro A1 hrep
              exact C34 _ _ ⟨false, ⟨hrep.sz, hrep.df, (hrep.ev 2).trans h2, (hrep.ev 6).trans h6, S.out⟩, hrep.ev 109, (fun _ => ⟨HP1.out rfl, Or.inr k2⟩), (fun h => by cases h)⟩
            case neg =>
              refine abs_call rfl rfl rfl hrep (exec_call0 rfl rfl (map2 (hrep.ev 102) (hrep.ev 104)) en10) ?_
              refine (CV.out _ x.er x.en HBD.out.2.2.2.2.2.2.1 HBD.out.2.2.2.2.2.2.2.1 false (decide_eq_false k2)).mono ?_
              rintro _ wn ⟨rfl, hb⟩
              have S := Lib.hid (S.out.below hb)
              clear hb
              refine ⟨_, rfl, ?_⟩
              clear hrep; intro A1 hrep
              refine abs_val (.bool true) rfl rfl rfl hrep (exec_not (b := false) rfl (hrep.ev 105)) ?_
              clear hrep; intro A1 hrep
              refine abs_step (by rfl) hrep ?_
              clear hrep; intro A1 hrep
              refine abs_step (by rfl) hrep ?_
              clear hrep; intro A1 hrep
              refine abs_step (by rfl) hrep ?_
              clear hrep; intro A1 hrep
              exact C34 _ _ ⟨true, ⟨hrep.sz, hrep.df, (hrep.ev 2).trans h2, (hrep.ev 6).trans h6, S.out⟩, hrep.ev 109, (fun h => by cases h), (fun _ h => nz_of ZB1.out z99 k2 (HR.out.1 h).2.1)⟩
      (try simp only [List.drop_succ_cons, List.drop_zero, List.drop_nil] at C23)
      have h2 := HA.out.t2
      have h6 := HA.out.t6
      have S := Lib.hid HA.out.wk
      have hrep : Rep 186 A0 [] A0 := Rep.start HA.out.sz HA.out.df
      clear HA
      by_cases k0 : x.kind = 0
      case pos =>
        refine abs_val (.pointer (some ⟨w.heap.size, 14, none⟩)) rfl rfl rfl hrep (exec_addr 30 _ 5 rfl ((hrep.ev 2).trans h2) fa5) ?_
        clear hrep; intro A1 hrep
        refine abs_val (.int .u8 (x.kind : Int)) rfl rfl rfl hrep (exec_load1 5 _ rfl (hrep.ev 76) (ld5 ((S.out.k.cell 14).trans X14.out))) ?_
        clear hrep; intro A1 hrep
        refine abs_val (.bool true) rfl rfl rfl hrep (exec_bin .eql 5 5 _ (.const (.int .u8 0)) rfl (hrep.ev 77) rfl (eqg_gt _ _ _ _ _ _ _ _) (eq_int 5 .u8 _ _ _ Tryd.underlying5 (show ((x.kind : Int) == (0 : Int)) = true from by (try simp only [bne]); (try rw [Bool.not_eq_true']); (try rw [Bool.not_eq_false']); rw [beq_iff_eq]; omega) _)) ?_
        clear hrep; intro A1 hrep
        refine abs_step (by rfl) hrep ?_
        clear hrep; intro A1 hrep
        refine abs_val (.pointer (some ⟨w.heap.size, 12, none⟩)) rfl rfl rfl hrep (exec_addr 30 _ 4 rfl ((hrep.ev 2).trans h2) fa4) ?_
        clear hrep; intro A1 hrep
        refine abs_val (.agg #[.int .u8 (x.cr : Int), .int .u32 (x.cn : Int)]) rfl rfl rfl hrep (exec_load1 24 _ rfl (hrep.ev 80) (ld82 (o := 12) ((S.out.k.cell 12).trans X12.out) ((S.out.k.cell 13).trans X13.out))) ?_
        clear hrep; intro A1 hrep
        refine abs_val (.pointer (some ⟨w.heap.size, 0, none⟩)) rfl rfl rfl hrep (exec_addr 30 _ 0 rfl ((hrep.ev 2).trans h2) fa0) ?_
        clear hrep; intro A1 hrep
        refine abs_val (.agg #[.int .u8 (x.dr : Int), .int .u32 (x.dn : Int)]) rfl rfl rfl hrep (exec_load1 24 _ rfl (hrep.ev 82) (ld82 (o := 0) ((S.out.k.cell 0).trans X0.out) ((S.out.k.cell 1).trans X1.out))) ?_
        clear hrep; intro A1 hrep
        by_cases k1 : x.cr = x.dr ∧ x.cn = x.dn
        case pos =>
          refine abs_val (.bool false) rfl rfl rfl hrep (exec_bin .neq 24 24 _ _ rfl (hrep.ev 81) (hrep.ev 83) (eqg_agg2 _ _ _ _ _ _ eqt82) (ne_dot x.cr x.cn x.dr x.dn HBD.out.2.2.2.2.1 HBD.out.2.2.2.2.2.1 HBD.out.1 HBD.out.2.1 false (by simp [k1]) _)) ?_
          clear hrep; intro A1 hrep
          refine abs_step (by rfl) hrep ?_
          clear hrep; intro A1 hrep
          refine abs_step (by rfl) hrep ?_
          clear hrep; intro A1 hrep
          refine abs_val (.pointer (some ⟨w.heap.size, 14, none⟩)) rfl rfl rfl hrep (exec_addr 30 _ 5 rfl ((hrep.ev 2).trans h2) fa5) ?_
          clear hrep; intro A1 hrep
          refine abs_val (.int .u8 (x.kind : Int)) rfl rfl rfl hrep (exec_load1 5 _ rfl (hrep.ev 87) (ld5 ((S.out.k.cell 14).trans X14.out))) ?_
          clear hrep; intro A1 hrep
          refine abs_val (.bool false) rfl rfl rfl hrep (exec_bin .neq 5 5 _ (.const (.int .u8 0)) rfl (hrep.ev 88) rfl (eqg_gt _ _ _ _ _ _ _ _) (ne_int 5 .u8 _ _ _ Tryd.underlying5 (show ((x.kind : Int) != (0 : Int)) = false from by (try simp only [bne]); (try rw [Bool.not_eq_true']); (try rw [Bool.not_eq_false']); rw [beq_iff_eq]; omega) _)) ?_
          clear hrep; intro A1 hrep
          refine abs_step (by rfl) hrep ?_
          clear hrep; intro A1 hrep
          refine abs_step (by rfl) hrep ?_
          clear hrep; intro A1 hrep
          refine abs_step (by rfl) hrep ?_
          clear hrep; intro A1 hrep
          refine abs_step (by rfl) hrep ?_
          clear hrep; intro A1 hrep
          refine abs_step (by rfl) hrep ?_
          clear hrep; intro A1 hrep
          refine abs_step (by rfl) hrep ?_
          clear hrep; intro A1 hrep
          refine abs_step (by rfl) hrep ?_
          clear hrep; intro A1 hrep
          refine abs_step (by rfl) hrep ?_
          clear hrep; intro A1 hrep
          refine abs_step (by rfl) hrep ?_
          clear hrep; intro A1 hrep
          exact C23 _ _ ⟨false, ⟨hrep.sz, hrep.df, (hrep.ev 2).trans h2, (hrep.ev 6).trans h6, S.out⟩, hrep.ev 98, (fun _ => Or.inl ⟨k0, k1⟩), (fun h => by cases h)⟩
        case neg =>
          refine abs_val (.bool true) rfl rfl rfl hrep (exec_bin .neq 24 24 _ _ rfl (hrep.ev 81) (hrep.ev 83) (eqg_agg2 _ _ _ _ _ _ eqt82) (ne_dot x.cr x.cn x.dr x.dn HBD.out.2.2.2.2.1 HBD.out.2.2.2.2.2.1 HBD.out.1 HBD.out.2.1 true (by simp; exact fun h1 h2 => k1 ⟨h1, h2⟩) _)) ?_
          clear hrep; intro A1 hrep
          refine abs_step (by rfl) hrep ?_
          clear hrep; intro A1 hrep
          refine abs_step (by rfl) hrep ?_
          clear hrep; intro A1 hrep
          refine abs_step (by rfl) hrep ?_
          clear hrep; intro A1 hrep
          refine abs_step (by rfl) hrep ?_
          clear hrep; intro A1 hrep
          refine abs_step (by rfl) hrep ?_
          clear hrep; intro A1 hrep
          refine abs_step (by rfl) hrep ?_
          clear hrep; intro A1 hrep
          refine abs_step (by rfl) hrep ?_
          clear hrep; intro A1 hrep
          refine abs_step (by rfl) hrep ?_
          clear hrep; intro A1 hrep
          refine abs_step (by rfl) hrep ?_
          clear hrep; intro A1 hrep
          refine abs_step (by rfl) hrep ?_
          clear hrep; intro A1 hrep
          refine abs_step (by rfl) hrep ?_
          clear hrep; intro A1 hrep
          refine abs_step (by rfl) hrep ?_
          clear hrep; intro A1 hrep
          refine abs_step (by rfl) hrep ?_
          clear hrep; intro A1 hrep
          refine abs_step (by rfl) hrep ?_
          clear hrep; intro A1 hrep
          exact C23 _ _ ⟨true, ⟨hrep.sz, hrep.df, (hrep.ev 2).trans h2, (hrep.ev 6).trans h6, S.out⟩, hrep.ev 98, (fun h => by cases h), (fun _ h => by
            rcases h.1 with h2 | h2
            · exact k1 h2.2
            · exact h2.1 k0)⟩
      case neg =>
        refine abs_val (.pointer (some ⟨w.heap.size, 14, none⟩)) rfl rfl rfl hrep (exec_addr 30 _ 5 rfl ((hrep.ev 2).trans h2) fa5) ?_
        clear hrep; intro A1 hrep
        refine abs_val (.int .u8 (x.kind : Int)) rfl rfl rfl hrep (exec_load1 5 _ rfl (hrep.ev 76) (ld5 ((S.out.k.cell 14).trans X14.out))) ?_
        clear hrep; intro A1 hrep
        refine abs_val (.bool false) rfl rfl rfl hrep (exec_bin .eql 5 5 _ (.const (.int .u8 0)) rfl (hrep.ev 77) rfl (eqg_gt _ _ _ _ _ _ _ _) (eq_int 5 .u8 _ _ _ Tryd.underlying5 (show ((x.kind : Int) == (0 : Int)) = false from by (try simp only [bne]); (try rw [Bool.not_eq_true']); (try rw [Bool.not_eq_false']); rw [beq_eq_false_iff_ne]; omega) _)) ?_
        clear hrep; intro A1 hrep
        refine abs_step (by rfl) hrep ?_
        clear hrep; intro A1 hrep
        refine abs_step (by rfl) hrep ?_
        clear hrep; intro A1 hrep
        refine abs_step (by rfl) hrep ?_
        clear hrep; intro A1 hrep
        refine abs_step (by rfl) hrep ?_
        clear hrep; intro A1 hrep
        refine abs_step (by rfl) hrep ?_
        clear hrep; intro A1 hrep
        refine abs_step (by rfl) hrep ?_
        clear hrep; intro A1 hrep
        refine abs_step (by rfl) hrep ?_
        clear hrep; intro A1 hrep
        refine abs_step (by rfl) hrep ?_
        clear hrep; intro A1 hrep
        refine abs_val (.pointer (some ⟨w.heap.size, 14, none⟩)) rfl rfl rfl hrep (exec_addr 30 _ 5 rfl ((hrep.ev 2).trans h2) fa5) ?_
        clear hrep; intro A1 hrep
        refine abs_val (.int .u8 (x.kind : Int)) rfl rfl rfl hrep (exec_load1 5 _ rfl (hrep.ev 87) (ld5 ((S.out.k.cell 14).trans X14.out))) ?_
        clear hrep; intro A1 hrep
        refine abs_val (.bool true) rfl rfl rfl hrep (exec_bin .neq 5 5 _ (.const (.int .u8 0)) rfl (hrep.ev 88) rfl (eqg_gt _ _ _ _ _ _ _ _) (ne_int 5 .u8 _ _ _ Tryd.underlying5 (show ((x.kind : Int) != (0 : Int)) = true from by (try simp only [bne]); (try rw [Bool.not_eq_true']); (try rw [Bool.not_eq_false']); rw [beq_eq_false_iff_ne]; omega) _)) ?_
        clear hrep; intro A1 hrep
        refine abs_step (by rfl) hrep ?_
        clear hrep; intro A1 hrep
        refine abs_val (.agg X) rfl rfl rfl hrep (exec_load1 30 _ rfl ((hrep.ev 2).trans h2) (ld122 S.out.k HSX.out)) ?_
        clear hrep; intro A1 hrep
        refine abs_val (.pointer (some ⟨w.heap.size, 12, none⟩)) rfl rfl rfl hrep (exec_addr 30 _ 4 rfl ((hrep.ev 2).trans h2) fa4) ?_
        clear hrep; intro A1 hrep
        refine abs_val (.agg #[.int .u8 (x.cr : Int), .int .u32 (x.cn : Int)]) rfl rfl rfl hrep (exec_load1 24 _ rfl (hrep.ev 92) (ld82 (o := 12) ((S.out.k.cell 12).trans X12.out) ((S.out.k.cell 13).trans X13.out))) ?_
        clear hrep; intro A1 hrep
        by_cases k2 : cov x x.cr x.cn
        case pos =>
          refine abs_call rfl rfl rfl hrep (exec_call0 rfl rfl (map2 (hrep.ev 91) (hrep.ev 93)) en10) ?_
          refine (CV.out _ x.cr x.cn HBD.out.2.2.2.2.1 HBD.out.2.2.2.2.2.1 true (decide_eq_true k2)).mono ?_
          rintro _ wn ⟨rfl, hb⟩
          have S := Lib.hid (S.out.below hb)
          clear hb
          refine ⟨_, rfl, ?_⟩
          clear hrep; intro A1 hrep
          refine abs_val (.bool false) rfl rfl rfl hrep (exec_not (b := true) rfl (hrep.ev 94)) ?_
          clear hrep; intro A1 hrep
          refine abs_step (by rfl) hrep ?_
          clear hrep; intro A1 hrep
          refine abs_step (by rfl) hrep ?_
          clear hrep; intro A1 hrep
          refine abs_step (by rfl) hrep ?_
          clear hrep; intro A1 hrep
          exact C23 _ _ ⟨false, ⟨hrep.sz, hrep.df, (hrep.ev 2).trans h2, (hrep.ev 6).trans h6, S.out⟩, hrep.ev 98, (fun _ => Or.inr ⟨k0, k2⟩), (fun h => by cases h)⟩
        case neg =>
          refine abs_call rfl rfl rfl hrep (exec_call0 rfl rfl (map2 (hrep.ev 91) (hrep.ev 93)) en10) ?_
          refine (CV.out _ x.cr x.cn HBD.out.2.2.2.2.1 HBD.out.2.2.2.2.2.1 false (decide_eq_false k2)).mono ?_
          rintro _ wn ⟨rfl, hb⟩
          have S := Lib.hid (S.out.below hb)
          clear hb
          refine ⟨_, rfl, ?_⟩
          clear hrep; intro A1 hrep
          refine abs_val (.bool true) rfl rfl rfl hrep (exec_not (b := false) rfl (hrep.ev 94)) ?_
          clear hrep; intro A1 hrep
          refine abs_step (by rfl) hrep ?_
          clear hrep; intro A1 hrep
          refine abs_step (by rfl) hrep ?_
          clear hrep; intro A1 hrep
          refine abs_step (by rfl) hrep ?_
          clear hrep; intro A1 hrep
          exact C23 _ _ ⟨true, ⟨hrep.sz, hrep.df, (hrep.ev 2).trans h2, (hrep.ev 6).trans h6, S.out⟩, hrep.ev 98, (fun h => by cases h), (fun _ h => by
            rcases h.1 with h2 | h2
            · exact k0 h2.1
            · exact k2 h2.2)⟩
end Go.Proofs.YtfojjklohbiffaaDoor
namespace Tran
open Go Go.RowKit
theorem exec_alloc_ {P : Program} {o : Oper} {a : Act} {w : World} (ty : TypeId) (ho : o.op = .alloc ty) {z : Value} (hz : ((P.info? ty).bind (·.zero)) = some z) {g : Nat} (hg : w.heap.size = g) : (execOp a.eval o).run P w = .ok (.value (.pointer (some ⟨g, 0, none⟩))) (w.alloc (.cells z.cells ty)) := by
  subst hg
  exact exec_alloc ty ho hz
end Tran
namespace Go.Proofs.YtfojjklohbiffaaDoor
open Go.RowKit Tran Tran.Wire
set_option linter.unusedVariables false
set_option linter.unusedSimpArgs false
/-- the first operation -/
def genN : NOp := { zeroO with dn := 1, time := 1, who := 7, cn := 1 }
/-- one that adds -/
def addN : NOp := { zeroO with dn := 2, dep := [1, 0, 0, 0, 0, 0, 0, 0], time := 2, who := 7, cn := 1, kind := 3, en := 1, item := 5, qty := 3, price := 100 }
theorem genN_ok : genN.ok := by constructor <;> simp [genN, zeroO, zer8]
theorem addN_ok : addN.ok := by constructor <;> simp [addN, zeroO]
theorem op_zero : ((Tryd.prog.info? 30).bind (·.zero)) = some (.agg (opA zeroO (.slice none 0 0))) := by kernel_rfl
theorem gen_built : Tryd.prog.built 30 [(0, .agg #[.int .u8 0, .int .u32 1]), (2, .int .u64 1), (3, .int .u32 7), (4, .agg #[.int .u8 0, .int .u32 1])] = some (opA genN (.slice none 0 0)) := by kernel_rfl
theorem add_built : Tryd.prog.built 30 [(0, .agg #[.int .u8 0, .int .u32 2]), (1, .agg (vecA [1, 0, 0, 0, 0, 0, 0, 0])), (2, .int .u64 2), (3, .int .u32 7), (4, .agg #[.int .u8 0, .int .u32 1]), (5, .int .u8 3), (6, .agg #[.int .u8 0, .int .u32 1]), (13, .int .u32 5), (14, .int .u32 3), (15, .int .u32 100)] = some (opA addN (.slice none 0 0)) := by kernel_rfl
theorem opsz (x : NOp) (h : x.dep.length = 8) : (Tryd.prog.info? 30).map (·.size) = some (opA x (.slice none 0 0)).size := by rw [opA_size x _ h]; exact size122
set_option maxRecDepth 100000 in
set_option maxHeartbeats 4000000 in
theorem gen_any (w : World) : Calls Tryd.prog 26 #[] w fun e w' => e = .returned (.agg (opA genN (.slice none 0 0))) ∧ Below w.heap.size w w' := by
  go_enter Tryd.func26, Tryd.ntmps26
  go_upto_region 0 with fail
  refine lst_begin ?_
  intro A0 hA
  have hrep : Rep 4 A0 [] A0 := Rep.start (by rw [hA] <;> rfl) (by rw [hA] <;> rfl)
  clear hA
  refine abs_val (.pointer (some ⟨w.heap.size, 0, none⟩)) rfl rfl rfl hrep (exec_alloc_ 30 rfl op_zero rfl) ?_
  clear hrep; intro A1 hrep
  have K := Lib.hid (Blk.new w 30 (opA zeroO (.slice none 0 0)))
  have B := Lib.hid ((Below.refl w.heap.size w).alloc (Nat.le_refl _) (.cells (opA zeroO (.slice none 0 0)) 30))
  refine lst_nil ?_
  go_upto_region 1 with fail
  refine lst_begin ?_
  rintro _ rfl
  refine abs_val (.agg #[.int .u8 0, .int .u32 1]) rfl rfl rfl hrep (exec_build 24 _ rfl (by rfl) (by kernel_rfl)) ?_
  clear hrep; intro A1 hrep
  refine abs_val (.agg #[.int .u8 0, .int .u32 1]) rfl rfl rfl hrep (exec_build 24 _ rfl (by rfl) (by kernel_rfl)) ?_
  clear hrep; intro A1 hrep
  refine abs_val (.agg (opA genN (.slice none 0 0))) rfl rfl rfl hrep (exec_build 30 _ rfl (by
    simp only [List.map_toArray, List.map_cons, List.map_nil]
    rw [show A1.eval (.tmp 1) = _ from hrep.ev 1, show A1.eval (.tmp 2) = _ from hrep.ev 2]
    rfl) gen_built) ?_
  clear hrep; intro A1 hrep
  refine abs_skip rfl rfl hrep (exec_store_row 30 _ _ rfl (hrep.ev 0) (hrep.ev 3) K.out (opsz genN rfl) rfl (opA_one_ genN none 0 0)) ?_
  clear hrep; intro A1 hrep
  refine lst_nil ?_
  have hp := hrep.ev 0
  have hd := hrep.df
  clear hrep
  go_wp2_with fail
  refine bodyPost_ret (results_cell_row rfl _ _ w.heap.size 30 _ (0, 0) _ hp (K.out.row _) Tryd.underlying30 rfl (opsz genN rfl)) hd ?_
  exact ⟨rfl, below_setRow B.out (Nat.le_refl _) _⟩
set_option maxRecDepth 100000 in
set_option maxHeartbeats 4000000 in
theorem add_any (w : World) : Calls Tryd.prog 25 #[] w fun e w' => e = .returned (.agg (opA addN (.slice none 0 0))) ∧ Below w.heap.size w w' := by
  go_enter Tryd.func25, Tryd.ntmps25
  go_upto_region 0 with fail
  refine lst_begin ?_
  intro A0 hA
  have hrep : Rep 6 A0 [] A0 := Rep.start (by rw [hA] <;> rfl) (by rw [hA] <;> rfl)
  clear hA
  refine abs_val (.pointer (some ⟨w.heap.size, 0, none⟩)) rfl rfl rfl hrep (exec_alloc_ 30 rfl op_zero rfl) ?_
  clear hrep; intro A1 hrep
  have K := Lib.hid (Blk.new w 30 (opA zeroO (.slice none 0 0)))
  have B := Lib.hid ((Below.refl w.heap.size w).alloc (Nat.le_refl _) (.cells (opA zeroO (.slice none 0 0)) 30))
  refine lst_nil ?_
  go_upto_region 1 with fail
  refine lst_begin ?_
  rintro _ rfl
  refine abs_val (.agg #[.int .u8 0, .int .u32 2]) rfl rfl rfl hrep (exec_build 24 _ rfl (by rfl) (by kernel_rfl)) ?_
  clear hrep; intro A1 hrep
  refine abs_val (.agg (vecA [1, 0, 0, 0, 0, 0, 0, 0])) rfl rfl rfl hrep (exec_build 26 _ rfl (by rfl) (by kernel_rfl)) ?_
  clear hrep; intro A1 hrep
  refine abs_val (.agg #[.int .u8 0, .int .u32 1]) rfl rfl rfl hrep (exec_build 24 _ rfl (by rfl) (by kernel_rfl)) ?_
  clear hrep; intro A1 hrep
  refine abs_val (.agg #[.int .u8 0, .int .u32 1]) rfl rfl rfl hrep (exec_build 24 _ rfl (by rfl) (by kernel_rfl)) ?_
  clear hrep; intro A1 hrep
  refine abs_val (.agg (opA addN (.slice none 0 0))) rfl rfl rfl hrep (exec_build 30 _ rfl (by
    simp only [List.map_toArray, List.map_cons, List.map_nil]
    rw [show A1.eval (.tmp 1) = _ from hrep.ev 1, show A1.eval (.tmp 2) = _ from hrep.ev 2, show A1.eval (.tmp 3) = _ from hrep.ev 3, show A1.eval (.tmp 4) = _ from hrep.ev 4]
    rfl) add_built) ?_
  clear hrep; intro A1 hrep
  refine abs_skip rfl rfl hrep (exec_store_row 30 _ _ rfl (hrep.ev 0) (hrep.ev 5) K.out (opsz addN rfl) rfl (opA_one_ addN none 0 0)) ?_
  clear hrep; intro A1 hrep
  refine lst_nil ?_
  have hp := hrep.ev 0
  have hd := hrep.df
  clear hrep
  go_wp2_with fail
  refine bodyPost_ret (results_cell_row rfl _ _ w.heap.size 30 _ (0, 0) _ hp (K.out.row _) Tryd.underlying30 rfl (opsz addN rfl)) hd ?_
  exact ⟨rfl, below_setRow B.out (Nat.le_refl _) _⟩
/-- what is wrong with the other four -/
def addA : NOp := { addN with qty := 0 }
def addB : NOp := { addN with dep := zer8 }
def addC : NOp := { addN with an := 1 }
def genD : NOp := { genN with who := 0 }
theorem chk_gen : chkF genN 1 = 0 := by decide
theorem chk_add : chkF addN 3 = 0 := by decide
theorem chk_add0 : chkF addN 0 = 2 := by decide
theorem chk_a : chkF addA 3 = 5 := by decide
theorem chk_b : chkF addB 3 = 5 := by decide
theorem chk_c : chkF addC 3 = 5 := by decide
theorem chk_d : chkF genD 1 = 5 := by decide
theorem put_gen : putO genN = [0, 1, 0, 0, 0, 0, 0, 0, 0, 0, 1, 7, 0, 1, 0, 0, 0, 0, 0, 0, 0, 0, 0, 0, 0, 0, 0, 0, 0] := by decide
end Go.Proofs.YtfojjklohbiffaaDoor
namespace Go.Proofs.YtfojjklohbiffaaDoor
open Go.RowKit Tran Tran.Wire
set_option linter.unusedVariables false
set_option linter.unusedSimpArgs false
theorem en25 (args : Array Value) (W : World) : (callFunc 25 args).run Tryd.prog W = .ok (.enter 25 args) W := enters_of Tryd.func25 (by kernel_rfl) rfl args W
theorem en26 (args : Array Value) (W : World) : (callFunc 26 args).run Tryd.prog W = .ok (.enter 26 args) W := enters_of Tryd.func26 (by kernel_rfl) rfl args W
theorem en12 (args : Array Value) (W : World) : (callFunc 12 args).run Tryd.prog W = .ok (.enter 12 args) W := enters_of Tryd.func12 (by kernel_rfl) rfl args W
theorem en7 (args : Array Value) (W : World) : (callFunc 7 args).run Tryd.prog W = .ok (.enter 7 args) W := enters_of Tryd.func7 (by kernel_rfl) rfl args W
theorem eqg_str (t : TypeId) (x y : Operand) (a b : ByteArray) (w : World) : (eqGuard .eql t x y (.string a) (.string b)).run Tryd.prog w = .ok () w := by simp [eqGuard]
theorem eq_str (a : ByteArray) (w : World) : (binOp .eql 9 (.string a) (.string a)).run Tryd.prog w = .ok (.bool true) w := by go_simp
theorem map0 {a : Act} : (#[] : Array Operand).map a.eval = #[] := by simp
def wantS : ByteArray := ⟨#[0, 1, 0, 0, 0, 0, 0, 0, 0, 0, 1, 7, 0, 1, 0, 0, 0, 0, 0, 0, 0, 0, 0, 0, 0, 0, 0, 0, 0]⟩
theorem putOR_gen : putOR genN = .tuple #[.string wantS, .int .i64 0] := by
  unfold putOR
  rw [if_neg (by decide), put_gen]
  rfl
theorem addA_ok : addA.ok := by constructor <;> simp [addA, addN, zeroO]
theorem addB_ok : addB.ok := by constructor <;> simp [addB, addN, zeroO, zer8]
theorem addC_ok : addC.ok := by constructor <;> simp [addC, addN, zeroO]
theorem genD_ok : genD.ok := by constructor <;> simp [genD, genN, zeroO, zer8]
theorem exec_mk {P : Program} {o : Oper} {a : Act} {w w' : World} (t : TypeId) (x y : Operand) (ho : o.op = .makeSlice t x y) {u v r : Value} (hx : a.eval x = u) (hy : a.eval y = v) (hr : (Instr.makeSlice t u v).run P w = .ok r w') : (execOp a.eval o).run P w = .ok (.value r) w' := by
  unfold execOp
  simp only [ho, hx, hy, Sem.run_bind, hr, Result.andThen_ok]
  rfl
def zr (n : Nat) : Array Value := (List.replicate n (Value.int .u8 0)).toArray
theorem mk8 (w : World) : (Instr.makeSlice 48 (.int .i64 8) (.int .i64 8)).run Tryd.prog w = .ok (.slice (some ⟨w.heap.size, 0, none⟩) 8 8) (w.alloc (.cells (zr 8) 5)) := by kernel_rfl
theorem mk14 (w : World) : (Instr.makeSlice 48 (.int .i64 14) (.int .i64 14)).run Tryd.prog w = .ok (.slice (some ⟨w.heap.size, 0, none⟩) 14 14) (w.alloc (.cells (zr 14) 5)) := by kernel_rfl
theorem cvz (W : World) (g n : Nat) (k : Blk W g 5 (zr n)) : (convert 48 9 (.slice (some ⟨g, 0, none⟩) n n)).run Tryd.prog W = .ok (.string ⟨(List.replicate n (0 : UInt8)).toArray⟩) W := by
  refine run_string_of W 48 9 5 (some ⟨g, 0, none⟩) n n (List.replicate n 0) Tryd.underlying48 Tryd.underlying5 Tryd.underlying9 ⟨by simp [bc], fun _ => ⟨_, rfl, fun j v hv => ?_⟩⟩
  rw [lit_add, Nat.zero_add]
  refine (k.cell j).trans ?_
  rw [show zr n = (bc (List.replicate n 0)).toArray by simp [zr, bc]]
  simpa using hv
theorem eqg_adds (t : TypeId) (x y : Operand) (a b : ByteArray) (w : World) : (eqGuard .add t x y (.string a) (.string b)).run Tryd.prog w = .ok () w := by simp [eqGuard]
theorem add_str (a b : ByteArray) (h : a.size + b.size ≤ 9223372036854775807) (w : World) : (binOp .add 9 (.string a) (.string b)).run Tryd.prog w = .ok (.string (a ++ b)) w := by go_simp
def s8 : ByteArray := ⟨(List.replicate 8 (0 : UInt8)).toArray⟩
def s14 : ByteArray := ⟨(List.replicate 14 (0 : UInt8)).toArray⟩
def sA : ByteArray := (⟨#[0, 1]⟩ : ByteArray) ++ s8
def sB : ByteArray := sA ++ (⟨#[1, 7, 0, 1, 0]⟩ : ByteArray)
def sC : ByteArray := sB ++ s14
theorem add1 (w : World) : (binOp .add 9 (.string ⟨#[0, 1]⟩) (.string s8)).run Tryd.prog w = .ok (.string sA) w := add_str ⟨#[0, 1]⟩ s8 (by decide +kernel) w
theorem add2 (w : World) : (binOp .add 9 (.string sA) (.string ⟨#[1, 7, 0, 1, 0]⟩)).run Tryd.prog w = .ok (.string sB) w := add_str sA ⟨#[1, 7, 0, 1, 0]⟩ (by decide +kernel) w
theorem add3 (w : World) : (binOp .add 9 (.string sB) (.string s14)).run Tryd.prog w = .ok (.string sC) w := add_str sB s14 (by decide +kernel) w
theorem cvz8 (W : World) (g : Nat) (k : Blk W g 5 (zr 8)) : (convert 48 9 (.slice (some ⟨g, 0, none⟩) 8 8)).run Tryd.prog W = .ok (.string s8) W := cvz W g 8 k
theorem cvz14 (W : World) (g : Nat) (k : Blk W g 5 (zr 14)) : (convert 48 9 (.slice (some ⟨g, 0, none⟩) 14 14)).run Tryd.prog W = .ok (.string s14) W := cvz W g 14 k
theorem want_eq : Value.string sC = .string wantS := by
  rw [show sC = wantS by decide +kernel]
theorem two_below (W : World) (a b : Obj) : Below W.heap.size W ((W.alloc a).alloc b) := ((Below.refl W.heap.size W).alloc (Nat.le_refl _) a).alloc (by simp) b
theorem cut_Q {P : Program} {s : Code} {Q : Exit → Act → World → Prop} {a : Act} {w : World} (Φ : Act → World → Prop) (h2 : ∀ A W, Φ A W → Q .normal A W) (h1 : (∀ A W, Φ A W → Q .normal A W) → s.wp P Q a w) : s.wp P Q a w := h1 h2
/-- what is known of head's act behind the string -/
structure HdA (s : Value) (g : Nat) (A : Act) : Prop where
  sz : A.tmps.size = 83
  df : A.defers = []
  t1 : A.eval (.tmp 1) = .pointer (some ⟨g, 0, none⟩)
  t2 : A.eval (.tmp 2) = .pointer (some ⟨g + 1, 0, none⟩)
  t3 : A.eval (.tmp 3) = .pointer (some ⟨g + 2, 0, none⟩)
  t4 : A.eval (.tmp 4) = .pointer (some ⟨g + 3, 0, none⟩)
  t5 : A.eval (.tmp 5) = s
  t6 : A.eval (.tmp 6) = .int .i64 0
  t7 : A.eval (.tmp 7) = s
/-- the worlds of head: its four variables -/
structure HdW (w0 : World) (g : Nat) (Xa Xb Xc Xd : Array Value) (W : World) : Prop where
  a : Blk W g 30 Xa
  b : Blk W (g + 1) 30 Xb
  c : Blk W (g + 2) 30 Xc
  d : Blk W (g + 3) 30 Xd
  lo : w0.heap.size ≤ g
  b0 : Below w0.heap.size w0 W
section
variable {w0 W W' : World} {g : Nat} {Xa Xb Xc Xd : Array Value}
theorem HdW.below (h : HdW w0 g Xa Xb Xc Xd W) (hb : Below W.heap.size W W') : HdW w0 g Xa Xb Xc Xd W' := ⟨h.a.below hb h.a.lt, h.b.below hb h.b.lt, h.c.below hb h.c.lt, h.d.below hb h.d.lt, h.lo, h.b0.trans (hb.mono h.b0.size)⟩
theorem HdW.drew (h : HdW w0 g Xa Xb Xc Xd W) : HdW w0 g Xa Xb Xc Xd W.drew := ⟨h.a, h.b, h.c, h.d, h.lo, below_drew h.b0⟩
theorem HdW.rowA (h : HdW w0 g Xa Xb Xc Xd W) (Y : Array Value) : HdW w0 g Y Xb Xc Xd (W.setRow g Y) := ⟨h.a.row Y, h.b.rowFar (by omega) Y, h.c.rowFar (by omega) Y, h.d.rowFar (by omega) Y, h.lo, below_setRow h.b0 h.lo Y⟩
theorem HdW.rowB (h : HdW w0 g Xa Xb Xc Xd W) (Y : Array Value) : HdW w0 g Xa Y Xc Xd (W.setRow (g + 1) Y) := ⟨h.a.rowFar (by omega) Y, h.b.row Y, h.c.rowFar (by omega) Y, h.d.rowFar (by omega) Y, h.lo, below_setRow h.b0 (Nat.le_trans h.lo (by omega)) Y⟩
theorem HdW.rowC (h : HdW w0 g Xa Xb Xc Xd W) (Y : Array Value) : HdW w0 g Xa Xb Y Xd (W.setRow (g + 2) Y) := ⟨h.a.rowFar (by omega) Y, h.b.rowFar (by omega) Y, h.c.row Y, h.d.rowFar (by omega) Y, h.lo, below_setRow h.b0 (Nat.le_trans h.lo (by omega)) Y⟩
theorem HdW.rowD (h : HdW w0 g Xa Xb Xc Xd W) (Y : Array Value) : HdW w0 g Xa Xb Xc Y (W.setRow (g + 3) Y) := ⟨h.a.rowFar (by omega) Y, h.b.rowFar (by omega) Y, h.c.rowFar (by omega) Y, h.d.row Y, h.lo, below_setRow h.b0 (Nat.le_trans h.lo (by omega)) Y⟩
theorem HdW.cellA (h : HdW w0 g Xa Xb Xc Xd W) (i : Nat) (u : Value) : HdW w0 g (Xa.setIfInBounds i u) Xb Xc Xd (W.setCell ⟨g, i, none⟩ u) := ⟨h.a.set_ i u, h.b.far (p := ⟨g, i, none⟩) (show g + 1 ≠ g by omega) u, h.c.far (p := ⟨g, i, none⟩) (show g + 2 ≠ g by omega) u, h.d.far (p := ⟨g, i, none⟩) (show g + 3 ≠ g by omega) u, h.lo, h.b0.setCell (p := ⟨g, i, none⟩) h.lo u⟩
theorem HdW.cellD (h : HdW w0 g Xa Xb Xc Xd W) (i : Nat) (u : Value) : HdW w0 g Xa Xb Xc (Xd.setIfInBounds i u) (W.setCell ⟨g + 3, i, none⟩ u) := ⟨h.a.far (p := ⟨g + 3, i, none⟩) (show g ≠ g + 3 by omega) u, h.b.far (p := ⟨g + 3, i, none⟩) (show g + 1 ≠ g + 3 by omega) u, h.c.far (p := ⟨g + 3, i, none⟩) (show g + 2 ≠ g + 3 by omega) u, h.d.set_ i u, h.lo, h.b0.setCell (p := ⟨g + 3, i, none⟩) (show w0.heap.size ≤ g + 3 from Nat.le_trans h.lo (by omega)) u⟩
theorem HdW.cellsB (h : HdW w0 g Xa Xb Xc Xd W) (i : Nat) (us : List Value) : HdW w0 g Xa (putAt Xb i us) Xc Xd (W.setCells (g + 1) i us) := ⟨h.a.farCells (by omega) i us, h.b.setCells i us, h.c.farCells (by omega) i us, h.d.farCells (by omega) i us, h.lo, below_setCells h.b0 (Nat.le_trans h.lo (by omega)) i us⟩
theorem HdW.cellsC (h : HdW w0 g Xa Xb Xc Xd W) (i : Nat) (us : List Value) : HdW w0 g Xa Xb (putAt Xc i us) Xd (W.setCells (g + 2) i us) := ⟨h.a.farCells (by omega) i us, h.b.farCells (by omega) i us, h.c.setCells i us, h.d.farCells (by omega) i us, h.lo, below_setCells h.b0 (Nat.le_trans h.lo (by omega)) i us⟩
theorem HdW.start (w w4 : World) (b : Below w.heap.size w w4) : HdW w w4.heap.size (opA zeroO (.slice none 0 0)) (opA zeroO (.slice none 0 0)) (opA zeroO (.slice none 0 0)) (opA zeroO (.slice none 0 0))
    ((((w4.alloc (.cells (opA zeroO (.slice none 0 0)) 30)).alloc (.cells (opA zeroO (.slice none 0 0)) 30)).alloc (.cells (opA zeroO (.slice none 0 0)) 30)).alloc (.cells (opA zeroO (.slice none 0 0)) 30)) := by
  have k0 := (((Blk.new w4 30 (opA zeroO (.slice none 0 0))).alloc (.cells (opA zeroO (.slice none 0 0)) 30)).alloc (.cells (opA zeroO (.slice none 0 0)) 30)).alloc (.cells (opA zeroO (.slice none 0 0)) 30)
  have k1 := ((Blk.new (w4.alloc (.cells (opA zeroO (.slice none 0 0)) 30)) 30 (opA zeroO (.slice none 0 0))).alloc (.cells (opA zeroO (.slice none 0 0)) 30)).alloc (.cells (opA zeroO (.slice none 0 0)) 30)
  have k2 := (Blk.new ((w4.alloc (.cells (opA zeroO (.slice none 0 0)) 30)).alloc (.cells (opA zeroO (.slice none 0 0)) 30)) 30 (opA zeroO (.slice none 0 0))).alloc (.cells (opA zeroO (.slice none 0 0)) 30)
  have k3 := Blk.new (((w4.alloc (.cells (opA zeroO (.slice none 0 0)) 30)).alloc (.cells (opA zeroO (.slice none 0 0)) 30)).alloc (.cells (opA zeroO (.slice none 0 0)) 30)) 30 (opA zeroO (.slice none 0 0))
  refine ⟨k0, ?_, ?_, ?_, b.size, (((b.alloc b.size _).alloc (by have := b.size; simp; omega) _).alloc (by have := b.size; simp; omega) _).alloc (by have := b.size; simp; omega) _⟩
  · rwa [show (w4.alloc (.cells (opA zeroO (.slice none 0 0)) 30)).heap.size = w4.heap.size + 1 by simp] at k1
  · rwa [show ((w4.alloc (.cells (opA zeroO (.slice none 0 0)) 30)).alloc (.cells (opA zeroO (.slice none 0 0)) 30)).heap.size = w4.heap.size + 2 by simp] at k2
  · rwa [show (((w4.alloc (.cells (opA zeroO (.slice none 0 0)) 30)).alloc (.cells (opA zeroO (.slice none 0 0)) 30)).alloc (.cells (opA zeroO (.slice none 0 0)) 30)).heap.size = w4.heap.size + 3 by simp] at k3
end
set_option maxRecDepth 100000 in
set_option maxHeartbeats 16000000 in
theorem lawhead_any (w : World) (hg : Glob w) : Calls Tryd.prog 11 #[] w fun e w' => e = .returned (.bool true) ∧ Below w.heap.size w w' := by
  have CK := Lib.hid (fun W (hW : Below w.heap.size w W) (x : NOp) (hx : x.ok) (hl : x.lines = []) (n k : Int) (hk : ((chkF x n : Nat) : Int) = k) => show Calls Tryd.prog 7 #[.agg (opA x (.slice none 0 0)), .int .i64 n] W fun e w' => e = .returned (.int .i64 k) ∧ Below W.heap.size W w' by
    have h := check_any W x none 0 n hx (by rw [hl]; exact Lns.nil W) (hg.later hW)
    rw [hl, hk] at h
    exact h)
  have SM := Lib.hid (fun W (x y : NOp) (hx : x.ok) (hy : y.ok) (lx : x.lines = []) (ly : y.lines = []) (r : Bool) (hr : r = true ↔ x = y) => show Calls Tryd.prog 16 #[.agg (opA x (.slice none 0 0)), .agg (opA y (.slice none 0 0))] W fun e w' => e = .returned (.bool r) ∧ Below W.heap.size W w' from
    (same_any W x y _ _ hx hy (by rw [lx]; exact Lns.nil W) (by rw [ly]; exact Lns.nil W)).mono fun e w' h => h.fixed hr)
  clear hg
  go_enter Tryd.func11, Tryd.ntmps11
  go_upto_region 1 with fail
  refine lst_begin ?_
  intro A0 hA
  have hrep : Rep 83 A0 [] A0 := Rep.start (by rw [hA] <;> rfl) (by rw [hA] <;> rfl)
  clear hA
  refine abs_call rfl rfl rfl hrep (exec_call0 rfl rfl map0 en25) ?_
  refine (add_any _).mono ?_
  rintro _ w1 ⟨rfl, b1⟩
  refine ⟨_, rfl, ?_⟩
  clear hrep; intro A1 hrep
  refine abs_call rfl rfl rfl hrep (exec_call0 rfl rfl map0 en25) ?_
  refine (add_any _).mono ?_
  rintro _ w2 ⟨rfl, b2⟩
  refine ⟨_, rfl, ?_⟩
  clear hrep; intro A1 hrep
  refine abs_call rfl rfl rfl hrep (exec_call0 rfl rfl map0 en25) ?_
  refine (add_any _).mono ?_
  rintro _ w3 ⟨rfl, b3⟩
  refine ⟨_, rfl, ?_⟩
  clear hrep; intro A1 hrep
  refine abs_call rfl rfl rfl hrep (exec_call0 rfl rfl map0 en26) ?_
  refine (gen_any _).mono ?_
  rintro _ w4 ⟨rfl, b4⟩
  refine ⟨_, rfl, ?_⟩
  clear hrep; intro A1 hrep
  have B := Lib.hid (((b1.trans (b2.mono b1.size)).trans (b3.mono (Nat.le_trans b1.size b2.size))).trans (b4.mono (Nat.le_trans b1.size (Nat.le_trans b2.size b3.size))))
  clear b1 b2 b3 b4
  have S := Lib.hid (HdW.start w w4 B.out)
  obtain ⟨g, hg4⟩ : ∃ g, w4.heap.size = g := ⟨_, rfl⟩
  refine abs_val (.pointer (some ⟨g, 0, none⟩)) rfl rfl rfl hrep (exec_alloc_ 30 rfl op_zero (by simp [hg4])) ?_
  clear hrep; intro A1 hrep
  refine abs_val (.pointer (some ⟨g + 1, 0, none⟩)) rfl rfl rfl hrep (exec_alloc_ 30 rfl op_zero (by simp [hg4])) ?_
  clear hrep; intro A1 hrep
  refine abs_val (.pointer (some ⟨g + 2, 0, none⟩)) rfl rfl rfl hrep (exec_alloc_ 30 rfl op_zero (by simp [hg4])) ?_
  clear hrep; intro A1 hrep
  refine abs_val (.pointer (some ⟨g + 3, 0, none⟩)) rfl rfl rfl hrep (exec_alloc_ 30 rfl op_zero (by simp [hg4])) ?_
  clear hrep; intro A1 hrep
  rw [hg4] at S
  obtain ⟨w5, hw5⟩ : ∃ W : World, W = ((((w4.alloc (.cells (Value.agg (opA zeroO (.slice none 0 0))).cells 30)).alloc (.cells (Value.agg (opA zeroO (.slice none 0 0))).cells 30)).alloc (.cells (Value.agg (opA zeroO (.slice none 0 0))).cells 30)).alloc (.cells (Value.agg (opA zeroO (.slice none 0 0))).cells 30)) := ⟨_, rfl⟩
  rw [← hw5]
  have S := Lib.hid (show HdW w g (opA zeroO (.slice none 0 0)) (opA zeroO (.slice none 0 0)) (opA zeroO (.slice none 0 0)) (opA zeroO (.slice none 0 0)) w5 by rw [hw5]; exact S.out)
  clear hw5 hg4 B
  refine abs_skip rfl rfl hrep (exec_store_row 30 _ _ rfl (hrep.ev 1) (hrep.ev 8) S.out.a (opsz addN rfl) rfl (opA_one_ addN none 0 0)) ?_
  clear hrep; intro A1 hrep
  have S := Lib.hid (S.out.rowA (opA addN (.slice none 0 0)))
  refine abs_skip rfl rfl hrep (exec_store_row 30 _ _ rfl (hrep.ev 2) (hrep.ev 9) S.out.b (opsz addN rfl) rfl (opA_one_ addN none 0 0)) ?_
  clear hrep; intro A1 hrep
  have S := Lib.hid (S.out.rowB (opA addN (.slice none 0 0)))
  refine abs_skip rfl rfl hrep (exec_store_row 30 _ _ rfl (hrep.ev 3) (hrep.ev 10) S.out.c (opsz addN rfl) rfl (opA_one_ addN none 0 0)) ?_
  clear hrep; intro A1 hrep
  have S := Lib.hid (S.out.rowC (opA addN (.slice none 0 0)))
  refine abs_skip rfl rfl hrep (exec_store_row 30 _ _ rfl (hrep.ev 4) (hrep.ev 11) S.out.d (opsz genN rfl) rfl (opA_one_ genN none 0 0)) ?_
  clear hrep; intro A1 hrep
  have S := Lib.hid (S.out.rowD (opA genN (.slice none 0 0)))
  refine lst_nil ?_
  go_upto_region 2 with fail
  refine lst_begin ?_
  rintro _ rfl
  refine abs_val (.pointer (some ⟨g, 26, none⟩)) rfl rfl rfl hrep (exec_addr 30 _ 14 rfl (hrep.ev 1) fa14) ?_
  clear hrep; intro A1 hrep
  refine abs_skip rfl rfl hrep (exec_store1 22 _ _ rfl (hrep.ev 12) rfl (st22 (S.out.a.cell 26) (S.out.a.frozen 26))) ?_
  clear hrep; intro A1 hrep
  have S := Lib.hid (S.out.cellA 26 (.int .u32 0))
  refine lst_nil ?_
  go_upto_region 3 with fail
  refine lst_begin ?_
  rintro _ rfl
  refine abs_val (.agg (vecA zer8)) rfl rfl rfl hrep (exec_build 26 _ rfl (by rfl) (by kernel_rfl)) ?_
  clear hrep; intro A1 hrep
  refine abs_val (.pointer (some ⟨g + 1, 2, none⟩)) rfl rfl rfl hrep (exec_addr 30 _ 1 rfl (hrep.ev 2) fa1) ?_
  clear hrep; intro A1 hrep
  refine abs_skip rfl rfl hrep (exec_store_mid 26 _ _ rfl (hrep.ev 14) (hrep.ev 13) S.out.b (by decide) (by rw [vecA_size]; exact size54) (vecA_one zer8)) ?_
  clear hrep; intro A1 hrep
  have S := Lib.hid (S.out.cellsB 2 (vecA zer8).toList)
  refine lst_nil ?_
  go_upto_region 4 with fail
  refine lst_begin ?_
  rintro _ rfl
  refine abs_val (.agg #[.int .u8 0, .int .u32 1]) rfl rfl rfl hrep (exec_build 24 _ rfl (by rfl) (by kernel_rfl)) ?_
  clear hrep; intro A1 hrep
  refine abs_val (.pointer (some ⟨g + 2, 21, none⟩)) rfl rfl rfl hrep (exec_addr 30 _ 11 rfl (hrep.ev 3) fa11) ?_
  clear hrep; intro A1 hrep
  refine abs_skip rfl rfl hrep (exec_store_mid 24 _ _ rfl (hrep.ev 16) (hrep.ev 15) S.out.c (by decide) size82 (by simp [Value.oneCell'])) ?_
  clear hrep; intro A1 hrep
  have S := Lib.hid (S.out.cellsC 21 (#[.int .u8 0, .int .u32 1] : Array Value).toList)
  refine lst_nil ?_
  go_upto_region 5 with fail
  refine lst_begin ?_
  rintro _ rfl
  refine abs_val (.pointer (some ⟨g + 3, 11, none⟩)) rfl rfl rfl hrep (exec_addr 30 _ 3 rfl (hrep.ev 4) fa3) ?_
  clear hrep; intro A1 hrep
  refine abs_skip rfl rfl hrep (exec_store1 22 _ _ rfl (hrep.ev 17) rfl (st22 (S.out.d.cell 11) (S.out.d.frozen 11))) ?_
  clear hrep; intro A1 hrep
  have S := Lib.hid (S.out.cellD 11 (.int .u32 0))
  have S := Lib.hid (show HdW w g (opA addA (.slice none 0 0)) (opA addB (.slice none 0 0)) (opA addC (.slice none 0 0)) (opA genD (.slice none 0 0)) _ from S.out)
  refine lst_nil ?_
  go_upto_region 6 with fail
  refine lst_begin ?_
  rintro _ rfl
  refine abs_call rfl rfl rfl hrep (exec_call0 rfl rfl map0 en26) ?_
  refine (gen_any _).mono ?_
  rintro _ w6 ⟨rfl, hb⟩
  have S := Lib.hid (S.out.below hb)
  clear hb
  refine ⟨_, rfl, ?_⟩
  clear hrep; intro A1 hrep
  refine abs_call rfl rfl rfl hrep (exec_call0 rfl rfl (map1 (hrep.ev 19)) en12) ?_
  refine (putO_any _ genN (.slice none 0 0) genN_ok (Lns.nil _)).mono ?_
  rintro _ w7 ⟨rfl, hb⟩
  have S := Lib.hid (S.out.below hb)
  clear hb
  rw [show putOR genN = .tuple #[.string wantS, .int .i64 0] from putOR_gen]
  refine ⟨_, rfl, ?_⟩
  clear hrep; intro A1 hrep
  refine abs_step (by rfl) hrep ?_
  clear hrep; intro A1 hrep
  refine abs_val (.string wantS) rfl rfl rfl hrep (exec_extract _ 0 rfl (hrep.ev 18) rfl) ?_
  clear hrep; intro A1 hrep
  refine abs_val (.int .i64 0) rfl rfl rfl hrep (exec_extract _ 1 rfl (hrep.ev 18) rfl) ?_
  clear hrep; intro A1 hrep
  refine abs_step (by rfl) hrep ?_
  clear hrep; intro A1 hrep
  refine abs_step (by rfl) hrep ?_
  clear hrep; intro A1 hrep
  refine lst_nil ?_
  go_upto_region 7 with fail
  refine cut_Q (fun A W => HdA (.string wantS) g A ∧ HdW w g (opA addA (.slice none 0 0)) (opA addB (.slice none 0 0)) (opA addC (.slice none 0 0)) (opA genD (.slice none 0 0)) W) ?_ (fun REST => ?_)
  · rintro A0 W0 ⟨HA, S0⟩
    have SW := Lib.hid S0
    clear S0
    repeat (clear S)
    clear hrep
    go_upto_region 8 with fail
    have GN := Lib.hid gen_any
    have AN := Lib.hid add_any
    have C_chk_gen := Lib.hid (fun W (hW : Below w.heap.size w W) => CK.out W hW genN genN_ok rfl 1 0 (by rw [chk_gen]; rfl))
    have C_chk_add := Lib.hid (fun W (hW : Below w.heap.size w W) => CK.out W hW addN addN_ok rfl 3 0 (by rw [chk_add]; rfl))
    have C_chk_add0 := Lib.hid (fun W (hW : Below w.heap.size w W) => CK.out W hW addN addN_ok rfl 0 2 (by rw [chk_add0]; rfl))
    have C_chk_a := Lib.hid (fun W (hW : Below w.heap.size w W) => CK.out W hW addA addA_ok rfl 3 5 (by rw [chk_a]; rfl))
    have C_chk_b := Lib.hid (fun W (hW : Below w.heap.size w W) => CK.out W hW addB addB_ok rfl 3 5 (by rw [chk_b]; rfl))
    have C_chk_c := Lib.hid (fun W (hW : Below w.heap.size w W) => CK.out W hW addC addC_ok rfl 3 5 (by rw [chk_c]; rfl))
    have C_chk_d := Lib.hid (fun W (hW : Below w.heap.size w W) => CK.out W hW genD genD_ok rfl 1 5 (by rw [chk_d]; rfl))
    have SM1 := Lib.hid (fun W => SM.out W addN addN addN_ok addN_ok rfl rfl true (by simp))
    have SM2 := Lib.hid (fun W => SM.out W addN addA addN_ok addA_ok rfl rfl false (by simp [addA, addN]))
    have ZA := Lib.hid (opA_size addA (.slice none 0 0) rfl)
    have ZB := Lib.hid (opA_size addB (.slice none 0 0) rfl)
    have ZC := Lib.hid (opA_size addC (.slice none 0 0) rfl)
    have ZD := Lib.hid (opA_size genD (.slice none 0 0) rfl)
    generalize opA addA (.slice none 0 0) = XA at *
    generalize opA addB (.slice none 0 0) = XB at *
    generalize opA addC (.slice none 0 0) = XC at *
    generalize opA genD (.slice none 0 0) = XD at *
    generalize opA addN (.slice none 0 0) = XN at *
    generalize opA genN (.slice none 0 0) = XG at *
    generalize wantS = WS at *
    clear CK SM
    refine wp_region_I (HdW w g XA XB XC XD) (by kernel_rfl) (by kernel_rfl) (HdW.drew SW.out) ?_
    intro A2 hA2
    rw [hA2]
    clear hA2 A2
    have h1 := HA.t1
    have h2 := HA.t2
    have h3 := HA.t3
    have h4 := HA.t4
    have h5 := HA.t5
    have h6 := HA.t6
    have h7 := HA.t7
    have hrep : Rep 83 A0 [] A0 := Rep.start HA.sz HA.df
    clear HA
    refine absq_call (f := 26) (args := #[]) rfl rfl rfl hrep (fun W hW => exec_call0 rfl rfl map0 en26) (v := .agg XG) (fun W hW => (GN.out W).mono fun e w' h => ⟨h.1, hW.below h.2⟩) ?_
    clear hrep; intro A1 hrep
    refine absq_call (f := 7) (args := #[.agg XG, .int .i64 1]) rfl rfl rfl hrep (fun W hW => exec_call0 rfl rfl (map2 (hrep.ev 30) rfl) en7) (v := .int .i64 0) (fun W hW => (C_chk_gen.out W hW.b0).mono fun e w' h => ⟨h.1, hW.below h.2⟩) ?_
    clear hrep; intro A1 hrep
    refine absq_val (.bool true) rfl rfl rfl hrep (fun W hW => exec_bin .eql 31 31 _ (.const (.int .i64 0)) rfl (hrep.ev 31) rfl (eqg_gt _ _ _ _ _ _ _ _) (eq_int 31 .i64 _ _ _ Tryd.underlying31 (by rfl) _)) ?_
    clear hrep; intro A1 hrep
    refine absq_step (by rfl) hrep ?_
    clear hrep; intro A1 hrep
    refine absq_call (f := 25) (args := #[]) rfl rfl rfl hrep (fun W hW => exec_call0 rfl rfl map0 en25) (v := .agg XN) (fun W hW => (AN.out W).mono fun e w' h => ⟨h.1, hW.below h.2⟩) ?_
    clear hrep; intro A1 hrep
    refine absq_call (f := 7) (args := #[.agg XN, .int .i64 3]) rfl rfl rfl hrep (fun W hW => exec_call0 rfl rfl (map2 (hrep.ev 34) rfl) en7) (v := .int .i64 0) (fun W hW => (C_chk_add.out W hW.b0).mono fun e w' h => ⟨h.1, hW.below h.2⟩) ?_
    clear hrep; intro A1 hrep
    refine absq_val (.bool true) rfl rfl rfl hrep (fun W hW => exec_bin .eql 31 31 _ (.const (.int .i64 0)) rfl (hrep.ev 35) rfl (eqg_gt _ _ _ _ _ _ _ _) (eq_int 31 .i64 _ _ _ Tryd.underlying31 (by rfl) _)) ?_
    clear hrep; intro A1 hrep
    refine absq_step (by rfl) hrep ?_
    clear hrep; intro A1 hrep
    refine absq_step (by rfl) hrep ?_
    clear hrep; intro A1 hrep
    refine absq_call (f := 25) (args := #[]) rfl rfl rfl hrep (fun W hW => exec_call0 rfl rfl map0 en25) (v := .agg XN) (fun W hW => (AN.out W).mono fun e w' h => ⟨h.1, hW.below h.2⟩) ?_
    clear hrep; intro A1 hrep
    refine absq_call (f := 7) (args := #[.agg XN, .int .i64 0]) rfl rfl rfl hrep (fun W hW => exec_call0 rfl rfl (map2 (hrep.ev 39) rfl) en7) (v := .int .i64 2) (fun W hW => (C_chk_add0.out W hW.b0).mono fun e w' h => ⟨h.1, hW.below h.2⟩) ?_
    clear hrep; intro A1 hrep
    refine absq_val (.bool true) rfl rfl rfl hrep (fun W hW => exec_bin .eql 31 31 _ (.const (.int .i64 2)) rfl (hrep.ev 40) rfl (eqg_gt _ _ _ _ _ _ _ _) (eq_int 31 .i64 _ _ _ Tryd.underlying31 (by rfl) _)) ?_
    clear hrep; intro A1 hrep
    refine absq_step (by rfl) hrep ?_
    clear hrep; intro A1 hrep
    refine absq_step (by rfl) hrep ?_
    clear hrep; intro A1 hrep
    refine absq_val (.agg XA) rfl rfl rfl hrep (fun W hW => exec_load1 30 _ rfl ((hrep.ev 1).trans h1) (ld122 hW.a ZA.out)) ?_
    clear hrep; intro A1 hrep
    refine absq_call (f := 7) (args := #[.agg XA, .int .i64 3]) rfl rfl rfl hrep (fun W hW => exec_call0 rfl rfl (map2 (hrep.ev 44) rfl) en7) (v := .int .i64 5) (fun W hW => (C_chk_a.out W hW.b0).mono fun e w' h => ⟨h.1, hW.below h.2⟩) ?_
    clear hrep; intro A1 hrep
    refine absq_val (.bool true) rfl rfl rfl hrep (fun W hW => exec_bin .eql 31 31 _ (.const (.int .i64 5)) rfl (hrep.ev 45) rfl (eqg_gt _ _ _ _ _ _ _ _) (eq_int 31 .i64 _ _ _ Tryd.underlying31 (by rfl) _)) ?_
    clear hrep; intro A1 hrep
    refine absq_step (by rfl) hrep ?_
    clear hrep; intro A1 hrep
    refine absq_step (by rfl) hrep ?_
    clear hrep; intro A1 hrep
    refine absq_val (.agg XB) rfl rfl rfl hrep (fun W hW => exec_load1 30 _ rfl ((hrep.ev 2).trans h2) (ld122 hW.b ZB.out)) ?_
    clear hrep; intro A1 hrep
    refine absq_call (f := 7) (args := #[.agg XB, .int .i64 3]) rfl rfl rfl hrep (fun W hW => exec_call0 rfl rfl (map2 (hrep.ev 49) rfl) en7) (v := .int .i64 5) (fun W hW => (C_chk_b.out W hW.b0).mono fun e w' h => ⟨h.1, hW.below h.2⟩) ?_
    clear hrep; intro A1 hrep
    refine absq_val (.bool true) rfl rfl rfl hrep (fun W hW => exec_bin .eql 31 31 _ (.const (.int .i64 5)) rfl (hrep.ev 50) rfl (eqg_gt _ _ _ _ _ _ _ _) (eq_int 31 .i64 _ _ _ Tryd.underlying31 (by rfl) _)) ?_
    clear hrep; intro A1 hrep
    refine absq_step (by rfl) hrep ?_
    clear hrep; intro A1 hrep
    refine absq_step (by rfl) hrep ?_
    clear hrep; intro A1 hrep
    refine absq_val (.agg XC) rfl rfl rfl hrep (fun W hW => exec_load1 30 _ rfl ((hrep.ev 3).trans h3) (ld122 hW.c ZC.out)) ?_
    clear hrep; intro A1 hrep
    refine absq_call (f := 7) (args := #[.agg XC, .int .i64 3]) rfl rfl rfl hrep (fun W hW => exec_call0 rfl rfl (map2 (hrep.ev 54) rfl) en7) (v := .int .i64 5) (fun W hW => (C_chk_c.out W hW.b0).mono fun e w' h => ⟨h.1, hW.below h.2⟩) ?_
    clear hrep; intro A1 hrep
    refine absq_val (.bool true) rfl rfl rfl hrep (fun W hW => exec_bin .eql 31 31 _ (.const (.int .i64 5)) rfl (hrep.ev 55) rfl (eqg_gt _ _ _ _ _ _ _ _) (eq_int 31 .i64 _ _ _ Tryd.underlying31 (by rfl) _)) ?_
    clear hrep; intro A1 hrep
    refine absq_step (by rfl) hrep ?_
    clear hrep; intro A1 hrep
    refine absq_step (by rfl) hrep ?_
    clear hrep; intro A1 hrep
    refine absq_val (.agg XD) rfl rfl rfl hrep (fun W hW => exec_load1 30 _ rfl ((hrep.ev 4).trans h4) (ld122 hW.d ZD.out)) ?_
    clear hrep; intro A1 hrep
    refine absq_call (f := 7) (args := #[.agg XD, .int .i64 1]) rfl rfl rfl hrep (fun W hW => exec_call0 rfl rfl (map2 (hrep.ev 59) rfl) en7) (v := .int .i64 5) (fun W hW => (C_chk_d.out W hW.b0).mono fun e w' h => ⟨h.1, hW.below h.2⟩) ?_
    clear hrep; intro A1 hrep
    refine absq_val (.bool true) rfl rfl rfl hrep (fun W hW => exec_bin .eql 31 31 _ (.const (.int .i64 5)) rfl (hrep.ev 60) rfl (eqg_gt _ _ _ _ _ _ _ _) (eq_int 31 .i64 _ _ _ Tryd.underlying31 (by rfl) _)) ?_
    clear hrep; intro A1 hrep
    refine absq_step (by rfl) hrep ?_
    clear hrep; intro A1 hrep
    refine absq_step (by rfl) hrep ?_
    clear hrep; intro A1 hrep
    refine absq_step (by rfl) hrep ?_
    clear hrep; intro A1 hrep
    refine absq_step (by rfl) hrep ?_
    clear hrep; intro A1 hrep
    refine absq_val (.bool true) rfl rfl rfl hrep (fun W hW => exec_bin .eql 9 9 _ _ rfl ((hrep.ev 64).trans h5) ((hrep.ev 65).trans h7) (eqg_str _ _ _ _ _ _) (eq_str _ _)) ?_
    clear hrep; intro A1 hrep
    refine absq_step (by rfl) hrep ?_
    clear hrep; intro A1 hrep
    refine absq_step (by rfl) hrep ?_
    clear hrep; intro A1 hrep
    refine absq_step (by rfl) hrep ?_
    clear hrep; intro A1 hrep
    refine absq_val (.bool true) rfl rfl rfl hrep (fun W hW => exec_bin .eql 31 31 _ (.const (.int .i64 0)) rfl ((hrep.ev 69).trans h6) rfl (eqg_gt _ _ _ _ _ _ _ _) (eq_int 31 .i64 _ _ _ Tryd.underlying31 (by rfl) _)) ?_
    clear hrep; intro A1 hrep
    refine absq_step (by rfl) hrep ?_
    clear hrep; intro A1 hrep
    refine absq_step (by rfl) hrep ?_
    clear hrep; intro A1 hrep
    refine absq_call (f := 25) (args := #[]) rfl rfl rfl hrep (fun W hW => exec_call0 rfl rfl map0 en25) (v := .agg XN) (fun W hW => (AN.out W).mono fun e w' h => ⟨h.1, hW.below h.2⟩) ?_
    clear hrep; intro A1 hrep
    refine absq_call (f := 25) (args := #[]) rfl rfl rfl hrep (fun W hW => exec_call0 rfl rfl map0 en25) (v := .agg XN) (fun W hW => (AN.out W).mono fun e w' h => ⟨h.1, hW.below h.2⟩) ?_
    clear hrep; intro A1 hrep
    refine absq_call (f := 16) (args := #[.agg XN, .agg XN]) rfl rfl rfl hrep (fun W hW => exec_call0 rfl rfl (map2 (hrep.ev 73) (hrep.ev 74)) en16) (v := .bool true) (fun W hW => (SM1.out W).mono fun e w' h => ⟨h.1, hW.below h.2⟩) ?_
    clear hrep; intro A1 hrep
    refine absq_step (by rfl) hrep ?_
    clear hrep; intro A1 hrep
    refine absq_step (by rfl) hrep ?_
    clear hrep; intro A1 hrep
    refine absq_call (f := 25) (args := #[]) rfl rfl rfl hrep (fun W hW => exec_call0 rfl rfl map0 en25) (v := .agg XN) (fun W hW => (AN.out W).mono fun e w' h => ⟨h.1, hW.below h.2⟩) ?_
    clear hrep; intro A1 hrep
    refine absq_val (.agg XA) rfl rfl rfl hrep (fun W hW => exec_load1 30 _ rfl ((hrep.ev 1).trans h1) (ld122 hW.a ZA.out)) ?_
    clear hrep; intro A1 hrep
    refine absq_call (f := 16) (args := #[.agg XN, .agg XA]) rfl rfl rfl hrep (fun W hW => exec_call0 rfl rfl (map2 (hrep.ev 78) (hrep.ev 79)) en16) (v := .bool false) (fun W hW => (SM2.out W).mono fun e w' h => ⟨h.1, hW.below h.2⟩) ?_
    clear hrep; intro A1 hrep
    refine absq_val (.bool true) rfl rfl rfl hrep (fun W hW => exec_not (b := false) rfl (hrep.ev 80)) ?_
    clear hrep; intro A1 hrep
    refine absq_step (by rfl) hrep ?_
    clear hrep; intro A1 hrep
    refine absq_step (by rfl) hrep ?_
    clear hrep; intro A1 hrep
    refine q_nil ?_
    intro w' hI
    have hv := hrep.ev 0
    have hd := hrep.df
    clear hrep
    go_wp2_with fail
    refine bodyPost_ret (results_tmp rfl _ _ _) hd ?_
    exact ⟨congrArg Ending.returned hv, hI.b0⟩
  · have SD := Lib.hid (HdW.drew S.out)
    refine reg_begin_ (fun _ => True) (by kernel_rfl) ?_
    rintro _ rfl
    refine reg_two (i := 0) (j := 4) (by kernel_rfl) ?_ ?_
    · refine op_run (some 23) (v := .slice (some ⟨(w7.drew).heap.size, 0, none⟩) 8 8) rfl rfl (by rfl) (exec_mk 48 (.const (.int .i64 8)) (.const (.int .i64 8)) rfl rfl rfl (mk8 _)) trivial ?_
      have hrep := hrep.put (d := 23) (by decide) (x := .v (.slice (some ⟨(w7.drew).heap.size, 0, none⟩) 8 8)) (v := .slice (some ⟨(w7.drew).heap.size, 0, none⟩) 8 8) rfl
      refine reg_two (i := 1) (j := 4) (by kernel_rfl) ?_ ?_
      · refine op_run (some 24) (v := .string s8) rfl rfl (by rfl) (exec_cv 48 9 _ rfl (hrep.ev 23) (cvz8 _ _ (Blk.new (w7.drew) 5 (zr 8)))) trivial ?_
        have hrep := hrep.put (d := 24) (by decide) (x := .v (.string s8)) (v := .string s8) rfl
        refine reg_take (some 25) (i := 2) (.string sA) rfl rfl (by kernel_rfl) (fun _ _ _ h => h) (by rfl) (fun W hW => exec_bin .add 9 9 (.const (.string ⟨#[0, 1]⟩)) _ rfl rfl (hrep.ev 24) (eqg_adds _ _ _ _ _ _) (add1 _)) trivial ?_
        have hrep := hrep.put (d := 25) (by decide) (x := .v (.string sA)) (v := .string sA) rfl
        refine reg_take (some 26) (i := 3) (.string sB) rfl rfl (by kernel_rfl) (fun _ _ _ h => h) (by rfl) (fun W hW => exec_bin .add 9 9 _ (.const (.string ⟨#[1, 7, 0, 1, 0]⟩)) rfl (hrep.ev 25) rfl (eqg_adds _ _ _ _ _ _) (add2 _)) trivial ?_
        have hrep := hrep.put (d := 26) (by decide) (x := .v (.string sB)) (v := .string sB) rfl
        refine reg_run (some 27) (i := 4) (v := .slice (some ⟨((w7.drew).alloc (.cells (zr 8) 5)).heap.size, 0, none⟩) 14 14) rfl rfl (by kernel_rfl) (by rfl) (exec_mk 48 (.const (.int .i64 14)) (.const (.int .i64 14)) rfl rfl rfl (mk14 _)) trivial ?_
        have hrep := hrep.put (d := 27) (by decide) (x := .v (.slice (some ⟨((w7.drew).alloc (.cells (zr 8) 5)).heap.size, 0, none⟩) 14 14)) (v := .slice (some ⟨((w7.drew).alloc (.cells (zr 8) 5)).heap.size, 0, none⟩) 14 14) rfl
        refine reg_run (some 28) (i := 5) (v := .string s14) rfl rfl (by kernel_rfl) (by rfl) (exec_cv 48 9 _ rfl (hrep.ev 27) (cvz14 _ _ (Blk.new ((w7.drew).alloc (.cells (zr 8) 5)) 5 (zr 14)))) trivial ?_
        have hrep := hrep.put (d := 28) (by decide) (x := .v (.string s14)) (v := .string s14) rfl
        refine reg_run (some 29) (i := 6) (v := .string sC) rfl rfl (by kernel_rfl) (by rfl) (exec_bin .add 9 9 _ _ rfl (hrep.ev 26) (hrep.ev 28) (eqg_adds _ _ _ _ _ _) (add3 _)) trivial ?_
        have hrep := hrep.put (d := 29) (by decide) (x := .v (.string sC)) (v := .string sC) rfl
        refine reg_run (some 7) (i := 7) (v := .string sC) rfl rfl (by kernel_rfl) (by rfl) (exec_assign _ rfl (hrep.ev 29)) trivial ?_
        have hrep := hrep.put (d := 7) (by decide) (x := .v (.string sC)) (v := .string sC) rfl
        refine reg_end (by kernel_rfl) ?_
        exact REST _ _ ⟨⟨hrep.sz, hrep.df, hrep.ev 1, hrep.ev 2, hrep.ev 3, hrep.ev 4, hrep.ev 5, hrep.ev 6, (hrep.ev 7).trans want_eq⟩, SD.out.below (two_below _ _ _)⟩
      · refine op_run (some 27) (v := .slice (some ⟨((w7.drew).alloc (.cells (zr 8) 5)).heap.size, 0, none⟩) 14 14) rfl rfl (by rfl) (exec_mk 48 (.const (.int .i64 14)) (.const (.int .i64 14)) rfl rfl rfl (mk14 _)) trivial ?_
        have hrep := hrep.put (d := 27) (by decide) (x := .v (.slice (some ⟨((w7.drew).alloc (.cells (zr 8) 5)).heap.size, 0, none⟩) 14 14)) (v := .slice (some ⟨((w7.drew).alloc (.cells (zr 8) 5)).heap.size, 0, none⟩) 14 14) rfl
        refine reg_two (i := 1) (j := 5) (by kernel_rfl) ?_ ?_
        · refine op_run (some 24) (v := .string s8) rfl rfl (by rfl) (exec_cv 48 9 _ rfl (hrep.ev 23) (cvz8 _ _ ((Blk.new (w7.drew) 5 (zr 8)).alloc _))) trivial ?_
          have hrep := hrep.put (d := 24) (by decide) (x := .v (.string s8)) (v := .string s8) rfl
          refine reg_take (some 25) (i := 2) (.string sA) rfl rfl (by kernel_rfl) (fun _ _ _ h => h) (by rfl) (fun W hW => exec_bin .add 9 9 (.const (.string ⟨#[0, 1]⟩)) _ rfl rfl (hrep.ev 24) (eqg_adds _ _ _ _ _ _) (add1 _)) trivial ?_
          have hrep := hrep.put (d := 25) (by decide) (x := .v (.string sA)) (v := .string sA) rfl
          refine reg_take (some 26) (i := 3) (.string sB) rfl rfl (by kernel_rfl) (fun _ _ _ h => h) (by rfl) (fun W hW => exec_bin .add 9 9 _ (.const (.string ⟨#[1, 7, 0, 1, 0]⟩)) rfl (hrep.ev 25) rfl (eqg_adds _ _ _ _ _ _) (add2 _)) trivial ?_
          have hrep := hrep.put (d := 26) (by decide) (x := .v (.string sB)) (v := .string sB) rfl
          refine reg_run (some 28) (i := 5) (v := .string s14) rfl rfl (by kernel_rfl) (by rfl) (exec_cv 48 9 _ rfl (hrep.ev 27) (cvz14 _ _ (Blk.new ((w7.drew).alloc (.cells (zr 8) 5)) 5 (zr 14)))) trivial ?_
          have hrep := hrep.put (d := 28) (by decide) (x := .v (.string s14)) (v := .string s14) rfl
          refine reg_run (some 29) (i := 6) (v := .string sC) rfl rfl (by kernel_rfl) (by rfl) (exec_bin .add 9 9 _ _ rfl (hrep.ev 26) (hrep.ev 28) (eqg_adds _ _ _ _ _ _) (add3 _)) trivial ?_
          have hrep := hrep.put (d := 29) (by decide) (x := .v (.string sC)) (v := .string sC) rfl
          refine reg_run (some 7) (i := 7) (v := .string sC) rfl rfl (by kernel_rfl) (by rfl) (exec_assign _ rfl (hrep.ev 29)) trivial ?_
          have hrep := hrep.put (d := 7) (by decide) (x := .v (.string sC)) (v := .string sC) rfl
          refine reg_end (by kernel_rfl) ?_
          exact REST _ _ ⟨⟨hrep.sz, hrep.df, hrep.ev 1, hrep.ev 2, hrep.ev 3, hrep.ev 4, hrep.ev 5, hrep.ev 6, (hrep.ev 7).trans want_eq⟩, SD.out.below (two_below _ _ _)⟩
        · refine op_run (some 28) (v := .string s14) rfl rfl (by rfl) (exec_cv 48 9 _ rfl (hrep.ev 27) (cvz14 _ _ (Blk.new ((w7.drew).alloc (.cells (zr 8) 5)) 5 (zr 14)))) trivial ?_
          have hrep := hrep.put (d := 28) (by decide) (x := .v (.string s14)) (v := .string s14) rfl
          refine reg_run (some 24) (i := 1) (v := .string s8) rfl rfl (by kernel_rfl) (by rfl) (exec_cv 48 9 _ rfl (hrep.ev 23) (cvz8 _ _ ((Blk.new (w7.drew) 5 (zr 8)).alloc _))) trivial ?_
          have hrep := hrep.put (d := 24) (by decide) (x := .v (.string s8)) (v := .string s8) rfl
          refine reg_take (some 25) (i := 2) (.string sA) rfl rfl (by kernel_rfl) (fun _ _ _ h => h) (by rfl) (fun W hW => exec_bin .add 9 9 (.const (.string ⟨#[0, 1]⟩)) _ rfl rfl (hrep.ev 24) (eqg_adds _ _ _ _ _ _) (add1 _)) trivial ?_
          have hrep := hrep.put (d := 25) (by decide) (x := .v (.string sA)) (v := .string sA) rfl
          refine reg_take (some 26) (i := 3) (.string sB) rfl rfl (by kernel_rfl) (fun _ _ _ h => h) (by rfl) (fun W hW => exec_bin .add 9 9 _ (.const (.string ⟨#[1, 7, 0, 1, 0]⟩)) rfl (hrep.ev 25) rfl (eqg_adds _ _ _ _ _ _) (add2 _)) trivial ?_
          have hrep := hrep.put (d := 26) (by decide) (x := .v (.string sB)) (v := .string sB) rfl
          refine reg_run (some 29) (i := 6) (v := .string sC) rfl rfl (by kernel_rfl) (by rfl) (exec_bin .add 9 9 _ _ rfl (hrep.ev 26) (hrep.ev 28) (eqg_adds _ _ _ _ _ _) (add3 _)) trivial ?_
          have hrep := hrep.put (d := 29) (by decide) (x := .v (.string sC)) (v := .string sC) rfl
          refine reg_run (some 7) (i := 7) (v := .string sC) rfl rfl (by kernel_rfl) (by rfl) (exec_assign _ rfl (hrep.ev 29)) trivial ?_
          have hrep := hrep.put (d := 7) (by decide) (x := .v (.string sC)) (v := .string sC) rfl
          refine reg_end (by kernel_rfl) ?_
          exact REST _ _ ⟨⟨hrep.sz, hrep.df, hrep.ev 1, hrep.ev 2, hrep.ev 3, hrep.ev 4, hrep.ev 5, hrep.ev 6, (hrep.ev 7).trans want_eq⟩, SD.out.below (two_below _ _ _)⟩


    · refine op_run (some 27) (v := .slice (some ⟨(w7.drew).heap.size, 0, none⟩) 14 14) rfl rfl (by rfl) (exec_mk 48 (.const (.int .i64 14)) (.const (.int .i64 14)) rfl rfl rfl (mk14 _)) trivial ?_
      have hrep := hrep.put (d := 27) (by decide) (x := .v (.slice (some ⟨(w7.drew).heap.size, 0, none⟩) 14 14)) (v := .slice (some ⟨(w7.drew).heap.size, 0, none⟩) 14 14) rfl
      refine reg_two (i := 0) (j := 5) (by kernel_rfl) ?_ ?_
      · refine op_run (some 23) (v := .slice (some ⟨((w7.drew).alloc (.cells (zr 14) 5)).heap.size, 0, none⟩) 8 8) rfl rfl (by rfl) (exec_mk 48 (.const (.int .i64 8)) (.const (.int .i64 8)) rfl rfl rfl (mk8 _)) trivial ?_
        have hrep := hrep.put (d := 23) (by decide) (x := .v (.slice (some ⟨((w7.drew).alloc (.cells (zr 14) 5)).heap.size, 0, none⟩) 8 8)) (v := .slice (some ⟨((w7.drew).alloc (.cells (zr 14) 5)).heap.size, 0, none⟩) 8 8) rfl
        refine reg_two (i := 1) (j := 5) (by kernel_rfl) ?_ ?_
        · refine op_run (some 24) (v := .string s8) rfl rfl (by rfl) (exec_cv 48 9 _ rfl (hrep.ev 23) (cvz8 _ _ (Blk.new ((w7.drew).alloc (.cells (zr 14) 5)) 5 (zr 8)))) trivial ?_
          have hrep := hrep.put (d := 24) (by decide) (x := .v (.string s8)) (v := .string s8) rfl
          refine reg_take (some 25) (i := 2) (.string sA) rfl rfl (by kernel_rfl) (fun _ _ _ h => h) (by rfl) (fun W hW => exec_bin .add 9 9 (.const (.string ⟨#[0, 1]⟩)) _ rfl rfl (hrep.ev 24) (eqg_adds _ _ _ _ _ _) (add1 _)) trivial ?_
          have hrep := hrep.put (d := 25) (by decide) (x := .v (.string sA)) (v := .string sA) rfl
          refine reg_take (some 26) (i := 3) (.string sB) rfl rfl (by kernel_rfl) (fun _ _ _ h => h) (by rfl) (fun W hW => exec_bin .add 9 9 _ (.const (.string ⟨#[1, 7, 0, 1, 0]⟩)) rfl (hrep.ev 25) rfl (eqg_adds _ _ _ _ _ _) (add2 _)) trivial ?_
          have hrep := hrep.put (d := 26) (by decide) (x := .v (.string sB)) (v := .string sB) rfl
          refine reg_run (some 28) (i := 5) (v := .string s14) rfl rfl (by kernel_rfl) (by rfl) (exec_cv 48 9 _ rfl (hrep.ev 27) (cvz14 _ _ ((Blk.new (w7.drew) 5 (zr 14)).alloc _))) trivial ?_
          have hrep := hrep.put (d := 28) (by decide) (x := .v (.string s14)) (v := .string s14) rfl
          refine reg_run (some 29) (i := 6) (v := .string sC) rfl rfl (by kernel_rfl) (by rfl) (exec_bin .add 9 9 _ _ rfl (hrep.ev 26) (hrep.ev 28) (eqg_adds _ _ _ _ _ _) (add3 _)) trivial ?_
          have hrep := hrep.put (d := 29) (by decide) (x := .v (.string sC)) (v := .string sC) rfl
          refine reg_run (some 7) (i := 7) (v := .string sC) rfl rfl (by kernel_rfl) (by rfl) (exec_assign _ rfl (hrep.ev 29)) trivial ?_
          have hrep := hrep.put (d := 7) (by decide) (x := .v (.string sC)) (v := .string sC) rfl
          refine reg_end (by kernel_rfl) ?_
          exact REST _ _ ⟨⟨hrep.sz, hrep.df, hrep.ev 1, hrep.ev 2, hrep.ev 3, hrep.ev 4, hrep.ev 5, hrep.ev 6, (hrep.ev 7).trans want_eq⟩, SD.out.below (two_below _ _ _)⟩
        · refine op_run (some 28) (v := .string s14) rfl rfl (by rfl) (exec_cv 48 9 _ rfl (hrep.ev 27) (cvz14 _ _ ((Blk.new (w7.drew) 5 (zr 14)).alloc _))) trivial ?_
          have hrep := hrep.put (d := 28) (by decide) (x := .v (.string s14)) (v := .string s14) rfl
          refine reg_run (some 24) (i := 1) (v := .string s8) rfl rfl (by kernel_rfl) (by rfl) (exec_cv 48 9 _ rfl (hrep.ev 23) (cvz8 _ _ (Blk.new ((w7.drew).alloc (.cells (zr 14) 5)) 5 (zr 8)))) trivial ?_
          have hrep := hrep.put (d := 24) (by decide) (x := .v (.string s8)) (v := .string s8) rfl
          refine reg_take (some 25) (i := 2) (.string sA) rfl rfl (by kernel_rfl) (fun _ _ _ h => h) (by rfl) (fun W hW => exec_bin .add 9 9 (.const (.string ⟨#[0, 1]⟩)) _ rfl rfl (hrep.ev 24) (eqg_adds _ _ _ _ _ _) (add1 _)) trivial ?_
          have hrep := hrep.put (d := 25) (by decide) (x := .v (.string sA)) (v := .string sA) rfl
          refine reg_take (some 26) (i := 3) (.string sB) rfl rfl (by kernel_rfl) (fun _ _ _ h => h) (by rfl) (fun W hW => exec_bin .add 9 9 _ (.const (.string ⟨#[1, 7, 0, 1, 0]⟩)) rfl (hrep.ev 25) rfl (eqg_adds _ _ _ _ _ _) (add2 _)) trivial ?_
          have hrep := hrep.put (d := 26) (by decide) (x := .v (.string sB)) (v := .string sB) rfl
          refine reg_run (some 29) (i := 6) (v := .string sC) rfl rfl (by kernel_rfl) (by rfl) (exec_bin .add 9 9 _ _ rfl (hrep.ev 26) (hrep.ev 28) (eqg_adds _ _ _ _ _ _) (add3 _)) trivial ?_
          have hrep := hrep.put (d := 29) (by decide) (x := .v (.string sC)) (v := .string sC) rfl
          refine reg_run (some 7) (i := 7) (v := .string sC) rfl rfl (by kernel_rfl) (by rfl) (exec_assign _ rfl (hrep.ev 29)) trivial ?_
          have hrep := hrep.put (d := 7) (by decide) (x := .v (.string sC)) (v := .string sC) rfl
          refine reg_end (by kernel_rfl) ?_
          exact REST _ _ ⟨⟨hrep.sz, hrep.df, hrep.ev 1, hrep.ev 2, hrep.ev 3, hrep.ev 4, hrep.ev 5, hrep.ev 6, (hrep.ev 7).trans want_eq⟩, SD.out.below (two_below _ _ _)⟩

      · refine op_run (some 28) (v := .string s14) rfl rfl (by rfl) (exec_cv 48 9 _ rfl (hrep.ev 27) (cvz14 _ _ (Blk.new (w7.drew) 5 (zr 14)))) trivial ?_
        have hrep := hrep.put (d := 28) (by decide) (x := .v (.string s14)) (v := .string s14) rfl
        refine reg_run (some 23) (i := 0) (v := .slice (some ⟨((w7.drew).alloc (.cells (zr 14) 5)).heap.size, 0, none⟩) 8 8) rfl rfl (by kernel_rfl) (by rfl) (exec_mk 48 (.const (.int .i64 8)) (.const (.int .i64 8)) rfl rfl rfl (mk8 _)) trivial ?_
        have hrep := hrep.put (d := 23) (by decide) (x := .v (.slice (some ⟨((w7.drew).alloc (.cells (zr 14) 5)).heap.size, 0, none⟩) 8 8)) (v := .slice (some ⟨((w7.drew).alloc (.cells (zr 14) 5)).heap.size, 0, none⟩) 8 8) rfl
        refine reg_run (some 24) (i := 1) (v := .string s8) rfl rfl (by kernel_rfl) (by rfl) (exec_cv 48 9 _ rfl (hrep.ev 23) (cvz8 _ _ (Blk.new ((w7.drew).alloc (.cells (zr 14) 5)) 5 (zr 8)))) trivial ?_
        have hrep := hrep.put (d := 24) (by decide) (x := .v (.string s8)) (v := .string s8) rfl
        refine reg_take (some 25) (i := 2) (.string sA) rfl rfl (by kernel_rfl) (fun _ _ _ h => h) (by rfl) (fun W hW => exec_bin .add 9 9 (.const (.string ⟨#[0, 1]⟩)) _ rfl rfl (hrep.ev 24) (eqg_adds _ _ _ _ _ _) (add1 _)) trivial ?_
        have hrep := hrep.put (d := 25) (by decide) (x := .v (.string sA)) (v := .string sA) rfl
        refine reg_take (some 26) (i := 3) (.string sB) rfl rfl (by kernel_rfl) (fun _ _ _ h => h) (by rfl) (fun W hW => exec_bin .add 9 9 _ (.const (.string ⟨#[1, 7, 0, 1, 0]⟩)) rfl (hrep.ev 25) rfl (eqg_adds _ _ _ _ _ _) (add2 _)) trivial ?_
        have hrep := hrep.put (d := 26) (by decide) (x := .v (.string sB)) (v := .string sB) rfl
        refine reg_run (some 29) (i := 6) (v := .string sC) rfl rfl (by kernel_rfl) (by rfl) (exec_bin .add 9 9 _ _ rfl (hrep.ev 26) (hrep.ev 28) (eqg_adds _ _ _ _ _ _) (add3 _)) trivial ?_
        have hrep := hrep.put (d := 29) (by decide) (x := .v (.string sC)) (v := .string sC) rfl
        refine reg_run (some 7) (i := 7) (v := .string sC) rfl rfl (by kernel_rfl) (by rfl) (exec_assign _ rfl (hrep.ev 29)) trivial ?_
        have hrep := hrep.put (d := 7) (by decide) (x := .v (.string sC)) (v := .string sC) rfl
        refine reg_end (by kernel_rfl) ?_
        exact REST _ _ ⟨⟨hrep.sz, hrep.df, hrep.ev 1, hrep.ev 2, hrep.ev 3, hrep.ev 4, hrep.ev 5, hrep.ev 6, (hrep.ev 7).trans want_eq⟩, SD.out.below (two_below _ _ _)⟩


end Go.Proofs.YtfojjklohbiffaaDoor
namespace Go.Proofs.YtfojjklohbiffaaDoor
open Go.RowKit Tran Tran.Wire
set_option linter.unusedVariables false
set_option linter.unusedSimpArgs false
/-- worlds in which blocks and lines stand -/
structure Bls (w0 : World) (bs : List (Nat × TypeId × Array Value)) (ls : List (Value × List NClaim)) (W : World) : Prop where
  k : ∀ b ∈ bs, Blk W b.1 b.2.1 b.2.2
  l : ∀ p ∈ ls, Lns W p.1 p.2
  b : Below w0.heap.size w0 W
section
variable {w0 W W' : World} {bs : List (Nat × TypeId × Array Value)} {ls : List (Value × List NClaim)}
theorem Bls.below (h : Bls w0 bs ls W) (hb : Below W.heap.size W W') : Bls w0 bs ls W' := ⟨fun b hm => (h.k b hm).below hb (h.k b hm).lt, fun p hm => (h.l p hm).later hb, h.b.trans (hb.mono h.b.size)⟩
theorem Bls.drew (h : Bls w0 bs ls W) : Bls w0 bs ls W.drew := h.below (below_drew (Below.refl _ _))
theorem Bls.at (h : Bls w0 bs ls W) (i : Nat) {g : Nat} {t : TypeId} {cs : Array Value} (hi : bs[i]? = some (g, t, cs)) : Blk W g t cs := h.k _ (List.mem_of_getElem? hi)
theorem Bls.lns (h : Bls w0 bs ls W) (i : Nat) {v : Value} {l : List NClaim} (hi : ls[i]? = some (v, l)) : Lns W v l := h.l _ (List.mem_of_getElem? hi)
theorem Bls.more (h : Bls w0 bs ls W) {v : Value} {l : List NClaim} (hl : Lns W v l) : Bls w0 bs ((v, l) :: ls) W := ⟨h.k, fun p hm => by
  rcases List.mem_cons.1 hm with rfl | hm
  · exact hl
  · exact h.l p hm, h.b⟩
theorem Bls.new (h : Bls w0 bs ls W) (t : TypeId) (cs : Array Value) : Bls w0 ((W.heap.size, t, cs) :: bs) ls (W.alloc (.cells cs t)) := by
  have h2 := h.below ((Below.refl W.heap.size W).alloc (Nat.le_refl _) (.cells cs t))
  refine ⟨fun b hm => ?_, h2.l, h2.b⟩
  rcases List.mem_cons.1 hm with rfl | hm
  · exact Blk.new W t cs
  · exact h2.k b hm
theorem Bls.var (h : Bls w0 bs ls W) (t : TypeId) (z cs : Array Value) : Bls w0 ((W.heap.size, t, cs) :: bs) ls ((W.alloc (.cells z t)).setRow W.heap.size cs) := by
  have hb : Below W.heap.size W ((W.alloc (.cells z t)).setRow W.heap.size cs) := below_setRow ((Below.refl W.heap.size W).alloc (Nat.le_refl _) _) (Nat.le_refl _) cs
  have h2 := h.below hb
  refine ⟨fun b hm => ?_, h2.l, h2.b⟩
  rcases List.mem_cons.1 hm with rfl | hm
  · exact (Blk.new W t z).row cs
  · exact h2.k b hm
theorem Bls.start (w0 : World) : Bls w0 [] [] w0 := ⟨(fun _ h => by cases h), (fun _ h => by cases h), Below.refl _ _⟩
end
theorem Bls.blk_alloc {W : World} (t : TypeId) (z : Array Value) : Blk (W.alloc (.cells z t)) W.heap.size t z := Blk.new W t z
theorem en8 (args : Array Value) (W : World) : (callFunc 8 args).run Tryd.prog W = .ok (.enter 8 args) W := enters_of Tryd.func8 (by kernel_rfl) rfl args W
theorem en11 (args : Array Value) (W : World) : (callFunc 11 args).run Tryd.prog W = .ok (.enter 11 args) W := enters_of Tryd.func11 (by kernel_rfl) rfl args W
theorem en13 (args : Array Value) (W : World) : (callFunc 13 args).run Tryd.prog W = .ok (.enter 13 args) W := enters_of Tryd.func13 (by kernel_rfl) rfl args W
theorem en14 (args : Array Value) (W : World) : (callFunc 14 args).run Tryd.prog W = .ok (.enter 14 args) W := enters_of Tryd.func14 (by kernel_rfl) rfl args W
theorem en15 (args : Array Value) (W : World) : (callFunc 15 args).run Tryd.prog W = .ok (.enter 15 args) W := enters_of Tryd.func15 (by kernel_rfl) rfl args W
theorem en17 (args : Array Value) (W : World) : (callFunc 17 args).run Tryd.prog W = .ok (.enter 17 args) W := enters_of Tryd.func17 (by kernel_rfl) rfl args W
theorem same_b (W : World) (x y : NOp) (lx ly : Value) (hx : x.ok) (hy : y.ok) (Lx : Lns W lx x.lines) (Ly : Lns W ly y.lines) (r : Bool) (hr : r = true ↔ x = y) :
    Calls Tryd.prog 16 #[.agg (opA x lx), .agg (opA y ly)] W fun e w' => e = .returned (.bool r) ∧ Below W.heap.size W w' := (same_any W x y lx ly hx hy Lx Ly).mono fun e w' h => h.fixed hr
theorem tsame_b (W : World) (x y : NOp) (lx ly : Value) (hx : x.ok) (hy : y.ok) (Lx : Lns W lx x.lines) (Ly : Lns W ly y.lines) (r : Bool) (hr : r = true ↔ x = y) :
    Calls Tryd.prog 15 #[.agg (opA x lx), .agg (opA y ly)] W fun e w' => e = .returned (.bool r) ∧ Below W.heap.size W w' := (tsame_any W x y lx ly hx hy Lx Ly).mono fun e w' h => h.fixed hr
theorem cov_b (w : World) (x : NOp) (lv : Value) (r n : Nat) (hx : x.ok) (hr : r < 256) (hn : n < 4294967296) (b : Bool) (hb : decide (cov x r n) = b) : Calls Tryd.prog 9 #[.agg (opA x lv), .agg #[.int .u8 (r : Int), .int .u32 (n : Int)]] w fun e w' => e = .returned (.bool b) ∧ Below w.heap.size w w' := by
  have h := cov_any w x lv r n hx hr hn
  rw [hb] at h
  exact h
theorem eq_bool (a b r : Bool) (h : (a == b) = r) (w : World) : (binOp .eql 4 (.bool a) (.bool b)).run Tryd.prog w = .ok (.bool r) w := by
  subst h
  go_simp
theorem ne_bool (a b r : Bool) (h : (a != b) = r) (w : World) : (binOp .neq 4 (.bool a) (.bool b)).run Tryd.prog w = .ok (.bool r) w := by
  subst h
  go_simp
  cases a <;> cases b <;> rfl
theorem eqg_bool (op : BinOp) (t : TypeId) (x y : Operand) (a b : Bool) (w : World) : (eqGuard op t x y (.bool a) (.bool b)).run Tryd.prog w = .ok () w := by
  cases op <;> simp [eqGuard]
theorem eqg_strs (op : BinOp) (t : TypeId) (x y : Operand) (a b : ByteArray) (w : World) : (eqGuard op t x y (.string a) (.string b)).run Tryd.prog w = .ok () w := by
  cases op <;> simp [eqGuard]
theorem str_beq (a b : ByteArray) : (a.toList == b.toList) = true ↔ a = b := by
  rw [beq_iff_eq, ByteArray.toList_eq, ByteArray.toList_eq]
  constructor
  · intro h
    apply ByteArray.ext
    exact Array.toList_inj.1 h
  · intro h
    rw [h]
theorem eq_strs (a b : ByteArray) (r : Bool) (h : r = true ↔ a = b) (w : World) : (binOp .eql 9 (.string a) (.string b)).run Tryd.prog w = .ok (.bool r) w := by
  have e : r = (a.toList == b.toList) := by rw [Bool.eq_iff_iff, h, str_beq]
  subst e
  go_simp
theorem ne_strs (a b : ByteArray) (r : Bool) (h : r = true ↔ ¬ a = b) (w : World) : (binOp .neq 9 (.string a) (.string b)).run Tryd.prog w = .ok (.bool r) w := by
  have e : r = !(a.toList == b.toList) := by
    rw [Bool.eq_iff_iff, h, Bool.not_eq_true', Bool.eq_false_iff, Ne, str_beq]
  subst e
  go_simp
theorem exec_len9 {o : Oper} {a : Act} {w : World} {x : Operand} (ho : o.op = .call { callee := .builtin .len, args := #[x], argTypes := #[9] }) {s : ByteArray} (hx : a.eval x = .string s) : (execOp a.eval o).run Tryd.prog w = .ok (.value (.int .i64 (s.size : Int))) w := by
  have hl : (Builtin.len_ #[9] o.type #[.string s]).run Tryd.prog w = .ok (.int .i64 (s.size : Int)) w := by go_simp
  simp [execOp, ho, resolve, invoke, builtin, hx, hl, Result.andThen]
/-- if it's right for n replicas, so it is for one more -/
theorem chk_next (x : NOp) (n : Int) (h : chkF x n = 0) (h8 : ¬ 8 ≤ n) : chkF x (n + 1) = 0 := by
  unfold chkF at h ⊢
  by_cases h1 : n < 1 ∨ 8 < n
  · rw [if_pos h1] at h; cases h
  rw [if_neg h1] at h
  rw [if_neg (by omega)]
  by_cases h2 : formP x n.toNat
  · rw [if_pos]
    obtain ⟨⟨a, b, c, d, e⟩, r⟩ := h2
    refine ⟨⟨?_, b, c, ?_, e⟩, r⟩
    · omega
    · rw [show (n + 1).toNat = n.toNat + 1 by omega, ← List.drop_drop, d, List.drop_drop]
  · rw [if_neg h2] at h; cases h
theorem chk_range (x : NOp) (n : Int) (h : chkF x n = 0) : 1 ≤ n ∧ n ≤ 8 := by
  unfold chkF at h
  by_cases h1 : n < 1 ∨ 8 < n
  · rw [if_pos h1] at h; cases h
  · omega
end Go.Proofs.YtfojjklohbiffaaDoor
