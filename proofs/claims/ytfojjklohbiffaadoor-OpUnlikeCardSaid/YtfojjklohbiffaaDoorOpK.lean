/- Operations: the document's reader: contracts, the worlds between. -/
import Derived.Test.YtfojjklohbiffaaDoorOpJ
import Derived.Test.YtfojjklohbiffaaDoorOpG
namespace Go.Proofs.YtfojjklohbiffaaDoor
open Go.RowKit Tran Tran.Wire
set_option linter.unusedVariables false
set_option linter.unusedSimpArgs false
def Bd (st : Option (List UInt8)) : Prop := ∀ l, st = some l → l.length ≤ 140737488355328
theorem Bd.dot {st : Option (List UInt8)} (h : Bd st) : Bd (rdotS st).2 := rnumS_bound (rnumS_bound h 255) 4294967295
theorem Bd.num {st : Option (List UInt8)} (h : Bd st) (m : Nat) : Bd (rnumS st m).2 := rnumS_bound h m
theorem Bd.vec {st : Option (List UInt8)} (h : Bd st) : Bd (rvecS st 8).2 := rvecS_bound h 8
theorem Bd.lines {st : Option (List UInt8)} (h : Bd st) : ∀ k, Bd (rdLines st k).2
  | 0 => h
  | k + 1 => (Bd.lines h k).dot.dot
theorem rdotS_none : (rdotS none).2 = none := rfl
theorem rdLines_none {st : Option (List UInt8)} {k : Nat} (h : (rdLines st k).2 = none) : ∀ n, k ≤ n → (rdLines st n).2 = none := by
  intro n hn
  induction n with
  | zero => obtain rfl : k = 0 := by omega
            exact h
  | succ n ih =>
    by_cases e : k = n + 1
    · rw [← e]; exact h
    · show rdClaimS (rdLines st n).2 = none
      rw [ih (by omega)]
      rfl
section
variable {st s' : Option (List UInt8)}
theorem tdot_c {d : Nat × Nat} (hs : Bd st) (e : dotZ st = d ∧ (rdotS st).2 = s') (w : World) : Calls Tryd.prog 56 #[.agg (rowC st)] w fun e w' => e = .returned (.tuple #[.agg #[.int .u8 (d.1 : Nat), .int .u32 (d.2 : Nat)], .agg (rowC s')]) ∧ Below w.heap.size w w' := by
  have := ttakedot_any st hs w
  rw [dotV_eq, e.1, e.2] at this
  exact this
theorem tvec_c {xs : List Nat} (hs : Bd st) (e : vecZ st = xs ∧ (rvecS st 8).2 = s') (w : World) : Calls Tryd.prog 57 #[.agg (rowC st)] w fun e w' => e = .returned (.tuple #[.agg (vecA xs), .agg (rowC s')]) ∧ Below w.heap.size w w' := by
  have := ttakevec_any st hs w
  rw [vecV_eq, e.1, e.2] at this
  exact this
theorem tnum_c {m n : Nat} {M : Int} (hs : Bd st) (e : rnumS st m = (n, s')) (hM : M = (m : Nat)) (w : World) : Calls Tryd.prog 59 #[.agg (rowC st), .int .u64 M] w fun e w' => e = .returned (.tuple #[.int .u64 (n : Int), .agg (rowC s')]) ∧ Below w.heap.size w w' := by
  have := tknum_any st hs m w
  rw [e] at this
  rw [hM]
  exact this
theorem tnums_c {ms l : List Nat} {n : Nat} (hs : Bd st) (hn : ms.length = n) (h0 : 0 < n) (h1 : n ≤ 100) (e : numsK st ms n = (l, s')) (w : World) (A : Option Addr) (cap : Nat) (hA : Rd w A n 1 (u64s ms)) :
    Calls Tryd.prog 58 #[.agg (rowC st), .slice A n cap] w fun e w' => (∃ g c, e = .returned (.tuple #[.slice (some ⟨g, 0, none⟩) n (c + 1), .agg (rowC s')]) ∧ Tran.Own w' w.heap.size 27 1 (.slice (some ⟨g, 0, none⟩) n (c + 1)) n (u64s l) ∧ w.heap.size ≤ g) ∧ Below w.heap.size w w' := by
  subst hn
  refine (nums_any w st hs ms A cap hA h1).mono ?_
  rintro _ w' ⟨v, rfl, ho, hb⟩
  have hl := numsK_len st ms ms.length
  rw [e] at ho hl ⊢
  simp only at ho hl ⊢
  rw [hl] at ho
  obtain ⟨g, c, rfl, hc, hg, _⟩ := ho.form h0
  cases c with
  | zero => omega
  | succ c => exact ⟨⟨g, c, rfl, ho, hg⟩, hb⟩
end
theorem rd_lit (L : World) (ms : List Nat) (n : Nat) (hn : ms.length = n) (g : Nat) (hg : L.heap.size = g) : Rd (L.alloc (.cells (u64s ms).toArray 27)) (some ⟨g, 0, none⟩) n 1 (u64s ms) := by
  subst hg hn
  refine ⟨by simp [u64s], fun _ => ⟨_, rfl, fun j u hu => ?_⟩⟩
  rw [lit_add, Nat.zero_add]
  exact ((Blk.new L 27 _).cell j).trans (by simpa using hu)
theorem two_set (w : World) (A X B Y : Array Value) (t u : TypeId) :
    Blk ((w.alloc (.cells A t)).alloc (.cells B u)) w.heap.size t A ∧ Blk (((w.alloc (.cells A t)).alloc (.cells B u)).setRow w.heap.size X) (w.heap.size + 1) u B ∧
    Blk ((((w.alloc (.cells A t)).alloc (.cells B u)).setRow w.heap.size X).setRow (w.heap.size + 1) Y) w.heap.size t X ∧
    Blk ((((w.alloc (.cells A t)).alloc (.cells B u)).setRow w.heap.size X).setRow (w.heap.size + 1) Y) (w.heap.size + 1) u Y ∧
    Below w.heap.size w ((((w.alloc (.cells A t)).alloc (.cells B u)).setRow w.heap.size X).setRow (w.heap.size + 1) Y) := by
  have h1 := (Blk.new w t A).alloc (.cells B u)
  have h2 := Blk.new (w.alloc (.cells A t)) u B
  rw [show (w.alloc (.cells A t)).heap.size = w.heap.size + 1 by simp] at h2
  have h3 := h2.rowFar (k := w.heap.size) (by omega) X
  exact ⟨h1, h3, (h1.row X).rowFar (by omega) Y, h3.row Y, below_setRow (below_setRow (((Below.refl _ w).alloc (Nat.le_refl _) _).alloc (by simp) _) (Nat.le_refl _) X) (by omega) Y⟩
theorem one_set (w : World) (B Y : Array Value) (u : TypeId) :
    Blk (w.alloc (.cells B u)) w.heap.size u B ∧ Blk ((w.alloc (.cells B u)).setRow w.heap.size Y) w.heap.size u Y ∧ Below w.heap.size w ((w.alloc (.cells B u)).setRow w.heap.size Y) :=
  ⟨Blk.new w u B, (Blk.new w u B).row Y, below_setRow ((Below.refl _ w).alloc (Nat.le_refl _) _) (Nat.le_refl _) Y⟩
/-- the worlds within the document's Take: its results, its operation -/
structure TkW (w0 : World) (X : Array Value) (W : World) : Prop where
  k1 : Blk W (w0.heap.size + 1) 30 (opA zeroO (.slice none 0 0))
  k2 : Blk W (w0.heap.size + 2) 81 (rowC none)
  k3 : Blk W (w0.heap.size + 3) 30 X
  b : Below w0.heap.size w0 W
theorem TkW.below {w0 W W' : World} {X : Array Value} (h : TkW w0 X W) (hb : Below W.heap.size W W') : TkW w0 X W' :=
  ⟨h.k1.below hb h.k1.lt, h.k2.below hb h.k2.lt, h.k3.below hb h.k3.lt, h.b.trans (hb.mono h.b.size)⟩
theorem TkW.drew {w0 W : World} {X : Array Value} (h : TkW w0 X W) : TkW w0 X W.drew := ⟨h.k1, h.k2, h.k3, below_drew h.b⟩
theorem TkW.setO {w0 W : World} {X : Array Value} (h : TkW w0 X W) (Y : Array Value) : TkW w0 Y (W.setRow (w0.heap.size + 3) Y) :=
  ⟨h.k1.rowFar (by omega) _, h.k2.rowFar (by omega) _, h.k3.row _, below_setRow h.b (by omega) _⟩
theorem TkW.far {w0 W : World} {X : Array Value} (h : TkW w0 X W) {g : Nat} (hg : w0.heap.size + 3 < g) (Y : Array Value) : TkW w0 X (W.setRow g Y) :=
  ⟨h.k1.rowFar (by omega) _, h.k2.rowFar (by omega) _, h.k3.rowFar (by omega) _, below_setRow h.b (by omega) _⟩
theorem TkW.chg {w0 W W' : World} {X : Array Value} {S : Nat → Prop} (h : TkW w0 X W) (c : Chg S W W') (hS : ∀ k, S k → w0.heap.size + 3 < k) : TkW w0 X W' :=
  ⟨h.k1.chg c (fun k => by have := hS _ k; omega), h.k2.chg c (fun k => by have := hS _ k; omega), h.k3.chg c (fun k => by have := hS _ k; omega), h.b.trans (c.toBelow h.b.size (fun k _ k2 => by have := hS _ k2; omega))⟩
theorem TkW.set {w0 W : World} {X : Array Value} (h : TkW w0 X W) (i : Nat) (u : Value) : TkW w0 (X.setIfInBounds i u) (W.setCell ⟨w0.heap.size + 3, i, none⟩ u) :=
  ⟨h.k1.far (p := ⟨w0.heap.size + 3, i, none⟩) (show w0.heap.size + 1 ≠ w0.heap.size + 3 by omega) u, h.k2.far (p := ⟨w0.heap.size + 3, i, none⟩) (show w0.heap.size + 2 ≠ w0.heap.size + 3 by omega) u,
    h.k3.set_ i u, h.b.setCell (p := ⟨w0.heap.size + 3, i, none⟩) (show w0.heap.size ≤ w0.heap.size + 3 by omega) u⟩
theorem TkW.start (w : World) (st : Option (List UInt8)) : TkW w (opA zeroO (.slice none 0 0)) ((((w.alloc (.cells (rowC st) 81)).alloc (.cells (opA zeroO (.slice none 0 0)) 30)).alloc (.cells (rowC none) 81)).alloc (.cells (opA zeroO (.slice none 0 0)) 30)) ∧
    Blk ((((w.alloc (.cells (rowC st) 81)).alloc (.cells (opA zeroO (.slice none 0 0)) 30)).alloc (.cells (rowC none) 81)).alloc (.cells (opA zeroO (.slice none 0 0)) 30)) w.heap.size 81 (rowC st) := by
  have e1 : (w.alloc (.cells (rowC st) 81)).heap.size = w.heap.size + 1 := by simp
  have e2 : ((w.alloc (.cells (rowC st) 81)).alloc (.cells (opA zeroO (.slice none 0 0)) 30)).heap.size = w.heap.size + 2 := by simp
  have e3 : (((w.alloc (.cells (rowC st) 81)).alloc (.cells (opA zeroO (.slice none 0 0)) 30)).alloc (.cells (rowC none) 81)).heap.size = w.heap.size + 3 := by simp
  have h1 := ((Blk.new (w.alloc (.cells (rowC st) 81)) 30 (opA zeroO (.slice none 0 0))).alloc (.cells (rowC none) 81)).alloc (.cells (opA zeroO (.slice none 0 0)) 30)
  have h2 := (Blk.new ((w.alloc (.cells (rowC st) 81)).alloc (.cells (opA zeroO (.slice none 0 0)) 30)) 81 (rowC none)).alloc (.cells (opA zeroO (.slice none 0 0)) 30)
  have h3 := Blk.new (((w.alloc (.cells (rowC st) 81)).alloc (.cells (opA zeroO (.slice none 0 0)) 30)).alloc (.cells (rowC none) 81)) 30 (opA zeroO (.slice none 0 0))
  rw [e1] at h1
  rw [e2] at h2
  rw [e3] at h3
  exact ⟨⟨h1, h2, h3, ((((Below.refl _ w).alloc (Nat.le_refl _) _).alloc (by simp) _).alloc (by rw [e2]; omega) _).alloc (by rw [e3]; omega) _⟩, (((Blk.new w 81 _).alloc _).alloc _).alloc _⟩
theorem ix174g {W : World} {g n c k : Nat} {K : Int} (hK : K = (k : Nat)) (hk : k < n) (hn : n ≤ 100) : (Instr.indexAt 57 (.slice (some ⟨g, 0, none⟩) n c) (.int .i64 K)).run Tryd.prog W = .ok (.pointer (some ⟨g, k, none⟩)) W := by
  subst hK
  rw [ix174 hk (by omega), lit_add, Nat.zero_add]
theorem exec_cv {P : Program} {o : Oper} {a : Act} {w w' : World} (s d : TypeId) (x : Operand) (ho : o.op = .convert s d x) {u v : Value} (hx : a.eval x = u) (hr : (convert s d u).run P w = .ok v w') : (execOp a.eval o).run P w = .ok (.value v) w' := by
  unfold execOp
  simp only [ho, hx, Sem.run_bind, hr, Result.andThen_ok]
  rfl
theorem cv22 {n : Nat} (h : n ≤ 4294967295) (W : World) : (convert 27 22 (.int .u64 (n : Int))).run Tryd.prog W = .ok (.int .u32 (n : Int)) W := by
  have hw : IntKind.u32.wrap (n : Int) = n := IntWalk.u32_in _ (by omega)
  go_simp
theorem cv5 {n : Nat} (h : n ≤ 255) (W : World) : (convert 27 5 (.int .u64 (n : Int))).run Tryd.prog W = .ok (.int .u8 (n : Int)) W := by
  have hw : IntKind.u8.wrap (n : Int) = n := IntWalk.u8_in _ (by omega)
  go_simp
theorem ld54r {W : World} {g : Nat} {xs : List Nat} (k : Blk W g 26 (vecA xs)) (h : xs.length = 8) : (loadVar 26 ⟨g, 0, none⟩).run Tryd.prog W = .ok (.agg (vecA xs)) W :=
  run_loadVar_row W g 26 26 (vecA xs) (0, 0) _ k Tryd.underlying26 rfl (by rw [vecA_size, h]; exact size54)
theorem op_built (d1 d5 d7 d12 d13 : Nat × Nat) (x0 x1 x2 x3 x4 x5 x6 x7 n3 n4 n6 n8 n9 n10 n11 n14 n15 n16 : Nat) : Tryd.prog.built 30 [(0, .agg #[.int .u8 (d1.1 : Nat), .int .u32 (d1.2 : Nat)]), (1, .agg (vecA [x0, x1, x2, x3, x4, x5, x6, x7])), (2, .int .u64 (n3 : Int)), (3, .int .u32 (n4 : Int)), (4, .agg #[.int .u8 (d5.1 : Nat), .int .u32 (d5.2 : Nat)]), (5, .int .u8 (n6 : Int)), (6, .agg #[.int .u8 (d7.1 : Nat), .int .u32 (d7.2 : Nat)]), (7, .int .u32 (n8 : Int)), (8, .int .u8 (n9 : Int)), (9, .int .u8 (n10 : Int)), (10, .int .u64 (n11 : Int)), (11, .agg #[.int .u8 (d12.1 : Nat), .int .u32 (d12.2 : Nat)]), (12, .agg #[.int .u8 (d13.1 : Nat), .int .u32 (d13.2 : Nat)]), (13, .int .u32 (n14 : Int)), (14, .int .u32 (n15 : Int)), (15, .int .u32 (n16 : Int))] = some (opA (NOp.mk d1.1 d1.2 [x0, x1, x2, x3, x4, x5, x6, x7] n3 n4 d5.1 d5.2 n6 d7.1 d7.2 n8 n9 n10 n11 d12.1 d12.2 d13.1 d13.2 n14 n15 n16 []) (.slice none 0 0)) := by kernel_rfl
theorem zero_built : Tryd.prog.built 30 [] = some (opA zeroO (.slice none 0 0)) := by kernel_rfl
theorem opA_one_ (x : NOp) (A : Option Addr) (n c : Nat) : (opA x (.slice A n c)).all (·.oneCell') = true := by simp [opA, opF, Value.oneCell']
def TakeO (w : World) (q : NOp × Option (List UInt8)) (e : Ending) (w' : World) : Prop :=
  ∃ lv, e = .returned (.tuple #[.agg (opA (if q.2.isSome = true then q.1 else zeroO) lv), .agg (rowC q.2)]) ∧ Tran.Own w' w.heap.size 63 4 lv (if q.2.isSome = true then q.1 else zeroO).lines.length ((if q.2.isSome = true then q.1 else zeroO).lines.flatMap claimF) ∧ Below w.heap.size w w'
end Go.Proofs.YtfojjklohbiffaaDoor
