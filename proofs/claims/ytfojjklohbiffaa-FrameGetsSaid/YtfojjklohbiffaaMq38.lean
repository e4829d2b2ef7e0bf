/- Frames: the document's reader of a frame: the walk. -/
import Derived.Test.YtfojjklohbiffaaMq33
import Derived.Test.YtfojjklohbiffaaMq37
namespace Go.Proofs.Ytfojjklohbiffaa
open Go.RowKit Tran Tran.Wire
set_option linter.unusedVariables false
set_option linter.unusedSimpArgs false
/-- the worlds within the document's Get: its result, its frame -/
structure FgW (w0 : World) (G : Nat) (W : World) (X : Array Value) : Prop where
  kr : Blk W w0.heap.size 57 z12
  ko : Blk W G 57 X
  b : Below w0.heap.size w0 W
  gt : w0.heap.size < G
theorem FgW.below {w0 W W' : World} {G : Nat} {X : Array Value} (h : FgW w0 G W X) (hb : Below W.heap.size W W') : FgW w0 G W' X :=
  ⟨h.kr.below hb h.kr.lt, h.ko.below hb h.ko.lt, h.b.trans (hb.mono h.b.size), h.gt⟩
theorem FgW.drew {w0 W : World} {G : Nat} {X : Array Value} (h : FgW w0 G W X) : FgW w0 G W.drew X := ⟨h.kr, h.ko, below_drew h.b, h.gt⟩
theorem FgW.far {w0 W : World} {G : Nat} {X : Array Value} (h : FgW w0 G W X) {g : Nat} (hg : G < g) (Y : Array Value) : FgW w0 G (W.setRow g Y) X :=
  ⟨h.kr.rowFar (by have := h.gt; omega) _, h.ko.rowFar (by omega) _, below_setRow h.b (by have := h.gt; omega) _, h.gt⟩
theorem FgW.chg {w0 W W' : World} {G : Nat} {X : Array Value} {S : Nat → Prop} (h : FgW w0 G W X) (c : Chg S W W') (hS : ∀ k, S k → G < k) : FgW w0 G W' X := by
  have hgt := h.gt
  exact ⟨h.kr.chg c (fun k => by have := hS _ k; omega), h.ko.chg c (fun k => by have := hS _ k; omega), h.b.trans (c.toBelow h.b.size (fun k _ k2 => by have := hS _ k2; omega)), hgt⟩
theorem FgW.set {w0 W : World} {G : Nat} {X : Array Value} (h : FgW w0 G W X) (i : Nat) (u : Value) : FgW w0 G (W.setCell ⟨G, i, none⟩ u) (X.setIfInBounds i u) := by
  have hgt := h.gt
  exact ⟨h.kr.far (p := ⟨G, i, none⟩) (show w0.heap.size ≠ G by omega) u, h.ko.set_ i u, h.b.setCell (p := ⟨G, i, none⟩) (show w0.heap.size ≤ G by omega) u, h.gt⟩
theorem FgW.sets {w0 W : World} {G : Nat} {X : Array Value} (h : FgW w0 G W X) (i : Nat) (vs : List Value) : FgW w0 G (W.setCells G i vs) (putAt X i vs) := by
  have hgt := h.gt
  exact ⟨h.kr.farCells (by omega) i vs, h.ko.setCells i vs, below_setCells h.b (by omega) i vs, h.gt⟩
theorem exec_index {P : Program} {o : Oper} {a : Act} {w : World} (t : TypeId) (x y : Operand) (ho : o.op = .index t x y) {u v r : Value} (hx : a.eval x = u) (hy : a.eval y = v) (hr : (Instr.index t u v).run P w = .ok r w) : (execOp a.eval o).run P w = .ok (.value r) w := by
  unfold execOp
  simp only [ho, hx, hy, Sem.run_bind, hr, Result.andThen_ok]
  rfl
theorem ixs (l : List UInt8) (k : Nat) (u : UInt8) (h : l[k]? = some u) (W : World) : (Instr.index 9 (.string ⟨l.toArray⟩) (.int .i64 (k : Int))).run Try.prog W = .ok (.int .u8 (u.toNat : Int)) W := by
  have hk : k < l.length := (List.getElem?_eq_some_iff.1 h).1
  have h1 : (0 : Int) ≤ (k : Int) := by omega
  have h2 : (k : Int) < (l.length : Int) := by omega
  have h3 : l[k] = u := (List.getElem?_eq_some_iff.1 h).2
  go_simp
  rw [← h3]
  rfl
theorem fr_built (n1 n2 n3 : Nat) : Try.prog.built 57 [(0, .int .u8 (n1 : Int)), (1, .int .u8 (n2 : Int)), (2, .int .u8 (n3 : Int))] = some (frA { kind := n1, src := n2, dst := n3, have_ := zer8, ops := [] } (.slice none 0 0)) := by kernel_rfl
theorem zero57 : ((Try.prog.info? 57).bind (·.zero)) = some (.agg z12) := by kernel_rfl
theorem frA_one_ (x : NFrame) (A : Option Addr) (n c : Nat) : (frA x (.slice A n c)).all (·.oneCell') = true := by simp [frA, frF, Value.oneCell']
theorem cut3 (a b c : UInt8) (r : List UInt8) (W : World) (h : r.length ≤ 1000000) : (Instr.slice 9 (.string ⟨(a :: b :: c :: r).toArray⟩) (some (.int .i64 3)) none none).run Try.prog W = .ok (.string ⟨r.toArray⟩) W := by
  have h1 : (0 : Int) ≤ 3 := by omega
  go_simp
  rw [if_pos (by omega), str_cut]
  simp
theorem rtext_le (st : Option (List UInt8)) (L : Nat) : (rtextS st (L : Int)).1.length ≤ L := by
  unfold rtextS
  have h1 := takeS_len (rnumS st (L : Int).toNat).2 (rnumS st (L : Int).toNat).1
  have h2 := rnumS_le st (L : Int).toNat
  omega
theorem Bd.text {st : Option (List UInt8)} (h : Bd st) (L : Nat) : Bd (rtextS st (L : Int)).2 := by
  intro l hl
  unfold rtextS at hl
  generalize hn : rnumS st (L : Int).toNat = n at hl
  obtain ⟨n, q⟩ := n
  simp only at hl
  cases q with
  | none => simp [takeS] at hl
  | some q =>
    have hq : q.length ≤ 140737488355328 := (h.num (L : Int).toNat) q (by rw [hn])
    obtain ⟨h1, _⟩ := Go.Proofs.Ytfojjklohbiffaa.takeS_some hl
    have := congrArg List.length h1
    rw [List.length_append] at this
    omega
/-- the document's Put of a frame: what it tells -/
def PutsF (x : NFrame) (w : World) (e : Ending) (w' : World) : Prop :=
  (∃ (s : List UInt8) (n : Nat), e = .returned (.tuple #[.string ⟨s.toArray⟩, .int .i64 (n : Int)]) ∧ ((mayF x ∧ n = 0 ∧ s = putF x) ∨ (¬ mayF x ∧ n = 2))) ∧ Below w.heap.size w w'
theorem tput_any (w : World) (x : NFrame) (ov : Value) (hx : x.ok) (hO : Ops w ov x.ops) : Calls Try.prog 45 #[.agg (frA x ov)] w (PutsF x w) := by
  by_cases hm : mayF x
  · refine (tputfr_yes w x ov hx hO hm).mono ?_
    rintro e w' ⟨rfl, hb⟩
    exact ⟨⟨putF x, 0, rfl, .inl ⟨hm, rfl, rfl⟩⟩, hb⟩
  · refine (tputfr_no w x ov hx hO hm).mono ?_
    rintro e w' ⟨rfl, hb⟩
    exact ⟨⟨[], 2, rfl, .inr ⟨hm, rfl⟩⟩, hb⟩
theorem vec_set (w : World) (xs : List Nat) (Y : Array Value) :
    Blk ((w.alloc (.cells (vecA zer8) 54)).alloc (.cells (rowC none) 89)) w.heap.size 54 (vecA zer8) := (Blk.new w 54 _).alloc _
set_option maxRecDepth 100000 in
set_option maxHeartbeats 4000000 in
/-- bytes that are not sealed, or too few -/
theorem tgetfr_bad (w : World) (l : List UInt8) (hl : l.length ≤ 1000000) (h : Crc.opened l = false ∨ (Crc.opens l).length < 3) : Calls Try.prog 82 #[.string ⟨l.toArray⟩] w (GetsF w l) := by
  have hno : ¬ isFr l := by
    intro hi
    obtain ⟨h1, x, a, b, c, r, _, _, _, _, h2, _⟩ := isFr_reads hi
    rcases h with h | h
    · rw [h1] at h; cases h
    · rw [h2] at h; simp at h; omega
  have HNO := Lib.hid hno
  have O := Lib.hid (refopen_any l hl)
  clear hno
  have kr := Blk.new w 57 z12
  have hb := (Below.refl w.heap.size w).alloc (Nat.le_refl _) (.cells z12 57)
  have KR := Lib.hid kr
  have HB := Lib.hid hb
  rw [z12_eq] at KR HB
  clear kr hb
  generalize Crc.opens l = s at *
  generalize Crc.opened l = is0 at *
  go_enter Try.func82, Try.ntmps82
  go_wp2_with fail
  refine (O.out _).mono ?_
  rintro e w1 ⟨rfl, hb1⟩
  have KR1 := Lib.hid (KR.out.below hb1 KR.out.lt)
  have HB1 := Lib.hid (HB.out.trans (hb1.mono HB.out.size))
  clear hb1 O KR HB
  cases is0
  · go_wp2_with (refine wpList_store_row rfl 57 _ _ rfl w.heap.size z12 rfl (by rw [z12_eq]; rfl) 57 z12 KR1.out size57 rfl fr_zero_one ?_)
    refine bodyPost_ret (results_row_tmp rfl _ _ w.heap.size 57 z12 (0, 0) _ _ rfl rfl (KR1.out.row _) Try.underlying57 rfl size57) rfl ?_
    exact ⟨.inr ⟨HNO.out, rfl⟩, below_setRow HB1.out (Nat.le_refl _) _⟩
  · have h3 : s.length < 3 := by
      rcases h with h | h
      · cases h
      · exact h
    have hd : decide ((s.length : Int) < 3) = true := decide_eq_true (by omega)
    clear h
    go_wp2_with (refine wpList_store_row rfl 57 _ _ rfl w.heap.size z12 rfl (by rw [z12_eq]; rfl) 57 z12 KR1.out size57 rfl fr_zero_one ?_)
    refine bodyPost_ret (results_row_tmp rfl _ _ w.heap.size 57 z12 (0, 0) _ _ rfl rfl (KR1.out.row _) Try.underlying57 rfl size57) rfl ?_
    exact ⟨.inr ⟨HNO.out, rfl⟩, below_setRow HB1.out (Nat.le_refl _) _⟩
set_option maxRecDepth 100000 in
set_option maxHeartbeats 32000000 in
theorem tgetfr_good (w : World) (l : List UInt8) (hl : l.length ≤ 1000000) (ho : Crc.opened l = true) (a b c : UInt8) (r : List UInt8) (hs : Crc.opens l = a :: b :: c :: r) : Calls Try.prog 82 #[.string ⟨l.toArray⟩] w (GetsF w l) := by
  have hrl : r.length ≤ 1000000 := by
    have h1 := congrArg List.length hs
    have h2 : (Crc.opens l).length ≤ l.length := by unfold Crc.opens; split; (rw [List.length_take]; omega); simp
    simp only [List.length_cons] at h1
    omega
  have O := refopen_any l hl
  rw [hs, ho] at O
  have O := Lib.hid O
  have HIS := Lib.hid (fun (ps : List POp) (st : Option (List UInt8)) (ok : Bool) (hi : isFr l) => isFr_same (ps := ps) (st := st) (ok := ok) hi hs)
  have HBA : a.toNat < 256 ∧ b.toNat < 256 ∧ c.toNat < 256 := ⟨a.toNat_lt, b.toNat_lt, c.toNat_lt⟩
  have HBA := Lib.hid HBA
  have V := Lib.hid (fun W => tvec_c (st := some r) (fun s e => by injection e with e; subst e; omega) ⟨rfl, rfl⟩ W)
  have HV := Lib.hid (And.intro (vecZ_len (some r)) (vecZ_lt (some r)))
  have N := Lib.hid (fun W => tnum_c (st := (rvecS (some r) 8).2) (m := 64) (n := (rnumS (rvecS (some r) 8).2 64).1) (s' := (rnumS (rvecS (some r) 8).2 64).2) (M := 64) (rvecS_bound (fun s e => by injection e with e; subst e; omega) 8) rfl rfl W)
  have HN := Lib.hid (rnumS_le (rvecS (some r) 8).2 64)
  have HNB := Lib.hid (rnumS_bound (rvecS_bound (st := some r) (fun s e => by injection e with e; subst e; omega) 8) 64)
  have CUT := fun W => cut3 a b c r W hrl
  have hI0 : ∀ W, (Instr.index 9 (.string ⟨(a :: b :: c :: r).toArray⟩) (.int .i64 0)).run Try.prog W = .ok (.int .u8 (a.toNat : Int)) W := ixs (a :: b :: c :: r) 0 a rfl
  have hI1 : ∀ W, (Instr.index 9 (.string ⟨(a :: b :: c :: r).toArray⟩) (.int .i64 1)).run Try.prog W = .ok (.int .u8 (b.toNat : Int)) W := ixs (a :: b :: c :: r) 1 b rfl
  have hI2 : ∀ W, (Instr.index 9 (.string ⟨(a :: b :: c :: r).toArray⟩) (.int .i64 2)).run Try.prog W = .ok (.int .u8 (c.toNat : Int)) W := ixs (a :: b :: c :: r) 2 c rfl
  have IX := Lib.hid (And.intro hI0 (And.intro hI1 hI2))
  clear hI0 hI1 hI2
  generalize vecZ (some r) = xs at *
  generalize (rvecS (some r) 8).2 = s4 at *
  generalize hn5 : rnumS s4 64 = q5 at *
  obtain ⟨n5, s5⟩ := q5
  simp only at N HN HNB HIS
  clear hn5
  have hd3 : decide ((((a :: b :: c :: r).length : Nat) : Int) < 3) = false := decide_eq_false (by simp only [List.length_cons]; omega)
  generalize hS : (a :: b :: c :: r) = S0 at *
  clear hS ho
  have kr := Blk.new w 57 z12
  have hb := (Below.refl w.heap.size w).alloc (Nat.le_refl _) (.cells z12 57)
  have KR := Lib.hid kr
  have HB := Lib.hid hb
  rw [z12_eq] at KR HB
  clear kr hb hs
  go_enter Try.func82, Try.ntmps82
  go_wp2_with fail
  refine (O.out _).mono ?_
  rintro e w1 ⟨rfl, hb1⟩
  have KR1 := Lib.hid (KR.out.below hb1 KR.out.lt)
  have HB1 := Lib.hid (HB.out.trans (hb1.mono HB.out.size))
  clear hb1 O KR HB
  go_upto_region 4 with (fail)
  have hS0 : Below w1.heap.size w1 w1.drew := below_drew (Below.refl _ _)
  refine reg_begin_ (Below w1.heap.size w1) (by kernel_rfl) ?_
  intro A hA
  have h4 : A.eval (.tmp 4) = .string ⟨S0.toArray⟩ := by rw [hA]; rfl
  have hsz : A.tmps.size = 102 := by rw [hA]; rfl
  have hA := Lib.hid hA
  refine reg_take (some 31) (i := 0) (.string ⟨S0.toArray⟩) rfl rfl (by kernel_rfl) (fun _ _ _ h => h) (by rfl) (fun W hW => exec_move _ rfl h4) hS0 ?_
  refine reg_take (some 32) (i := 1) (.int .u8 (a.toNat : Int)) rfl rfl (by kernel_rfl) (fun _ _ _ h => h) (by rfl) (fun W hW => exec_index 9 _ (.const (.int .i64 0)) rfl (ev_eq (by (try simp only [Act.size_put]); rw [hsz]; decide)) rfl (IX.out.1 W)) hS0 ?_
  refine reg_take (some 33) (i := 2) (.string ⟨S0.toArray⟩) rfl rfl (by kernel_rfl) (fun _ _ _ h => h) (by rfl) (fun W hW => exec_move _ rfl (ev_ne (by rfl) (ev_ne (by rfl) h4))) hS0 ?_
  refine reg_take (some 34) (i := 3) (.int .u8 (b.toNat : Int)) rfl rfl (by kernel_rfl) (fun _ _ _ h => h) (by rfl) (fun W hW => exec_index 9 _ (.const (.int .i64 1)) rfl (ev_eq (by (try simp only [Act.size_put]); rw [hsz]; decide)) rfl (IX.out.2.1 W)) hS0 ?_
  refine reg_take (some 35) (i := 4) (.string ⟨S0.toArray⟩) rfl rfl (by kernel_rfl) (fun _ _ _ h => h) (by rfl) (fun W hW => exec_move _ rfl (ev_ne (by rfl) (ev_ne (by rfl) (ev_ne (by rfl) (ev_ne (by rfl) h4))))) hS0 ?_
  refine reg_take (some 36) (i := 5) (.int .u8 (c.toNat : Int)) rfl rfl (by kernel_rfl) (fun _ _ _ h => h) (by rfl) (fun W hW => exec_index 9 _ (.const (.int .i64 2)) rfl (ev_eq (by (try simp only [Act.size_put]); rw [hsz]; decide)) rfl (IX.out.2.2 W)) hS0 ?_
  refine reg_take (some 37) (i := 6) (.agg ((frA { kind := a.toNat, src := b.toNat, dst := c.toNat, have_ := zer8, ops := [] } (.slice none 0 0)))) rfl rfl (by kernel_rfl) (fun _ _ _ h => h) (by rfl) (fun W hW => exec_build 57 _ rfl (vs := [(0, .int .u8 (a.toNat : Int)), (1, .int .u8 (b.toNat : Int)), (2, .int .u8 (c.toNat : Int))]) (by simp only [List.map_toArray, List.map_cons, List.map_nil, List.toList_toArray]; rw [(show Act.eval _ (.tmp 32) = _ from (ev_ne (by rfl) (ev_ne (by rfl) (ev_ne (by rfl) (ev_ne (by rfl) (ev_eq (by (try simp only [Act.size_put]); rw [hsz]; decide))))))), (show Act.eval _ (.tmp 34) = _ from (ev_ne (by rfl) (ev_ne (by rfl) (ev_eq (by (try simp only [Act.size_put]); rw [hsz]; decide))))), (show Act.eval _ (.tmp 36) = _ from (ev_eq (by (try simp only [Act.size_put]); rw [hsz]; decide)))]) (fr_built _ _ _)) hS0 ?_
  refine reg_run (some 6) (i := 7) (v := .pointer (some ⟨w1.heap.size, 0, none⟩)) rfl rfl (by kernel_rfl) (by rfl) (exec_alloc 57 rfl zero57) (hS0.alloc (Nat.le_refl _) _) ?_
  change wpAnyH _ _ _ _ _ _ _ _ (w1.drew.alloc (.cells z12 57))
  have KN := Lib.hid (Blk.new w1.drew 57 z12)
  refine reg_skip none (i := 8) rfl rfl (by kernel_rfl) (by rfl) (exec_store_row 57 _ _ rfl (ev_eq (by (try simp only [Act.size_put]); rw [hsz]; decide)) (ev_ne (by rfl) (ev_eq (by (try simp only [Act.size_put]); rw [hsz]; decide))) KN.out size57 (by rw [frA_size _ _ rfl]; rfl) (frA_one_ _ _ _ _)) (below_setRow (hS0.alloc (Nat.le_refl _) _) (Nat.le_refl _) _) ?_
  refine reg_end (by kernel_rfl) ?_
  have S : Hid (FgW w w1.heap.size ((w1.drew.alloc (.cells z12 57)).setRow w1.heap.size (frA { kind := a.toNat, src := b.toNat, dst := c.toNat, have_ := zer8, ops := [] } (.slice none 0 0))) (frA { kind := a.toNat, src := b.toNat, dst := c.toNat, have_ := zer8, ops := [] } (.slice none 0 0))) := Lib.hid ⟨(KR1.out.drew.alloc _).rowFar (by have := KR1.out.lt; omega) _, KN.out.row _, HB1.out.trans ((below_setRow (hS0.alloc (Nat.le_refl _) _) (Nat.le_refl _) _).mono HB1.out.size), KR1.out.lt⟩
  have hA := hA.out
  subst hA
  simp only [Act.put, List.setIfInBounds_toArray, List.set_cons_zero, List.set_cons_succ]
  clear h4 hsz hS0 KN KR1 HB1 IX
  generalize w1.heap.size = G at *
  generalize hW2 : (w1.drew.alloc (.cells z12 57)).setRow G (frA { kind := a.toNat, src := b.toNat, dst := c.toNat, have_ := zer8, ops := [] } (.slice none 0 0)) = W2 at *
  go_wp2_with fail
  refine (V.out _).mono ?_
  rintro e w2 ⟨rfl, hb⟩
  have S := Lib.hid (S.out.below hb)
  have SL := Lib.hid (S.out.ko.lt)
  obtain ⟨t1, t2, t3, t4, tb⟩ := two_set w2 (vecA zer8) (vecA xs) (rowC none) (rowC s4) 54 89
  have S := Lib.hid (S.out.below tb)
  have T1 := Lib.hid t1
  have T2 := Lib.hid t2
  have D7 := Lib.hid t3
  have R8 := Lib.hid t4
  have H8 := Lib.hid (show (vecA xs).size = 8 by rw [vecA_size]; exact HV.out.1)
  have H1 := Lib.hid (vecA_one xs)
  have HTH := Lib.hid (S.out.ko.there (o := 3) (n := (vecA xs).size) (by rw [H8.out, frA_size _ _ rfl]; omega))
  have SV := Lib.hid (show FgW w G _ (frA { kind := a.toNat, src := b.toNat, dst := c.toNat, have_ := xs, ops := [] } (.slice none 0 0)) from by
    have h := S.out.sets 3 (vecA xs).toList
    rwa [fr_put3 _ _ rfl xs HV.out.1] at h)
  have R8 := Lib.hid (R8.out.farCells (k := G) (by have := SL.out; omega) 3 (vecA xs).toList)
  clear t1 t2 t3 t4 tb hb S hW2
  generalize hVX : vecA xs = VX at *
  clear hVX
  go_wp2_with (first
    | (refine wpList_store_row rfl 54 _ _ rfl w2.heap.size VX rfl rfl 54 _ T1.out (by rw [H8.out]; exact size54) (by rw [H8.out]; rfl) H1.out ?_)
    | (refine wpList_store_row rfl 89 _ _ rfl (w2.heap.size + 1) (rowC s4) rfl rfl 89 _ T2.out (by rw [rowC_size]; exact size89) (by simp only [rowC_size]) (rowC_one s4) ?_)
    | (refine wpList_load_row rfl 54 _ rfl w2.heap.size rfl 54 VX (0, 0) _ D7.out Try.underlying54 rfl (by rw [H8.out]; exact size54) ?_)
    | (refine wpList_store_mid rfl 54 _ _ rfl G 3 VX rfl rfl HTH.out (by rw [H8.out]; exact size54) H1.out ?_)
    | (refine wpList_load_row rfl 89 _ rfl (w2.heap.size + 1) rfl 89 (rowC s4) (0, 0) _ R8.out Try.underlying89 rfl (by rw [rowC_size]; exact size89) ?_))
  refine (N.out _).mono ?_
  rintro e w3 ⟨rfl, hb⟩
  have S := Lib.hid (SV.out.below hb)
  have SL3 := Lib.hid (show G < w3.heap.size from S.out.ko.lt)
  obtain ⟨t1, t3, tb⟩ := one_set w3 (rowC none) (rowC s5) 89
  have S := Lib.hid (S.out.below tb)
  have T1 := Lib.hid t1
  have K := Lib.hid t3
  clear t1 t3 tb hb SV HTH R8 D7 T2 H8 H1
  go_wp2_with (refine wpList_store_row rfl 89 _ _ rfl w3.heap.size (rowC s5) rfl rfl 89 _ T1.out (by rw [rowC_size]; exact size89) (by simp only [rowC_size]) (rowC_one s5) ?_)
  obtain ⟨W4, hW4⟩ : ∃ W : World, W = (w3.alloc (.cells #[.string ⟨#[]⟩, .bool false] 89)).setRow w3.heap.size (rowC s5) := ⟨_, rfl⟩
  have S4 : Hid (FgW w G W4 (frA { kind := a.toNat, src := b.toNat, dst := c.toNat, have_ := xs, ops := [] } (.slice none 0 0))) := Lib.hid (by rw [hW4]; exact S.out)
  have K4 : Hid (Blk W4 w3.heap.size 89 (rowC s5)) := Lib.hid (by rw [hW4]; exact K.out)
  rw [← hW4]
  clear S K
  generalize w3.heap.size = g10 at *
  clear hW4 T1 SL
  have HBS := Lib.hid (show Bd s5 from HNB.out)
  have TG := Lib.hid (fun (st : Option (List UInt8)) (hs : Bd st) (W : World) => ttaketext_any st hs (l.length : Int) (by omega) (by omega) W)
  have TO := Lib.hid (fun (st : Option (List UInt8)) (W : World) => tgetO_any W (rtextS st (l.length : Int)).1 (Nat.le_trans (rtext_le st l.length) hl))
  obtain ⟨i0, hi, hz0, hz1, hz2⟩ := info_parts info122
  have HI := Lib.hid (And.intro hi (And.intro hz0 (And.intro hz1 hz2)))
  have HN5 := Lib.hid HN.out
  clear hi hz0 hz1 hz2 HN HNB V N
  go_loopw [11] (fun i wr => ∃ (k m : Nat) (st : Option (List UInt8)) (ps : List POp) (ov : Value), i = .int .u64 (k : Int) ∧ k + m = n5 ∧ ps.length = k ∧ FgW w G wr (frA { kind := a.toNat, src := b.toNat, dst := c.toNat, have_ := xs, ops := [] } ov) ∧ Blk wr g10 89 (rowC st) ∧ OpsO wr (G + 1) ov ps ∧ Bd st ∧ gOps l.length n5 s5 true = (opsOf ps ++ (gOps l.length m st true).1, (gOps l.length m st true).2)) (fun i _ => n5 - (intOf i).toNat)
  case atStart => exact ⟨0, n5, s5, [], .slice none 0 0, rfl, by omega, rfl, S4.out, K4.out, OpsO.nil _ _, HBS.out, rfl⟩
  case round =>
    obtain ⟨k, m, st, ps, ov, rfl, hkm, hpl, hS, hK, hP, hB, hF⟩ := hrel
    have S := Lib.hid hS
    have K := Lib.hid hK
    have SP := Lib.hid hP
    have BS := Lib.hid hB
    have SF := Lib.hid hF
    have HPL := Lib.hid hpl
    clear hS hK hP hB hF S4 K4 HBS hpl
    have NG := Lib.hid (show G < g10 from SL3.out)
    cases m with
    | zero =>
      have hd : decide ((k : Int) < (n5 : Int)) = false := decide_eq_false (by omega)
      have PT := Lib.hid (fun (W : World) (hb : Below wr.heap.size wr W) => tput_any W ({ kind := a.toNat, src := b.toNat, dst := c.toNat, have_ := xs, ops := ps } : NFrame) ov ⟨HBA.out.1, HBA.out.2.1, HBA.out.2.2, HV.out.1, HV.out.2⟩ ((SP.out.ops (by have := HPL.out; have := HN5.out; omega)).later hb))
      rw [show frA ({ kind := a.toNat, src := b.toNat, dst := c.toNat, have_ := xs, ops := ps } : NFrame) ov = (frA { kind := a.toNat, src := b.toNat, dst := c.toNat, have_ := xs, ops := [] } ov) from rfl] at PT
      have HX12 := Lib.hid (frA_size ({ kind := a.toNat, src := b.toNat, dst := c.toNat, have_ := xs, ops := ps } : NFrame) ov HV.out.1)
      rw [show frA ({ kind := a.toNat, src := b.toNat, dst := c.toNat, have_ := xs, ops := ps } : NFrame) ov = (frA { kind := a.toNat, src := b.toNat, dst := c.toNat, have_ := xs, ops := [] } ov) from rfl] at HX12
      have SF2 := Lib.hid (SF.out.trans (show _ = (opsOf ps, st, true) by simp [gOps]))
      clear SF
      cases st with
      | none =>
        have c1 : wr.cell? ⟨g10, 1, none⟩ = some (.bool false) := K.out.cell 1
        go_wp2_with (refine wpList_load_row rfl 57 _ rfl G rfl 57 (frA { kind := a.toNat, src := b.toNat, dst := c.toNat, have_ := xs, ops := [] } ov) (0, 0) _ S.out.ko Try.underlying57 rfl (by rw [HX12.out]; exact size57) ?_)
        refine (PT.out _ (by first | exact Below.refl _ _ | exact below_drew (Below.refl _ _))).mono ?_
        rintro e w5 ⟨⟨s, n, rfl, hn⟩, hb⟩
        have S := Lib.hid (S.out.below hb)
        have c2 : w5.cell? ⟨g10, 1, none⟩ = some (.bool false) := (K.out.below hb K.out.lt).cell 1
        clear hb hn PT c1
        go_wp2_with (refine wpList_store_row rfl 57 _ _ rfl w.heap.size z12 rfl (by rw [z12_eq]; rfl) 57 z12 S.out.kr size57 rfl fr_zero_one ?_)
        refine bodyPost_ret (results_row_tmp rfl _ _ w.heap.size 57 z12 (0, 0) _ _ rfl rfl (S.out.kr.row _) Try.underlying57 rfl size57) rfl ?_
        refine ⟨.inr ⟨fun hi => ?_, rfl⟩, below_setRow S.out.b (Nat.le_refl _) _⟩
        have h1 := (HIS.out ps none true hi SF2.out).2.1
        cases h1
      | some q =>
        have c1 : wr.cell? ⟨g10, 1, none⟩ = some (.bool true) := K.out.cell 1
        go_wp2_with (refine wpList_load_row rfl 57 _ rfl G rfl 57 (frA { kind := a.toNat, src := b.toNat, dst := c.toNat, have_ := xs, ops := [] } ov) (0, 0) _ S.out.ko Try.underlying57 rfl (by rw [HX12.out]; exact size57) ?_)
        refine (PT.out _ (by first | exact Below.refl _ _ | exact below_drew (Below.refl _ _))).mono ?_
        rintro e w5 ⟨⟨s, n, rfl, hn⟩, hb⟩
        have S := Lib.hid (S.out.below hb)
        have SP := Lib.hid (SP.out.below hb)
        have c2 : w5.cell? ⟨g10, 1, none⟩ = some (.bool true) := (K.out.below hb K.out.lt).cell 1
        clear hb PT c1
        rcases hn with ⟨hm, rfl, hs⟩ | ⟨hm, rfl⟩
        · have HM := Lib.hid hm
          have HSS := Lib.hid hs
          clear hm hs
          by_cases hq : s = l
          · have hb1 : (s == l) = true := by simp [hq]
            have HQ := Lib.hid hq
            have HO1 : Hid ((frA { kind := a.toNat, src := b.toNat, dst := c.toNat, have_ := xs, ops := [] } ov).all (·.oneCell') = true) := Lib.hid (by
              obtain ⟨A1, cap1, e1, _⟩ := SP.out.1.slice
              rw [e1]; exact frA_one_ _ _ _ _)
            clear hq
            go_wp2_with (first
              | (refine wpList_load_row rfl 57 _ rfl G rfl 57 (frA { kind := a.toNat, src := b.toNat, dst := c.toNat, have_ := xs, ops := [] } ov) (0, 0) _ S.out.ko Try.underlying57 rfl (by rw [HX12.out]; exact size57) ?_)
              | (refine wpList_store_row rfl 57 _ _ rfl w.heap.size (frA { kind := a.toNat, src := b.toNat, dst := c.toNat, have_ := xs, ops := [] } ov) rfl rfl 57 z12 S.out.kr (by rw [HX12.out]; exact size57) (by rw [HX12.out]; rfl) HO1.out ?_))
            refine bodyPost_ret (results_row_tmp rfl _ _ w.heap.size 57 (frA { kind := a.toNat, src := b.toNat, dst := c.toNat, have_ := xs, ops := [] } ov) (0, 0) _ _ rfl rfl (S.out.kr.row _) Try.underlying57 rfl (by rw [HX12.out]; exact size57)) rfl ?_
            refine ⟨.inl ⟨({ kind := a.toNat, src := b.toNat, dst := c.toNat, have_ := xs, ops := ps } : NFrame), ov, rfl, ?_, ⟨HBA.out.1, HBA.out.2.1, HBA.out.2.2, HV.out.1, HV.out.2⟩, HM.out, by rw [← HSS.out]; exact HQ.out⟩, below_setRow S.out.b (Nat.le_refl _) _⟩
            have hgt := S.out.gt
            exact (SP.out.rowFar (g := w.heap.size) (fun e => by have := (SP.out.1.lt _ e).1; omega) (fun p hp e => by have := ((SP.out.2 p hp).1.lt _ e).1; omega) (frA { kind := a.toNat, src := b.toNat, dst := c.toNat, have_ := xs, ops := [] } ov)).ops (by have := HPL.out; have := HN5.out; omega)
          · have hb1 : (s == l) = false := by simp [hq]
            have HQ := Lib.hid hq
            clear hq
            go_wp2_with (refine wpList_store_row rfl 57 _ _ rfl w.heap.size z12 rfl (by rw [z12_eq]; rfl) 57 z12 S.out.kr size57 rfl fr_zero_one ?_)
            refine bodyPost_ret (results_row_tmp rfl _ _ w.heap.size 57 z12 (0, 0) _ _ rfl rfl (S.out.kr.row _) Try.underlying57 rfl size57) rfl ?_
            refine ⟨.inr ⟨fun hi => ?_, rfl⟩, below_setRow S.out.b (Nat.le_refl _) _⟩
            obtain ⟨_, _, x, hx, gx, mx, hp, hsm⟩ := HIS.out ps _ true hi SF2.out
            refine HQ.out ?_
            rw [HSS.out, ← hp]
            refine ((putF_same ⟨HBA.out.1, HBA.out.2.1, HBA.out.2.2, HV.out.1, HV.out.2⟩ hx (fun p hp => (SP.out.2 p hp).2.1) gx HM.out mx).2 ?_)
            exact ⟨hsm.1.symm, hsm.2.1.symm, hsm.2.2.1.symm, hsm.2.2.2.1.symm, hsm.2.2.2.2.symm⟩
        · have HM := Lib.hid hm
          clear hm
          go_wp2_with (refine wpList_store_row rfl 57 _ _ rfl w.heap.size z12 rfl (by rw [z12_eq]; rfl) 57 z12 S.out.kr size57 rfl fr_zero_one ?_)
          refine bodyPost_ret (results_row_tmp rfl _ _ w.heap.size 57 z12 (0, 0) _ _ rfl rfl (S.out.kr.row _) Try.underlying57 rfl size57) rfl ?_
          refine ⟨.inr ⟨fun hi => ?_, rfl⟩, below_setRow S.out.b (Nat.le_refl _) _⟩
          obtain ⟨_, _, x, hx, gx, mx, hp, hsm⟩ := HIS.out ps _ true hi SF2.out
          exact HM.out (may_same hsm mx)
    | succ m =>
      have hd : decide ((k : Int) < (n5 : Int)) = true := decide_eq_true (by omega)
      have HWR := Lib.hid (show IntKind.u64.wrap ((k : Int) + 1) = ((k + 1 : Nat) : Int) by rw [IntWalk.u64_in _ (by have := HN5.out; omega)]; omega)
      cases st with
      | none =>
        have c1 : wr.cell? ⟨g10, 1, none⟩ = some (.bool false) := K.out.cell 1
        have PT := Lib.hid (fun (W : World) (hb : Below wr.heap.size wr W) => tput_any W ({ kind := a.toNat, src := b.toNat, dst := c.toNat, have_ := xs, ops := ps } : NFrame) ov ⟨HBA.out.1, HBA.out.2.1, HBA.out.2.2, HV.out.1, HV.out.2⟩ ((SP.out.ops (by have := HPL.out; have := HN5.out; omega)).later hb))
        rw [show frA ({ kind := a.toNat, src := b.toNat, dst := c.toNat, have_ := xs, ops := ps } : NFrame) ov = (frA { kind := a.toNat, src := b.toNat, dst := c.toNat, have_ := xs, ops := [] } ov) from rfl] at PT
        have HX12 := Lib.hid (frA_size ({ kind := a.toNat, src := b.toNat, dst := c.toNat, have_ := xs, ops := ps } : NFrame) ov HV.out.1)
        rw [show frA ({ kind := a.toNat, src := b.toNat, dst := c.toNat, have_ := xs, ops := ps } : NFrame) ov = (frA { kind := a.toNat, src := b.toNat, dst := c.toNat, have_ := xs, ops := [] } ov) from rfl] at HX12
        have SF2 := Lib.hid (SF.out.trans (show _ = (opsOf ps, (rtextS none (l.length : Int)).2, false) by rw [gOps_none, List.append_nil]))
        clear SF
        go_wp2_with (refine wpList_load_row rfl 57 _ rfl G rfl 57 (frA { kind := a.toNat, src := b.toNat, dst := c.toNat, have_ := xs, ops := [] } ov) (0, 0) _ S.out.ko Try.underlying57 rfl (by rw [HX12.out]; exact size57) ?_)
        refine (PT.out _ (by first | exact Below.refl _ _ | exact below_drew (Below.refl _ _))).mono ?_
        rintro e w5 ⟨⟨s, n, rfl, hn⟩, hb⟩
        have S := Lib.hid (S.out.below hb)
        have c2 : w5.cell? ⟨g10, 1, none⟩ = some (.bool false) := (K.out.below hb K.out.lt).cell 1
        clear hb hn PT c1
        go_wp2_with (refine wpList_store_row rfl 57 _ _ rfl w.heap.size z12 rfl (by rw [z12_eq]; rfl) 57 z12 S.out.kr size57 rfl fr_zero_one ?_)
        refine bodyPost_ret (results_row_tmp rfl _ _ w.heap.size 57 z12 (0, 0) _ _ rfl rfl (S.out.kr.row _) Try.underlying57 rfl size57) rfl ?_
        refine ⟨.inr ⟨fun hi => ?_, rfl⟩, below_setRow S.out.b (Nat.le_refl _) _⟩
        have h1 := (HIS.out ps _ false hi SF2.out).1
        cases h1
      | some q =>
        have c1 : wr.cell? ⟨g10, 1, none⟩ = some (.bool true) := K.out.cell 1
        have TX := Lib.hid (TG.out (some q) BS.out)
        have TQ := Lib.hid (TO.out (some q))
        have BS2 := Lib.hid (BS.out.text l.length)
        obtain ⟨g, hg⟩ := bool_of ((rdO (some (rtextS (some q) (l.length : Int)).1)).2 = some [])
        have HOK := Lib.hid (gotO_ok (rtextS (some q) (l.length : Int)).1)
        have HLL := Lib.hid (gotO_lines (rtextS (some q) (l.length : Int)).1)
        have HGY := Lib.hid (fun h => gOps_yes (L := l.length) (n := m) (st := some q) h)
        have HGN := Lib.hid (fun h => gOps_bad (L := l.length) (n := m) (st := some q) h)
        have HGO : Hid (∀ lv, opA (if (rdO (some (rtextS (some q) (l.length : Int)).1)).2 = some [] then (rdO (some (rtextS (some q) (l.length : Int)).1)).1 else zeroO) lv = opA (gotO (rtextS (some q) (l.length : Int)).1) lv) := Lib.hid (fun _ => rfl)
        have HGE := Lib.hid (endN_zero (rdO (some (rtextS (some q) (l.length : Int)).1)).2 g hg)
        have HGG := Lib.hid hg
        have HGL : Hid ((if (rdO (some (rtextS (some q) (l.length : Int)).1)).2 = some [] then (rdO (some (rtextS (some q) (l.length : Int)).1)).1 else zeroO).lines = (gotO (rtextS (some q) (l.length : Int)).1).lines) := Lib.hid rfl
        clear hg TG TO
        go_wp2_with (refine wpList_load_row rfl 89 _ rfl g10 rfl 89 (rowC (some q)) (0, 0) _ K.out Try.underlying89 rfl (by rw [rowC_size]; exact size89) ?_)
        refine (TX.out _).mono ?_
        rintro e w5 ⟨rfl, hb⟩
        have S := Lib.hid (S.out.below hb)
        have K := Lib.hid (K.out.below hb K.out.lt)
        have SP := Lib.hid (SP.out.below hb)
        have GN1 := Lib.hid (show g10 < w5.heap.size from K.out.lt)
        obtain ⟨t1, t3, tb⟩ := one_set w5 (rowC none) (rowC (rtextS (some q) (l.length : Int)).2) 89
        have S := Lib.hid (S.out.below tb)
        have K := Lib.hid (K.out.below tb K.out.lt)
        have SP := Lib.hid (SP.out.below tb)
        have T1 := Lib.hid t1
        have K13 := Lib.hid t3
        clear t1 t3 tb hb c1
        go_wp2_with (refine wpList_store_row rfl 89 _ _ rfl w5.heap.size (rowC (rtextS (some q) (l.length : Int)).2) rfl rfl 89 _ T1.out (by rw [rowC_size]; exact size89) (by simp only [rowC_size]) (rowC_one _) ?_)
        refine (TQ.out _).mono ?_
        rintro e w6 ⟨lv, rfl, hL, hb⟩
        rw [HGO.out]
        rw [HGL.out] at hL
        have OL := Lib.hid (own_weaken hL (show G + 1 ≤ _ by have := GN1.out; have := NG.out; simp; omega))
        have hb' := hb
        have S := Lib.hid (S.out.below hb)
        have K := Lib.hid (K.out.below hb K.out.lt)
        have SP := Lib.hid (SP.out.below hb)
        have K13 := Lib.hid (K13.out.below hb K13.out.lt)
        have GN2 := Lib.hid (show g10 < w6.heap.size from K.out.lt)
        have HSX := Lib.hid (opA_size (gotO (rtextS (some q) (l.length : Int)).1) lv HOK.out.dep8)
        have HOX := Lib.hid (opA_one _ lv (lns_own hL HLL.out))
        have HBT := Lib.hid (bs55 (gotO (rtextS (some q) (l.length : Int)).1) lv HOK.out.dep8)
        obtain ⟨p0, hp0⟩ : ∃ p : POp, p = (gotO (rtextS (some q) (l.length : Int)).1, lv) := ⟨_, rfl⟩
        have HP0 : Hid (p0.1 = gotO (rtextS (some q) (l.length : Int)).1) := Lib.hid (by rw [hp0])
        have HPF : Hid ((pF p0).toArray = opA (gotO (rtextS (some q) (l.length : Int)).1) lv) := Lib.hid (by rw [hp0]; rfl)
        have HPL2 := Lib.hid (show (pF p0).length = 29 by rw [hp0]; exact opF_len (gotO (rtextS (some q) (l.length : Int)).1) lv HOK.out.dep8)
        have HP1 := Lib.hid (show ∀ u ∈ pF p0, u.oneCell' = true by
          intro u hu
          have h1 := HOX.out
          rw [← HPF.out] at h1
          simp only [List.all_toArray] at h1
          exact List.all_eq_true.1 h1 u hu)
        have HPK := Lib.hid (show p0.1.ok ∧ p0.1.lines.length ≤ 16 by rw [hp0]; exact ⟨HOK.out, HLL.out⟩)
        have OL := Lib.hid (show Tran.Own w6 (G + 1) 177 4 p0.2 p0.1.lines.length (p0.1.lines.flatMap claimF) by rw [hp0]; exact OL.out)
        generalize hX : opA (gotO (rtextS (some q) (l.length : Int)).1) lv = X at *
        clear hX hp0 hL hb hb'
        obtain ⟨t1, t3, tb⟩ := one_set w6 (opA zeroO (.slice none 0 0)) X 122
        have S := Lib.hid (S.out.below tb)
        have K := Lib.hid (K.out.below tb K.out.lt)
        have SP := Lib.hid (SP.out.below tb)
        have OL := Lib.hid (OL.out.below tb (Nat.le_refl _))
        have K13 := Lib.hid (K13.out.below tb K13.out.lt)
        have T1 := Lib.hid t1
        have K14 := Lib.hid t3
        clear t1 t3 tb
        cases g with
        | false =>
          have hE := endN_five (st := (rdO (some (rtextS (some q) (l.length : Int)).1)).2) (fun h => absurd (HGG.out.2 h) (by simp))
          rw [hE]
          rw [show ((5 : Nat) : Int) = 5 from rfl]
          clear hE
          go_wp2_with (first
            | (refine wpList_store_row rfl 122 _ _ rfl w6.heap.size X rfl rfl 122 _ T1.out (by rw [HSX.out]; exact size122) (by rw [HSX.out]; rfl) HOX.out ?_)
            | (refine wpList_store_row rfl 57 _ _ rfl w.heap.size z12 rfl (by rw [z12_eq]; rfl) 57 z12 S.out.kr size57 rfl fr_zero_one ?_))
          refine bodyPost_ret (results_row_tmp rfl _ _ w.heap.size 57 z12 (0, 0) _ _ rfl rfl (S.out.kr.row _) Try.underlying57 rfl size57) rfl ?_
          refine ⟨.inr ⟨fun hi => ?_, rfl⟩, below_setRow S.out.b (Nat.le_refl _) _⟩
          have h1 := (HIS.out ps (rtextS (some q) (l.length : Int)).2 false hi (by rw [SF.out, HGN.out (fun h => absurd (HGG.out.2 h) (by simp)), List.append_nil])).1
          cases h1
        | true =>
          have hE : endN (rdO (some (rtextS (some q) (l.length : Int)).1)).2 = 0 := by rw [HGG.out.1 rfl]; rfl
          rw [hE]
          rw [show ((0 : Nat) : Int) = 0 from rfl]
          have HY := Lib.hid (HGY.out (HGG.out.1 rfl))
          clear hE
          go_upto_region 16 with (first
            | (refine wpList_store_row rfl 122 _ _ rfl w6.heap.size X rfl rfl 122 _ T1.out (by rw [HSX.out]; exact size122) (by rw [HSX.out]; rfl) HOX.out ?_)
            | (refine wpList_load_row rfl 89 _ rfl w5.heap.size rfl 89 (rowC (rtextS (some q) (l.length : Int)).2) (0, 0) _ K13.out Try.underlying89 rfl (by rw [rowC_size]; exact size89) ?_)
            | (refine wpList_store_row rfl 89 _ _ rfl g10 (rowC (rtextS (some q) (l.length : Int)).2) rfl rfl 89 _ K.out (by rw [rowC_size]; exact size89) (by simp only [rowC_size]) (rowC_one _) ?_))
          obtain ⟨w7, hw7⟩ : ∃ W : World, W = ((w6.alloc (.cells #[.int .u8 0, .int .u32 0, .int .u32 0, .int .u32 0, .int .u32 0, .int .u32 0, .int .u32 0, .int .u32 0, .int .u32 0, .int .u32 0, .int .u64 0, .int .u32 0, .int .u8 0, .int .u32 0, .int .u8 0, .int .u8 0, .int .u32 0, .int .u32 0, .int .u8 0, .int .u8 0, .int .u64 0, .int .u8 0, .int .u32 0, .int .u8 0, .int .u32 0, .int .u32 0, .int .u32 0, .int .u32 0, .slice none 0 0] 122)).setRow w6.heap.size X).setRow g10 (rowC (rtextS (some q) (l.length : Int)).2) := ⟨_, rfl⟩
          have S7 : Hid (FgW w G w7 (frA { kind := a.toNat, src := b.toNat, dst := c.toNat, have_ := xs, ops := [] } ov)) := Lib.hid (by rw [hw7]; exact S.out.far (g := g10) NG.out _)
          have P7 : Hid (OpsO w7 (G + 1) ov ps) := Lib.hid (by rw [hw7]; exact SP.out.rowFar (g := g10) (SP.out.1.ne_ K.out (by decide)) (fun p hp => (SP.out.2 p hp).1.ne_ K.out (by decide)) _)
          have O7 : Hid (Tran.Own w7 (G + 1) 177 4 p0.2 p0.1.lines.length (p0.1.lines.flatMap claimF)) := Lib.hid (by rw [hw7]; exact OL.out.rowFar (OL.out.ne_ K.out (by decide)) _)
          have K7 : Hid (Blk w7 g10 89 (rowC (rtextS (some q) (l.length : Int)).2)) := Lib.hid (by rw [hw7]; exact K.out.row _)
          have B7 : Hid (Blk w7 w6.heap.size 122 X) := Lib.hid (by rw [hw7]; exact K14.out.rowFar (by have := GN2.out; omega) _)
          rw [← hw7]
          clear hw7 S SP OL K K13 K14 T1
          have C11 := Lib.hid ((S7.out.ko.cell 11).trans (fr_c11 ({ kind := a.toNat, src := b.toNat, dst := c.toNat, have_ := xs, ops := [] } : NFrame) ov HV.out.1))
          refine lst_begin ?_
          intro A hA
          have h6 : A.eval (.tmp 6) = .pointer (some ⟨G, 0, none⟩) := by rw [hA]; rfl
          have h14 : A.eval (.tmp 14) = .pointer (some ⟨w6.heap.size, 0, none⟩) := by rw [hA]; rfl
          have hsz : A.tmps.size = 102 := by rw [hA]; rfl
          have hA := Lib.hid hA
          refine lst_val (some 77) (v := .pointer (some ⟨G, 11, none⟩)) rfl rfl (exec_addr 57 _ 4 rfl h6 (fb4)) ?_
          refine lst_val (some 78) (v := ov) rfl rfl (exec_load1 55 _ rfl (ev_eq (by (try simp only [Act.size_put]); rw [hsz]; decide)) (ld55 C11.out)) ?_
          refine lst_val (some 79) (v := .agg X) rfl rfl (exec_load1 122 _ rfl (ev_ne (by rfl) (ev_ne (by rfl) h14)) (ld122 B7.out HSX.out)) ?_
          refine lst_val (some 80) (v := .slice (some ⟨w7.heap.size, 0, none⟩) 1 1) rfl rfl (exec_bslice 55 1 _ rfl (vs := #[(0, .agg X)]) (by simp only [List.map_toArray, List.map_cons, List.map_nil]; rw [(show Act.eval _ (.tmp 79) = _ from (ev_eq (by (try simp only [Act.size_put]); rw [hsz]; decide)))]) (HBT.out w7)) ?_
          have ba := (Below.refl _ w7).alloc (Nat.le_refl _) (.cells X 122)
          have KA := Lib.hid (Blk.new w7 122 X)
          have S7 := Lib.hid (S7.out.below ba)
          have P7 := Lib.hid (P7.out.below ba)
          have O7 := Lib.hid (O7.out.below ba (Nat.le_refl _))
          have K7 := Lib.hid (K7.out.below ba K7.out.lt)
          clear ba
          obtain ⟨v1, we, hrun, hO1, hgr, hbk⟩ := run_append_Own (P := Try.prog) (w := (w7.alloc (.cells X 122))) (G + 1) 55 55 122 i0 _ 29 144 Try.underlying55 HI.out.1 HI.out.2.1 HI.out.2.2.1 HI.out.2.2.2 rfl (by omega) ov ps.length _ P7.out.1 (some ⟨w7.heap.size, 0, none⟩) 1 1 (pF p0) ⟨by rw [HPL2.out], fun _ => ⟨_, rfl, fun j u hj => by rw [lit_add, Nat.zero_add]; exact (KA.out.cell j).trans (by rw [← HPF.out]; simpa using hj)⟩⟩ HP1.out (by have := HN5.out; have := HPL.out; unfold maxLen; omega) (by have := HN5.out; have := HPL.out; omega) (by have := S7.out.ko.lt; omega)
          have hc : Chg (fun q => blkOf ov = some q) (w7.alloc (.cells X 122)) we := (Chg.refl _ _).grown hgr (fun q hq => .inl hq)
          have S8 := Lib.hid (S7.out.chg hc (fun q hq => (P7.out.1.lt _ hq).1))
          have K8 := Lib.hid (K7.out.chg hc (fun e => P7.out.1.ne_ K7.out (by decide) e))
          have P8 := Lib.hid (OpsO.snoc (p := p0) P7.out O7.out HPK.out.1 HPK.out.2 hgr hO1)
          refine lst_val (some 81) (v := v1) rfl rfl (exec_append (t := 55) rfl (ev_ne (by rfl) (ev_ne (by rfl) (ev_eq (by (try simp only [Act.size_put]); rw [hsz]; decide)))) (ev_eq (by (try simp only [Act.size_put]); rw [hsz]; decide)) hrun) ?_
          obtain ⟨A1, cap1, rfl, _, _, _⟩ := hO1.slice
          refine lst_val (some 82) (v := .pointer (some ⟨G, 11, none⟩)) rfl rfl (exec_addr 57 _ 4 rfl (ev_ne (by rfl) (ev_ne (by rfl) (ev_ne (by rfl) (ev_ne (by rfl) (ev_ne (by rfl) h6))))) (fb4)) ?_
          refine lst_skip none rfl rfl (exec_store1 55 _ _ rfl (ev_eq (by (try simp only [Act.size_put]); rw [hsz]; decide)) (ev_ne (by rfl) (ev_eq (by (try simp only [Act.size_put]); rw [hsz]; decide))) (st55 ((S8.out.ko.cell 11).trans (fr_c11 ({ kind := a.toNat, src := b.toNat, dst := c.toNat, have_ := xs, ops := [] } : NFrame) ov HV.out.1)) (S8.out.ko.frozen 11))) ?_
          refine lst_nil ?_
          have S9 := S8.out.set 11 (.slice A1 (ps.length + 1) cap1)
          rw [fr_put11 _ _ _ HV.out.1] at S9
          have P9 := P8.out.far (q := ⟨G, 11, none⟩) (show G < G + 1 by omega) (.slice A1 (ps.length + 1) cap1)
          have K9 := Lib.hid (K8.out.far (p := ⟨G, 11, none⟩) (show g10 ≠ G by have := NG.out; omega) (.slice A1 (ps.length + 1) cap1))
          have S9 := Lib.hid S9
          have P9 := Lib.hid P9
          have hA := hA.out
          subst hA
          simp only [Act.put, List.setIfInBounds_toArray, List.set_cons_zero, List.set_cons_succ]
          clear h6 h14 hsz hO1 hgr hbk hrun hc
          go_wp2_with fail
          go_roundw
          case rel =>
            refine ⟨k + 1, m, (rtextS (some q) (l.length : Int)).2, ps ++ [p0], .slice A1 (ps.length + 1) cap1, by rw [HWR.out], by omega, by rw [List.length_append, List.length_singleton, HPL.out], S9.out, K9.out, P9.out, BS2.out, ?_⟩
            rw [SF.out, HY.out, opsOf, opsOf, List.map_append, List.map_singleton, HP0.out, List.append_assoc]
            rfl
          case measure => rw [HWR.out]; simp [intOf]; omega
end Go.Proofs.Ytfojjklohbiffaa
