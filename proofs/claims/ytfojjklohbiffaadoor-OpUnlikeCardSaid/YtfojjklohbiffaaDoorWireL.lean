/- The document's readers of dots and vectors. -/
import Derived.Test.YtfojjklohbiffaaDoorWireK
namespace Go.Proofs.YtfojjklohbiffaaDoor
open Go.RowKit Tran Tran.Wire
set_option linter.unusedVariables false
theorem rnumS_bound {st : Option (List UInt8)} (hs : ∀ l, st = some l → l.length ≤ 140737488355328) (m : Nat) : ∀ l, (rnumS st m).2 = some l → l.length ≤ 140737488355328 := by
  intro l h; obtain ⟨s', h1, h2⟩ := rnumS_left h; exact Nat.le_trans h2 (hs s' h1)
/-- three blocks at the start -/
theorem three_blocks (w : World) (A B C : Array Value) (t u v : TypeId) :
    Blk (((w.alloc (.cells A t)).alloc (.cells B u)).alloc (.cells C v)) (w.heap.size + 1) u B ∧ Blk (((w.alloc (.cells A t)).alloc (.cells B u)).alloc (.cells C v)) (w.heap.size + 2) v C ∧
      Blk (((w.alloc (.cells A t)).alloc (.cells B u)).alloc (.cells C v)) w.heap.size t A ∧ Below w.heap.size w (((w.alloc (.cells A t)).alloc (.cells B u)).alloc (.cells C v)) := by
  have e1 : (w.alloc (.cells A t)).heap.size = w.heap.size + 1 := by simp
  have e2 : ((w.alloc (.cells A t)).alloc (.cells B u)).heap.size = w.heap.size + 2 := by simp
  have h1 := (Blk.new (w.alloc (.cells A t)) u B).alloc (.cells C v)
  have h2 := Blk.new ((w.alloc (.cells A t)).alloc (.cells B u)) v C
  rw [e1] at h1
  rw [e2] at h2
  exact ⟨h1, h2, ((Blk.new w t A).alloc _).alloc _, (((Below.refl w.heap.size w).alloc (Nat.le_refl _) _).alloc (by simp) _).alloc (by simp; omega) _⟩
def dotC (d : Value) : Array Value := d.cells
set_option maxRecDepth 100000 in
set_option maxHeartbeats 4000000 in
theorem ttakedot_any (st : Option (List UInt8)) (hs : ∀ l, st = some l → l.length ≤ 140737488355328) (w : World) :
    Calls Tryd.prog 56 #[.agg (rowC st)] w (Took w (dotV st) (rdotS st).2) := by
  have N1 := tknum_any st hs 255
  have N2 := tknum_any (rnumS st 255).2 (rnumS_bound hs 255) 4294967295
  have HD := Lib.hid (show dotV st = pickS (rnumS (rnumS st 255).2 4294967295).2 (.agg #[.int .u8 ((rnumS st 255).1 : Nat), .int .u32 ((rnumS (rnumS st 255).2 4294967295).1 : Nat)]) (.agg #[.int .u8 0, .int .u32 0]) from rfl)
  have HS := Lib.hid (show (rdotS st).2 = (rnumS (rnumS st 255).2 4294967295).2 from rfl)
  have ha := rnumS_le st 255
  have hb := rnumS_le (rnumS st 255).2 4294967295
  generalize (rnumS (rnumS st 255).2 4294967295) = q2 at *
  generalize rnumS st 255 = q1 at *
  obtain ⟨a, s1⟩ := q1
  obtain ⟨b, s2⟩ := q2
  simp only at ha hb
  obtain ⟨s, f, hsf⟩ := rowC_form st
  obtain ⟨s', f', hsf'⟩ := rowC_form s1
  have hwa : IntKind.u8.wrap (a : Nat) = (a : Nat) := IntWalk.u8_in _ (by omega)
  have hwb : IntKind.u32.wrap (b : Nat) = (b : Nat) := IntWalk.u32_in _ (by omega)
  obtain ⟨k1, k2, _, b0⟩ := three_blocks w (rowC st) #[.int .u8 0, .int .u32 0] (rowC none) 81 24 81
  rw [hsf] at N1 k1 k2 b0 ⊢
  have N1 : ∀ w, Calls Tryd.prog 59 #[.agg #[.string s, .bool f], .int .u64 255] w (Took w (.int .u64 (a : Nat)) s1) := N1
  have N2 : ∀ w, Calls Tryd.prog 59 #[.agg (rowC s1), .int .u64 4294967295] w (Took w (.int .u64 (b : Nat)) s2) := N2
  unfold Took at N1
  rw [hsf'] at N1 N2
  replace N1 := Lib.hid N1
  replace N2 := Lib.hid N2
  generalize dotV st = dv at *
  generalize (rdotS st).2 = ds at *
  clear hs hsf hsf'
  have K1 := Lib.hid k1
  have K2 := Lib.hid k2
  have B0 := Lib.hid b0
  clear k1 k2 b0
  go_enter Tryd.func56, Tryd.ntmps56
  go_wp2_with fail
  refine (N1.out _).mono ?_
  rintro e w1 ⟨rfl, b1⟩
  have k1 := K1.out.below b1 K1.out.lt
  have k2 := K2.out.below b1 K2.out.lt
  have b2 := (B0.out).trans (b1.mono B0.out.size)
  have d2 := (Below.refl w1.heap.size w1).alloc (Nat.le_refl _) (.cells #[.string s', .bool f'] 81)
  have k1 := k1.below d2 k1.lt
  have k2 := k2.below d2 k2.lt
  have b2 := b2.trans (d2.mono b2.size)
  have K1 := Lib.hid k1
  have K2 := Lib.hid k2
  have B2 := Lib.hid b2
  clear k1 k2 b2 d2 b1 N1 B0
  go_wp2_with fail
  refine (N2.out _).mono ?_
  rintro e w2 ⟨rfl, b1⟩
  have k1 := K1.out.below b1 K1.out.lt
  have k2 := K2.out.below b1 K2.out.lt
  have b2 := (B2.out).trans (b1.mono B2.out.size)
  have hlt2 := k2.lt
  have d2 := (Below.refl w2.heap.size w2).alloc (Nat.le_refl _) (.cells (rowC s2) 81)
  have k1 := k1.below d2 k1.lt
  have k2 := k2.below d2 k2.lt
  have b2 := b2.trans (d2.mono b2.size)
  clear d2 b1 N2 B2 K1 K2
  cases s2 with
  | none =>
    obtain rfl := HD.out
    obtain rfl := HS.out
    dsimp only [rowC] at k1 k2 b2 ⊢
    have K1 := Lib.hid k1
    have K2 := Lib.hid k2
    have B2 := Lib.hid b2
    clear k1 k2 b2 HD HS
    go_wp2_with fail
    refine (tfailed_any _).mono ?_
    rintro e w3 ⟨rfl, b1⟩
    have k1 := K1.out.below b1 K1.out.lt
    have k2 := K2.out.below b1 K2.out.lt
    have b2 := (B2.out).trans (b1.mono B2.out.size)
    clear K1 K2 B2 b1
    have b3 := below_setRow (below_setRow b2 (by omega : w.heap.size ≤ w.heap.size + 1) #[.int .u8 0, .int .u32 0]) (by omega : w.heap.size ≤ w.heap.size + 2) (rowC none)
    have k3 := k1.row #[.int .u8 0, .int .u32 0]
    have k4 := k2.rowFar (by omega : w.heap.size + 2 ≠ w.heap.size + 1) #[.int .u8 0, .int .u32 0]
    have K1 := Lib.hid (k3.rowFar (by omega : w.heap.size + 1 ≠ w.heap.size + 2) (rowC none))
    have K2 := Lib.hid (k4.row (rowC none))
    have B3 := Lib.hid b3
    clear b3 k3 b2
    go_wp2_with (first
      | (refine wpList_store_row rfl 24 _ _ rfl (w.heap.size + 1) #[.int .u8 0, .int .u32 0] rfl rfl 24 _ k1 size82 rfl (by simp [Value.oneCell']) ?_)
      | (refine wpList_store_row rfl 81 _ _ rfl (w.heap.size + 2) (rowC none) rfl rfl 81 _ k4 size89 rfl (rowC_one none) ?_))
    refine bodyPost_ret (results_rows rfl _ _ (w.heap.size + 1) 24 #[.int .u8 0, .int .u32 0] (0, 0) _ rfl K1.out Tryd.underlying24 rfl size82 (w.heap.size + 2) 81 (rowC none) (0, 0) _ rfl K2.out Tryd.underlying81 rfl size89) rfl ?_
    exact ⟨rfl, B3.out⟩
  | some l =>
    obtain rfl := HD.out
    obtain rfl := HS.out
    dsimp only [rowC] at k1 k2 b2 ⊢
    have k5 := (Blk.new w2 81 #[.string ⟨l.toArray⟩, .bool true])
    obtain ⟨w3, hw3⟩ : ∃ w3, w3 = w2.alloc (.cells #[.string ⟨l.toArray⟩, .bool true] 81) := ⟨_, rfl⟩
    rw [← hw3] at k1 k2 b2 k5
    have K1 := Lib.hid k1
    have K2 := Lib.hid k2
    have B2 := Lib.hid b2
    have HW := Lib.hid hw3
    clear k1 k2 b2 HD HS hw3
    go_wp2_with fail
    rw [← HW.out]
    have hc0 := k5.cell 0
    have hc1 := k5.cell 1
    clear HW
    have k1 := K1.out
    have k2 := K2.out
    have x0 := k1.cell 0
    have x1 := k1.cell 1
    have y0 := k2.cell 0
    have y1 := k2.cell 1
    have fx0 := k1.frozen 0
    have fx1 := k1.frozen 1
    have fy0 := k2.frozen 0
    have fy1 := k2.frozen 1
    clear k1 k2
    have hn1 : w2.heap.size ≠ w.heap.size + 1 := by omega
    have hn2 : w2.heap.size ≠ w.heap.size + 2 := by omega
    have hn3 : w.heap.size + 1 ≠ w2.heap.size := by omega
    have hn4 : w.heap.size + 2 ≠ w2.heap.size := by omega
    go_region
    all_goals go_wp2
    have e12 : ∀ (g : Nat), g = w.heap.size + 1 → g ≠ w.heap.size + 2 := fun g h => by omega
    have k3 := ((((K1.out.set_ 0 (.int .u8 (a : Nat))).set_ 1 (.int .u32 (b : Nat))).far (p := ⟨w.heap.size + 2, 0, none⟩) (e12 _ rfl) (.string ⟨l.toArray⟩)).far (p := ⟨w.heap.size + 2, 1, none⟩) (e12 _ rfl) (.bool true)).drew
    have k4 := ((((K2.out.far (p := ⟨w.heap.size + 1, 0, none⟩) (fun h => e12 _ h rfl) (.int .u8 (a : Nat))).far (p := ⟨w.heap.size + 1, 1, none⟩) (fun h => e12 _ h rfl) (.int .u32 (b : Nat))).set_ 0 (.string ⟨l.toArray⟩)).set_ 1 (.bool true)).drew
    have b3 := below_drew ((((B2.out.setCell (p := ⟨w.heap.size + 1, 0, none⟩) (by show w.heap.size ≤ w.heap.size + 1; omega) (.int .u8 (a : Nat))).setCell (p := ⟨w.heap.size + 1, 1, none⟩) (by show w.heap.size ≤ w.heap.size + 1; omega) (.int .u32 (b : Nat))).setCell (p := ⟨w.heap.size + 2, 0, none⟩) (by show w.heap.size ≤ w.heap.size + 2; omega) (.string ⟨l.toArray⟩)).setCell (p := ⟨w.heap.size + 2, 1, none⟩) (by show w.heap.size ≤ w.heap.size + 2; omega) (.bool true))
    refine bodyPost_ret (results_rows rfl _ _ (w.heap.size + 1) 24 #[.int .u8 (a : Nat), .int .u32 (b : Nat)] (0, 0) _ rfl k3 Tryd.underlying24 rfl size82 (w.heap.size + 2) 81 (rowC (some l)) (0, 0) _ rfl k4 Tryd.underlying81 rfl size89) rfl ?_
    exact ⟨rfl, b3⟩
theorem rvecS_bound {st : Option (List UInt8)} (hs : ∀ l, st = some l → l.length ≤ 140737488355328) : ∀ k l, (rvecS st k).2 = some l → l.length ≤ 140737488355328
  | 0 => hs
  | k + 1 => rnumS_bound (rvecS_bound hs k) 4294967295
/-- the worlds within the document's reader of a vector -/
structure TvI (w : World) (A : Array Value) (xs : List Nat) (W : World) : Prop where
  b : Below w.heap.size w W
  k0 : Blk W w.heap.size 81 A
  k1 : Blk W (w.heap.size + 1) 26 z8
  k2 : Blk W (w.heap.size + 2) 81 (rowC none)
  k3 : Blk W (w.heap.size + 3) 26 (vecA xs)
theorem TvI.below {w : World} {A : Array Value} {xs : List Nat} {W W' : World} (h : TvI w A xs W) (k : Below W.heap.size W W') : TvI w A xs W' :=
  ⟨h.b.trans (k.mono h.b.size), h.k0.below k h.k0.lt, h.k1.below k h.k1.lt, h.k2.below k h.k2.lt, h.k3.below k h.k3.lt⟩
theorem TvI.set0 {w : World} {A : Array Value} {xs : List Nat} {W : World} (h : TvI w A xs W) (i : Nat) (u : Value) : TvI w (A.setIfInBounds i u) xs (W.setCell ⟨w.heap.size, i, none⟩ u) :=
  ⟨h.b.setCell (Nat.le_refl _) u, h.k0.set_ i u, h.k1.far (show w.heap.size + 1 ≠ w.heap.size by omega) u, h.k2.far (show w.heap.size + 2 ≠ w.heap.size by omega) u, h.k3.far (show w.heap.size + 3 ≠ w.heap.size by omega) u⟩
theorem TvI.set3 {w : World} {A : Array Value} {xs ys : List Nat} {W : World} (h : TvI w A xs W) (i : Nat) (u : Value) (e : (vecA xs).setIfInBounds i u = vecA ys) : TvI w A ys (W.setCell ⟨w.heap.size + 3, i, none⟩ u) :=
  ⟨h.b.setCell (show w.heap.size ≤ w.heap.size + 3 by omega) u, h.k0.far (show w.heap.size ≠ w.heap.size + 3 by omega) u, h.k1.far (show w.heap.size + 1 ≠ w.heap.size + 3 by omega) u, h.k2.far (show w.heap.size + 2 ≠ w.heap.size + 3 by omega) u, e ▸ h.k3.set_ i u⟩
theorem TvI.row0 {w : World} {A : Array Value} {xs : List Nat} {W : World} (h : TvI w A xs W) (B : Array Value) : TvI w B xs (W.setRow w.heap.size B) :=
  ⟨below_setRow h.b (Nat.le_refl _) B, h.k0.row B, h.k1.rowFar (by omega) B, h.k2.rowFar (by omega) B, h.k3.rowFar (by omega) B⟩
theorem TvI.start (w : World) (A : Array Value) : TvI w A zer8 ((((w.alloc (.cells A 81)).alloc (.cells z8 26)).alloc (.cells (rowC none) 81)).alloc (.cells z8 26)) := by
  obtain ⟨k1, k2, k0, b0⟩ := three_blocks w A z8 (rowC none) 81 26 81
  have h := Blk.new (((w.alloc (.cells A 81)).alloc (.cells z8 26)).alloc (.cells (rowC none) 81)) 26 z8
  rw [show (((w.alloc (.cells A 81)).alloc (.cells z8 26)).alloc (.cells (rowC none) 81)).heap.size = w.heap.size + 3 by simp] at h
  exact ⟨b0.alloc b0.size _, k0.alloc _, k1.alloc _, k2.alloc _, h⟩
set_option maxRecDepth 100000 in
set_option maxHeartbeats 8000000 in
theorem ttakevec_any (st : Option (List UInt8)) (hs : ∀ l, st = some l → l.length ≤ 140737488355328) (w : World) :
    Calls Tryd.prog 57 #[.agg (rowC st)] w (Took w (vecV st) (rvecS st 8).2) := by
  have HB := Lib.hid (rvecS_bound hs)
  obtain ⟨s, f, hsf⟩ := rowC_form st
  have I0 : TvI w (rowC (rvecS st 0).2) (vecAt (rvecS st 0).1 0) _ := TvI.start w (rowC st)
  have HF := Lib.hid hsf
  rw [show rowC (rvecS st 0).2 = rowC st from rfl, hsf] at I0
  rw [hsf]
  have I0 : TvI w #[.string s, .bool f] (vecAt (rvecS st 0).1 0) ((((w.alloc (.cells #[.string s, .bool f] 81)).alloc (.cells #[.int .u32 0, .int .u32 0, .int .u32 0, .int .u32 0, .int .u32 0, .int .u32 0, .int .u32 0, .int .u32 0] 26)).alloc (.cells #[.string ⟨#[]⟩, .bool false] 81)).alloc (.cells #[.int .u32 0, .int .u32 0, .int .u32 0, .int .u32 0, .int .u32 0, .int .u32 0, .int .u32 0, .int .u32 0] 26)) := I0
  clear hs hsf
  go_enter Tryd.func57, Tryd.ntmps57
  go_wp2_with fail
  go_loopw [5] (fun i wr => ∃ k : Nat, k ≤ 8 ∧ i = .int .i64 k ∧ TvI w (rowC (rvecS st k).2) (vecAt (rvecS st k).1 k) wr) (fun i _ => 8 - (intOf i).toNat)
  case atStart => exact ⟨0, by omega, rfl, by rw [show rowC (rvecS st 0).2 = rowC st from rfl, HF.out]; exact I0⟩
  case round =>
    clear I0
    obtain ⟨k, hk, rfl, I⟩ := hrel
    by_cases hk8 : k < 8
    · have N := tknum_any (rvecS st k).2 (HB.out k) 4294967295
      have hm := rnumS_le (rvecS st k).2 4294967295
      have hl := rvecS_len st k
      have H1 := Lib.hid (show (rvecS st (k + 1)).1 = (rvecS st k).1 ++ [(rnumS (rvecS st k).2 4294967295).1] from rfl)
      have H2 := Lib.hid (show (rvecS st (k + 1)).2 = (rnumS (rvecS st k).2 4294967295).2 from rfl)
      generalize rnumS (rvecS st k).2 4294967295 = q at *
      generalize (rvecS st k).1 = l at *
      obtain ⟨x, s2⟩ := q
      simp only at hm
      obtain ⟨s', f', hsf⟩ := rowC_form (rvecS st k).2
      obtain ⟨s'', f'', hsf2⟩ := rowC_form s2
      rw [hsf] at N I
      have N : ∀ w, Calls Tryd.prog 59 #[.agg #[.string s', .bool f'], .int .u64 4294967295] w (Took w (.int .u64 (x : Nat)) s2) := N
      unfold Took at N
      rw [hsf2] at N
      replace N := Lib.hid N
      have HL := Lib.hid hl
      have HSF := Lib.hid hsf2
      have hv : (vecA (vecAt l k)).size = 8 := by rw [vecA_size]; exact vecAt_len l k hl (by omega)
      have hwx : IntKind.u32.wrap (x : Nat) = (x : Nat) := IntWalk.u32_in _ (by omega)
      have hc0 := I.k0.cell 0
      have hc1 := I.k0.cell 1
      clear hl hsf hsf2
      go_wp2_with fail
      refine (N.out _).mono ?_
      rintro e w2 ⟨rfl, d2⟩
      replace I := I.below d2
      have I3 := I.below ((Below.refl w2.heap.size w2).alloc (Nat.le_refl _) (.cells #[.string s'', .bool f''] 81))
      have hlt := I.k3.lt
      clear N d2 hc0 hc1
      have hcc : ∃ u, (w2.alloc (.cells #[.string s'', .bool f''] 81)).cell? ⟨w.heap.size + 3, k, none⟩ = some u := ⟨_, (I3.k3.cell k).trans (Array.getElem?_eq_getElem (by rw [hv]; exact hk8))⟩
      obtain ⟨u0, hcc⟩ := hcc
      have hff := I3.k3.frozen k
      have hn1 : w2.heap.size ≠ w.heap.size + 3 := by omega
      have hn2 : w2.heap.size ≠ w.heap.size := by omega
      have I4 := Lib.hid ((I.set3 k (.int .u32 (x : Nat)) (vecAt_set l k x HL.out hk8)).below ((Below.refl _ _).alloc (Nat.le_refl _) (.cells #[.string s'', .bool f''] 81)))
      clear hv I3 I
      go_wp2_with (refine wpList_store_row rfl 81 _ _ rfl w.heap.size #[.string s'', .bool f''] rfl rfl 81 #[.string s', .bool f'] I4.out.k0 size89 rfl (by simp [Value.oneCell']) ?_)
      go_roundw
      case rel =>
        refine ⟨k + 1, hk8, by go_num, ?_⟩
        rw [H1.out, H2.out, HSF.out]
        exact I4.out.row0 _
      case measure => simp [intOf]; omega
    · obtain rfl : k = 8 := by omega
      have e8 : vecAt (rvecS st 8).1 8 = (rvecS st 8).1 := by simp [vecAt]
      rw [e8] at I
      have hl8 := rvecS_len st 8
      have HV := Lib.hid (show vecV st = pickS (rvecS st 8).2 (.agg (vecA (rvecS st 8).1)) (.agg (vecA zer8)) from rfl)
      generalize vecV st = vv at *
      generalize rvecS st 8 = q at *
      obtain ⟨l, s8⟩ := q
      have hvl : (vecA l).size = 8 := by rw [vecA_size]; exact hl8
      cases s8 with
      | none =>
        obtain rfl := HV.out
        dsimp only [rowC] at I
        have hc1 := I.k0.cell 1
        clear hl8 e8 HV
        go_wp2_with fail
        refine (tfailed_any _).mono ?_
        rintro e w3 ⟨rfl, d3⟩
        have I3 := I.below d3
        have k1 := I3.k1
        have k2 := I3.k2.rowFar (by omega : w.heap.size + 2 ≠ w.heap.size + 1) z8
        have K1 := Lib.hid ((k1.row z8).rowFar (by omega : w.heap.size + 1 ≠ w.heap.size + 2) (rowC none))
        have K2 := Lib.hid (k2.row (rowC none))
        have B3 := Lib.hid (below_setRow (below_setRow I3.b (by omega : w.heap.size ≤ w.heap.size + 1) z8) (by omega : w.heap.size ≤ w.heap.size + 2) (rowC none))
        clear hc1 I d3 I3
        go_wp2_with (first
          | (refine wpList_store_row rfl 26 _ _ rfl (w.heap.size + 1) z8 rfl rfl 26 _ k1 size54 rfl z8_one ?_)
          | (refine wpList_store_row rfl 81 _ _ rfl (w.heap.size + 2) (rowC none) rfl rfl 81 _ k2 size89 rfl (rowC_one none) ?_))
        refine bodyPost_ret (results_rows rfl _ _ (w.heap.size + 1) 26 z8 (0, 0) _ rfl K1.out Tryd.underlying26 rfl size54 (w.heap.size + 2) 81 (rowC none) (0, 0) _ rfl K2.out Tryd.underlying81 rfl size89) rfl ?_
        exact ⟨rfl, B3.out⟩
      | some r =>
        obtain rfl := HV.out
        have hc1 := I.k0.cell 1
        have hc1' : wr.cell? ⟨w.heap.size, 1, none⟩ = some (.bool true) := hc1
        have I' : TvI w (rowC (some r)) l wr.drew := ⟨below_drew I.b, I.k0, I.k1, I.k2, I.k3⟩
        have HI := Lib.hid I'
        clear hl8 e8 HV hc1 I I'
        go_wp2_with fail
        have K1 := Lib.hid ((HI.out.k1.row (vecA l)).rowFar (by omega : w.heap.size + 1 ≠ w.heap.size + 2) (rowC (some r)))
        have K2 := Lib.hid ((HI.out.k2.rowFar (by omega : w.heap.size + 2 ≠ w.heap.size + 1) (vecA l)).row (rowC (some r)))
        have B3 := Lib.hid (below_setRow (below_setRow HI.out.b (by omega : w.heap.size ≤ w.heap.size + 1) (vecA l)) (by omega : w.heap.size ≤ w.heap.size + 2) (rowC (some r)))
        refine wp_region_any (by kernel_rfl) ?_
        refine wpAny_ready (rs := [0, 1]) (by kernel_rfl) (by simp) ?_
        refine AllReady.cons rfl (fun K hK => ?_) (AllReady.cons rfl (fun K hK => ?_) AllReady.nil)
        · refine step_load_row rfl 26 _ rfl (w.heap.size + 3) rfl 26 (vecA l) (0, 0) _ HI.out.k3 Tryd.underlying26 rfl (by rw [hvl]; exact size54) ?_
          refine hK _ _ ?_
          clear hK K
          refine wpAny_ready (rs := [1, 2]) (by kernel_rfl) (by simp) ?_
          refine AllReady.cons rfl (fun K hK => ?_) (AllReady.cons rfl (fun K hK => ?_) AllReady.nil)
          · refine step_load_row rfl 81 _ rfl w.heap.size rfl 81 (rowC (some r)) (0, 0) _ HI.out.k0 Tryd.underlying81 rfl size89 ?_
            refine hK _ _ ?_
            clear hK K
            refine wpAny_ready (rs := [2]) (by kernel_rfl) (by simp) ?_
            refine AllReady.cons rfl (fun K hK => ?_) AllReady.nil
            refine step_store_row rfl 26 _ _ rfl (w.heap.size + 1) (vecA l) rfl rfl 26 z8 HI.out.k1 (by rw [hvl]; exact size54) (by rw [hvl]; rfl) (vecA_one l) ?_
            refine hK _ _ ?_
            clear hK K
            refine wpAny_ready (rs := [3]) (by kernel_rfl) (by simp) ?_
            refine AllReady.cons rfl (fun K hK => ?_) AllReady.nil
            refine step_store_row rfl 81 _ _ rfl (w.heap.size + 2) (rowC (some r)) rfl rfl 81 (rowC none) (HI.out.k2.rowFar (by omega : w.heap.size + 2 ≠ w.heap.size + 1) (vecA l)) size89 rfl (rowC_one (some r)) ?_
            refine hK _ _ ?_
            clear hK K
            refine wpAny_done (by kernel_rfl) ?_ _
            go_wp2
            refine bodyPost_ret (results_rows rfl _ _ (w.heap.size + 1) 26 (vecA l) (0, 0) _ rfl K1.out Tryd.underlying26 rfl (by rw [hvl]; exact size54) (w.heap.size + 2) 81 (rowC (some r)) (0, 0) _ rfl K2.out Tryd.underlying81 rfl size89) rfl ?_
            exact ⟨rfl, B3.out⟩
          · refine step_store_row rfl 26 _ _ rfl (w.heap.size + 1) (vecA l) rfl rfl 26 z8 HI.out.k1 (by rw [hvl]; exact size54) (by rw [hvl]; rfl) (vecA_one l) ?_
            refine hK _ _ ?_
            clear hK K
            refine wpAny_ready (rs := [1]) (by kernel_rfl) (by simp) ?_
            refine AllReady.cons rfl (fun K hK => ?_) AllReady.nil
            refine step_load_row rfl 81 _ rfl w.heap.size rfl 81 (rowC (some r)) (0, 0) _ (HI.out.k0.rowFar (by omega : w.heap.size ≠ w.heap.size + 1) (vecA l)) Tryd.underlying81 rfl size89 ?_
            refine hK _ _ ?_
            clear hK K
            refine wpAny_ready (rs := [3]) (by kernel_rfl) (by simp) ?_
            refine AllReady.cons rfl (fun K hK => ?_) AllReady.nil
            refine step_store_row rfl 81 _ _ rfl (w.heap.size + 2) (rowC (some r)) rfl rfl 81 (rowC none) (HI.out.k2.rowFar (by omega : w.heap.size + 2 ≠ w.heap.size + 1) (vecA l)) size89 rfl (rowC_one (some r)) ?_
            refine hK _ _ ?_
            clear hK K
            refine wpAny_done (by kernel_rfl) ?_ _
            go_wp2
            refine bodyPost_ret (results_rows rfl _ _ (w.heap.size + 1) 26 (vecA l) (0, 0) _ rfl K1.out Tryd.underlying26 rfl (by rw [hvl]; exact size54) (w.heap.size + 2) 81 (rowC (some r)) (0, 0) _ rfl K2.out Tryd.underlying81 rfl size89) rfl ?_
            exact ⟨rfl, B3.out⟩
        · refine step_load_row rfl 81 _ rfl w.heap.size rfl 81 (rowC (some r)) (0, 0) _ HI.out.k0 Tryd.underlying81 rfl size89 ?_
          refine hK _ _ ?_
          clear hK K
          refine wpAny_ready (rs := [0]) (by kernel_rfl) (by simp) ?_
          refine AllReady.cons rfl (fun K hK => ?_) AllReady.nil
          refine step_load_row rfl 26 _ rfl (w.heap.size + 3) rfl 26 (vecA l) (0, 0) _ HI.out.k3 Tryd.underlying26 rfl (by rw [hvl]; exact size54) ?_
          refine hK _ _ ?_
          clear hK K
          refine wpAny_ready (rs := [2]) (by kernel_rfl) (by simp) ?_
          refine AllReady.cons rfl (fun K hK => ?_) AllReady.nil
          refine step_store_row rfl 26 _ _ rfl (w.heap.size + 1) (vecA l) rfl rfl 26 z8 HI.out.k1 (by rw [hvl]; exact size54) (by rw [hvl]; rfl) (vecA_one l) ?_
          refine hK _ _ ?_
          clear hK K
          refine wpAny_ready (rs := [3]) (by kernel_rfl) (by simp) ?_
          refine AllReady.cons rfl (fun K hK => ?_) AllReady.nil
          refine step_store_row rfl 81 _ _ rfl (w.heap.size + 2) (rowC (some r)) rfl rfl 81 (rowC none) (HI.out.k2.rowFar (by omega : w.heap.size + 2 ≠ w.heap.size + 1) (vecA l)) size89 rfl (rowC_one (some r)) ?_
          refine hK _ _ ?_
          clear hK K
          refine wpAny_done (by kernel_rfl) ?_ _
          go_wp2
          refine bodyPost_ret (results_rows rfl _ _ (w.heap.size + 1) 26 (vecA l) (0, 0) _ rfl K1.out Tryd.underlying26 rfl (by rw [hvl]; exact size54) (w.heap.size + 2) 81 (rowC (some r)) (0, 0) _ rfl K2.out Tryd.underlying81 rfl size89) rfl ?_
          exact ⟨rfl, B3.out⟩
end Go.Proofs.YtfojjklohbiffaaDoor
