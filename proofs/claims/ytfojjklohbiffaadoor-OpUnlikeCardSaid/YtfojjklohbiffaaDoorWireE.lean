/- Readers: Vector. -/
import Derived.Test.YtfojjklohbiffaaDoorWireD
namespace Go.Proofs.YtfojjklohbiffaaDoor
open Go.RowKit Tran Tran.Wire
set_option linter.unusedVariables false
def zer8 : List Nat := [0, 0, 0, 0, 0, 0, 0, 0]
theorem vecA_one (xs : List Nat) : (vecA xs).all (·.oneCell') = true := by
  rw [Array.all_eq_true]; intro i hi; simp [vecA, Value.oneCell']
def z8 : Array Value := #[.int .u32 0, .int .u32 0, .int .u32 0, .int .u32 0, .int .u32 0, .int .u32 0, .int .u32 0, .int .u32 0]
theorem z8_eq : z8 = vecA zer8 := rfl
theorem z8_size : z8.size = 8 := rfl
theorem z8_one : z8.all (·.oneCell') = true := by rw [z8_eq]; exact vecA_one _
theorem Rdd.row {w w1 : World} {p : Option Addr} {st : Option (List UInt8)} (h : Rdd w w1 p st) {g : Nat} (hq : ∀ k, p = some ⟨k, 0, none⟩ → k < w.heap.size) (hl : w.heap.size ≤ g) (cs : Array Value) : Rdd w (w1.setRow g cs) p st := by
  refine ⟨?_, h.ch.setRow (.inr hl) cs⟩
  rcases h.rd with h1 | ⟨k, hp, s, pos, ok, hk, h1⟩
  · exact .inl h1
  · exact .inr ⟨k, hp, s, pos, ok, hk.rowFar (by have := hq k hp; omega) cs, h1⟩
set_option maxRecDepth 100000 in
set_option maxHeartbeats 4000000 in
theorem allvec_r {w : World} {p : Option Addr} {st : Option (List UInt8)} (h : RdP w p st) (xs : List Nat) (hx : xs.length = 8) :
    Calls Tryd.prog 53 #[.pointer p, .agg (vecA xs)] w fun e w' => e = .returned (pickS st (.agg (vecA xs)) (.agg (vecA zer8))) ∧ Rdd w w' p st := by
  have hvs := vecA_size xs
  rw [hx] at hvs
  have hlt := fun k => h.lt (k := k)
  have l1 := (Below.refl w.heap.size w).alloc (Nat.le_refl _) (.cells (vecA xs) 26)
  have l2 := l1.alloc (by simp) (.cells z8 26)
  have hb1 := (Blk.new w 26 (vecA xs)).alloc (.cells z8 26)
  have hb2 := Blk.new (w.alloc (.cells (vecA xs) 26)) 26 z8
  rw [show (w.alloc (.cells (vecA xs) 26)).heap.size = w.heap.size + 1 by simp] at hb2
  have r0 := (Rdd.refl h).below l2
  have F := Lib.hid (fine_r r0.rd)
  clear hx h
  cases st with
  | none =>
    go_enter Tryd.func53, Tryd.ntmps53
    go_wp2_with fail
    refine F.out.mono ?_
    rintro e w1 ⟨rfl, rfl⟩
    go_wp2_with (first
      | (refine wpList_load_row rfl 26 _ rfl (w.heap.size + 1) rfl 26 z8 (0, 0) _ hb2 Tryd.underlying26 rfl (by rw [z8_size]; exact size54) ?_)
      | (refine wpList_store_row rfl 26 _ _ rfl (w.heap.size + 1) z8 rfl rfl 26 z8 hb2 (by rw [z8_size]; exact size54) (by rfl) z8_one ?_))
    refine bodyPost_ret (results_cell_row rfl _ _ (w.heap.size + 1) 26 z8 (0, 0) _ rfl (hb2.row _) Tryd.underlying26 rfl (by rw [z8_size]; exact size54)) rfl ?_
    exact ⟨rfl, r0.row hlt (by omega) _⟩
  | some r =>
    go_enter Tryd.func53, Tryd.ntmps53
    go_wp2_with fail
    refine F.out.mono ?_
    rintro e w1 ⟨rfl, rfl⟩
    go_wp2_with (first
      | (refine wpList_load_row rfl 26 _ rfl w.heap.size rfl 26 (vecA xs) (0, 0) _ hb1 Tryd.underlying26 rfl (by rw [hvs]; exact size54) ?_)
      | (refine wpList_store_row rfl 26 _ _ rfl (w.heap.size + 1) (vecA xs) rfl rfl 26 z8 hb2 (by rw [hvs]; exact size54) (by rw [hvs]; rfl) (vecA_one xs) ?_)
      | (refine wpList_load_row rfl 26 _ rfl (w.heap.size + 1) rfl 26 (vecA xs) (0, 0) _ (hb2.row _) Tryd.underlying26 rfl (by rw [hvs]; exact size54) ?_)
      | (refine wpList_store_row rfl 26 _ _ rfl (w.heap.size + 1) (vecA xs) rfl rfl 26 (vecA xs) (hb2.row _) (by rw [hvs]; exact size54) rfl (vecA_one xs) ?_))
    refine bodyPost_ret (results_cell_row rfl _ _ (w.heap.size + 1) 26 (vecA xs) (0, 0) _ rfl ((hb2.row _).row _) Tryd.underlying26 rfl (by rw [hvs]; exact size54)) rfl ?_
    exact ⟨rfl, (r0.row hlt (by omega) _).row hlt (by omega) _⟩
/-- k numbers read -/
def rvecS (st : Option (List UInt8)) : Nat → List Nat × Option (List UInt8)
  | 0 => ([], st)
  | k + 1 => ((rvecS st k).1 ++ [(rnumS (rvecS st k).2 4294967295).1], (rnumS (rvecS st k).2 4294967295).2)
theorem rvecS_len (st : Option (List UInt8)) : ∀ k, (rvecS st k).1.length = k
  | 0 => rfl
  | k + 1 => by simp [rvecS, rvecS_len st k]
def vecAt (l : List Nat) (k : Nat) : List Nat := l ++ List.replicate (8 - k) 0
theorem vecAt_set (l : List Nat) (k x : Nat) (hl : l.length = k) (hk : k < 8) : (vecA (vecAt l k)).setIfInBounds k (.int .u32 (x : Nat)) = vecA (vecAt (l ++ [x]) (k + 1)) := by
  have e : (vecAt l k).set k x = vecAt (l ++ [x]) (k + 1) := by
    unfold vecAt
    rw [List.set_append, if_neg (by omega), hl, Nat.sub_self, show 8 - k = (8 - (k + 1)) + 1 by omega, List.replicate_succ, List.set_cons_zero, List.append_assoc]
    rfl
  rw [← e]
  apply Array.ext'
  simp [vecA, List.map_set]
theorem vecAt_len (l : List Nat) (k : Nat) (hl : l.length = k) (hk : k ≤ 8) : (vecAt l k).length = 8 := by simp [vecAt]; omega
/-- a vector read -/
def vecV (st : Option (List UInt8)) : Value := pickS (rvecS st 8).2 (.agg (vecA (rvecS st 8).1)) (.agg (vecA zer8))
set_option maxRecDepth 100000 in
set_option maxHeartbeats 4000000 in
theorem rvec_r {w : World} {p : Option Addr} {st : Option (List UInt8)} (h : RdP w p st) :
    Calls Tryd.prog 41 #[.pointer p] w fun e w' => e = .returned (vecV st) ∧ Rdd w w' p (rvecS st 8).2 := by
  have hp := fun k => h.lt (k := k)
  have l1 := (Below.refl w.heap.size w).alloc (Nat.le_refl _) (.cells z8 26)
  have l2 := l1.alloc (by simp) (.cells z8 26)
  have r0 := (Rdd.refl h).below l2
  have hb1 := (Blk.new w 26 z8).alloc (.cells z8 26)
  have hb2 := Blk.new (w.alloc (.cells z8 26)) 26 z8
  rw [show (w.alloc (.cells z8 26)).heap.size = w.heap.size + 1 by simp] at hb2
  have HP := Lib.hid hp
  clear h l1 l2 hp
  go_enter Tryd.func41, Tryd.ntmps41
  go_wp2_with fail
  go_loopw [4, 5] (fun u i wr => ∃ k : Nat, k ≤ 8 ∧ i = .int .i64 k ∧ Rdd w wr p (rvecS st k).2 ∧ Blk wr w.heap.size 26 z8 ∧ Blk wr (w.heap.size + 1) 26 (vecA (vecAt (rvecS st k).1 k))) (fun _ i _ => 8 - (intOf i).toNat)
  case atStart => exact ⟨0, by omega, rfl, r0, hb1, hb2⟩
  case round =>
    clear r0 hb1 hb2
    obtain ⟨k, hk, rfl, r, b1, b2⟩ := hrel
    by_cases hk8 : k < 8
    · have N := rnum_r r.rd 4294967295
      have hm := rnumS_le (rvecS st k).2 4294967295
      have hl := rvecS_len st k
      have hs1 : (rvecS st (k + 1)).1 = (rvecS st k).1 ++ [(rnumS (rvecS st k).2 4294967295).1] := rfl
      have hs2 : (rvecS st (k + 1)).2 = (rnumS (rvecS st k).2 4294967295).2 := rfl
      have H1 := Lib.hid hs1; have H2 := Lib.hid hs2
      clear hs1 hs2
      generalize rnumS (rvecS st k).2 4294967295 = q at *
      generalize (rvecS st k).1 = l at *
      obtain ⟨x, s2⟩ := q
      have N := Lib.hid N
      have hx : x ≤ 4294967295 := hm
      have HL := Lib.hid hl
      clear hm hl
      go_wp2_with fail
      refine N.out.mono ?_
      rintro e w2 ⟨rfl, r2⟩
      have r3 := r.trans r2
      have c1 := b1.chg r2.ch (fun hk => by have := HP.out _ hk; omega)
      have c2 := b2.chg r2.ch (fun hk => by have := HP.out _ hk; omega)
      have hv : (vecA (vecAt l k)).size = 8 := by rw [vecA_size]; exact vecAt_len l k HL.out hk
      have hcc : ∃ u, w2.cell? ⟨w.heap.size + 1, k, none⟩ = some u := ⟨_, (c2.cell k).trans (Array.getElem?_eq_getElem (by rw [hv]; exact hk8))⟩
      obtain ⟨u0, hcc⟩ := hcc
      have hff := c2.frozen k
      have c3 := c2.set_ k (.int .u32 (x : Nat))
      rw [vecAt_set l k x HL.out hk8] at c3
      clear N r r2 b1 b2 hv
      go_wp2
      go_roundw
      case rel =>
        refine ⟨k + 1, hk8, by go_num, ?_, c1.far (by show w.heap.size ≠ w.heap.size + 1; omega) _, ?_⟩
        · rw [H2.out]; exact r3.far HP.out (by show w.heap.size ≤ w.heap.size + 1; omega) _
        · rw [H1.out]; exact c3
      case measure => simp [intOf]; omega
    · obtain rfl : k = 8 := by omega
      have e8 : vecAt (rvecS st 8).1 8 = (rvecS st 8).1 := by simp [vecAt]
      rw [e8] at b2
      have hl8 := rvecS_len st 8
      have HV : Hid (vecV st = pickS (rvecS st 8).2 (.agg (vecA (rvecS st 8).1)) (.agg (vecA zer8))) := rfl
      obtain ⟨q, hq⟩ : ∃ q, q = rvecS st 8 := ⟨_, rfl⟩
      rw [← hq] at r b2 hl8 HV
      obtain ⟨l, s8⟩ := q
      have HQ := Lib.hid hq
      clear hq
      have hl8' : l.length = 8 := hl8
      have hv : (vecA l).size = 8 := by rw [vecA_size]; exact hl8'
      have A := Lib.hid (allvec_r r.rd l hl8')
      have HH := Lib.hid hl8'
      clear hl8 hl8' e8
      go_wp2_with (refine wpList_load_row rfl 26 _ rfl (w.heap.size + 1) rfl 26 (vecA l) (0, 0) _ b2 Tryd.underlying26 rfl (by rw [hv]; exact size54) ?_)
      refine A.out.mono ?_
      rintro e w2 ⟨rfl, r2⟩
      have r3 := r.trans r2
      have c1 := b1.chg r2.ch (fun hk => by have := HP.out _ hk; omega)
      cases s8 with
      | none =>
        simp only [pickS]
        go_wp2_with (refine wpList_store_row rfl 26 _ _ rfl w.heap.size (vecA zer8) rfl rfl 26 z8 c1 size54 rfl (vecA_one _) ?_)
        refine bodyPost_ret (results_cell_row rfl _ _ w.heap.size 26 (vecA zer8) (0, 0) _ rfl (c1.row _) Tryd.underlying26 rfl size54) rfl ?_
        rw [HV.out, ← HQ.out]
        exact ⟨rfl, r3.row HP.out (Nat.le_refl _) _⟩
      | some r8 =>
        simp only [pickS]
        go_wp2_with (refine wpList_store_row rfl 26 _ _ rfl w.heap.size (vecA l) rfl rfl 26 z8 c1 (by rw [hv]; exact size54) (by rw [hv]; rfl) (vecA_one _) ?_)
        refine bodyPost_ret (results_cell_row rfl _ _ w.heap.size 26 (vecA l) (0, 0) _ rfl (c1.row _) Tryd.underlying26 rfl (by rw [hv]; exact size54)) rfl ?_
        rw [HV.out, ← HQ.out]
        exact ⟨rfl, r3.row HP.out (Nat.le_refl _) _⟩
end Go.Proofs.YtfojjklohbiffaaDoor
