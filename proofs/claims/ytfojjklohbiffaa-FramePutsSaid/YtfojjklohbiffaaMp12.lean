/- Readers: Vector. -/
import Derived.Test.YtfojjklohbiffaaMp7
import Derived.Test.YtfojjklohbiffaaMp8
import Derived.Test.YtfojjklohbiffaaMp11
namespace Go.Proofs.Ytfojjklohbiffaa
open Go.RowKit Tran Tran.Wire
set_option linter.unusedVariables false
def zer8 : List Nat := [0, 0, 0, 0, 0, 0, 0, 0]
theorem vecA_one (xs : List Nat) : (vecA xs).all (·.oneCell') = true := by
  rw [Array.all_eq_true]; intro i hi; simp [vecA, Value.oneCell']
def z8 : Array Value := #[.int .u32 0, .int .u32 0, .int .u32 0, .int .u32 0, .int .u32 0, .int .u32 0, .int .u32 0, .int .u32 0]
theorem z8_eq : z8 = vecA zer8 := rfl
theorem z8_size : z8.size = 8 := rfl
theorem z8_one : z8.all (·.oneCell') = true := by rw [z8_eq]; exact vecA_one _
theorem Rdd.row {w w1 : World} {p : Option Addr} {st : Option (List UInt8)} (h : Rdd w w1 p st) {g : Nat} (hq : ∀ k, p = some ⟨k, 0, none⟩ → k < w.heap.size) (hl : w.heap.size ≤ g) (cs : Array Value) : Rdd w (w1.setRow g cs) p st := by
  refine ⟨?_, h.ch.setRow (.inr hl) cs⟩
  rcases h.rd with h1 | ⟨k, hp, s, pos, ok, hk, h1⟩
  · exact .inl h1
  · exact .inr ⟨k, hp, s, pos, ok, hk.rowFar (by have := hq k hp; omega) cs, h1⟩
set_option maxRecDepth 100000 in
set_option maxHeartbeats 4000000 in
theorem allvec_r {w : World} {p : Option Addr} {st : Option (List UInt8)} (h : RdP w p st) (xs : List Nat) (hx : xs.length = 8) :
    Calls Try.prog 118 #[.pointer p, .agg (vecA xs)] w fun e w' => e = .returned (pickS st (.agg (vecA xs)) (.agg (vecA zer8))) ∧ Rdd w w' p st := by
  have hvs := vecA_size xs
  rw [hx] at hvs
  have hlt := fun k => h.lt (k := k)
  have l1 := (Below.refl w.heap.size w).alloc (Nat.le_refl _) (.cells (vecA xs) 54)
  have l2 := l1.alloc (by simp) (.cells z8 54)
  have hb1 := (Blk.new w 54 (vecA xs)).alloc (.cells z8 54)
  have hb2 := Blk.new (w.alloc (.cells (vecA xs) 54)) 54 z8
  rw [show (w.alloc (.cells (vecA xs) 54)).heap.size = w.heap.size + 1 by simp] at hb2
  have r0 := (Rdd.refl h).below l2
  have F := Lib.hid (fine_r r0.rd)
  clear hx h
  cases st with
  | none =>
    go_enter Try.func118, Try.ntmps118
    go_wp2_with fail
    refine F.out.mono ?_
    rintro e w1 ⟨rfl, rfl⟩
    go_wp2_with (first
      | (refine wpList_load_row rfl 54 _ rfl (w.heap.size + 1) rfl 54 z8 (0, 0) _ hb2 Try.underlying54 rfl (by rw [z8_size]; exact size54) ?_)
      | (refine wpList_store_row rfl 54 _ _ rfl (w.heap.size + 1) z8 rfl rfl 54 z8 hb2 (by rw [z8_size]; exact size54) (by rfl) z8_one ?_))
    refine bodyPost_ret (results_cell_row rfl _ _ (w.heap.size + 1) 54 z8 (0, 0) _ rfl (hb2.row _) Try.underlying54 rfl (by rw [z8_size]; exact size54)) rfl ?_
    exact ⟨rfl, r0.row hlt (by omega) _⟩
  | some r =>
    go_enter Try.func118, Try.ntmps118
    go_wp2_with fail
    refine F.out.mono ?_
    rintro e w1 ⟨rfl, rfl⟩
    go_wp2_with (first
      | (refine wpList_load_row rfl 54 _ rfl w.heap.size rfl 54 (vecA xs) (0, 0) _ hb1 Try.underlying54 rfl (by rw [hvs]; exact size54) ?_)
      | (refine wpList_store_row rfl 54 _ _ rfl (w.heap.size + 1) (vecA xs) rfl rfl 54 z8 hb2 (by rw [hvs]; exact size54) (by rw [hvs]; rfl) (vecA_one xs) ?_)
      | (refine wpList_load_row rfl 54 _ rfl (w.heap.size + 1) rfl 54 (vecA xs) (0, 0) _ (hb2.row _) Try.underlying54 rfl (by rw [hvs]; exact size54) ?_)
      | (refine wpList_store_row rfl 54 _ _ rfl (w.heap.size + 1) (vecA xs) rfl rfl 54 (vecA xs) (hb2.row _) (by rw [hvs]; exact size54) rfl (vecA_one xs) ?_))
    refine bodyPost_ret (results_cell_row rfl _ _ (w.heap.size + 1) 54 (vecA xs) (0, 0) _ rfl ((hb2.row _).row _) Try.underlying54 rfl (by rw [hvs]; exact size54)) rfl ?_
    exact ⟨rfl, (r0.row hlt (by omega) _).row hlt (by omega) _⟩
/-- k numbers read -/
def rvecS (st : Option (List UInt8)) : Nat → List Nat × Option (List UInt8)
  | 0 => ([], st)
  | k + 1 => ((rvecS st k).1 ++ [(rnumS (rvecS st k).2 4294967295).1], (rnumS (rvecS st k).2 4294967295).2)
theorem rvecS_len (st : Option (List UInt8)) : ∀ k, (rvecS st k).1.length = k
  | 0 => rfl
  | k + 1 => by simp [rvecS, rvecS_len st k]
def vecAt (l : List Nat) (k : Nat) : List Nat := l ++ List.replicate (8 - k) 0
theorem vecAt_set (l : List Nat) (k x : Nat) (hl : l.length = k) (hk : k < 8) : (vecA (vecAt l k)).setIfInBounds k (.int .u32 (x : Nat)) = vecA (vecAt (l ++ [x]) (k + 1)) := by
  have e : (vecAt l k).set k x = vecAt (l ++ [x]) (k + 1) := by
    unfold vecAt
    rw [List.set_append, if_neg (by omega), hl, Nat.sub_self, show 8 - k = (8 - (k + 1)) + 1 by omega, List.replicate_succ, List.set_cons_zero, List.append_assoc]
    rfl
  rw [← e]
  apply Array.ext'
  simp [vecA, List.map_set]
theorem vecAt_len (l : List Nat) (k : Nat) (hl : l.length = k) (hk : k ≤ 8) : (vecAt l k).length = 8 := by simp [vecAt]; omega
/-- a vector read -/
def vecV (st : Option (List UInt8)) : Value := pickS (rvecS st 8).2 (.agg (vecA (rvecS st 8).1)) (.agg (vecA zer8))
set_option maxRecDepth 100000 in
set_option maxHeartbeats 4000000 in
theorem rvec_r {w : World} {p : Option Addr} {st : Option (List UInt8)} (h : RdP w p st) :
    Calls Try.prog 68 #[.pointer p] w fun e w' => e = .returned (vecV st) ∧ Rdd w w' p (rvecS st 8).2 := by
  have hp := fun k => h.lt (k := k)
  have l1 := (Below.refl w.heap.size w).alloc (Nat.le_refl _) (.cells z8 54)
  have l2 := l1.alloc (by simp) (.cells z8 54)
  have r0 := (Rdd.refl h).below l2
  have hb1 := (Blk.new w 54 z8).alloc (.cells z8 54)
  have hb2 := Blk.new (w.alloc (.cells z8 54)) 54 z8
  rw [show (w.alloc (.cells z8 54)).heap.size = w.heap.size + 1 by simp] at hb2
  have HP := Lib.hid hp
  clear h l1 l2 hp
  go_enter Try.func68, Try.ntmps68
  go_wp2_with fail
  go_loopw [4, 5] (fun u i wr => ∃ k : Nat, k ≤ 8 ∧ i = .int .i64 k ∧ Rdd w wr p (rvecS st k).2 ∧ Blk wr w.heap.size 54 z8 ∧ Blk wr (w.heap.size + 1) 54 (vecA (vecAt (rvecS st k).1 k))) (fun _ i _ => 8 - (intOf i).toNat)
  case atStart => exact ⟨0, by omega, rfl, r0, hb1, hb2⟩
  case round =>
    clear r0 hb1 hb2
    obtain ⟨k, hk, rfl, r, b1, b2⟩ := hrel
    by_cases hk8 : k < 8
    · have N := rnum_r r.rd 4294967295
      have hm := rnumS_le (rvecS st k).2 4294967295
      have hl := rvecS_len st k
      have hs1 : (rvecS st (k + 1)).1 = (rvecS st k).1 ++ [(rnumS (rvecS st k).2 4294967295).1] := rfl
      have hs2 : (rvecS st (k + 1)).2 = (rnumS (rvecS st k).2 4294967295).2 := rfl
      have H1 := Lib.hid hs1; have H2 := Lib.hid hs2
      clear hs1 hs2
      generalize rnumS (rvecS st k).2 4294967295 = q at *
      generalize (rvecS st k).1 = l at *
      obtain ⟨x, s2⟩ := q
      have N := Lib.hid N
      have hx : x ≤ 4294967295 := hm
      have HL := Lib.hid hl
      clear hm hl
      go_wp2_with fail
      refine N.out.mono ?_
      rintro e w2 ⟨rfl, r2⟩
      have r3 := r.trans r2
      have c1 := b1.chg r2.ch (fun hk => by have := HP.out _ hk; omega)
      have c2 := b2.chg r2.ch (fun hk => by have := HP.out _ hk; omega)
      have hv : (vecA (vecAt l k)).size = 8 := by rw [vecA_size]; exact vecAt_len l k HL.out hk
      have hcc : ∃ u, w2.cell? ⟨w.heap.size + 1, k, none⟩ = some u := ⟨_, (c2.cell k).trans (Array.getElem?_eq_getElem (by rw [hv]; exact hk8))⟩
      obtain ⟨u0, hcc⟩ := hcc
      have hff := c2.frozen k
      have c3 := c2.set_ k (.int .u32 (x : Nat))
      rw [vecAt_set l k x HL.out hk8] at c3
      clear N r r2 b1 b2 hv
      go_wp2
      go_roundw
      case rel =>
        refine ⟨k + 1, hk8, by go_num, ?_, c1.far (by show w.heap.size ≠ w.heap.size + 1; omega) _, ?_⟩
        · rw [H2.out]; exact r3.far HP.out (by show w.heap.size ≤ w.heap.size + 1; omega) _
        · rw [H1.out]; exact c3
      case measure => simp [intOf]; omega
    · obtain rfl : k = 8 := by omega
      have e8 : vecAt (rvecS st 8).1 8 = (rvecS st 8).1 := by simp [vecAt]
      rw [e8] at b2
      have hl8 := rvecS_len st 8
      have HV : Hid (vecV st = pickS (rvecS st 8).2 (.agg (vecA (rvecS st 8).1)) (.agg (vecA zer8))) := rfl
      obtain ⟨q, hq⟩ : ∃ q, q = rvecS st 8 := ⟨_, rfl⟩
      rw [← hq] at r b2 hl8 HV
      obtain ⟨l, s8⟩ := q
      have HQ := Lib.hid hq
      clear hq
      have hl8' : l.length = 8 := hl8
      have hv : (vecA l).size = 8 := by rw [vecA_size]; exact hl8'
      have A := Lib.hid (allvec_r r.rd l hl8')
      have HH := Lib.hid hl8'
      clear hl8 hl8' e8
      go_wp2_with (refine wpList_load_row rfl 54 _ rfl (w.heap.size + 1) rfl 54 (vecA l) (0, 0) _ b2 Try.underlying54 rfl (by rw [hv]; exact size54) ?_)
      refine A.out.mono ?_
      rintro e w2 ⟨rfl, r2⟩
      have r3 := r.trans r2
      have c1 := b1.chg r2.ch (fun hk => by have := HP.out _ hk; omega)
      cases s8 with
      | none =>
        simp only [pickS]
        go_wp2_with (refine wpList_store_row rfl 54 _ _ rfl w.heap.size (vecA zer8) rfl rfl 54 z8 c1 size54 rfl (vecA_one _) ?_)
        refine bodyPost_ret (results_cell_row rfl _ _ w.heap.size 54 (vecA zer8) (0, 0) _ rfl (c1.row _) Try.underlying54 rfl size54) rfl ?_
        rw [HV.out, ← HQ.out]
        exact ⟨rfl, r3.row HP.out (Nat.le_refl _) _⟩
      | some r8 =>
        simp only [pickS]
        go_wp2_with (refine wpList_store_row rfl 54 _ _ rfl w.heap.size (vecA l) rfl rfl 54 z8 c1 (by rw [hv]; exact size54) (by rw [hv]; rfl) (vecA_one _) ?_)
        refine bodyPost_ret (results_cell_row rfl _ _ w.heap.size 54 (vecA l) (0, 0) _ rfl (c1.row _) Try.underlying54 rfl (by rw [hv]; exact size54)) rfl ?_
        rw [HV.out, ← HQ.out]
        exact ⟨rfl, r3.row HP.out (Nat.le_refl _) _⟩
end Go.Proofs.Ytfojjklohbiffaa
/- Known answers of layer 2 (law02.none, head). -/
namespace Go.Proofs.Ytfojjklohbiffaa
open Go.RowKit Tran Tran.Wire
set_option linter.unusedVariables false
theorem Rdd.toBelow {w w' : World} {g : Nat} {st : Option (List UInt8)} {B : Nat} (h : Rdd w w' (some ⟨g, 0, none⟩) st) (hg : B ≤ g) (hB : B ≤ w.heap.size) : Below B w w' :=
  h.ch.toBelow hB (fun k _ hk => by injection hk with hk; injection hk with hk; omega)
set_option maxRecDepth 100000 in
set_option maxHeartbeats 4000000 in
theorem none02_any (w : World) (s : List UInt8) (hs : s.length ≤ 100) (most : Nat) (hn : rnumS (some s) most = (0, none)) :
    Calls Try.prog 108 #[.string ⟨s.toArray⟩, .int .u64 most] w fun e w' => e = .returned (.bool true) ∧ Below w.heap.size w w' := by
  have HN := Lib.hid hn
  clear hn
  go_enter Try.func108, Try.ntmps108
  go_wp2_with fail
  refine (open_r w (by omega)).mono ?_
  rintro e w1 ⟨rfl, r1, hw⟩
  have b1 : Below w.heap.size w w1 := by rw [hw]; exact (Below.refl _ _).alloc (Nat.le_refl _) _
  clear hw
  have N := rnum_r r1 most
  rw [HN.out] at N
  have N := Lib.hid N
  clear r1
  go_wp2_with fail
  refine N.out.mono ?_
  rintro e w2 ⟨rfl, r2⟩
  have b2 := b1.trans (r2.toBelow (Nat.le_refl _) b1.size)
  have F := Lib.hid (fine_r r2.rd)
  have L := Lib.hid (left_r r2.rd)
  clear N
  go_wp2_with fail
  refine F.out.mono ?_
  rintro e w3 ⟨rfl, rfl⟩
  go_wp2_with fail
  refine L.out.mono ?_
  rintro e w3 ⟨rfl, n, rfl⟩
  have E := Lib.hid (end_r (w := w2.drewN n) (p := some ⟨w.heap.size, 0, none⟩) (st := none) r2.rd (by simp [leftN]))
  clear F L
  go_wp2_with fail
  refine E.out.mono ?_
  rintro e w3 ⟨rfl, m, hm⟩
  have r3 : RdP w3 (some ⟨w.heap.size, 0, none⟩) none := by rw [hm]; exact r2.rd
  have b3 : Below w.heap.size w w3 := by rw [hm]; exact below_drewN (below_drewN b2 n) m
  have T := rtext_r r3 9 (by omega)
  rw [show rtextS none 9 = ([], none) from rfl] at T
  have T := Lib.hid T
  clear E hm r2
  go_wp2_with fail
  refine T.out.mono ?_
  rintro e w4 ⟨rfl, r4⟩
  have b4 := b3.trans (r4.toBelow (Nat.le_refl _) b3.size)
  go_wp2
  go_ret
  exact ⟨rfl, b4⟩
end Go.Proofs.Ytfojjklohbiffaa
/- Known values of layer 2, and what keeps a reader. -/
namespace Go.Proofs.Ytfojjklohbiffaa
open Go.RowKit Tran Tran.Wire
set_option linter.unusedVariables false
theorem nf5 : numF 5 = [5] := by simp [numF]
theorem nf127 : numF 127 = [127] := by simp [numF]
theorem nf128 : numF 128 = [129, 128] := by simp [numF, dig]
theorem nf256 : numF 256 = [130, 1, 0] := by simp [numF, dig]
theorem nfmax : numF 18446744073709551615 = [136, 255, 255, 255, 255, 255, 255, 255, 255] := by simp [numF, dig]
theorem tf_ab : textF [97, 98] = [2, 97, 98] := by simp [textF, numF]
theorem df_3 : dotF 3 300 = [3, 130, 1, 44] := by simp [dotF, numF, dig]
theorem rt_ab : rtextS (some [2, 97, 98, 3, 130, 1, 44]) 2 = ([97, 98], some [3, 130, 1, 44]) := by decide
theorem rd_3 : rdotS (some [3, 130, 1, 44]) = ((3, 300), some []) := by decide
theorem nn1 : rnumS (some [129, 5]) 18446744073709551615 = (0, none) := by decide
theorem nn2 : rnumS (some [130, 0, 255]) 18446744073709551615 = (0, none) := by decide
theorem nn3 : rnumS (some [137]) 18446744073709551615 = (0, none) := by decide
theorem nn4 : rnumS (some [128]) 18446744073709551615 = (0, none) := by decide
theorem nn5 : rnumS (some [129]) 18446744073709551615 = (0, none) := by decide
theorem nn6 : rnumS (some [5]) 4 = (0, none) := by decide
theorem RdP.chg {w w' : World} {p : Option Addr} {st : Option (List UInt8)} {S : Nat → Prop} (h : RdP w p st) (hc : Chg S w w') (hn : ∀ k, p = some ⟨k, 0, none⟩ → ¬ S k) : RdP w' p st := by
  rcases h with h | ⟨g, hp, s, pos, ok, hk, h1⟩
  · exact .inl h
  · exact .inr ⟨g, hp, s, pos, ok, hk.chg hc (hn g hp), h1⟩
theorem own_ne_rd {w : World} {B n : Nat} {v : Value} {xs : List Value} {g : Nat} {st : Option (List UInt8)} (ho : Own w B 5 1 v n xs) (h : RdP w (some ⟨g, 0, none⟩) st) : blkOf v ≠ some g := by
  rcases h with ⟨h, _⟩ | ⟨k, hp, s, pos, ok, hk, _⟩
  · cases h
  · injection hp with hp; injection hp with hp; subst hp
    exact ho.ne_ hk (by decide)
end Go.Proofs.Ytfojjklohbiffaa
/- Operations read: what the reader tells, plain; the closures short and word. -/
namespace Go.Proofs.Ytfojjklohbiffaa
open Go.RowKit Tran Tran.Wire
set_option linter.unusedVariables false
theorem rnum_small (st : Option (List UInt8)) (m : Nat) : (rnumS st m).1 ≤ m := rnumS_le st m
def dotZ (st : Option (List UInt8)) : Nat × Nat := if (rdotS st).2.isSome = true then (rdotS st).1 else (0, 0)
theorem dotV_eq (st : Option (List UInt8)) : dotV st = .agg #[.int .u8 ((dotZ st).1 : Nat), .int .u32 ((dotZ st).2 : Nat)] := by
  unfold dotV dotZ pickS
  cases (rdotS st).2 <;> simp
theorem dotZ_lt (st : Option (List UInt8)) : (dotZ st).1 < 256 ∧ (dotZ st).2 < 4294967296 := by
  have h1 := rnumS_le st 255
  have h2 := rnumS_le (rnumS st 255).2 4294967295
  unfold dotZ
  split
  · simp only [rdotS]; omega
  · simp
def vecZ (st : Option (List UInt8)) : List Nat := if (rvecS st 8).2.isSome = true then (rvecS st 8).1 else zer8
theorem vecV_eq (st : Option (List UInt8)) : vecV st = .agg (vecA (vecZ st)) := by
  unfold vecV vecZ pickS
  cases (rvecS st 8).2 <;> simp
theorem vecZ_len (st : Option (List UInt8)) : (vecZ st).length = 8 := by
  unfold vecZ
  split
  · exact rvecS_len st 8
  · rfl
theorem rvecS_lt (st : Option (List UInt8)) : ∀ k, ∀ y ∈ (rvecS st k).1, y < 4294967296
  | 0, y, h => by simp [rvecS] at h
  | k + 1, y, h => by
    simp only [rvecS, List.mem_append, List.mem_singleton] at h
    rcases h with h | rfl
    · exact rvecS_lt st k y h
    · have := rnumS_le (rvecS st k).2 4294967295; omega
theorem vecZ_lt (st : Option (List UInt8)) : ∀ y ∈ vecZ st, y < 4294967296 := by
  unfold vecZ
  split
  · exact rvecS_lt st 8
  · intro y hy; simp [zer8] at hy; omega
/-- a line read -/
def rdClaim (st : Option (List UInt8)) : NClaim := ⟨(dotZ st).1, (dotZ st).2, (dotZ (rdotS st).2).1, (dotZ (rdotS st).2).2⟩
def rdClaimS (st : Option (List UInt8)) : Option (List UInt8) := (rdotS (rdotS st).2).2
theorem rdClaim_ok (st : Option (List UInt8)) : (rdClaim st).ok := ⟨(dotZ_lt st).1, (dotZ_lt st).2, (dotZ_lt _).1, (dotZ_lt _).2⟩
def rdLines (st : Option (List UInt8)) : Nat → List NClaim × Option (List UInt8)
  | 0 => ([], st)
  | k + 1 => ((rdLines st k).1 ++ [rdClaim (rdLines st k).2], rdClaimS (rdLines st k).2)
theorem rdLines_len (st : Option (List UInt8)) : ∀ k, (rdLines st k).1.length = k
  | 0 => rfl
  | k + 1 => by simp [rdLines, rdLines_len st k]
theorem rdLines_ok (st : Option (List UInt8)) : ∀ k, ∀ c ∈ (rdLines st k).1, c.ok
  | 0, c, h => by simp [rdLines] at h
  | k + 1, c, h => by
    simp only [rdLines, List.mem_append, List.mem_singleton] at h
    rcases h with h | rfl
    · exact rdLines_ok st k c h
    · exact rdClaim_ok _
/-- an operation read -/
def rdO (st : Option (List UInt8)) : NOp × Option (List UInt8) :=
  let s1 := (rdotS st).2
  let s2 := (rvecS s1 8).2
  let n3 := rnumS s2 18446744073709551615
  let n4 := rnumS n3.2 4294967295
  let s5 := (rdotS n4.2).2
  let n6 := rnumS s5 255
  let s7 := (rdotS n6.2).2
  let n8 := rnumS s7 4294967295
  let n9 := rnumS n8.2 255
  let n10 := rnumS n9.2 255
  let n11 := rnumS n10.2 18446744073709551615
  let s12 := (rdotS n11.2).2
  let s13 := (rdotS s12).2
  let n14 := rnumS s13 4294967295
  let n15 := rnumS n14.2 4294967295
  let n16 := rnumS n15.2 4294967295
  let n17 := rnumS n16.2 16
  ({ dr := (dotZ st).1, dn := (dotZ st).2, dep := vecZ s1, time := n3.1, who := n4.1, cr := (dotZ n4.2).1, cn := (dotZ n4.2).2, kind := n6.1, er := (dotZ n6.2).1, en := (dotZ n6.2).2, to := n8.1, roles := n9.1, depth := n10.1, cap := n11.1, ar := (dotZ n11.2).1, an := (dotZ n11.2).2, vr := (dotZ s12).1, vn := (dotZ s12).2, item := n14.1, qty := n15.1, price := n16.1, lines := (rdLines n17.2 n17.1).1 }, (rdLines n17.2 n17.1).2)
def zeroO : NOp := { dr := 0, dn := 0, dep := zer8, time := 0, who := 0, cr := 0, cn := 0, kind := 0, er := 0, en := 0, to := 0, roles := 0, depth := 0, cap := 0, ar := 0, an := 0, vr := 0, vn := 0, item := 0, qty := 0, price := 0, lines := [] }
theorem zeroO_ok : zeroO.ok := by
  constructor <;> simp [zeroO, zer8]
set_option maxRecDepth 100000 in
theorem rdO_ok (st : Option (List UInt8)) : (rdO st).1.ok := by
  constructor
  case dr => exact (dotZ_lt _).1
  case dn => exact (dotZ_lt _).2
  case dep8 => exact vecZ_len _
  case dep => exact vecZ_lt _
  case time => exact Nat.lt_of_le_of_lt (rnumS_le _ _) (by decide)
  case who => exact Nat.lt_of_le_of_lt (rnumS_le _ _) (by decide)
  case cr => exact (dotZ_lt _).1
  case cn => exact (dotZ_lt _).2
  case kind => exact Nat.lt_of_le_of_lt (rnumS_le _ _) (by decide)
  case er => exact (dotZ_lt _).1
  case en => exact (dotZ_lt _).2
  case to => exact Nat.lt_of_le_of_lt (rnumS_le _ _) (by decide)
  case roles => exact Nat.lt_of_le_of_lt (rnumS_le _ _) (by decide)
  case depth => exact Nat.lt_of_le_of_lt (rnumS_le _ _) (by decide)
  case cap => exact Nat.lt_of_le_of_lt (rnumS_le _ _) (by decide)
  case ar => exact (dotZ_lt _).1
  case an => exact (dotZ_lt _).2
  case vr => exact (dotZ_lt _).1
  case vn => exact (dotZ_lt _).2
  case item => exact Nat.lt_of_le_of_lt (rnumS_le _ _) (by decide)
  case qty => exact Nat.lt_of_le_of_lt (rnumS_le _ _) (by decide)
  case price => exact Nat.lt_of_le_of_lt (rnumS_le _ _) (by decide)
  case lines => exact rdLines_ok _ _
set_option maxRecDepth 100000 in
theorem rdO_lines (st : Option (List UInt8)) : (rdO st).1.lines.length ≤ 16 := by
  unfold rdO
  simp only [rdLines_len]
  exact rnumS_le _ _
set_option maxRecDepth 100000 in
set_option maxHeartbeats 4000000 in
theorem short_any {w : World} {g bx : Nat} {st : Option (List UInt8)} (h : RdP w (some ⟨g, 0, none⟩) st) (kb : Blk w bx 86 #[.pointer (some ⟨g, 0, none⟩)]) :
    Calls Try.prog 130 #[.pointer (some ⟨bx, 0, none⟩)] w fun e w' => e = .returned (.int .u8 ((rnumS st 255).1 : Nat)) ∧ Rdd w w' (some ⟨g, 0, none⟩) (rnumS st 255).2 := by
  have bx0 : _ = some (Value.pointer (some ⟨g, 0, none⟩)) := kb.cell 0
  have R := rnum_r h 255
  rw [show ((255 : Nat) : Int) = 255 from rfl] at R
  have hl := rnumS_le st 255
  generalize rnumS st 255 = q at *
  obtain ⟨n, s2⟩ := q
  simp only at hl R ⊢
  have hw : IntKind.u8.wrap (n : Int) = n := IntWalk.u8_in _ (by omega)
  have R := Lib.hid R
  clear h kb
  go_enter Try.func130, Try.ntmps130
  go_wp2_with fail
  refine R.out.mono ?_
  rintro e w1 ⟨rfl, hr⟩
  go_wp2
  go_ret
  first | exact ⟨rfl, hr⟩ | exact ⟨by rw [hw], hr⟩
set_option maxRecDepth 100000 in
set_option maxHeartbeats 4000000 in
theorem word_any {w : World} {g bx : Nat} {st : Option (List UInt8)} (h : RdP w (some ⟨g, 0, none⟩) st) (kb : Blk w bx 86 #[.pointer (some ⟨g, 0, none⟩)]) :
    Calls Try.prog 131 #[.pointer (some ⟨bx, 0, none⟩)] w fun e w' => e = .returned (.int .u32 ((rnumS st 4294967295).1 : Nat)) ∧ Rdd w w' (some ⟨g, 0, none⟩) (rnumS st 4294967295).2 := by
  have bx0 : _ = some (Value.pointer (some ⟨g, 0, none⟩)) := kb.cell 0
  have R := rnum_r h 4294967295
  rw [show ((4294967295 : Nat) : Int) = 4294967295 from rfl] at R
  have hl := rnumS_le st 4294967295
  generalize rnumS st 4294967295 = q at *
  obtain ⟨n, s2⟩ := q
  simp only at hl R ⊢
  have hw : IntKind.u32.wrap (n : Int) = n := IntWalk.u32_in _ (by omega)
  have R := Lib.hid R
  clear h kb
  go_enter Try.func131, Try.ntmps131
  go_wp2_with fail
  refine R.out.mono ?_
  rintro e w1 ⟨rfl, hr⟩
  go_wp2
  go_ret
  first | exact ⟨rfl, hr⟩ | exact ⟨by rw [hw], hr⟩
end Go.Proofs.Ytfojjklohbiffaa
