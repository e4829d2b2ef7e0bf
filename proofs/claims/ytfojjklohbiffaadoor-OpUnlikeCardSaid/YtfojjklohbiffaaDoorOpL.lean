/- Operations: the document's Take: the walk. -/
import Derived.Test.YtfojjklohbiffaaDoorOpK
namespace Go.Proofs.YtfojjklohbiffaaDoor
open Go.RowKit Tran Tran.Wire
set_option linter.unusedVariables false
set_option linter.unusedSimpArgs false
theorem own_apart_ {w : World} {B C e f m n k l : Nat} {v u : Value} {xs ys : List Value} (h : Tran.Own w B e m v k xs) (h2 : Tran.Own w C f n u l ys) (hne : e ≠ f) : ∀ g, blkOf v = some g → blkOf u ≠ some g := by
  intro g hg hu
  rcases h.2 with ⟨A, rfl, _⟩ | ⟨g1, c1, cur1, fz1, rfl, _, hb1, _⟩
  · cases A <;> simp [blkOf] at hg
  · rcases h2.2 with ⟨A, rfl, _⟩ | ⟨g2, c2, cur2, fz2, rfl, _, hb2, _⟩
    · cases A <;> simp [blkOf] at hu
    · simp [blkOf] at hg hu
      subst hg hu
      rw [hb1] at hb2
      injection hb2 with hb2
      injection hb2 with _ hb2 _
      exact hne hb2
theorem list8 {l : List Nat} (h : l.length = 8) : ∃ x0 x1 x2 x3 x4 x5 x6 x7, l = [x0, x1, x2, x3, x4, x5, x6, x7] := by
  match l, h with
  | [x0, x1, x2, x3, x4, x5, x6, x7], _ => exact ⟨x0, x1, x2, x3, x4, x5, x6, x7, rfl⟩
set_option maxRecDepth 100000 in
set_option maxHeartbeats 64000000 in
theorem take_any (w : World) (st : Option (List UInt8)) (hs : Bd st) : Calls Tryd.prog 45 #[.agg (rowC st)] w (TakeO w (rdO st)) := by
  obtain ⟨d1, s1, v2, s2, n3, s3, n4, s4, d5, s5, n6, s6, d7, s7, n8, s8, n9, s9, n10, s10, n11, s11, d12, s12, d13, s13, n14, s14, n15, s15, n16, s16, n17, s17, e1, e2, e3, e4, e5, e6, e7, e8, e9, e10, e11, e12, e13, e14, e15, e16, e17, hq⟩ := rdO_steps st
  rw [hq]
  clear hq
  have b1 : Bd s1 := e1.2 ▸ hs.dot
  have b2 : Bd s2 := e2.2 ▸ b1.vec
  have b3 : Bd s3 := by have h := b2.num 18446744073709551615; rw [e3] at h; exact h
  have b4 : Bd s4 := by have h := b3.num 4294967295; rw [e4] at h; exact h
  have b5 : Bd s5 := e5.2 ▸ b4.dot
  have b6 : Bd s6 := by have h := b5.num 255; rw [e6] at h; exact h
  have b7 : Bd s7 := e7.2 ▸ b6.dot
  have b8 : Bd s8 := by have h := b7.num 4294967295; rw [e8] at h; exact h
  have b9 : Bd s9 := by have h := b8.num 255; rw [e9] at h; exact h
  have b10 : Bd s10 := by have h := b9.num 255; rw [e10] at h; exact h
  have b11 : Bd s11 := by have h := b10.num 18446744073709551615; rw [e11] at h; exact h
  have b12 : Bd s12 := e12.2 ▸ b11.dot
  have b13 : Bd s13 := e13.2 ▸ b12.dot
  have b14 : Bd s14 := by have h := b13.num 4294967295; rw [e14] at h; exact h
  have b15 : Bd s15 := by have h := b14.num 4294967295; rw [e15] at h; exact h
  have b16 : Bd s16 := by have h := b15.num 4294967295; rw [e16] at h; exact h
  have b17 : Bd s17 := by have h := b16.num 16; rw [e17] at h; exact h
  have HV8 := Lib.hid (show v2.length = 8 by rw [← e2.1]; exact vecZ_len _)
  have hn4 : n4 ≤ 4294967295 := by have h := rnumS_le s3 4294967295; rw [e4] at h; exact h
  have V4 := Lib.hid (cv22 hn4)
  have hn6 : n6 ≤ 255 := by have h := rnumS_le s5 255; rw [e6] at h; exact h
  have V6 := Lib.hid (cv5 hn6)
  have hn8 : n8 ≤ 4294967295 := by have h := rnumS_le s7 4294967295; rw [e8] at h; exact h
  have V8 := Lib.hid (cv22 hn8)
  have hn9 : n9 ≤ 255 := by have h := rnumS_le s8 255; rw [e9] at h; exact h
  have V9 := Lib.hid (cv5 hn9)
  have hn10 : n10 ≤ 255 := by have h := rnumS_le s9 255; rw [e10] at h; exact h
  have V10 := Lib.hid (cv5 hn10)
  have hn14 : n14 ≤ 4294967295 := by have h := rnumS_le s13 4294967295; rw [e14] at h; exact h
  have V14 := Lib.hid (cv22 hn14)
  have hn15 : n15 ≤ 4294967295 := by have h := rnumS_le s14 4294967295; rw [e15] at h; exact h
  have V15 := Lib.hid (cv22 hn15)
  have hn16 : n16 ≤ 4294967295 := by have h := rnumS_le s15 4294967295; rw [e16] at h; exact h
  have V16 := Lib.hid (cv22 hn16)
  have hn17 : n17 ≤ 16 := by have h := rnumS_le s16 16; rw [e17] at h; exact h
  have H17 := Lib.hid hn17
  have C1 := Lib.hid (tdot_c hs e1)
  have C2 := Lib.hid (tvec_c b1 e2)
  have C3 := Lib.hid (tnums_c (s' := s4) (ms := [18446744073709551615, 4294967295]) (l := [n3, n4]) (n := 2) b2 rfl (by omega) (by omega) (by simp [numsK, e3, e4]))
  have C5 := Lib.hid (tdot_c b4 e5)
  have C6 := Lib.hid (tnum_c (M := 255) b5 e6 rfl)
  have C7 := Lib.hid (tdot_c b6 e7)
  have C8 := Lib.hid (tnums_c (s' := s11) (ms := [4294967295, 255, 255, 18446744073709551615]) (l := [n8, n9, n10, n11]) (n := 4) b7 rfl (by omega) (by omega) (by simp [numsK, e8, e9, e10, e11]))
  have C12 := Lib.hid (tdot_c b11 e12)
  have C13 := Lib.hid (tdot_c b12 e13)
  have C14 := Lib.hid (tnums_c (s' := s17) (ms := [4294967295, 4294967295, 4294967295, 16]) (l := [n14, n15, n16, n17]) (n := 4) b13 rfl (by omega) (by omega) (by simp [numsK, e14, e15, e16, e17]))
  have CA := Lib.hid (fun k => tdot_c (b17.lines k) ⟨rfl, rfl⟩)
  have CB := Lib.hid (fun k => tdot_c (b17.lines k).dot ⟨rfl, rfl⟩)
  have HLN := Lib.hid (fun k => rdLines_len s17 k)
  have HNO := Lib.hid (fun k (h : (rdLines s17 k).2 = none) => rdLines_none h n17)
  have HRL : Hid (∀ k, rdLines s17 (k + 1) = ((rdLines s17 k).1 ++ [rdClaim (rdLines s17 k).2], rdClaimS (rdLines s17 k).2)) := Lib.hid (fun _ => rfl)
  have HR0 : Hid (rdLines s17 0 = ([], s17)) := Lib.hid rfl
  generalize rdLines s17 = RL at *
  clear e1 e2 e3 e4 e5 e6 e7 e8 e9 e10 e11 e12 e13 e14 e15 e16 e17 b1 b2 b3 b4 b5 b6 b7 b8 b9 b10 b11 b12 b13 b14 b15 b16 b17 hn4 hn6 hn8 hn9 hn10 hn14 hn15 hn16 hn17
  obtain ⟨x0, x1, x2, x3, x4, x5, x6, x7, rfl⟩ := list8 HV8.out
  obtain ⟨F, hF⟩ : ∃ F : List NClaim → NOp, ∀ ls, F ls = (NOp.mk d1.1 d1.2 [x0, x1, x2, x3, x4, x5, x6, x7] n3 n4 d5.1 d5.2 n6 d7.1 d7.2 n8 n9 n10 n11 d12.1 d12.2 d13.1 d13.2 n14 n15 n16 ls) := ⟨fun ls => (NOp.mk d1.1 d1.2 [x0, x1, x2, x3, x4, x5, x6, x7] n3 n4 d5.1 d5.2 n6 d7.1 d7.2 n8 n9 n10 n11 d12.1 d12.2 d13.1 d13.2 n14 n15 n16 ls), fun _ => rfl⟩
  have HF1 := Lib.hid (hF [])
  have HF2 := Lib.hid (fun ls (lv : Value) => show opA (F ls) lv = opA (F []) lv by rw [hF ls, hF []]; rfl)
  have HF3 := Lib.hid (fun ls => show (F ls).lines = ls by rw [hF ls])
  have HF8 := Lib.hid (show (F []).dep.length = 8 by rw [hF []]; rfl)
  rw [← hF]
  clear hF
  obtain ⟨t0, tk⟩ := TkW.start w st
  have S := Lib.hid t0
  have K0 := Lib.hid tk
  obtain ⟨i0, hi, hz0, hz1, hz2⟩ := info_parts info177
  have HI := Lib.hid (And.intro hi (And.intro hz0 (And.intro hz1 hz2)))
  clear hi hz0 hz1 hz2 t0 tk hs
  go_enter Tryd.func45, Tryd.ntmps45
  go_wp2_with (first | (refine wpList_load_row rfl 81 _ rfl w.heap.size rfl 81 (rowC st) (0, 0) _ K0.out Tryd.underlying81 rfl (by rw [rowC_size]; exact size89) ?_))
  refine (C1.out _).mono ?_
  rintro e w1 ⟨rfl, hb⟩
  have S := Lib.hid (S.out.below hb)
  have SL := Lib.hid (S.out.k3.lt)
  obtain ⟨t1, t2, t3, t4, tb⟩ := two_set w1 #[.int .u8 0, .int .u32 0] #[.int .u8 (d1.1 : Nat), .int .u32 (d1.2 : Nat)] (rowC none) (rowC s1) 24 81
  have S := Lib.hid (S.out.below tb)
  have T1 := Lib.hid t1
  have T2 := Lib.hid t2
  have D1 := Lib.hid t3
  have R1 := Lib.hid t4
  have ND1 := Lib.hid (show w.heap.size + 3 < w1.heap.size from SL.out)
  clear t1 t2 t3 t4 tb hb SL
  go_wp2_with (first | (refine wpList_store_row rfl 24 _ _ rfl w1.heap.size #[.int .u8 (d1.1 : Nat), .int .u32 (d1.2 : Nat)] rfl rfl 24 _ T1.out size82 rfl (by simp [Value.oneCell']) ?_) | (refine wpList_store_row rfl 81 _ _ rfl (w1.heap.size + 1) (rowC s1) rfl rfl 81 _ T2.out (by rw [rowC_size]; exact size89) (by rw [rowC_size, rowC_size]) (rowC_one s1) ?_) | (refine wpList_load_row rfl 81 _ rfl (w1.heap.size + 1) rfl 81 (rowC s1) (0, 0) _ R1.out Tryd.underlying81 rfl (by rw [rowC_size]; exact size89) ?_))
  refine (C2.out _).mono ?_
  rintro e w2 ⟨rfl, hb⟩
  have S := Lib.hid (S.out.below hb)
  have D1 := Lib.hid (D1.out.below hb D1.out.lt)
  have SL := Lib.hid (S.out.k3.lt)
  obtain ⟨t1, t2, t3, t4, tb⟩ := two_set w2 (vecA [0, 0, 0, 0, 0, 0, 0, 0]) (vecA [x0, x1, x2, x3, x4, x5, x6, x7]) (rowC none) (rowC s2) 26 81
  have S := Lib.hid (S.out.below tb)
  have D1 := Lib.hid (D1.out.below tb D1.out.lt)
  have T1 := Lib.hid t1
  have T2 := Lib.hid t2
  have D2 := Lib.hid t3
  have R2 := Lib.hid t4
  have ND2 := Lib.hid (show w.heap.size + 3 < w2.heap.size from SL.out)
  clear t1 t2 t3 t4 tb hb SL
  go_wp2_with (first | (refine wpList_store_row rfl 26 _ _ rfl w2.heap.size (vecA [x0, x1, x2, x3, x4, x5, x6, x7]) rfl rfl 26 _ T1.out (by rw [vecA_size]; exact size54) (by rw [vecA_size]; rfl) (vecA_one [x0, x1, x2, x3, x4, x5, x6, x7]) ?_) | (refine wpList_store_row rfl 81 _ _ rfl (w2.heap.size + 1) (rowC s2) rfl rfl 81 _ T2.out (by rw [rowC_size]; exact size89) (by rw [rowC_size, rowC_size]) (rowC_one s2) ?_) | (refine wpList_load_row rfl 81 _ rfl (w2.heap.size + 1) rfl 81 (rowC s2) (0, 0) _ R2.out Tryd.underlying81 rfl (by rw [rowC_size]; exact size89) ?_))
  refine (C3.out _ _ _ (rd_lit ((((w2.alloc (.cells (vecA [0, 0, 0, 0, 0, 0, 0, 0]) 26)).alloc (.cells (rowC none) 81)).setRow w2.heap.size (vecA [x0, x1, x2, x3, x4, x5, x6, x7])).setRow (w2.heap.size + 1) (rowC s2)) [18446744073709551615, 4294967295] 2 rfl _ (by simp))).mono ?_
  rintro e w3 ⟨⟨g3, c3, rfl, ho, hg⟩, hb⟩
  have HG3 := Lib.hid (show w.heap.size + 3 < g3 by have h1 := S.out.k3.lt; rw [World.size_alloc] at hg; omega)
  have O3 := Lib.hid ho
  have hb := ((Below.refl (((((w2.alloc (.cells (vecA [0, 0, 0, 0, 0, 0, 0, 0]) 26)).alloc (.cells (rowC none) 81)).setRow w2.heap.size (vecA [x0, x1, x2, x3, x4, x5, x6, x7])).setRow (w2.heap.size + 1) (rowC s2))).heap.size ((((w2.alloc (.cells (vecA [0, 0, 0, 0, 0, 0, 0, 0]) 26)).alloc (.cells (rowC none) 81)).setRow w2.heap.size (vecA [x0, x1, x2, x3, x4, x5, x6, x7])).setRow (w2.heap.size + 1) (rowC s2))).alloc (Nat.le_refl _) _).trans (hb.mono (by rw [World.size_alloc]; omega))
  have S := Lib.hid (S.out.below hb)
  have D1 := Lib.hid (D1.out.below hb D1.out.lt)
  have D2 := Lib.hid (D2.out.below hb D2.out.lt)
  have SL := Lib.hid (S.out.k3.lt)
  clear ho hg
  obtain ⟨t1, t3, tb⟩ := one_set w3 (rowC none) (rowC s4) 81
  have S := Lib.hid (S.out.below tb)
  have D1 := Lib.hid (D1.out.below tb D1.out.lt)
  have D2 := Lib.hid (D2.out.below tb D2.out.lt)
  have O3 := Lib.hid (O3.out.below tb (Nat.le_refl _))
  have T1 := Lib.hid t1
  have R4 := Lib.hid t3
  have NR4 := Lib.hid (show w.heap.size + 3 < w3.heap.size from SL.out)
  clear t1 t3 tb hb SL
  go_wp2_with (first | (refine wpList_store_row rfl 81 _ _ rfl w3.heap.size (rowC s4) rfl rfl 81 _ T1.out (by rw [rowC_size]; exact size89) (by rw [rowC_size, rowC_size]) (rowC_one s4) ?_) | (refine wpList_load_row rfl 81 _ rfl w3.heap.size rfl 81 (rowC s4) (0, 0) _ R4.out Tryd.underlying81 rfl (by rw [rowC_size]; exact size89) ?_))
  refine (C5.out _).mono ?_
  rintro e w4 ⟨rfl, hb⟩
  have S := Lib.hid (S.out.below hb)
  have D1 := Lib.hid (D1.out.below hb D1.out.lt)
  have D2 := Lib.hid (D2.out.below hb D2.out.lt)
  have O3 := Lib.hid (O3.out.below hb (Nat.le_refl _))
  have SL := Lib.hid (S.out.k3.lt)
  obtain ⟨t1, t2, t3, t4, tb⟩ := two_set w4 #[.int .u8 0, .int .u32 0] #[.int .u8 (d5.1 : Nat), .int .u32 (d5.2 : Nat)] (rowC none) (rowC s5) 24 81
  have S := Lib.hid (S.out.below tb)
  have D1 := Lib.hid (D1.out.below tb D1.out.lt)
  have D2 := Lib.hid (D2.out.below tb D2.out.lt)
  have O3 := Lib.hid (O3.out.below tb (Nat.le_refl _))
  have T1 := Lib.hid t1
  have T2 := Lib.hid t2
  have D5 := Lib.hid t3
  have R5 := Lib.hid t4
  have ND5 := Lib.hid (show w.heap.size + 3 < w4.heap.size from SL.out)
  clear t1 t2 t3 t4 tb hb SL
  go_wp2_with (first | (refine wpList_store_row rfl 24 _ _ rfl w4.heap.size #[.int .u8 (d5.1 : Nat), .int .u32 (d5.2 : Nat)] rfl rfl 24 _ T1.out size82 rfl (by simp [Value.oneCell']) ?_) | (refine wpList_store_row rfl 81 _ _ rfl (w4.heap.size + 1) (rowC s5) rfl rfl 81 _ T2.out (by rw [rowC_size]; exact size89) (by rw [rowC_size, rowC_size]) (rowC_one s5) ?_) | (refine wpList_load_row rfl 81 _ rfl (w4.heap.size + 1) rfl 81 (rowC s5) (0, 0) _ R5.out Tryd.underlying81 rfl (by rw [rowC_size]; exact size89) ?_))
  refine (C6.out _).mono ?_
  rintro e w5 ⟨rfl, hb⟩
  have S := Lib.hid (S.out.below hb)
  have D1 := Lib.hid (D1.out.below hb D1.out.lt)
  have D2 := Lib.hid (D2.out.below hb D2.out.lt)
  have O3 := Lib.hid (O3.out.below hb (Nat.le_refl _))
  have D5 := Lib.hid (D5.out.below hb D5.out.lt)
  have SL := Lib.hid (S.out.k3.lt)
  obtain ⟨t1, t3, tb⟩ := one_set w5 (rowC none) (rowC s6) 81
  have S := Lib.hid (S.out.below tb)
  have D1 := Lib.hid (D1.out.below tb D1.out.lt)
  have D2 := Lib.hid (D2.out.below tb D2.out.lt)
  have O3 := Lib.hid (O3.out.below tb (Nat.le_refl _))
  have D5 := Lib.hid (D5.out.below tb D5.out.lt)
  have T1 := Lib.hid t1
  have R6 := Lib.hid t3
  have NR6 := Lib.hid (show w.heap.size + 3 < w5.heap.size from SL.out)
  clear t1 t3 tb hb SL
  go_wp2_with (first | (refine wpList_store_row rfl 81 _ _ rfl w5.heap.size (rowC s6) rfl rfl 81 _ T1.out (by rw [rowC_size]; exact size89) (by rw [rowC_size, rowC_size]) (rowC_one s6) ?_) | (refine wpList_load_row rfl 81 _ rfl w5.heap.size rfl 81 (rowC s6) (0, 0) _ R6.out Tryd.underlying81 rfl (by rw [rowC_size]; exact size89) ?_))
  refine (C7.out _).mono ?_
  rintro e w6 ⟨rfl, hb⟩
  have S := Lib.hid (S.out.below hb)
  have D1 := Lib.hid (D1.out.below hb D1.out.lt)
  have D2 := Lib.hid (D2.out.below hb D2.out.lt)
  have O3 := Lib.hid (O3.out.below hb (Nat.le_refl _))
  have D5 := Lib.hid (D5.out.below hb D5.out.lt)
  have SL := Lib.hid (S.out.k3.lt)
  obtain ⟨t1, t2, t3, t4, tb⟩ := two_set w6 #[.int .u8 0, .int .u32 0] #[.int .u8 (d7.1 : Nat), .int .u32 (d7.2 : Nat)] (rowC none) (rowC s7) 24 81
  have S := Lib.hid (S.out.below tb)
  have D1 := Lib.hid (D1.out.below tb D1.out.lt)
  have D2 := Lib.hid (D2.out.below tb D2.out.lt)
  have O3 := Lib.hid (O3.out.below tb (Nat.le_refl _))
  have D5 := Lib.hid (D5.out.below tb D5.out.lt)
  have T1 := Lib.hid t1
  have T2 := Lib.hid t2
  have D7 := Lib.hid t3
  have R7 := Lib.hid t4
  have ND7 := Lib.hid (show w.heap.size + 3 < w6.heap.size from SL.out)
  clear t1 t2 t3 t4 tb hb SL
  go_wp2_with (first | (refine wpList_store_row rfl 24 _ _ rfl w6.heap.size #[.int .u8 (d7.1 : Nat), .int .u32 (d7.2 : Nat)] rfl rfl 24 _ T1.out size82 rfl (by simp [Value.oneCell']) ?_) | (refine wpList_store_row rfl 81 _ _ rfl (w6.heap.size + 1) (rowC s7) rfl rfl 81 _ T2.out (by rw [rowC_size]; exact size89) (by rw [rowC_size, rowC_size]) (rowC_one s7) ?_) | (refine wpList_load_row rfl 81 _ rfl (w6.heap.size + 1) rfl 81 (rowC s7) (0, 0) _ R7.out Tryd.underlying81 rfl (by rw [rowC_size]; exact size89) ?_))
  refine (C8.out _ _ _ (rd_lit ((((w6.alloc (.cells #[.int .u8 0, .int .u32 0] 24)).alloc (.cells (rowC none) 81)).setRow w6.heap.size #[.int .u8 (d7.1 : Nat), .int .u32 (d7.2 : Nat)]).setRow (w6.heap.size + 1) (rowC s7)) [4294967295, 255, 255, 18446744073709551615] 4 rfl _ (by simp))).mono ?_
  rintro e w7 ⟨⟨g8, c8, rfl, ho, hg⟩, hb⟩
  have HG8 := Lib.hid (show w.heap.size + 3 < g8 by have h1 := S.out.k3.lt; rw [World.size_alloc] at hg; omega)
  have O8 := Lib.hid ho
  have hb := ((Below.refl (((((w6.alloc (.cells #[.int .u8 0, .int .u32 0] 24)).alloc (.cells (rowC none) 81)).setRow w6.heap.size #[.int .u8 (d7.1 : Nat), .int .u32 (d7.2 : Nat)]).setRow (w6.heap.size + 1) (rowC s7))).heap.size ((((w6.alloc (.cells #[.int .u8 0, .int .u32 0] 24)).alloc (.cells (rowC none) 81)).setRow w6.heap.size #[.int .u8 (d7.1 : Nat), .int .u32 (d7.2 : Nat)]).setRow (w6.heap.size + 1) (rowC s7))).alloc (Nat.le_refl _) _).trans (hb.mono (by rw [World.size_alloc]; omega))
  have S := Lib.hid (S.out.below hb)
  have D1 := Lib.hid (D1.out.below hb D1.out.lt)
  have D2 := Lib.hid (D2.out.below hb D2.out.lt)
  have O3 := Lib.hid (O3.out.below hb (Nat.le_refl _))
  have D5 := Lib.hid (D5.out.below hb D5.out.lt)
  have D7 := Lib.hid (D7.out.below hb D7.out.lt)
  have SL := Lib.hid (S.out.k3.lt)
  clear ho hg
  obtain ⟨t1, t3, tb⟩ := one_set w7 (rowC none) (rowC s11) 81
  have S := Lib.hid (S.out.below tb)
  have D1 := Lib.hid (D1.out.below tb D1.out.lt)
  have D2 := Lib.hid (D2.out.below tb D2.out.lt)
  have O3 := Lib.hid (O3.out.below tb (Nat.le_refl _))
  have D5 := Lib.hid (D5.out.below tb D5.out.lt)
  have D7 := Lib.hid (D7.out.below tb D7.out.lt)
  have O8 := Lib.hid (O8.out.below tb (Nat.le_refl _))
  have T1 := Lib.hid t1
  have R11 := Lib.hid t3
  have NR11 := Lib.hid (show w.heap.size + 3 < w7.heap.size from SL.out)
  clear t1 t3 tb hb SL
  go_wp2_with (first | (refine wpList_store_row rfl 81 _ _ rfl w7.heap.size (rowC s11) rfl rfl 81 _ T1.out (by rw [rowC_size]; exact size89) (by rw [rowC_size, rowC_size]) (rowC_one s11) ?_) | (refine wpList_load_row rfl 81 _ rfl w7.heap.size rfl 81 (rowC s11) (0, 0) _ R11.out Tryd.underlying81 rfl (by rw [rowC_size]; exact size89) ?_))
  refine (C12.out _).mono ?_
  rintro e w8 ⟨rfl, hb⟩
  have S := Lib.hid (S.out.below hb)
  have D1 := Lib.hid (D1.out.below hb D1.out.lt)
  have D2 := Lib.hid (D2.out.below hb D2.out.lt)
  have O3 := Lib.hid (O3.out.below hb (Nat.le_refl _))
  have D5 := Lib.hid (D5.out.below hb D5.out.lt)
  have D7 := Lib.hid (D7.out.below hb D7.out.lt)
  have O8 := Lib.hid (O8.out.below hb (Nat.le_refl _))
  have SL := Lib.hid (S.out.k3.lt)
  obtain ⟨t1, t2, t3, t4, tb⟩ := two_set w8 #[.int .u8 0, .int .u32 0] #[.int .u8 (d12.1 : Nat), .int .u32 (d12.2 : Nat)] (rowC none) (rowC s12) 24 81
  have S := Lib.hid (S.out.below tb)
  have D1 := Lib.hid (D1.out.below tb D1.out.lt)
  have D2 := Lib.hid (D2.out.below tb D2.out.lt)
  have O3 := Lib.hid (O3.out.below tb (Nat.le_refl _))
  have D5 := Lib.hid (D5.out.below tb D5.out.lt)
  have D7 := Lib.hid (D7.out.below tb D7.out.lt)
  have O8 := Lib.hid (O8.out.below tb (Nat.le_refl _))
  have T1 := Lib.hid t1
  have T2 := Lib.hid t2
  have D12 := Lib.hid t3
  have R12 := Lib.hid t4
  have ND12 := Lib.hid (show w.heap.size + 3 < w8.heap.size from SL.out)
  clear t1 t2 t3 t4 tb hb SL
  go_wp2_with (first | (refine wpList_store_row rfl 24 _ _ rfl w8.heap.size #[.int .u8 (d12.1 : Nat), .int .u32 (d12.2 : Nat)] rfl rfl 24 _ T1.out size82 rfl (by simp [Value.oneCell']) ?_) | (refine wpList_store_row rfl 81 _ _ rfl (w8.heap.size + 1) (rowC s12) rfl rfl 81 _ T2.out (by rw [rowC_size]; exact size89) (by rw [rowC_size, rowC_size]) (rowC_one s12) ?_) | (refine wpList_load_row rfl 81 _ rfl (w8.heap.size + 1) rfl 81 (rowC s12) (0, 0) _ R12.out Tryd.underlying81 rfl (by rw [rowC_size]; exact size89) ?_))
  refine (C13.out _).mono ?_
  rintro e w9 ⟨rfl, hb⟩
  have S := Lib.hid (S.out.below hb)
  have D1 := Lib.hid (D1.out.below hb D1.out.lt)
  have D2 := Lib.hid (D2.out.below hb D2.out.lt)
  have O3 := Lib.hid (O3.out.below hb (Nat.le_refl _))
  have D5 := Lib.hid (D5.out.below hb D5.out.lt)
  have D7 := Lib.hid (D7.out.below hb D7.out.lt)
  have O8 := Lib.hid (O8.out.below hb (Nat.le_refl _))
  have D12 := Lib.hid (D12.out.below hb D12.out.lt)
  have SL := Lib.hid (S.out.k3.lt)
  obtain ⟨t1, t2, t3, t4, tb⟩ := two_set w9 #[.int .u8 0, .int .u32 0] #[.int .u8 (d13.1 : Nat), .int .u32 (d13.2 : Nat)] (rowC none) (rowC s13) 24 81
  have S := Lib.hid (S.out.below tb)
  have D1 := Lib.hid (D1.out.below tb D1.out.lt)
  have D2 := Lib.hid (D2.out.below tb D2.out.lt)
  have O3 := Lib.hid (O3.out.below tb (Nat.le_refl _))
  have D5 := Lib.hid (D5.out.below tb D5.out.lt)
  have D7 := Lib.hid (D7.out.below tb D7.out.lt)
  have O8 := Lib.hid (O8.out.below tb (Nat.le_refl _))
  have D12 := Lib.hid (D12.out.below tb D12.out.lt)
  have T1 := Lib.hid t1
  have T2 := Lib.hid t2
  have D13 := Lib.hid t3
  have R13 := Lib.hid t4
  have ND13 := Lib.hid (show w.heap.size + 3 < w9.heap.size from SL.out)
  clear t1 t2 t3 t4 tb hb SL
  go_wp2_with (first | (refine wpList_store_row rfl 24 _ _ rfl w9.heap.size #[.int .u8 (d13.1 : Nat), .int .u32 (d13.2 : Nat)] rfl rfl 24 _ T1.out size82 rfl (by simp [Value.oneCell']) ?_) | (refine wpList_store_row rfl 81 _ _ rfl (w9.heap.size + 1) (rowC s13) rfl rfl 81 _ T2.out (by rw [rowC_size]; exact size89) (by rw [rowC_size, rowC_size]) (rowC_one s13) ?_) | (refine wpList_load_row rfl 81 _ rfl (w9.heap.size + 1) rfl 81 (rowC s13) (0, 0) _ R13.out Tryd.underlying81 rfl (by rw [rowC_size]; exact size89) ?_))
  refine (C14.out _ _ _ (rd_lit ((((w9.alloc (.cells #[.int .u8 0, .int .u32 0] 24)).alloc (.cells (rowC none) 81)).setRow w9.heap.size #[.int .u8 (d13.1 : Nat), .int .u32 (d13.2 : Nat)]).setRow (w9.heap.size + 1) (rowC s13)) [4294967295, 4294967295, 4294967295, 16] 4 rfl _ (by simp))).mono ?_
  rintro e w10 ⟨⟨g14, c14, rfl, ho, hg⟩, hb⟩
  have HG14 := Lib.hid (show w.heap.size + 3 < g14 by have h1 := S.out.k3.lt; rw [World.size_alloc] at hg; omega)
  have O14 := Lib.hid ho
  have hb := ((Below.refl (((((w9.alloc (.cells #[.int .u8 0, .int .u32 0] 24)).alloc (.cells (rowC none) 81)).setRow w9.heap.size #[.int .u8 (d13.1 : Nat), .int .u32 (d13.2 : Nat)]).setRow (w9.heap.size + 1) (rowC s13))).heap.size ((((w9.alloc (.cells #[.int .u8 0, .int .u32 0] 24)).alloc (.cells (rowC none) 81)).setRow w9.heap.size #[.int .u8 (d13.1 : Nat), .int .u32 (d13.2 : Nat)]).setRow (w9.heap.size + 1) (rowC s13))).alloc (Nat.le_refl _) _).trans (hb.mono (by rw [World.size_alloc]; omega))
  have S := Lib.hid (S.out.below hb)
  have D1 := Lib.hid (D1.out.below hb D1.out.lt)
  have D2 := Lib.hid (D2.out.below hb D2.out.lt)
  have O3 := Lib.hid (O3.out.below hb (Nat.le_refl _))
  have D5 := Lib.hid (D5.out.below hb D5.out.lt)
  have D7 := Lib.hid (D7.out.below hb D7.out.lt)
  have O8 := Lib.hid (O8.out.below hb (Nat.le_refl _))
  have D12 := Lib.hid (D12.out.below hb D12.out.lt)
  have D13 := Lib.hid (D13.out.below hb D13.out.lt)
  have SL := Lib.hid (S.out.k3.lt)
  clear ho hg
  obtain ⟨t1, t3, tb⟩ := one_set w10 (rowC none) (rowC s17) 81
  have S := Lib.hid (S.out.below tb)
  have D1 := Lib.hid (D1.out.below tb D1.out.lt)
  have D2 := Lib.hid (D2.out.below tb D2.out.lt)
  have O3 := Lib.hid (O3.out.below tb (Nat.le_refl _))
  have D5 := Lib.hid (D5.out.below tb D5.out.lt)
  have D7 := Lib.hid (D7.out.below tb D7.out.lt)
  have O8 := Lib.hid (O8.out.below tb (Nat.le_refl _))
  have D12 := Lib.hid (D12.out.below tb D12.out.lt)
  have D13 := Lib.hid (D13.out.below tb D13.out.lt)
  have O14 := Lib.hid (O14.out.below tb (Nat.le_refl _))
  have T1 := Lib.hid t1
  have R17 := Lib.hid t3
  have NR17 := Lib.hid (show w.heap.size + 3 < w10.heap.size from SL.out)
  clear t1 t3 tb hb SL
  go_upto_region 12 with (first | (refine wpList_store_row rfl 81 _ _ rfl w10.heap.size (rowC s17) rfl rfl 81 _ T1.out (by rw [rowC_size]; exact size89) (by rw [rowC_size, rowC_size]) (rowC_one s17) ?_))
  have hS0 : (Chg (fun q => q = w.heap.size + 3) ((w10.alloc (.cells (rowC none) 81)).setRow w10.heap.size (rowC s17))) ((w10.alloc (.cells (rowC none) 81)).setRow w10.heap.size (rowC s17)).drew := (Chg.refl _ _).drew
  have BD := Lib.hid (fun (W : World) (h : (Chg (fun q => q = w.heap.size + 3) ((w10.alloc (.cells (rowC none) 81)).setRow w10.heap.size (rowC s17))) W) (g : Nat) (t : TypeId) (cs : Array Value) (k : Blk ((w10.alloc (.cells (rowC none) 81)).setRow w10.heap.size (rowC s17)) g t cs) (hg : w.heap.size + 3 < g) => k.chg h (fun (e : g = w.heap.size + 3) => by omega))
  have OC3 := Lib.hid (fun (W : World) (h : (Chg (fun q => q = w.heap.size + 3) ((w10.alloc (.cells (rowC none) 81)).setRow w10.heap.size (rowC s17))) W) => O3.out.chg h (fun q hq (e : q = w.heap.size + 3) => by have hq : some g3 = some q := hq; injection hq with hq; have := HG3.out; omega))
  have OC8 := Lib.hid (fun (W : World) (h : (Chg (fun q => q = w.heap.size + 3) ((w10.alloc (.cells (rowC none) 81)).setRow w10.heap.size (rowC s17))) W) => O8.out.chg h (fun q hq (e : q = w.heap.size + 3) => by have hq : some g8 = some q := hq; injection hq with hq; have := HG8.out; omega))
  have OC14 := Lib.hid (fun (W : World) (h : (Chg (fun q => q = w.heap.size + 3) ((w10.alloc (.cells (rowC none) 81)).setRow w10.heap.size (rowC s17))) W) => O14.out.chg h (fun q hq (e : q = w.heap.size + 3) => by have hq : some g14 = some q := hq; injection hq with hq; have := HG14.out; omega))
  refine reg_begin_ (Chg (fun q => q = w.heap.size + 3) ((w10.alloc (.cells (rowC none) 81)).setRow w10.heap.size (rowC s17))) (by kernel_rfl) ?_
  intro A hA
  have h4 : A.eval (.tmp 4) = .pointer (some ⟨w.heap.size + 3, 0, none⟩) := by rw [hA]; rfl
  have h5 : A.eval (.tmp 5) = .pointer (some ⟨w1.heap.size, 0, none⟩) := by rw [hA]; rfl
  have h7 : A.eval (.tmp 7) = .pointer (some ⟨w2.heap.size, 0, none⟩) := by rw [hA]; rfl
  have h9 : A.eval (.tmp 9) = .slice (some ⟨g3, 0, none⟩) 2 (c3 + 1) := by rw [hA]; rfl
  have h11 : A.eval (.tmp 11) = .pointer (some ⟨w4.heap.size, 0, none⟩) := by rw [hA]; rfl
  have h13 : A.eval (.tmp 13) = .int .u64 (n6 : Int) := by rw [hA]; rfl
  have h15 : A.eval (.tmp 15) = .pointer (some ⟨w6.heap.size, 0, none⟩) := by rw [hA]; rfl
  have h17 : A.eval (.tmp 17) = .slice (some ⟨g8, 0, none⟩) 4 (c8 + 1) := by rw [hA]; rfl
  have h19 : A.eval (.tmp 19) = .pointer (some ⟨w8.heap.size, 0, none⟩) := by rw [hA]; rfl
  have h21 : A.eval (.tmp 21) = .pointer (some ⟨w9.heap.size, 0, none⟩) := by rw [hA]; rfl
  have h23 : A.eval (.tmp 23) = .slice (some ⟨g14, 0, none⟩) 4 (c14 + 1) := by rw [hA]; rfl
  have hsz : A.tmps.size = 163 := by rw [hA]; rfl
  have hA := Lib.hid hA
  refine reg_take (some 83) (i := 0) (.agg #[.int .u8 (d1.1 : Nat), .int .u32 (d1.2 : Nat)]) rfl rfl (by kernel_rfl) (fun _ _ _ h => h) (by rfl) (fun W hW => exec_load1 24 _ rfl h5 (ld82 (o := 0) ((BD.out W hW _ _ _ D1.out ND1.out).cell 0) ((BD.out W hW _ _ _ D1.out ND1.out).cell 1))) hS0 ?_
  refine reg_take (some 84) (i := 1) (.agg (vecA [x0, x1, x2, x3, x4, x5, x6, x7])) rfl rfl (by kernel_rfl) (fun _ _ _ h => h) (by rfl) (fun W hW => exec_load1 26 _ rfl (ev_ne (by rfl) h7) (ld54r (BD.out W hW _ _ _ D2.out ND2.out) rfl)) hS0 ?_
  refine reg_take (some 85) (i := 2) (.slice (some ⟨g3, 0, none⟩) 2 (c3 + 1)) rfl rfl (by kernel_rfl) (fun _ _ _ h => h) (by rfl) (fun W hW => exec_move _ rfl (ev_ne (by rfl) (ev_ne (by rfl) h9))) hS0 ?_
  refine reg_take (some 86) (i := 3) (.pointer (some ⟨g3, 0, none⟩)) rfl rfl (by kernel_rfl) (fun _ _ _ h => h) (by rfl) (fun W hW => exec_iaddr 57 _ _ rfl (ev_eq (by (try simp only [Act.size_put]); rw [hsz]; decide)) rfl (ix174g (k := 0) rfl (by omega) (by omega))) hS0 ?_
  refine reg_take (some 87) (i := 4) (.int .u64 (n3 : Int)) rfl rfl (by kernel_rfl) (fun _ _ _ h => h) (by rfl) (fun W hW => exec_load1 27 _ rfl (ev_eq (by (try simp only [Act.size_put]); rw [hsz]; decide)) (ld80 ((OC3.out W hW).cellAt (j := 0) rfl))) hS0 ?_
  refine reg_take (some 88) (i := 5) (.slice (some ⟨g3, 0, none⟩) 2 (c3 + 1)) rfl rfl (by kernel_rfl) (fun _ _ _ h => h) (by rfl) (fun W hW => exec_move _ rfl (ev_ne (by rfl) (ev_ne (by rfl) (ev_ne (by rfl) (ev_ne (by rfl) (ev_ne (by rfl) h9)))))) hS0 ?_
  refine reg_take (some 89) (i := 6) (.pointer (some ⟨g3, 1, none⟩)) rfl rfl (by kernel_rfl) (fun _ _ _ h => h) (by rfl) (fun W hW => exec_iaddr 57 _ _ rfl (ev_eq (by (try simp only [Act.size_put]); rw [hsz]; decide)) rfl (ix174g (k := 1) rfl (by omega) (by omega))) hS0 ?_
  refine reg_take (some 90) (i := 7) (.int .u64 (n4 : Int)) rfl rfl (by kernel_rfl) (fun _ _ _ h => h) (by rfl) (fun W hW => exec_load1 27 _ rfl (ev_eq (by (try simp only [Act.size_put]); rw [hsz]; decide)) (ld80 ((OC3.out W hW).cellAt (j := 1) rfl))) hS0 ?_
  refine reg_take (some 91) (i := 8) (.int .u32 (n4 : Int)) rfl rfl (by kernel_rfl) (fun _ _ _ h => h) (by rfl) (fun W hW => exec_cv 27 22 _ rfl (ev_eq (by (try simp only [Act.size_put]); rw [hsz]; decide)) (V4.out W)) hS0 ?_
  refine reg_take (some 92) (i := 9) (.agg #[.int .u8 (d5.1 : Nat), .int .u32 (d5.2 : Nat)]) rfl rfl (by kernel_rfl) (fun _ _ _ h => h) (by rfl) (fun W hW => exec_load1 24 _ rfl (ev_ne (by rfl) (ev_ne (by rfl) (ev_ne (by rfl) (ev_ne (by rfl) (ev_ne (by rfl) (ev_ne (by rfl) (ev_ne (by rfl) (ev_ne (by rfl) (ev_ne (by rfl) h11))))))))) (ld82 (o := 0) ((BD.out W hW _ _ _ D5.out ND5.out).cell 0) ((BD.out W hW _ _ _ D5.out ND5.out).cell 1))) hS0 ?_
  refine reg_take (some 93) (i := 10) (.int .u64 (n6 : Int)) rfl rfl (by kernel_rfl) (fun _ _ _ h => h) (by rfl) (fun W hW => exec_move _ rfl (ev_ne (by rfl) (ev_ne (by rfl) (ev_ne (by rfl) (ev_ne (by rfl) (ev_ne (by rfl) (ev_ne (by rfl) (ev_ne (by rfl) (ev_ne (by rfl) (ev_ne (by rfl) (ev_ne (by rfl) h13))))))))))) hS0 ?_
  refine reg_take (some 94) (i := 11) (.int .u8 (n6 : Int)) rfl rfl (by kernel_rfl) (fun _ _ _ h => h) (by rfl) (fun W hW => exec_cv 27 5 _ rfl (ev_eq (by (try simp only [Act.size_put]); rw [hsz]; decide)) (V6.out W)) hS0 ?_
  refine reg_take (some 95) (i := 12) (.agg #[.int .u8 (d7.1 : Nat), .int .u32 (d7.2 : Nat)]) rfl rfl (by kernel_rfl) (fun _ _ _ h => h) (by rfl) (fun W hW => exec_load1 24 _ rfl (ev_ne (by rfl) (ev_ne (by rfl) (ev_ne (by rfl) (ev_ne (by rfl) (ev_ne (by rfl) (ev_ne (by rfl) (ev_ne (by rfl) (ev_ne (by rfl) (ev_ne (by rfl) (ev_ne (by rfl) (ev_ne (by rfl) (ev_ne (by rfl) h15)))))))))))) (ld82 (o := 0) ((BD.out W hW _ _ _ D7.out ND7.out).cell 0) ((BD.out W hW _ _ _ D7.out ND7.out).cell 1))) hS0 ?_
  refine reg_take (some 96) (i := 13) (.slice (some ⟨g8, 0, none⟩) 4 (c8 + 1)) rfl rfl (by kernel_rfl) (fun _ _ _ h => h) (by rfl) (fun W hW => exec_move _ rfl (ev_ne (by rfl) (ev_ne (by rfl) (ev_ne (by rfl) (ev_ne (by rfl) (ev_ne (by rfl) (ev_ne (by rfl) (ev_ne (by rfl) (ev_ne (by rfl) (ev_ne (by rfl) (ev_ne (by rfl) (ev_ne (by rfl) (ev_ne (by rfl) (ev_ne (by rfl) h17)))))))))))))) hS0 ?_
  refine reg_take (some 97) (i := 14) (.pointer (some ⟨g8, 0, none⟩)) rfl rfl (by kernel_rfl) (fun _ _ _ h => h) (by rfl) (fun W hW => exec_iaddr 57 _ _ rfl (ev_eq (by (try simp only [Act.size_put]); rw [hsz]; decide)) rfl (ix174g (k := 0) rfl (by omega) (by omega))) hS0 ?_
  refine reg_take (some 98) (i := 15) (.int .u64 (n8 : Int)) rfl rfl (by kernel_rfl) (fun _ _ _ h => h) (by rfl) (fun W hW => exec_load1 27 _ rfl (ev_eq (by (try simp only [Act.size_put]); rw [hsz]; decide)) (ld80 ((OC8.out W hW).cellAt (j := 0) rfl))) hS0 ?_
  refine reg_take (some 99) (i := 16) (.int .u32 (n8 : Int)) rfl rfl (by kernel_rfl) (fun _ _ _ h => h) (by rfl) (fun W hW => exec_cv 27 22 _ rfl (ev_eq (by (try simp only [Act.size_put]); rw [hsz]; decide)) (V8.out W)) hS0 ?_
  refine reg_take (some 100) (i := 17) (.slice (some ⟨g8, 0, none⟩) 4 (c8 + 1)) rfl rfl (by kernel_rfl) (fun _ _ _ h => h) (by rfl) (fun W hW => exec_move _ rfl (ev_ne (by rfl) (ev_ne (by rfl) (ev_ne (by rfl) (ev_ne (by rfl) (ev_ne (by rfl) (ev_ne (by rfl) (ev_ne (by rfl) (ev_ne (by rfl) (ev_ne (by rfl) (ev_ne (by rfl) (ev_ne (by rfl) (ev_ne (by rfl) (ev_ne (by rfl) (ev_ne (by rfl) (ev_ne (by rfl) (ev_ne (by rfl) (ev_ne (by rfl) h17)))))))))))))))))) hS0 ?_
  refine reg_take (some 101) (i := 18) (.pointer (some ⟨g8, 1, none⟩)) rfl rfl (by kernel_rfl) (fun _ _ _ h => h) (by rfl) (fun W hW => exec_iaddr 57 _ _ rfl (ev_eq (by (try simp only [Act.size_put]); rw [hsz]; decide)) rfl (ix174g (k := 1) rfl (by omega) (by omega))) hS0 ?_
  refine reg_take (some 102) (i := 19) (.int .u64 (n9 : Int)) rfl rfl (by kernel_rfl) (fun _ _ _ h => h) (by rfl) (fun W hW => exec_load1 27 _ rfl (ev_eq (by (try simp only [Act.size_put]); rw [hsz]; decide)) (ld80 ((OC8.out W hW).cellAt (j := 1) rfl))) hS0 ?_
  refine reg_take (some 103) (i := 20) (.int .u8 (n9 : Int)) rfl rfl (by kernel_rfl) (fun _ _ _ h => h) (by rfl) (fun W hW => exec_cv 27 5 _ rfl (ev_eq (by (try simp only [Act.size_put]); rw [hsz]; decide)) (V9.out W)) hS0 ?_
  refine reg_take (some 104) (i := 21) (.slice (some ⟨g8, 0, none⟩) 4 (c8 + 1)) rfl rfl (by kernel_rfl) (fun _ _ _ h => h) (by rfl) (fun W hW => exec_move _ rfl (ev_ne (by rfl) (ev_ne (by rfl) (ev_ne (by rfl) (ev_ne (by rfl) (ev_ne (by rfl) (ev_ne (by rfl) (ev_ne (by rfl) (ev_ne (by rfl) (ev_ne (by rfl) (ev_ne (by rfl) (ev_ne (by rfl) (ev_ne (by rfl) (ev_ne (by rfl) (ev_ne (by rfl) (ev_ne (by rfl) (ev_ne (by rfl) (ev_ne (by rfl) (ev_ne (by rfl) (ev_ne (by rfl) (ev_ne (by rfl) (ev_ne (by rfl) h17)))))))))))))))))))))) hS0 ?_
  refine reg_take (some 105) (i := 22) (.pointer (some ⟨g8, 2, none⟩)) rfl rfl (by kernel_rfl) (fun _ _ _ h => h) (by rfl) (fun W hW => exec_iaddr 57 _ _ rfl (ev_eq (by (try simp only [Act.size_put]); rw [hsz]; decide)) rfl (ix174g (k := 2) rfl (by omega) (by omega))) hS0 ?_
  refine reg_take (some 106) (i := 23) (.int .u64 (n10 : Int)) rfl rfl (by kernel_rfl) (fun _ _ _ h => h) (by rfl) (fun W hW => exec_load1 27 _ rfl (ev_eq (by (try simp only [Act.size_put]); rw [hsz]; decide)) (ld80 ((OC8.out W hW).cellAt (j := 2) rfl))) hS0 ?_
  refine reg_take (some 107) (i := 24) (.int .u8 (n10 : Int)) rfl rfl (by kernel_rfl) (fun _ _ _ h => h) (by rfl) (fun W hW => exec_cv 27 5 _ rfl (ev_eq (by (try simp only [Act.size_put]); rw [hsz]; decide)) (V10.out W)) hS0 ?_
  refine reg_take (some 108) (i := 25) (.slice (some ⟨g8, 0, none⟩) 4 (c8 + 1)) rfl rfl (by kernel_rfl) (fun _ _ _ h => h) (by rfl) (fun W hW => exec_move _ rfl (ev_ne (by rfl) (ev_ne (by rfl) (ev_ne (by rfl) (ev_ne (by rfl) (ev_ne (by rfl) (ev_ne (by rfl) (ev_ne (by rfl) (ev_ne (by rfl) (ev_ne (by rfl) (ev_ne (by rfl) (ev_ne (by rfl) (ev_ne (by rfl) (ev_ne (by rfl) (ev_ne (by rfl) (ev_ne (by rfl) (ev_ne (by rfl) (ev_ne (by rfl) (ev_ne (by rfl) (ev_ne (by rfl) (ev_ne (by rfl) (ev_ne (by rfl) (ev_ne (by rfl) (ev_ne (by rfl) (ev_ne (by rfl) (ev_ne (by rfl) h17)))))))))))))))))))))))))) hS0 ?_
  refine reg_take (some 109) (i := 26) (.pointer (some ⟨g8, 3, none⟩)) rfl rfl (by kernel_rfl) (fun _ _ _ h => h) (by rfl) (fun W hW => exec_iaddr 57 _ _ rfl (ev_eq (by (try simp only [Act.size_put]); rw [hsz]; decide)) rfl (ix174g (k := 3) rfl (by omega) (by omega))) hS0 ?_
  refine reg_take (some 110) (i := 27) (.int .u64 (n11 : Int)) rfl rfl (by kernel_rfl) (fun _ _ _ h => h) (by rfl) (fun W hW => exec_load1 27 _ rfl (ev_eq (by (try simp only [Act.size_put]); rw [hsz]; decide)) (ld80 ((OC8.out W hW).cellAt (j := 3) rfl))) hS0 ?_
  refine reg_take (some 111) (i := 28) (.agg #[.int .u8 (d12.1 : Nat), .int .u32 (d12.2 : Nat)]) rfl rfl (by kernel_rfl) (fun _ _ _ h => h) (by rfl) (fun W hW => exec_load1 24 _ rfl (ev_ne (by rfl) (ev_ne (by rfl) (ev_ne (by rfl) (ev_ne (by rfl) (ev_ne (by rfl) (ev_ne (by rfl) (ev_ne (by rfl) (ev_ne (by rfl) (ev_ne (by rfl) (ev_ne (by rfl) (ev_ne (by rfl) (ev_ne (by rfl) (ev_ne (by rfl) (ev_ne (by rfl) (ev_ne (by rfl) (ev_ne (by rfl) (ev_ne (by rfl) (ev_ne (by rfl) (ev_ne (by rfl) (ev_ne (by rfl) (ev_ne (by rfl) (ev_ne (by rfl) (ev_ne (by rfl) (ev_ne (by rfl) (ev_ne (by rfl) (ev_ne (by rfl) (ev_ne (by rfl) (ev_ne (by rfl) h19)))))))))))))))))))))))))))) (ld82 (o := 0) ((BD.out W hW _ _ _ D12.out ND12.out).cell 0) ((BD.out W hW _ _ _ D12.out ND12.out).cell 1))) hS0 ?_
  refine reg_take (some 112) (i := 29) (.agg #[.int .u8 (d13.1 : Nat), .int .u32 (d13.2 : Nat)]) rfl rfl (by kernel_rfl) (fun _ _ _ h => h) (by rfl) (fun W hW => exec_load1 24 _ rfl (ev_ne (by rfl) (ev_ne (by rfl) (ev_ne (by rfl) (ev_ne (by rfl) (ev_ne (by rfl) (ev_ne (by rfl) (ev_ne (by rfl) (ev_ne (by rfl) (ev_ne (by rfl) (ev_ne (by rfl) (ev_ne (by rfl) (ev_ne (by rfl) (ev_ne (by rfl) (ev_ne (by rfl) (ev_ne (by rfl) (ev_ne (by rfl) (ev_ne (by rfl) (ev_ne (by rfl) (ev_ne (by rfl) (ev_ne (by rfl) (ev_ne (by rfl) (ev_ne (by rfl) (ev_ne (by rfl) (ev_ne (by rfl) (ev_ne (by rfl) (ev_ne (by rfl) (ev_ne (by rfl) (ev_ne (by rfl) (ev_ne (by rfl) h21))))))))))))))))))))))))))))) (ld82 (o := 0) ((BD.out W hW _ _ _ D13.out ND13.out).cell 0) ((BD.out W hW _ _ _ D13.out ND13.out).cell 1))) hS0 ?_
  refine reg_take (some 113) (i := 30) (.slice (some ⟨g14, 0, none⟩) 4 (c14 + 1)) rfl rfl (by kernel_rfl) (fun _ _ _ h => h) (by rfl) (fun W hW => exec_move _ rfl (ev_ne (by rfl) (ev_ne (by rfl) (ev_ne (by rfl) (ev_ne (by rfl) (ev_ne (by rfl) (ev_ne (by rfl) (ev_ne (by rfl) (ev_ne (by rfl) (ev_ne (by rfl) (ev_ne (by rfl) (ev_ne (by rfl) (ev_ne (by rfl) (ev_ne (by rfl) (ev_ne (by rfl) (ev_ne (by rfl) (ev_ne (by rfl) (ev_ne (by rfl) (ev_ne (by rfl) (ev_ne (by rfl) (ev_ne (by rfl) (ev_ne (by rfl) (ev_ne (by rfl) (ev_ne (by rfl) (ev_ne (by rfl) (ev_ne (by rfl) (ev_ne (by rfl) (ev_ne (by rfl) (ev_ne (by rfl) (ev_ne (by rfl) (ev_ne (by rfl) h23))))))))))))))))))))))))))))))) hS0 ?_
  refine reg_take (some 114) (i := 31) (.pointer (some ⟨g14, 0, none⟩)) rfl rfl (by kernel_rfl) (fun _ _ _ h => h) (by rfl) (fun W hW => exec_iaddr 57 _ _ rfl (ev_eq (by (try simp only [Act.size_put]); rw [hsz]; decide)) rfl (ix174g (k := 0) rfl (by omega) (by omega))) hS0 ?_
  refine reg_take (some 115) (i := 32) (.int .u64 (n14 : Int)) rfl rfl (by kernel_rfl) (fun _ _ _ h => h) (by rfl) (fun W hW => exec_load1 27 _ rfl (ev_eq (by (try simp only [Act.size_put]); rw [hsz]; decide)) (ld80 ((OC14.out W hW).cellAt (j := 0) rfl))) hS0 ?_
  refine reg_take (some 116) (i := 33) (.int .u32 (n14 : Int)) rfl rfl (by kernel_rfl) (fun _ _ _ h => h) (by rfl) (fun W hW => exec_cv 27 22 _ rfl (ev_eq (by (try simp only [Act.size_put]); rw [hsz]; decide)) (V14.out W)) hS0 ?_
  refine reg_take (some 117) (i := 34) (.slice (some ⟨g14, 0, none⟩) 4 (c14 + 1)) rfl rfl (by kernel_rfl) (fun _ _ _ h => h) (by rfl) (fun W hW => exec_move _ rfl (ev_ne (by rfl) (ev_ne (by rfl) (ev_ne (by rfl) (ev_ne (by rfl) (ev_ne (by rfl) (ev_ne (by rfl) (ev_ne (by rfl) (ev_ne (by rfl) (ev_ne (by rfl) (ev_ne (by rfl) (ev_ne (by rfl) (ev_ne (by rfl) (ev_ne (by rfl) (ev_ne (by rfl) (ev_ne (by rfl) (ev_ne (by rfl) (ev_ne (by rfl) (ev_ne (by rfl) (ev_ne (by rfl) (ev_ne (by rfl) (ev_ne (by rfl) (ev_ne (by rfl) (ev_ne (by rfl) (ev_ne (by rfl) (ev_ne (by rfl) (ev_ne (by rfl) (ev_ne (by rfl) (ev_ne (by rfl) (ev_ne (by rfl) (ev_ne (by rfl) (ev_ne (by rfl) (ev_ne (by rfl) (ev_ne (by rfl) (ev_ne (by rfl) h23))))))))))))))))))))))))))))))))))) hS0 ?_
  refine reg_take (some 118) (i := 35) (.pointer (some ⟨g14, 1, none⟩)) rfl rfl (by kernel_rfl) (fun _ _ _ h => h) (by rfl) (fun W hW => exec_iaddr 57 _ _ rfl (ev_eq (by (try simp only [Act.size_put]); rw [hsz]; decide)) rfl (ix174g (k := 1) rfl (by omega) (by omega))) hS0 ?_
  refine reg_take (some 119) (i := 36) (.int .u64 (n15 : Int)) rfl rfl (by kernel_rfl) (fun _ _ _ h => h) (by rfl) (fun W hW => exec_load1 27 _ rfl (ev_eq (by (try simp only [Act.size_put]); rw [hsz]; decide)) (ld80 ((OC14.out W hW).cellAt (j := 1) rfl))) hS0 ?_
  refine reg_take (some 120) (i := 37) (.int .u32 (n15 : Int)) rfl rfl (by kernel_rfl) (fun _ _ _ h => h) (by rfl) (fun W hW => exec_cv 27 22 _ rfl (ev_eq (by (try simp only [Act.size_put]); rw [hsz]; decide)) (V15.out W)) hS0 ?_
  refine reg_take (some 121) (i := 38) (.slice (some ⟨g14, 0, none⟩) 4 (c14 + 1)) rfl rfl (by kernel_rfl) (fun _ _ _ h => h) (by rfl) (fun W hW => exec_move _ rfl (ev_ne (by rfl) (ev_ne (by rfl) (ev_ne (by rfl) (ev_ne (by rfl) (ev_ne (by rfl) (ev_ne (by rfl) (ev_ne (by rfl) (ev_ne (by rfl) (ev_ne (by rfl) (ev_ne (by rfl) (ev_ne (by rfl) (ev_ne (by rfl) (ev_ne (by rfl) (ev_ne (by rfl) (ev_ne (by rfl) (ev_ne (by rfl) (ev_ne (by rfl) (ev_ne (by rfl) (ev_ne (by rfl) (ev_ne (by rfl) (ev_ne (by rfl) (ev_ne (by rfl) (ev_ne (by rfl) (ev_ne (by rfl) (ev_ne (by rfl) (ev_ne (by rfl) (ev_ne (by rfl) (ev_ne (by rfl) (ev_ne (by rfl) (ev_ne (by rfl) (ev_ne (by rfl) (ev_ne (by rfl) (ev_ne (by rfl) (ev_ne (by rfl) (ev_ne (by rfl) (ev_ne (by rfl) (ev_ne (by rfl) (ev_ne (by rfl) h23))))))))))))))))))))))))))))))))))))))) hS0 ?_
  refine reg_take (some 122) (i := 39) (.pointer (some ⟨g14, 2, none⟩)) rfl rfl (by kernel_rfl) (fun _ _ _ h => h) (by rfl) (fun W hW => exec_iaddr 57 _ _ rfl (ev_eq (by (try simp only [Act.size_put]); rw [hsz]; decide)) rfl (ix174g (k := 2) rfl (by omega) (by omega))) hS0 ?_
  refine reg_take (some 123) (i := 40) (.int .u64 (n16 : Int)) rfl rfl (by kernel_rfl) (fun _ _ _ h => h) (by rfl) (fun W hW => exec_load1 27 _ rfl (ev_eq (by (try simp only [Act.size_put]); rw [hsz]; decide)) (ld80 ((OC14.out W hW).cellAt (j := 2) rfl))) hS0 ?_
  refine reg_take (some 124) (i := 41) (.int .u32 (n16 : Int)) rfl rfl (by kernel_rfl) (fun _ _ _ h => h) (by rfl) (fun W hW => exec_cv 27 22 _ rfl (ev_eq (by (try simp only [Act.size_put]); rw [hsz]; decide)) (V16.out W)) hS0 ?_
  refine reg_take (some 125) (i := 42) (.agg (opA (F []) (.slice none 0 0))) rfl rfl (by kernel_rfl) (fun _ _ _ h => h) (by rfl) (fun W hW => exec_build 30 _ rfl (vs := [(0, .agg #[.int .u8 (d1.1 : Nat), .int .u32 (d1.2 : Nat)]), (1, .agg (vecA [x0, x1, x2, x3, x4, x5, x6, x7])), (2, .int .u64 (n3 : Int)), (3, .int .u32 (n4 : Int)), (4, .agg #[.int .u8 (d5.1 : Nat), .int .u32 (d5.2 : Nat)]), (5, .int .u8 (n6 : Int)), (6, .agg #[.int .u8 (d7.1 : Nat), .int .u32 (d7.2 : Nat)]), (7, .int .u32 (n8 : Int)), (8, .int .u8 (n9 : Int)), (9, .int .u8 (n10 : Int)), (10, .int .u64 (n11 : Int)), (11, .agg #[.int .u8 (d12.1 : Nat), .int .u32 (d12.2 : Nat)]), (12, .agg #[.int .u8 (d13.1 : Nat), .int .u32 (d13.2 : Nat)]), (13, .int .u32 (n14 : Int)), (14, .int .u32 (n15 : Int)), (15, .int .u32 (n16 : Int))]) (by simp only [List.map_toArray, List.map_cons, List.map_nil, List.toList_toArray]; rw [(show Act.eval _ (.tmp 83) = _ from (ev_ne (by rfl) (ev_ne (by rfl) (ev_ne (by rfl) (ev_ne (by rfl) (ev_ne (by rfl) (ev_ne (by rfl) (ev_ne (by rfl) (ev_ne (by rfl) (ev_ne (by rfl) (ev_ne (by rfl) (ev_ne (by rfl) (ev_ne (by rfl) (ev_ne (by rfl) (ev_ne (by rfl) (ev_ne (by rfl) (ev_ne (by rfl) (ev_ne (by rfl) (ev_ne (by rfl) (ev_ne (by rfl) (ev_ne (by rfl) (ev_ne (by rfl) (ev_ne (by rfl) (ev_ne (by rfl) (ev_ne (by rfl) (ev_ne (by rfl) (ev_ne (by rfl) (ev_ne (by rfl) (ev_ne (by rfl) (ev_ne (by rfl) (ev_ne (by rfl) (ev_ne (by rfl) (ev_ne (by rfl) (ev_ne (by rfl) (ev_ne (by rfl) (ev_ne (by rfl) (ev_ne (by rfl) (ev_ne (by rfl) (ev_ne (by rfl) (ev_ne (by rfl) (ev_ne (by rfl) (ev_ne (by rfl) (ev_eq (by (try simp only [Act.size_put]); rw [hsz]; decide)))))))))))))))))))))))))))))))))))))))))))), (show Act.eval _ (.tmp 84) = _ from (ev_ne (by rfl) (ev_ne (by rfl) (ev_ne (by rfl) (ev_ne (by rfl) (ev_ne (by rfl) (ev_ne (by rfl) (ev_ne (by rfl) (ev_ne (by rfl) (ev_ne (by rfl) (ev_ne (by rfl) (ev_ne (by rfl) (ev_ne (by rfl) (ev_ne (by rfl) (ev_ne (by rfl) (ev_ne (by rfl) (ev_ne (by rfl) (ev_ne (by rfl) (ev_ne (by rfl) (ev_ne (by rfl) (ev_ne (by rfl) (ev_ne (by rfl) (ev_ne (by rfl) (ev_ne (by rfl) (ev_ne (by rfl) (ev_ne (by rfl) (ev_ne (by rfl) (ev_ne (by rfl) (ev_ne (by rfl) (ev_ne (by rfl) (ev_ne (by rfl) (ev_ne (by rfl) (ev_ne (by rfl) (ev_ne (by rfl) (ev_ne (by rfl) (ev_ne (by rfl) (ev_ne (by rfl) (ev_ne (by rfl) (ev_ne (by rfl) (ev_ne (by rfl) (ev_ne (by rfl) (ev_eq (by (try simp only [Act.size_put]); rw [hsz]; decide))))))))))))))))))))))))))))))))))))))))))), (show Act.eval _ (.tmp 87) = _ from (ev_ne (by rfl) (ev_ne (by rfl) (ev_ne (by rfl) (ev_ne (by rfl) (ev_ne (by rfl) (ev_ne (by rfl) (ev_ne (by rfl) (ev_ne (by rfl) (ev_ne (by rfl) (ev_ne (by rfl) (ev_ne (by rfl) (ev_ne (by rfl) (ev_ne (by rfl) (ev_ne (by rfl) (ev_ne (by rfl) (ev_ne (by rfl) (ev_ne (by rfl) (ev_ne (by rfl) (ev_ne (by rfl) (ev_ne (by rfl) (ev_ne (by rfl) (ev_ne (by rfl) (ev_ne (by rfl) (ev_ne (by rfl) (ev_ne (by rfl) (ev_ne (by rfl) (ev_ne (by rfl) (ev_ne (by rfl) (ev_ne (by rfl) (ev_ne (by rfl) (ev_ne (by rfl) (ev_ne (by rfl) (ev_ne (by rfl) (ev_ne (by rfl) (ev_ne (by rfl) (ev_ne (by rfl) (ev_ne (by rfl) (ev_eq (by (try simp only [Act.size_put]); rw [hsz]; decide)))))))))))))))))))))))))))))))))))))))), (show Act.eval _ (.tmp 91) = _ from (ev_ne (by rfl) (ev_ne (by rfl) (ev_ne (by rfl) (ev_ne (by rfl) (ev_ne (by rfl) (ev_ne (by rfl) (ev_ne (by rfl) (ev_ne (by rfl) (ev_ne (by rfl) (ev_ne (by rfl) (ev_ne (by rfl) (ev_ne (by rfl) (ev_ne (by rfl) (ev_ne (by rfl) (ev_ne (by rfl) (ev_ne (by rfl) (ev_ne (by rfl) (ev_ne (by rfl) (ev_ne (by rfl) (ev_ne (by rfl) (ev_ne (by rfl) (ev_ne (by rfl) (ev_ne (by rfl) (ev_ne (by rfl) (ev_ne (by rfl) (ev_ne (by rfl) (ev_ne (by rfl) (ev_ne (by rfl) (ev_ne (by rfl) (ev_ne (by rfl) (ev_ne (by rfl) (ev_ne (by rfl) (ev_ne (by rfl) (ev_eq (by (try simp only [Act.size_put]); rw [hsz]; decide)))))))))))))))))))))))))))))))))))), (show Act.eval _ (.tmp 92) = _ from (ev_ne (by rfl) (ev_ne (by rfl) (ev_ne (by rfl) (ev_ne (by rfl) (ev_ne (by rfl) (ev_ne (by rfl) (ev_ne (by rfl) (ev_ne (by rfl) (ev_ne (by rfl) (ev_ne (by rfl) (ev_ne (by rfl) (ev_ne (by rfl) (ev_ne (by rfl) (ev_ne (by rfl) (ev_ne (by rfl) (ev_ne (by rfl) (ev_ne (by rfl) (ev_ne (by rfl) (ev_ne (by rfl) (ev_ne (by rfl) (ev_ne (by rfl) (ev_ne (by rfl) (ev_ne (by rfl) (ev_ne (by rfl) (ev_ne (by rfl) (ev_ne (by rfl) (ev_ne (by rfl) (ev_ne (by rfl) (ev_ne (by rfl) (ev_ne (by rfl) (ev_ne (by rfl) (ev_ne (by rfl) (ev_eq (by (try simp only [Act.size_put]); rw [hsz]; decide))))))))))))))))))))))))))))))))))), (show Act.eval _ (.tmp 94) = _ from (ev_ne (by rfl) (ev_ne (by rfl) (ev_ne (by rfl) (ev_ne (by rfl) (ev_ne (by rfl) (ev_ne (by rfl) (ev_ne (by rfl) (ev_ne (by rfl) (ev_ne (by rfl) (ev_ne (by rfl) (ev_ne (by rfl) (ev_ne (by rfl) (ev_ne (by rfl) (ev_ne (by rfl) (ev_ne (by rfl) (ev_ne (by rfl) (ev_ne (by rfl) (ev_ne (by rfl) (ev_ne (by rfl) (ev_ne (by rfl) (ev_ne (by rfl) (ev_ne (by rfl) (ev_ne (by rfl) (ev_ne (by rfl) (ev_ne (by rfl) (ev_ne (by rfl) (ev_ne (by rfl) (ev_ne (by rfl) (ev_ne (by rfl) (ev_ne (by rfl) (ev_eq (by (try simp only [Act.size_put]); rw [hsz]; decide))))))))))))))))))))))))))))))))), (show Act.eval _ (.tmp 95) = _ from (ev_ne (by rfl) (ev_ne (by rfl) (ev_ne (by rfl) (ev_ne (by rfl) (ev_ne (by rfl) (ev_ne (by rfl) (ev_ne (by rfl) (ev_ne (by rfl) (ev_ne (by rfl) (ev_ne (by rfl) (ev_ne (by rfl) (ev_ne (by rfl) (ev_ne (by rfl) (ev_ne (by rfl) (ev_ne (by rfl) (ev_ne (by rfl) (ev_ne (by rfl) (ev_ne (by rfl) (ev_ne (by rfl) (ev_ne (by rfl) (ev_ne (by rfl) (ev_ne (by rfl) (ev_ne (by rfl) (ev_ne (by rfl) (ev_ne (by rfl) (ev_ne (by rfl) (ev_ne (by rfl) (ev_ne (by rfl) (ev_ne (by rfl) (ev_eq (by (try simp only [Act.size_put]); rw [hsz]; decide)))))))))))))))))))))))))))))))), (show Act.eval _ (.tmp 99) = _ from (ev_ne (by rfl) (ev_ne (by rfl) (ev_ne (by rfl) (ev_ne (by rfl) (ev_ne (by rfl) (ev_ne (by rfl) (ev_ne (by rfl) (ev_ne (by rfl) (ev_ne (by rfl) (ev_ne (by rfl) (ev_ne (by rfl) (ev_ne (by rfl) (ev_ne (by rfl) (ev_ne (by rfl) (ev_ne (by rfl) (ev_ne (by rfl) (ev_ne (by rfl) (ev_ne (by rfl) (ev_ne (by rfl) (ev_ne (by rfl) (ev_ne (by rfl) (ev_ne (by rfl) (ev_ne (by rfl) (ev_ne (by rfl) (ev_ne (by rfl) (ev_eq (by (try simp only [Act.size_put]); rw [hsz]; decide)))))))))))))))))))))))))))), (show Act.eval _ (.tmp 103) = _ from (ev_ne (by rfl) (ev_ne (by rfl) (ev_ne (by rfl) (ev_ne (by rfl) (ev_ne (by rfl) (ev_ne (by rfl) (ev_ne (by rfl) (ev_ne (by rfl) (ev_ne (by rfl) (ev_ne (by rfl) (ev_ne (by rfl) (ev_ne (by rfl) (ev_ne (by rfl) (ev_ne (by rfl) (ev_ne (by rfl) (ev_ne (by rfl) (ev_ne (by rfl) (ev_ne (by rfl) (ev_ne (by rfl) (ev_ne (by rfl) (ev_ne (by rfl) (ev_eq (by (try simp only [Act.size_put]); rw [hsz]; decide)))))))))))))))))))))))), (show Act.eval _ (.tmp 107) = _ from (ev_ne (by rfl) (ev_ne (by rfl) (ev_ne (by rfl) (ev_ne (by rfl) (ev_ne (by rfl) (ev_ne (by rfl) (ev_ne (by rfl) (ev_ne (by rfl) (ev_ne (by rfl) (ev_ne (by rfl) (ev_ne (by rfl) (ev_ne (by rfl) (ev_ne (by rfl) (ev_ne (by rfl) (ev_ne (by rfl) (ev_ne (by rfl) (ev_ne (by rfl) (ev_eq (by (try simp only [Act.size_put]); rw [hsz]; decide)))))))))))))))))))), (show Act.eval _ (.tmp 110) = _ from (ev_ne (by rfl) (ev_ne (by rfl) (ev_ne (by rfl) (ev_ne (by rfl) (ev_ne (by rfl) (ev_ne (by rfl) (ev_ne (by rfl) (ev_ne (by rfl) (ev_ne (by rfl) (ev_ne (by rfl) (ev_ne (by rfl) (ev_ne (by rfl) (ev_ne (by rfl) (ev_ne (by rfl) (ev_eq (by (try simp only [Act.size_put]); rw [hsz]; decide))))))))))))))))), (show Act.eval _ (.tmp 111) = _ from (ev_ne (by rfl) (ev_ne (by rfl) (ev_ne (by rfl) (ev_ne (by rfl) (ev_ne (by rfl) (ev_ne (by rfl) (ev_ne (by rfl) (ev_ne (by rfl) (ev_ne (by rfl) (ev_ne (by rfl) (ev_ne (by rfl) (ev_ne (by rfl) (ev_ne (by rfl) (ev_eq (by (try simp only [Act.size_put]); rw [hsz]; decide)))))))))))))))), (show Act.eval _ (.tmp 112) = _ from (ev_ne (by rfl) (ev_ne (by rfl) (ev_ne (by rfl) (ev_ne (by rfl) (ev_ne (by rfl) (ev_ne (by rfl) (ev_ne (by rfl) (ev_ne (by rfl) (ev_ne (by rfl) (ev_ne (by rfl) (ev_ne (by rfl) (ev_ne (by rfl) (ev_eq (by (try simp only [Act.size_put]); rw [hsz]; decide))))))))))))))), (show Act.eval _ (.tmp 116) = _ from (ev_ne (by rfl) (ev_ne (by rfl) (ev_ne (by rfl) (ev_ne (by rfl) (ev_ne (by rfl) (ev_ne (by rfl) (ev_ne (by rfl) (ev_ne (by rfl) (ev_eq (by (try simp only [Act.size_put]); rw [hsz]; decide))))))))))), (show Act.eval _ (.tmp 120) = _ from (ev_ne (by rfl) (ev_ne (by rfl) (ev_ne (by rfl) (ev_ne (by rfl) (ev_eq (by (try simp only [Act.size_put]); rw [hsz]; decide))))))), (show Act.eval _ (.tmp 124) = _ from (ev_eq (by (try simp only [Act.size_put]); rw [hsz]; decide)))]) (by rw [HF1.out]; exact op_built _ _ _ _ _ _ _ _ _ _ _ _ _ _ _ _ _ _ _ _ _ _ _)) hS0 ?_
  refine reg_skip none (i := 43) rfl rfl (by kernel_rfl) (by rfl) (exec_store_row 30 _ _ rfl (ev_ne (by rfl) (ev_ne (by rfl) (ev_ne (by rfl) (ev_ne (by rfl) (ev_ne (by rfl) (ev_ne (by rfl) (ev_ne (by rfl) (ev_ne (by rfl) (ev_ne (by rfl) (ev_ne (by rfl) (ev_ne (by rfl) (ev_ne (by rfl) (ev_ne (by rfl) (ev_ne (by rfl) (ev_ne (by rfl) (ev_ne (by rfl) (ev_ne (by rfl) (ev_ne (by rfl) (ev_ne (by rfl) (ev_ne (by rfl) (ev_ne (by rfl) (ev_ne (by rfl) (ev_ne (by rfl) (ev_ne (by rfl) (ev_ne (by rfl) (ev_ne (by rfl) (ev_ne (by rfl) (ev_ne (by rfl) (ev_ne (by rfl) (ev_ne (by rfl) (ev_ne (by rfl) (ev_ne (by rfl) (ev_ne (by rfl) (ev_ne (by rfl) (ev_ne (by rfl) (ev_ne (by rfl) (ev_ne (by rfl) (ev_ne (by rfl) (ev_ne (by rfl) (ev_ne (by rfl) (ev_ne (by rfl) (ev_ne (by rfl) (ev_ne (by rfl) h4))))))))))))))))))))))))))))))))))))))))))) (ev_eq (by (try simp only [Act.size_put]); rw [hsz]; decide)) S.out.k3.drew (by rw [opA_size _ _ HF8.out]; exact size122) (by rw [opA_size _ _ HF8.out]; rfl) (opA_one_ _ _ _ _)) (hS0.setRow (.inl rfl) _) ?_
  refine reg_end (by kernel_rfl) ?_
  have S := Lib.hid (S.out.drew.setO (opA (F []) (.slice none 0 0)))
  have K24 := Lib.hid ((R17.out.drew).rowFar (k := w.heap.size + 3) (by have := NR17.out; omega) (opA (F []) (.slice none 0 0)))
  have O14 := Lib.hid ((O14.out.drew).rowFar (k := w.heap.size + 3) (fun e => by have e : some g14 = some (w.heap.size + 3) := e; injection e with e; have := HG14.out; omega) (opA (F []) (.slice none 0 0)))
  have hA := hA.out
  subst hA
  simp only [Act.put, List.setIfInBounds_toArray, List.set_cons_zero, List.set_cons_succ]
  clear hS0 BD OC3 OC8 OC14 h4 h5 h7 h9 h11 h13 h15 h17 h19 h21 h23 hsz R1 R2 R4 R5 R6 R7 R11 R12 R13 T1
  generalize w10.heap.size = g24 at *
  obtain ⟨W12, hW12⟩ : ∃ W : World, W = (((w10.alloc (.cells #[.string ⟨#[]⟩, .bool false] 81)).setRow g24 (rowC s17)).drew).setRow (w.heap.size + 3) (opA (F []) (.slice none 0 0)) := ⟨_, rfl⟩
  have S : Hid (TkW w (opA (F []) (.slice none 0 0)) W12) := Lib.hid (by rw [hW12]; exact S.out)
  have K24 : Hid (Blk W12 g24 81 (rowC s17)) := Lib.hid (by rw [hW12]; exact K24.out)
  have O14 : Hid (Tran.Own W12 0 27 1 (.slice (some ⟨g14, 0, none⟩) 4 (c14 + 1)) 4 (u64s [n14, n15, n16, n17])) := Lib.hid (by rw [hW12]; exact own_lower O14.out (Nat.zero_le _))
  have NR17 : Hid (w.heap.size + 3 < g24) := Lib.hid NR17.out
  clear D1 D2 O3 D5 D7 O8 D12 D13 R17
  rw [← hW12]
  clear hW12
  go_wp2_with fail
  have HW17 := Lib.hid H17.out
  go_loopw [25] (fun i wr => ∃ (k : Nat) (lv : Value), k ≤ n17 ∧ i = .int .u64 (k : Int) ∧ TkW w (opA (F []) lv) wr ∧ Blk wr g24 81 (rowC (RL k).2) ∧ Tran.Own wr (w.heap.size + 4) 63 4 lv k ((RL k).1.flatMap claimF) ∧ Tran.Own wr 0 27 1 (.slice (some ⟨g14, 0, none⟩) 4 (c14 + 1)) 4 (u64s [n14, n15, n16, n17])) (fun i _ => n17 - (intOf i).toNat)
  case atStart => exact ⟨0, .slice none 0 0, by omega, rfl, S.out, by rw [HR0.out]; exact K24.out, by rw [HR0.out]; exact Tran.Own.nil _ _ _ _, own_lower O14.out (by omega)⟩
  case round =>
    obtain ⟨k, lv, hk, rfl, hS, hK, hL, hO⟩ := hrel
    have S := Lib.hid hS
    have K := Lib.hid hK
    have OL := Lib.hid hL
    have O := Lib.hid hO
    have HK := Lib.hid hk
    have NG := Lib.hid (show w.heap.size + 3 < g24 from NR17.out)
    clear hS hK hL hO K24 O14
    have c3 := O.out.cellAt (j := 3) (u := .int .u64 (n17 : Int)) rfl
    have IX := fun (W : World) => ix174g (W := W) (g := g14) (n := 4) (c := c14 + 1) (k := 3) (K := 3) rfl (by omega) (by omega)
    have HRk := Lib.hid (HRL.out k)
    have CAk := Lib.hid (CA.out k)
    have CBk := Lib.hid (CB.out k)
    have HNk := Lib.hid (HNO.out k)
    have HLk := Lib.hid (HLN.out k)
    have HAT : Hid (∀ j, j = k → RL j = ((RL k).1, (RL k).2)) := Lib.hid (fun j hj => by rw [hj])
    by_cases hlt : k < n17
    · have hd : decide ((k : Int) < (n17 : Int)) = true := decide_eq_true (by omega)
      generalize RL k = q at *
      obtain ⟨ls, st⟩ := q
      simp only at K HRk CAk CBk HNk HLk HAT OL
      cases st with
      | none =>
        have c1 : wr.cell? ⟨g24, 1, none⟩ = some (.bool false) := K.out.cell 1
        go_upto_region 21 with (fail)
        have hS0 : Blk wr.drew g24 81 (rowC none) := K.out.drew
        refine reg_begin_ (fun W => Blk W g24 81 (rowC none)) (by kernel_rfl) ?_
        intro A hA
        have h2 : A.eval (.tmp 2) = .pointer (some ⟨w.heap.size + 1, 0, none⟩) := by rw [hA]; rfl
        have h3 : A.eval (.tmp 3) = .pointer (some ⟨w.heap.size + 2, 0, none⟩) := by rw [hA]; rfl
        have h24 : A.eval (.tmp 24) = .pointer (some ⟨g24, 0, none⟩) := by rw [hA]; rfl
        have hsz : A.tmps.size = 163 := by rw [hA]; rfl
        have hA := Lib.hid hA
        refine reg_take (some 159) (i := 0) (.agg (opA zeroO (.slice none 0 0))) rfl rfl (by kernel_rfl) (fun _ _ _ h => h) (by rfl) (fun W hW => exec_build 30 _ rfl (vs := []) (by simp) zero_built) hS0 ?_
        refine reg_take (some 160) (i := 1) (.agg (rowC none)) rfl rfl (by kernel_rfl) (fun _ _ _ h => h) (by rfl) (fun W hW => exec_load1 81 _ rfl (ev_ne (by rfl) h24) (ld89 hW (rowC_size _))) hS0 ?_
        refine reg_skip none (i := 2) rfl rfl (by kernel_rfl) (by rfl) (exec_store_row 30 _ _ rfl (ev_ne (by rfl) (ev_ne (by rfl) h2)) (ev_ne (by rfl) (ev_eq (by (try simp only [Act.size_put]); rw [hsz]; decide))) S.out.drew.k1 (by exact size122) rfl (opA_one_ _ _ _ _)) (K.out.drew.rowFar (by have := NG.out; omega) _) ?_
        refine reg_skip none (i := 3) rfl rfl (by kernel_rfl) (by rfl) (exec_store_row 81 _ _ rfl (ev_none (ev_ne (by rfl) (ev_ne (by rfl) h3))) (ev_none (ev_eq (by (try simp only [Act.size_put]); rw [hsz]; decide))) (S.out.drew.k2.rowFar (by omega) _) (by rw [rowC_size]; exact size89) (by simp only [rowC_size]) (rowC_one _)) ?_ ?_
        · exact (K.out.drew.rowFar (by have := NG.out; omega) _).rowFar (by have := NG.out; omega) _
        refine reg_end (by kernel_rfl) ?_
        have hA := hA.out
        subst hA
        simp only [Act.put, List.setIfInBounds_toArray, List.set_cons_zero, List.set_cons_succ]
        clear h2 h3 h24 hsz hS0
        repeat go_step
        have B1 := (S.out.drew.k1.row (opA zeroO (.slice none 0 0))).rowFar (k := w.heap.size + 2) (by omega) (rowC none)
        have B2 := (S.out.drew.k2.rowFar (k := w.heap.size + 1) (by omega) (opA zeroO (.slice none 0 0))).row (rowC none)
        refine bodyPost_ret (results_rows rfl _ _ (w.heap.size + 1) 30 _ (0, 0) _ rfl B1 Tryd.underlying30 rfl size122 (w.heap.size + 2) 81 _ (0, 0) _ rfl B2 Tryd.underlying81 rfl (by rw [rowC_size]; exact size89)) rfl ?_
        have e0 : (RL n17).2 = none := HNk.out rfl HK.out
        refine ⟨.slice none 0 0, ?_, ?_, below_setRow (below_setRow S.out.drew.b (by omega) _) (by omega) _⟩
        · rw [e0]; rfl
        · rw [e0]; exact Tran.Own.nil _ _ _ _
      | some l =>
        have c1 : wr.cell? ⟨g24, 1, none⟩ = some (.bool true) := K.out.cell 1
        have HRk := Lib.hid (show RL (k + 1) = (ls ++ [⟨(dotZ (some l)).1, (dotZ (some l)).2, (dotZ (rdotS (some l)).2).1, (dotZ (rdotS (some l)).2).2⟩], (rdotS (rdotS (some l)).2).2) from HRk.out)
        generalize dotZ (some l) = da at *
        generalize (rdotS (some l)).2 = sa at *
        generalize dotZ sa = db at *
        generalize (rdotS sa).2 = sb at *
        have HWR := Lib.hid (show IntKind.u64.wrap ((k : Int) + 1) = ((k + 1 : Nat) : Int) by rw [IntWalk.u64_in _ (by have := HW17.out; omega)]; omega)
        go_wp2_with (refine wpList_load_row rfl 81 _ rfl g24 rfl 81 (rowC (some l)) (0, 0) _ K.out Tryd.underlying81 rfl (by rw [rowC_size]; exact size89) ?_)
        refine (CAk.out _).mono ?_
        rintro e w11 ⟨rfl, hb⟩
        have S := Lib.hid (S.out.below hb)
        have K := Lib.hid (K.out.below hb K.out.lt)
        have OL := Lib.hid (OL.out.below hb (Nat.le_refl _))
        have O := Lib.hid (O.out.below hb (Nat.le_refl _))
        have GN1 := Lib.hid (show g24 ≠ w11.heap.size by have := K.out.lt; omega)
        have SL := Lib.hid (S.out.k3.lt)
        obtain ⟨t1, t2, t3, t4, tb⟩ := two_set w11 #[.int .u8 0, .int .u32 0] #[.int .u8 (da.1 : Nat), .int .u32 (da.2 : Nat)] (rowC none) (rowC sa) 24 81
        have S := Lib.hid (S.out.below tb)
        have K := Lib.hid (K.out.below tb K.out.lt)
        have OL := Lib.hid (OL.out.below tb (Nat.le_refl _))
        have O := Lib.hid (O.out.below tb (Nat.le_refl _))
        have T1 := Lib.hid t1
        have T2 := Lib.hid t2
        have DA := Lib.hid t3
        have RA := Lib.hid t4
        have NDA := Lib.hid (show w.heap.size + 3 < w11.heap.size from SL.out)
        clear t1 t2 t3 t4 tb hb SL
        go_wp2_with (first | (refine wpList_store_row rfl 24 _ _ rfl w11.heap.size #[.int .u8 (da.1 : Nat), .int .u32 (da.2 : Nat)] rfl rfl 24 _ T1.out size82 rfl (by simp [Value.oneCell']) ?_) | (refine wpList_store_row rfl 81 _ _ rfl (w11.heap.size + 1) (rowC sa) rfl rfl 81 _ T2.out (by rw [rowC_size]; exact size89) (by rw [rowC_size, rowC_size]) (rowC_one sa) ?_) | (refine wpList_load_row rfl 81 _ rfl (w11.heap.size + 1) rfl 81 (rowC sa) (0, 0) _ RA.out Tryd.underlying81 rfl (by rw [rowC_size]; exact size89) ?_))
        refine (CBk.out _).mono ?_
        rintro e w12 ⟨rfl, hb⟩
        have S := Lib.hid (S.out.below hb)
        have K := Lib.hid (K.out.below hb K.out.lt)
        have OL := Lib.hid (OL.out.below hb (Nat.le_refl _))
        have O := Lib.hid (O.out.below hb (Nat.le_refl _))
        have DA := Lib.hid (DA.out.below hb DA.out.lt)
        have GN2 := Lib.hid (show g24 ≠ w12.heap.size by have := K.out.lt; omega)
        have SL := Lib.hid (S.out.k3.lt)
        obtain ⟨t1, t2, t3, t4, tb⟩ := two_set w12 #[.int .u8 0, .int .u32 0] #[.int .u8 (db.1 : Nat), .int .u32 (db.2 : Nat)] (rowC none) (rowC sb) 24 81
        have S := Lib.hid (S.out.below tb)
        have K := Lib.hid (K.out.below tb K.out.lt)
        have OL := Lib.hid (OL.out.below tb (Nat.le_refl _))
        have O := Lib.hid (O.out.below tb (Nat.le_refl _))
        have DA := Lib.hid (DA.out.below tb DA.out.lt)
        have T1 := Lib.hid t1
        have T2 := Lib.hid t2
        have DB := Lib.hid t3
        have RB := Lib.hid t4
        have NDB := Lib.hid (show w.heap.size + 3 < w12.heap.size from SL.out)
        clear t1 t2 t3 t4 tb hb SL
        go_upto_region 19 with (first | (refine wpList_store_row rfl 24 _ _ rfl w12.heap.size #[.int .u8 (db.1 : Nat), .int .u32 (db.2 : Nat)] rfl rfl 24 _ T1.out size82 rfl (by simp [Value.oneCell']) ?_) | (refine wpList_store_row rfl 81 _ _ rfl (w12.heap.size + 1) (rowC sb) rfl rfl 81 _ T2.out (by rw [rowC_size]; exact size89) (by rw [rowC_size, rowC_size]) (rowC_one sb) ?_) | (refine wpList_load_row rfl 81 _ rfl (w12.heap.size + 1) rfl 81 (rowC sb) (0, 0) _ RB.out Tryd.underlying81 rfl (by rw [rowC_size]; exact size89) ?_) | (refine wpList_store_row rfl 81 _ _ rfl g24 (rowC sb) rfl rfl 81 _ K.out (by rw [rowC_size]; exact size89) (by simp only [rowC_size]) (rowC_one sb) ?_))
        have OK_ := Lib.hid (OL.out.ne_ K.out (by decide))
        have NA := Lib.hid (show w11.heap.size ≠ g24 from fun e => GN1.out e.symm)
        obtain ⟨w13, hw13⟩ : ∃ W : World, W = (((((w12.alloc (.cells #[.int .u8 0, .int .u32 0] 24)).alloc (.cells #[.string ⟨#[]⟩, .bool false] 81)).setRow w12.heap.size #[.int .u8 (db.1 : Nat), .int .u32 (db.2 : Nat)]).setRow (w12.heap.size + 1) (rowC sb)).setRow g24 (rowC sb)) := ⟨_, rfl⟩
        have S3 : Hid (TkW w (opA (F []) lv) w13) := Lib.hid (by rw [hw13]; exact S.out.far (g := g24) NG.out (rowC sb))
        have DA3 : Hid (Blk w13 w11.heap.size 24 #[.int .u8 (da.1 : Nat), .int .u32 (da.2 : Nat)]) := Lib.hid (by rw [hw13]; exact DA.out.rowFar (k := g24) NA.out (rowC sb))
        have DB3 : Hid (Blk w13 w12.heap.size 24 #[.int .u8 (db.1 : Nat), .int .u32 (db.2 : Nat)]) := Lib.hid (by rw [hw13]; exact DB.out.rowFar (k := g24) (fun e => GN2.out e.symm) (rowC sb))
        have OL3 : Hid (Tran.Own w13 (w.heap.size + 4) 63 4 lv k (ls.flatMap claimF)) := Lib.hid (by rw [hw13]; exact OL.out.rowFar (k := g24) OK_.out (rowC sb))
        have O3_ : Hid (Tran.Own w13 0 27 1 (.slice (some ⟨g14, 0, none⟩) 4 (c14 + 1)) 4 (u64s [n14, n15, n16, n17])) := Lib.hid (by rw [hw13]; exact O.out.rowFar (k := g24) (O.out.ne_ K.out (by decide)) (rowC sb))
        have K3_ : Hid (Blk w13 g24 81 (rowC sb)) := Lib.hid (by rw [hw13]; exact K.out.row (rowC sb))
        rw [← hw13]
        clear hw13 T1 T2 RA RB OK_ NA S K OL O DA DB
        refine lst_begin ?_
        intro A hA
        have h4 : A.eval (.tmp 4) = .pointer (some ⟨w.heap.size + 3, 0, none⟩) := by rw [hA]; rfl
        have h26 : A.eval (.tmp 26) = .pointer (some ⟨w11.heap.size, 0, none⟩) := by rw [hA]; rfl
        have h28 : A.eval (.tmp 28) = .pointer (some ⟨w12.heap.size, 0, none⟩) := by rw [hA]; rfl
        have hsz : A.tmps.size = 163 := by rw [hA]; rfl
        have hA := Lib.hid hA
        refine lst_val (some 148) (v := .pointer (some ⟨w.heap.size + 3, 28, none⟩)) rfl rfl (exec_addr 30 _ 16 rfl h4 (fa16)) ?_
        refine lst_val (some 149) (v := lv) rfl rfl (exec_load1 28 _ rfl (ev_eq (by (try simp only [Act.size_put]); rw [hsz]; decide)) (ld120 ((S3.out.k3.cell 28).trans (op_c28 (F []) lv HF8.out)))) ?_
        refine lst_val (some 150) (v := .agg #[.int .u8 (da.1 : Nat), .int .u32 (da.2 : Nat)]) rfl rfl (exec_load1 24 _ rfl (ev_ne (by rfl) (ev_ne (by rfl) h26)) (ld82 (o := 0) (DA3.out.cell 0) (DA3.out.cell 1))) ?_
        refine lst_val (some 151) (v := .agg #[.int .u8 (db.1 : Nat), .int .u32 (db.2 : Nat)]) rfl rfl (exec_load1 24 _ rfl (ev_ne (by rfl) (ev_ne (by rfl) (ev_ne (by rfl) h28))) (ld82 (o := 0) (DB3.out.cell 0) (DB3.out.cell 1))) ?_
        refine lst_val (some 152) (v := .agg (#[.int .u8 (da.1 : Nat), .int .u32 (da.2 : Nat), .int .u8 (db.1 : Nat), .int .u32 (db.2 : Nat)])) rfl rfl (exec_build 63 _ rfl (vs := [(0, .agg #[.int .u8 (da.1 : Nat), .int .u32 (da.2 : Nat)]), (1, .agg #[.int .u8 (db.1 : Nat), .int .u32 (db.2 : Nat)])]) (by simp only [List.map_toArray, List.map_cons, List.map_nil, List.toList_toArray]; rw [(show Act.eval _ (.tmp 150) = _ from (ev_ne (by rfl) (ev_eq (by (try simp only [Act.size_put]); rw [hsz]; decide)))), (show Act.eval _ (.tmp 151) = _ from (ev_eq (by (try simp only [Act.size_put]); rw [hsz]; decide)))]) (claim_built _ _ _ _)) ?_
        refine lst_val (some 153) (v := .slice (some ⟨w13.heap.size, 0, none⟩) 1 1) rfl rfl (exec_bsl 28 1 _ rfl (vs := #[(0, .agg #[.int .u8 (da.1 : Nat), .int .u32 (da.2 : Nat), .int .u8 (db.1 : Nat), .int .u32 (db.2 : Nat)])]) (by simp only [List.map_toArray, List.map_cons, List.map_nil]; rw [(show Act.eval _ (.tmp 152) = _ from (ev_eq (by (try simp only [Act.size_put]); rw [hsz]; decide)))]) (bs120 w13 _ _ _ _ rfl rfl rfl rfl)) ?_
        have ba := (Below.refl _ w13).alloc (Nat.le_refl _) (.cells #[.int .u8 (da.1 : Nat), .int .u32 (da.2 : Nat), .int .u8 (db.1 : Nat), .int .u32 (db.2 : Nat)] 63)
        have KA := Lib.hid (Blk.new w13 63 #[.int .u8 (da.1 : Nat), .int .u32 (da.2 : Nat), .int .u8 (db.1 : Nat), .int .u32 (db.2 : Nat)])
        have S := Lib.hid (S3.out.below ba)
        have K := Lib.hid (K3_.out.below ba K3_.out.lt)
        have OL := Lib.hid (OL3.out.below ba (Nat.le_refl _))
        have O := Lib.hid (O3_.out.below ba (Nat.le_refl _))
        clear ba
        obtain ⟨v1, we, hrun, hO1, hgr, hbk⟩ := run_append_Own (P := Tryd.prog) (w := (w13.alloc (.cells #[.int .u8 (da.1 : Nat), .int .u32 (da.2 : Nat), .int .u8 (db.1 : Nat), .int .u32 (db.2 : Nat)] 63))) (w.heap.size + 4) 28 28 63 i0 _ 4 16 Tryd.underlying28 HI.out.1 HI.out.2.1 HI.out.2.2.1 HI.out.2.2.2 rfl (by omega) lv k _ OL.out (some ⟨w13.heap.size, 0, none⟩) 1 1 (claimF ⟨da.1, da.2, db.1, db.2⟩) ⟨rfl, fun _ => ⟨_, rfl, fun j u hj => by rw [lit_add, Nat.zero_add]; exact (KA.out.cell j).trans (by simpa [claimF] using hj)⟩⟩ (by intro u hu; simp [claimF] at hu; rcases hu with rfl | rfl | rfl | rfl <;> rfl) (by have := HW17.out; unfold maxLen; omega) (by have := HW17.out; omega) (by have := S.out.k3.lt; omega)
        have hc : Chg (fun q => blkOf lv = some q) (w13.alloc (.cells #[.int .u8 (da.1 : Nat), .int .u32 (da.2 : Nat), .int .u8 (db.1 : Nat), .int .u32 (db.2 : Nat)] 63)) we := (Chg.refl _ _).grown hgr (fun q hq => .inl hq)
        have hBL : ∀ q, blkOf lv = some q → w.heap.size + 3 < q := fun q hq => by have := (OL.out.lt q hq).1; omega
        have S := Lib.hid (S.out.chg hc hBL)
        have K1 := Lib.hid (K.out.chg hc (fun e => OL.out.ne_ K.out (by decide) e))
        have O1 := Lib.hid (O.out.chg hc (fun q hq e => own_apart_ O.out OL.out (by decide) q hq e))
        refine lst_val (some 154) (v := v1) rfl rfl (exec_append (t := 28) rfl (ev_ne (by rfl) (ev_ne (by rfl) (ev_ne (by rfl) (ev_ne (by rfl) (ev_eq (by (try simp only [Act.size_put]); rw [hsz]; decide)))))) (ev_eq (by (try simp only [Act.size_put]); rw [hsz]; decide)) hrun) ?_
        refine lst_val (some 155) (v := .pointer (some ⟨w.heap.size + 3, 28, none⟩)) rfl rfl (exec_addr 30 _ 16 rfl (ev_ne (by rfl) (ev_ne (by rfl) (ev_ne (by rfl) (ev_ne (by rfl) (ev_ne (by rfl) (ev_ne (by rfl) (ev_ne (by rfl) h4))))))) (fa16)) ?_
        obtain ⟨A1, cap1, rfl, _, _, _⟩ := hO1.slice
        have hB1 := fun q hq => (hO1.lt q hq).1
        refine lst_skip none rfl rfl (exec_store1 28 _ _ rfl (ev_eq (by (try simp only [Act.size_put]); rw [hsz]; decide)) (ev_ne (by rfl) (ev_eq (by (try simp only [Act.size_put]); rw [hsz]; decide))) (st120 ((S.out.k3.cell 28).trans (op_c28 (F []) lv HF8.out)) (S.out.k3.frozen 28))) ?_
        refine lst_nil ?_
        have hS2 := S.out.set 28 (.slice A1 (k + 1) cap1)
        rw [show (opA (F []) lv).setIfInBounds 28 (.slice A1 (k + 1) cap1) = opA (F []) (.slice A1 (k + 1) cap1) from op_put28 (F []) lv _ HF8.out] at hS2
        have S2 := Lib.hid hS2
        have K2 := Lib.hid (K1.out.far (p := ⟨w.heap.size + 3, 28, none⟩) (show g24 ≠ w.heap.size + 3 by have := NG.out; omega) (.slice A1 (k + 1) cap1))
        have OL2 := Lib.hid (hO1.far (p := ⟨w.heap.size + 3, 28, none⟩) (fun e => by have h9 : w.heap.size + 4 ≤ w.heap.size + 3 := hB1 _ e; omega) (.slice A1 (k + 1) cap1))
        have O2 := Lib.hid (O1.out.far (p := ⟨w.heap.size + 3, 28, none⟩) (fun e => by have e : some g14 = some (w.heap.size + 3) := e; injection e with e; have := HG14.out; omega) (.slice A1 (k + 1) cap1))
        have hA := hA.out
        subst hA
        simp only [Act.put, List.setIfInBounds_toArray, List.set_cons_zero, List.set_cons_succ]
        clear h4 h26 h28 hsz hO1 hgr hbk hrun hc hBL hB1 hS2 S K K1 O O1 OL
        go_wp2_with fail
        go_roundw
        case rel =>
          refine ⟨k + 1, .slice A1 (k + 1) cap1, by omega, by first | rfl | rw [HWR.out], S2.out, ?_, ?_, O2.out⟩
          · rw [HRk.out]; exact K2.out
          · rw [HRk.out]; simpa [List.flatMap_append] using OL2.out
        case measure => rw [HWR.out]; simp [intOf]; omega
    · have hkn : k = n17 := by omega
      have hd : decide ((k : Int) < (n17 : Int)) = false := decide_eq_false (by omega)
      generalize RL k = q at *
      obtain ⟨ls, st⟩ := q
      simp only at K HRk CAk CBk HNk HLk HAT OL
      cases st with
      | none =>
        have c1 : wr.cell? ⟨g24, 1, none⟩ = some (.bool false) := K.out.cell 1
        go_upto_region 21 with (fail)
        have hS0 : Blk wr.drew g24 81 (rowC none) := K.out.drew
        refine reg_begin_ (fun W => Blk W g24 81 (rowC none)) (by kernel_rfl) ?_
        intro A hA
        have h2 : A.eval (.tmp 2) = .pointer (some ⟨w.heap.size + 1, 0, none⟩) := by rw [hA]; rfl
        have h3 : A.eval (.tmp 3) = .pointer (some ⟨w.heap.size + 2, 0, none⟩) := by rw [hA]; rfl
        have h24 : A.eval (.tmp 24) = .pointer (some ⟨g24, 0, none⟩) := by rw [hA]; rfl
        have hsz : A.tmps.size = 163 := by rw [hA]; rfl
        have hA := Lib.hid hA
        refine reg_take (some 159) (i := 0) (.agg (opA zeroO (.slice none 0 0))) rfl rfl (by kernel_rfl) (fun _ _ _ h => h) (by rfl) (fun W hW => exec_build 30 _ rfl (vs := []) (by simp) zero_built) hS0 ?_
        refine reg_take (some 160) (i := 1) (.agg (rowC none)) rfl rfl (by kernel_rfl) (fun _ _ _ h => h) (by rfl) (fun W hW => exec_load1 81 _ rfl (ev_ne (by rfl) h24) (ld89 hW (rowC_size _))) hS0 ?_
        refine reg_skip none (i := 2) rfl rfl (by kernel_rfl) (by rfl) (exec_store_row 30 _ _ rfl (ev_ne (by rfl) (ev_ne (by rfl) h2)) (ev_ne (by rfl) (ev_eq (by (try simp only [Act.size_put]); rw [hsz]; decide))) S.out.drew.k1 (by exact size122) rfl (opA_one_ _ _ _ _)) (K.out.drew.rowFar (by have := NG.out; omega) _) ?_
        refine reg_skip none (i := 3) rfl rfl (by kernel_rfl) (by rfl) (exec_store_row 81 _ _ rfl (ev_none (ev_ne (by rfl) (ev_ne (by rfl) h3))) (ev_none (ev_eq (by (try simp only [Act.size_put]); rw [hsz]; decide))) (S.out.drew.k2.rowFar (by omega) _) (by rw [rowC_size]; exact size89) (by simp only [rowC_size]) (rowC_one _)) ?_ ?_
        · exact (K.out.drew.rowFar (by have := NG.out; omega) _).rowFar (by have := NG.out; omega) _
        refine reg_end (by kernel_rfl) ?_
        have hA := hA.out
        subst hA
        simp only [Act.put, List.setIfInBounds_toArray, List.set_cons_zero, List.set_cons_succ]
        clear h2 h3 h24 hsz hS0
        repeat go_step
        have B1 := (S.out.drew.k1.row (opA zeroO (.slice none 0 0))).rowFar (k := w.heap.size + 2) (by omega) (rowC none)
        have B2 := (S.out.drew.k2.rowFar (k := w.heap.size + 1) (by omega) (opA zeroO (.slice none 0 0))).row (rowC none)
        refine bodyPost_ret (results_rows rfl _ _ (w.heap.size + 1) 30 _ (0, 0) _ rfl B1 Tryd.underlying30 rfl size122 (w.heap.size + 2) 81 _ (0, 0) _ rfl B2 Tryd.underlying81 rfl (by rw [rowC_size]; exact size89)) rfl ?_
        have e0 : (RL n17).2 = none := HNk.out rfl HK.out
        refine ⟨.slice none 0 0, ?_, ?_, below_setRow (below_setRow S.out.drew.b (by omega) _) (by omega) _⟩
        · rw [e0]; rfl
        · rw [e0]; exact Tran.Own.nil _ _ _ _
      | some l =>
        have c1 : wr.cell? ⟨g24, 1, none⟩ = some (.bool true) := K.out.cell 1
        obtain ⟨A1, cap1, rfl, _, _, _⟩ := OL.out.slice
        go_upto_region 22 with (fail)
        have hS0 : Blk wr.drew g24 81 (rowC (some l)) ∧ Blk wr.drew (w.heap.size + 3) 30 (opA (F []) (.slice A1 k cap1)) := ⟨K.out.drew, S.out.drew.k3⟩
        refine reg_begin_ (fun W => Blk W g24 81 (rowC (some l)) ∧ Blk W (w.heap.size + 3) 30 (opA (F []) (.slice A1 k cap1))) (by kernel_rfl) ?_
        intro A hA
        have h2 : A.eval (.tmp 2) = .pointer (some ⟨w.heap.size + 1, 0, none⟩) := by rw [hA]; rfl
        have h3 : A.eval (.tmp 3) = .pointer (some ⟨w.heap.size + 2, 0, none⟩) := by rw [hA]; rfl
        have h4 : A.eval (.tmp 4) = .pointer (some ⟨w.heap.size + 3, 0, none⟩) := by rw [hA]; rfl
        have h24 : A.eval (.tmp 24) = .pointer (some ⟨g24, 0, none⟩) := by rw [hA]; rfl
        have hsz : A.tmps.size = 163 := by rw [hA]; rfl
        have hA := Lib.hid hA
        refine reg_take (some 161) (i := 0) (.agg (opA (F []) (.slice A1 k cap1))) rfl rfl (by kernel_rfl) (fun _ _ _ h => h) (by rfl) (fun W hW => exec_load1 30 _ rfl h4 (ld122 hW.2 (opA_size _ _ HF8.out))) hS0 ?_
        refine reg_take (some 162) (i := 1) (.agg (rowC (some l))) rfl rfl (by kernel_rfl) (fun _ _ _ h => h) (by rfl) (fun W hW => exec_load1 81 _ rfl (ev_ne (by rfl) h24) (ld89 hW.1 (rowC_size _))) hS0 ?_
        refine reg_skip none (i := 2) rfl rfl (by kernel_rfl) (by rfl) (exec_store_row 30 _ _ rfl (ev_ne (by rfl) (ev_ne (by rfl) h2)) (ev_ne (by rfl) (ev_eq (by (try simp only [Act.size_put]); rw [hsz]; decide))) S.out.drew.k1 (by rw [opA_size _ _ HF8.out]; exact size122) (by rw [opA_size _ _ HF8.out]; rfl) (opA_one_ _ _ _ _)) (And.intro (hS0.1.rowFar (by have := NG.out; omega) _) (hS0.2.rowFar (by omega) _)) ?_
        refine reg_skip none (i := 3) rfl rfl (by kernel_rfl) (by rfl) (exec_store_row 81 _ _ rfl (ev_none (ev_ne (by rfl) (ev_ne (by rfl) h3))) (ev_none (ev_eq (by (try simp only [Act.size_put]); rw [hsz]; decide))) (S.out.drew.k2.rowFar (by omega) _) (by rw [rowC_size]; exact size89) (by simp only [rowC_size]) (rowC_one _)) ?_ ?_
        · exact ⟨(hS0.1.rowFar (by have := NG.out; omega) _).rowFar (by have := NG.out; omega) _, (hS0.2.rowFar (by omega) _).rowFar (by omega) _⟩
        refine reg_end (by kernel_rfl) ?_
        have hA := hA.out
        subst hA
        simp only [Act.put, List.setIfInBounds_toArray, List.set_cons_zero, List.set_cons_succ]
        clear h2 h3 h4 h24 hsz hS0
        repeat go_step
        have B1 := (S.out.drew.k1.row (opA (F []) (.slice A1 k cap1))).rowFar (k := w.heap.size + 2) (by omega) (rowC (some l))
        have B2 := (S.out.drew.k2.rowFar (k := w.heap.size + 1) (by omega) (opA (F []) (.slice A1 k cap1))).row (rowC (some l))
        refine bodyPost_ret (results_rows rfl _ _ (w.heap.size + 1) 30 _ (0, 0) _ rfl B1 Tryd.underlying30 rfl (by rw [opA_size _ _ HF8.out]; exact size122) (w.heap.size + 2) 81 _ (0, 0) _ rfl B2 Tryd.underlying81 rfl (by rw [rowC_size]; exact size89)) rfl ?_
        have e0 : RL n17 = (ls, some l) := HAT.out n17 hkn.symm
        refine ⟨.slice A1 k cap1, ?_, ?_, below_setRow (below_setRow S.out.drew.b (by omega) _) (by omega) _⟩
        · rw [e0]; simp only [Option.isSome_some, if_true]; rw [HF2.out ls]
        · rw [e0]; simp only [Option.isSome_some, if_true]; rw [HF3.out]
          have h1 := ((own_lower OL.out.drew (show w.heap.size ≤ w.heap.size + 4 by omega)).rowFar (k := w.heap.size + 1) (fun e => by have := (OL.out.lt _ e).1; omega) (opA (F []) (.slice A1 k cap1))).rowFar (k := w.heap.size + 2) (fun e => by have := (OL.out.lt _ e).1; omega) (rowC (some l))
          rw [show ls.length = k from HLk.out]
          exact h1
end Go.Proofs.YtfojjklohbiffaaDoor
