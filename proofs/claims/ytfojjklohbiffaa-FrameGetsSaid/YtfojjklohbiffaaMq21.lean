/- Frames: rows of operations compared. -/
import Derived.Test.YtfojjklohbiffaaMq19
import Derived.Test.YtfojjklohbiffaaMq20
namespace Go.Proofs.Ytfojjklohbiffaa
open Go.RowKit Tran
set_option linter.unusedVariables false
set_option linter.unusedSimpArgs false
def opsOf (ps : List POp) : List NOp := ps.map (·.1)
theorem z29_eq : opA zeroO (.slice none 0 0) = #[.int .u8 0, .int .u32 0, .int .u32 0, .int .u32 0, .int .u32 0, .int .u32 0, .int .u32 0, .int .u32 0, .int .u32 0, .int .u32 0, .int .u64 0, .int .u32 0, .int .u8 0, .int .u32 0, .int .u8 0, .int .u8 0, .int .u32 0, .int .u32 0, .int .u8 0, .int .u8 0, .int .u64 0, .int .u8 0, .int .u32 0, .int .u8 0, .int .u32 0, .int .u32 0, .int .u32 0, .int .u32 0, .slice none 0 0] := rfl
theorem z29_size : (opA zeroO (.slice none 0 0)).size = 29 := rfl
theorem opA_one {w : World} (x : NOp) (lv : Value) (h : Lns w lv x.lines) : (opA x lv).all (·.oneCell') = true := by
  obtain ⟨A, cap, rfl, _⟩ := h
  simp [opA, opF, Value.oneCell']
theorem ops_len {ps qs : List POp} (h : opsOf ps = opsOf qs) : ps.length = qs.length := by simpa [opsOf] using congrArg List.length h
set_option maxRecDepth 100000 in
set_option maxHeartbeats 8000000 in
theorem equalf_any (w : World) (ov pv : Value) (ps qs : List POp) (hP : Ops w ov ps) (hQ : Ops w pv qs) : Calls Try.prog 103 #[ov, pv, .func (.func 104) #[] #[]] w (Tells w (opsOf ps = opsOf qs)) := by
  obtain ⟨A, ca, rfl, h1, h2, h3⟩ := hP
  obtain ⟨B, cb, rfl, k1, k2, k3⟩ := hQ
  by_cases hl : ps.length = qs.length
  case neg =>
    have HL := Lib.hid hl
    clear h1 h3 k1 k3
    go_enter Try.func103, Try.ntmps103
    go_wp2_with fail
    all_goals first | (exfalso; have := HL.out; omega) | skip
    go_ret
    exact ⟨false, rfl, ⟨fun h => absurd h (by simp), fun h => absurd (ops_len h) HL.out⟩, Below.refl _ _⟩
  case pos =>
    obtain ⟨n, hn⟩ : ∃ n, ps.length = n := ⟨_, rfl⟩
    have hnb : qs.length = n := by rw [← hl, hn]
    have HA := Lib.hid (fun W (hb : Below w.heap.size w W) k (hk : k < ps.length) => op_at (h1.later hb) (fun p hp => ⟨(h3 p hp).1.later hb, (h3 p hp).2⟩) hk)
    have HB := Lib.hid (fun W (hb : Below w.heap.size w W) k (hk : k < qs.length) => op_at (k1.later hb) (fun p hp => ⟨(k3 p hp).1.later hb, (k3 p hp).2⟩) hk)
    have OA := Lib.hid h3
    have OB := Lib.hid k3
    rw [hn, hnb]
    rw [hn] at h2
    rw [hnb] at k2
    have HN := Lib.hid hn
    have HNB := Lib.hid hnb
    clear h1 h3 k1 k3 hl hn hnb
    go_enter Try.func103, Try.ntmps103
    go_wp2_with fail
    go_loopw [7, 8, 9, 17] (fun j p q i wr => ∃ k : Nat, k ≤ n ∧ i = .int .i64 k ∧ opsOf (ps.take k) = opsOf (qs.take k) ∧ Below w.heap.size w wr) (fun _ _ _ i _ => n - (intOf i).toNat)
    case atStart => exact ⟨0, by omega, rfl, by simp, Below.refl _ _⟩
    case round =>
      obtain ⟨k, hk, rfl, htk, hbw⟩ := hrel
      have HT := Lib.hid htk
      have HW := Lib.hid hbw
      clear htk hbw
      by_cases hlt : k < n
      · have hka : k < ps.length := by have := HN.out; omega
        have hkb : k < qs.length := by have := HNB.out; omega
        obtain ⟨ad, rfl, hca⟩ := HA.out _ HW.out k hka
        obtain ⟨bd, rfl, hcb⟩ := HB.out _ HW.out k hkb
        have ga := OA.out _ (List.getElem_mem hka)
        have gb := OB.out _ (List.getElem_mem hkb)
        have HGX := Lib.hid (List.getElem?_eq_getElem hka)
        have HGY := Lib.hid (List.getElem?_eq_getElem hkb)
        generalize ps[k] = px at *
        generalize qs[k] = py at *
        obtain ⟨x, lx⟩ := px
        obtain ⟨y, ly⟩ := py
        simp only at hca hcb
        have HSX := Lib.hid (opA_size x lx ga.2.dep8)
        have HSY := Lib.hid (opA_size y ly gb.2.dep8)
        have HOX := Lib.hid (opA_one x lx ga.1)
        have HOY := Lib.hid (opA_one y ly gb.1)
        have C := Lib.hid (fun W (h : Below w.heap.size w W) => same_any W x y lx ly ga.2 gb.2 (ga.1.later h) (gb.1.later h))
        have kn := Blk.new wr 122 (opA zeroO (.slice none 0 0))
        have b1 := (Below.refl wr.heap.size wr).alloc (Nat.le_refl _) (.cells (opA zeroO (.slice none 0 0)) 122)
        have kx := kn.row (opA x lx)
        have b2 := below_setRow b1 (Nat.le_refl _) (opA x lx)
        have hsz2 : ((wr.alloc (.cells (opA zeroO (.slice none 0 0)) 122)).setRow wr.heap.size (opA x lx)).heap.size = wr.heap.size + 1 := by simp
        have km := Blk.new ((wr.alloc (.cells (opA zeroO (.slice none 0 0)) 122)).setRow wr.heap.size (opA x lx)) 122 (opA zeroO (.slice none 0 0))
        rw [hsz2] at km
        have b3 := b2.alloc (by rw [hsz2]; omega) (.cells (opA zeroO (.slice none 0 0)) 122)
        have kx2 := (kx.alloc (.cells (opA zeroO (.slice none 0 0)) 122)).rowFar (show wr.heap.size ≠ wr.heap.size + 1 by omega) (opA y ly)
        have ky := km.row (opA y ly)
        have b4 := below_setRow b3 (show wr.heap.size ≤ wr.heap.size + 1 by omega) (opA y ly)
        have HB4 := Lib.hid (HW.out.trans (b4.mono HW.out.size))
        have HCA := Lib.hid hca
        have HCB := Lib.hid (fun j u (hj : (opA y ly)[j]? = some u) => (b2.cell (World.block_lt_of_cell? wr _ (hcb j u hj))).trans (hcb j u hj))
        have KN := Lib.hid kn
        have KM := Lib.hid km
        have KX := Lib.hid kx2
        have KY := Lib.hid ky
        rw [z29_eq] at KN KM KX KY HB4 HCB
        clear kn b1 kx b2 hsz2 km b3 kx2 ky b4 hca hcb ga gb hka hkb
        generalize opA x lx = X at *
        generalize opA y ly = Y at *
        go_wp2_with (first
          | (refine wpList_load_cells rfl 122 _ rfl (ad.add (k * 29)) rfl X _ (fun j u hj => HCA.out j u hj) Try.underlying122 rfl (by rw [HSX.out]; exact size122) ?_)
          | (refine wpList_store_row rfl 122 _ _ rfl wr.heap.size X rfl rfl 122 _ KN.out (by rw [HSX.out]; exact size122) (by rw [HSX.out]; rfl) HOX.out ?_)
          | (refine wpList_load_cells rfl 122 _ rfl (bd.add (k * 29)) rfl Y _ (fun j u hj => HCB.out j u hj) Try.underlying122 rfl (by rw [HSY.out]; exact size122) ?_)
          | (refine wpList_store_row rfl 122 _ _ rfl (wr.heap.size + 1) Y rfl rfl 122 _ KM.out (by rw [HSY.out]; exact size122) (by rw [HSY.out]; rfl) HOY.out ?_)
          | (refine wpList_load_row rfl 122 _ rfl wr.heap.size rfl 122 X (0, 0) _ KX.out Try.underlying122 rfl (by rw [HSX.out]; exact size122) ?_)
          | (refine wpList_load_row rfl 122 _ rfl (wr.heap.size + 1) rfl 122 Y (0, 0) _ KY.out Try.underlying122 rfl (by rw [HSY.out]; exact size122) ?_))
        refine (C.out _ HB4.out).mono ?_
        rintro e w1 ⟨r, rfl, hr, hb⟩
        have HR := Lib.hid hr
        have HB5 := Lib.hid (HB4.out.trans (hb.mono HB4.out.size))
        clear hr hb
        cases r
        · go_wp2_with fail
          go_ret
          refine ⟨false, rfl, ⟨fun h => absurd h (by simp), fun h => ?_⟩, HB5.out⟩
          have h1 := congrArg (fun l => l[k]?) h
          simp only [opsOf, List.getElem?_map, HGX.out, HGY.out, Option.map_some, Option.some.injEq] at h1
          exact absurd (HR.out.2 h1) (by simp)
        · go_wp2_with fail
          go_roundw
          case rel =>
            refine ⟨k + 1, hlt, by go_num, ?_, HB5.out⟩
            have ht := HT.out
            have hx := HR.out.1 (by simp)
            unfold opsOf at ht ⊢
            rw [List.take_add_one, List.take_add_one, HGX.out, HGY.out, List.map_append, List.map_append, ht]
            simp [hx]
          case measure => simp [intOf]; omega
      · go_wp2_with fail
        go_ret
        refine ⟨true, rfl, ⟨fun _ => ?_, fun _ => rfl⟩, HW.out⟩
        have h := HT.out
        rwa [List.take_of_length_le (by have := HN.out; omega), List.take_of_length_le (by have := HNB.out; omega)] at h
set_option maxRecDepth 100000 in
set_option maxHeartbeats 8000000 in
theorem sameall_any (w : World) (ov pv : Value) (ps qs : List POp) (hP : Ops w ov ps) (hQ : Ops w pv qs) : Calls Try.prog 102 #[ov, pv] w (Tells w (opsOf ps = opsOf qs)) := by
  obtain ⟨A, ca, rfl, h1, h2, h3⟩ := hP
  obtain ⟨B, cb, rfl, k1, k2, k3⟩ := hQ
  by_cases hl : ps.length = qs.length
  case neg =>
    have HL := Lib.hid hl
    clear h1 h3 k1 k3
    go_enter Try.func102, Try.ntmps102
    go_wp2_with fail
    all_goals first | (exfalso; have := HL.out; omega) | skip
    go_ret
    exact ⟨false, rfl, ⟨fun h => absurd h (by simp), fun h => absurd (ops_len h) HL.out⟩, Below.refl _ _⟩
  case pos =>
    obtain ⟨n, hn⟩ : ∃ n, ps.length = n := ⟨_, rfl⟩
    have hnb : qs.length = n := by rw [← hl, hn]
    have HA := Lib.hid (fun W (hb : Below w.heap.size w W) k (hk : k < ps.length) => op_at (h1.later hb) (fun p hp => ⟨(h3 p hp).1.later hb, (h3 p hp).2⟩) hk)
    have HB := Lib.hid (fun W (hb : Below w.heap.size w W) k (hk : k < qs.length) => op_at (k1.later hb) (fun p hp => ⟨(k3 p hp).1.later hb, (k3 p hp).2⟩) hk)
    have OA := Lib.hid h3
    have OB := Lib.hid k3
    rw [hn, hnb]
    rw [hn] at h2
    rw [hnb] at k2
    have HN := Lib.hid hn
    have HNB := Lib.hid hnb
    clear h1 h3 k1 k3 hl hn hnb
    go_enter Try.func102, Try.ntmps102
    go_wp2_with fail
    go_loopw [5] (fun i wr => ∃ k : Nat, k ≤ n ∧ i = .int .i64 k ∧ opsOf (ps.take k) = opsOf (qs.take k) ∧ Below w.heap.size w wr) (fun i _ => n - (intOf i).toNat)
    case atStart => exact ⟨0, by omega, rfl, by simp, Below.refl _ _⟩
    case round =>
      obtain ⟨k, hk, rfl, htk, hbw⟩ := hrel
      have HT := Lib.hid htk
      have HW := Lib.hid hbw
      clear htk hbw
      by_cases hlt : k < n
      · have hka : k < ps.length := by have := HN.out; omega
        have hkb : k < qs.length := by have := HNB.out; omega
        obtain ⟨ad, rfl, hca⟩ := HA.out _ HW.out k hka
        obtain ⟨bd, rfl, hcb⟩ := HB.out _ HW.out k hkb
        have ga := OA.out _ (List.getElem_mem hka)
        have gb := OB.out _ (List.getElem_mem hkb)
        have HGX := Lib.hid (List.getElem?_eq_getElem hka)
        have HGY := Lib.hid (List.getElem?_eq_getElem hkb)
        generalize ps[k] = px at *
        generalize qs[k] = py at *
        obtain ⟨x, lx⟩ := px
        obtain ⟨y, ly⟩ := py
        simp only at hca hcb
        have HSX := Lib.hid (opA_size x lx ga.2.dep8)
        have HSY := Lib.hid (opA_size y ly gb.2.dep8)
        obtain ⟨r, hr⟩ := bool_of (x = y)
        have C := Lib.hid (fun W (h : Below wr.heap.size wr W) => (tsame_any W x y lx ly ga.2 gb.2 (ga.1.later (HW.out.trans (h.mono HW.out.size))) (gb.1.later (HW.out.trans (h.mono HW.out.size)))).mono fun e w' h => h.fixed hr)
        have F1 := Lib.hid (fun (W : World) (h : Below wr.heap.size wr W) => ld122at (cs := opA x lx) (fun j u hj => (h.cell (World.block_lt_of_cell? wr _ (hca j u hj))).trans (hca j u hj)) HSX.out)
        have F2 := Lib.hid (fun (W : World) (h : Below wr.heap.size wr W) => ld122at (cs := opA y ly) (fun j u hj => (h.cell (World.block_lt_of_cell? wr _ (hcb j u hj))).trans (hcb j u hj)) HSY.out)
        have HR := Lib.hid hr
        clear hca hcb ga gb hka hkb hr
        generalize opA x lx = X at *
        generalize opA y ly = Y at *
        go_wp2_with fail
        refine wp_region_cls (Below wr.heap.size wr) (by kernel_rfl) (by kernel_rfl) (below_drew (Below.refl _ _)) (fun hne => ?_)
        repeat (first | (go_big_quiet_want; refine quiet_load_sub 122 _ rfl (ad.add (k * 29)) rfl X F1.out ?_; go_simp; go_big_quiet_on) | (go_big_quiet_want; refine quiet_load_sub 122 _ rfl (bd.add (k * 29)) rfl Y F2.out ?_; go_simp; go_big_quiet_on) | go_big_quiet_step ((first | (go_at_call 132; ((with_reducible refine call_cls_of _ C.out (below_on (Nat.le_refl _))))))))
        refine wpQuiet_nil ?_
        refine sub_all fun wq IQ => ?_
        have HB5 := Lib.hid (HW.out.trans (IQ.mono HW.out.size))
        clear IQ hne
        cases r
        · go_wp2_with fail
          go_ret
          refine ⟨false, rfl, ⟨fun h => absurd h (by simp), fun h => ?_⟩, HB5.out⟩
          have h1 := congrArg (fun l => l[k]?) h
          simp only [opsOf, List.getElem?_map, HGX.out, HGY.out, Option.map_some, Option.some.injEq] at h1
          exact absurd (HR.out.2 h1) (by simp)
        · go_wp2_with fail
          go_roundw
          case rel =>
            refine ⟨k + 1, hlt, by go_num, ?_, HB5.out⟩
            have ht := HT.out
            have hx := HR.out.1 (by simp)
            unfold opsOf at ht ⊢
            rw [List.take_add_one, List.take_add_one, HGX.out, HGY.out, List.map_append, List.map_append, ht]
            simp [hx]
          case measure => simp [intOf]; omega
      · go_wp2_with fail
        go_ret
        refine ⟨true, rfl, ⟨fun _ => ?_, fun _ => rfl⟩, HW.out⟩
        have h := HT.out
        rwa [List.take_of_length_le (by have := HN.out; omega), List.take_of_length_le (by have := HNB.out; omega)] at h
end Go.Proofs.Ytfojjklohbiffaa
