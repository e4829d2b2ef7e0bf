/- Records' laws: the walk of RecordBursts. -/
import Derived.Test.YtfojjklohbiffaaRecX
import Derived.Test.YtfojjklohbiffaaFlip
namespace Go.Proofs.Ytfojjklohbiffaa
open Go.RowKit Tran Tran.Wire
set_option linter.unusedVariables false
/-- what is scanned: so many texts, so many bytes, some state -/
def BScan (W : World) (ts : List (List UInt8)) (cnt tk st : Nat) (e : Ending) (w' : World) : Prop :=
  ∃ A2 cap2, e = .returned (.tuple #[.slice A2 cnt cap2, .int .i64 (tk : Nat), .int .u8 (st : Nat)]) ∧ Txt w' (.slice A2 cnt cap2) ts ∧ ts.length = cnt ∧ cnt ≤ cap2 ∧ Below W.heap.size W w'
theorem bscan_any (x : ByteArray) (s : List UInt8) (hx : x.data.toList = s) (hs : s.length ≤ 1000000) (q : List (List UInt8 × Nat)) (st : Nat) (hq : scanF s = (q, st)) (W : World) : Calls Try.prog 80 #[.string x] W (BScan W (q.map (·.1)) q.length (taken q) st) := by
  have C := scan_any s hs W
  rw [← hx, ← str_mk] at C
  rw [← hx] at hq
  rw [hq] at C
  refine C.mono ?_
  rintro e w' ⟨v, rfl, ho, hb⟩
  obtain ⟨A2, cap2, rfl, h1, h2, h3⟩ := ho.slice
  have hl : (q.map (·.1)).length = q.length := by simp
  exact ⟨A2, cap2, rfl, ⟨A2, cap2, by rw [hl], by rw [hl]; exact h1, h2, by rw [hl]; exact h3⟩, hl, h1, hb⟩
set_option maxRecDepth 100000 in
set_option maxHeartbeats 16000000 in
theorem rbursts_main (w : World) (A : Option Addr) (cap : Nat) (l : List (List UInt8)) (h : Txt w (.slice A l.length cap) l) (hl : l.length ≤ 60) (hs : totalR l ≤ 2500) (hl0 : 0 < l.length) (x0 x1 b : Nat) (hx0 : x0 < 65536) (hx1 : x1 < 65536) (hb0 : b ≠ 0) (hb32 : b < 4294967296) :
    Calls Try.prog 19 #[.slice A l.length cap, .agg #[.int .u16 x0, .int .u16 x1], .int .u32 b] w fun e w' => e = .returned (.bool true) ∧ Below w.heap.size w w' := by
  obtain ⟨i0, hi, hz0, hz1, hz2⟩ := info_parts info5w
  have hlen : ∀ s ∈ l, s.length ≤ 2500 := fun s hs' => Nat.le_trans (total_mem hs') hs
  have hok : ∀ t ∈ l, t.length ≤ 65536 := fun t ht => by have := hlen t ht; omega
  have hgr : greatR l = false := by unfold greatR; simp; omega
  have hrow := row_len (l := l) (fun s hs => by have := hlen s hs; omega)
  have bx := (Below.refl w.heap.size w).alloc (Nat.le_refl _) (.cells #[.int .u16 (x0 : Nat), .int .u16 (x1 : Nat)] 113)
  have kx := Blk.new w 113 #[.int .u16 (x0 : Nat), .int .u16 (x1 : Nat)]
  have G := great08_any (w := w.alloc (.cells #[.int .u16 (x0 : Nat), .int .u16 (x1 : Nat)] 113)) (cap := cap) (h.later bx).rd (by omega) (fun s hs => by have := hlen s hs; omega)
  rw [hgr] at G
  replace G := Lib.hid G
  obtain ⟨n, hn⟩ : ∃ n, n = x0 % l.length := ⟨_, rfl⟩
  have hnl : n < l.length := by rw [hn]; exact Nat.mod_lt _ hl0
  have hnI : ((x0 : Int) % (l.length : Nat)) = (n : Nat) := by rw [hn, Int.natCast_emod]
  have hl0b : ((l.length : Int) == 0) = false := by rw [beq_eq_false_iff_ne]; omega
  have hb0b : ((b : Int) == 0) = false := by rw [beq_eq_false_iff_ne]; omega
  have c0 : _ = some (Value.int .u16 (x0 : Nat)) := kx.cell 0
  have hcut := cutl_to A l.length cap n (by obtain ⟨_, _, e, h1, _⟩ := h; injection e with _ _ e3; omega)
  have P1 := fun W (hb : Below w.heap.size w W) => rput_any W A cap (l.take n) ((h.later hb).take (Nat.le_of_lt hnl)).rd (by rw [List.length_take]; omega) (fun s hs => by have := hlen s (List.mem_of_mem_take hs); omega) (by have := recs_le l n; omega)
  unfold PutsR at P1
  simp only [putR_row (l := l.take n) (fun t ht => hok t (List.mem_of_mem_take ht))] at P1
  rw [List.length_take, Nat.min_eq_left (Nat.le_of_lt hnl)] at P1
  replace P1 := Lib.hid P1
  have hrn := recs_le l n
  have hl2 : ∀ t ∈ l.take n, t.length ≤ 65536 := fun t ht => hok t (List.mem_of_mem_take ht)
  have HSC := Lib.hid (fun x => scanF_row (l.take n) hl2 x)
  have HTK := Lib.hid (withLen_taken (l.take n))
  have hWL : (withLen (l.take n)).length = n := by rw [withLen_len, List.length_take]; omega
  have HWL := Lib.hid hWL
  have HWF := Lib.hid (withLen_fst (l.take n))
  obtain ⟨R, hR⟩ : ∃ R, R = (l.take n).flatMap recF := ⟨_, rfl⟩
  rw [← hR] at P1 HSC HTK hrn
  have hRl : R.length ≤ 3280 := by omega
  have HT := Lib.hid (fun W (hb : Below w.heap.size w W) => h.later hb)
  have htl := hlen l[n] (List.getElem_mem hnl)
  have HSTR := Lib.hid (fun W (hb : Below w.heap.size w W) => str_at (h.later hb).rd hnl)
  have hyl := recF_len l[n] (by omega)
  have HTURN := Lib.hid (fun k (hk : k + 32 ≤ 8 * (recF l[n]).length) => scanF_turned l[n] k b hk hb0 hb32)
  have P2 := fun W => rput_any (W.alloc (.cells #[.string ⟨l[n].toArray⟩] 9)) (some ⟨W.heap.size, 0, none⟩) 1 [l[n]] (Txt.of (lit_own W [l[n]] (by simp))).rd (by simp) (fun s hs => by simp at hs; subst hs; omega) (by simp; omega)
  unfold PutsR at P2
  simp only [putR_row (l := [l[n]]) (fun t ht => by simp at ht; subst ht; omega)] at P2
  simp only [List.flatMap_cons, List.flatMap_nil, List.append_nil, List.length_singleton] at P2
  replace P2 := Lib.hid P2
  clear hn hlen hok hgr hrow hWL h hR hl2
  generalize recF l[n] = y at *
  obtain ⟨k, hk⟩ : ∃ k, k = x1 % (8 * y.length - 31) := ⟨_, rfl⟩
  have hk8 : k < 8 * y.length - 31 := by rw [hk]; exact Nat.mod_lt _ (by omega)
  have hkI : ((x1 : Int) % (8 * (y.length : Nat) - 31)) = (k : Nat) := by
    rw [hk, Int.natCast_emod, Int.natCast_sub (by omega), Int.natCast_mul]; rfl
  clear hk
  go_enter Try.func19, Try.ntmps19
  go_wp2_with fail
  refine G.out.mono ?_
  rintro e w1 ⟨rfl, rfl⟩
  go_wp2_with fail
  refine (P1.out _ bx).mono ?_
  rintro e w1 ⟨rfl, d1⟩
  have b1 := bx.trans (d1.mono bx.size)
  have kx1 := kx.below d1 kx.lt
  obtain ⟨ad, rfl, hc⟩ := HSTR.out _ b1
  go_wp2_with fail
  refine (P2.out _).mono ?_
  rintro e w2 ⟨rfl, d2⟩
  have b2 := (b1.alloc b1.size _).trans (d2.mono (b1.alloc b1.size _).size)
  have kx2 := (kx1.alloc (.cells #[.string ⟨l[n].toArray⟩] 9)).below d2 (kx1.alloc _).lt
  have KX := Lib.hid kx2
  clear c0 kx kx1 kx2 d1 d2 bx b1 hc G P1 P2
  go_wp2_with (refine wpList_bytes_new rfl 9 35 _ rfl 5 ⟨y.toArray⟩ rfl Try.underlying9 Try.underlying35 Try.underlying5 (by show y.toArray.size ≤ maxLen; unfold maxLen; simp; omega) ?_; rintro v w3 cap3 rfl hown hg; have c1 : _ = some (Value.int .u16 (x1 : Nat)) := (KX.out.grown hg (by simp)).cell 1)
  have ho := hown w2.heap.size (Nat.le_refl _)
  have b3 := b2.grown hg b2.size (by simp)
  have hz1 : w.heap.size ≤ w2.heap.size := b2.size
  clear hown KX c1
  clear hkI
  go_loopw [14] (fun i wr => ∃ j : Nat, j ≤ 32 ∧ i = .int .i64 j ∧ Tran.Own wr w2.heap.size 5 1 (.slice (some ⟨w2.heap.size, 0, none⟩) y.length cap3) y.length (bc (Crc.burst y k b j).1) ∧ Below w.heap.size w wr)
      (fun i _ => 32 - (intOf i).toNat)
  case atStart => exact ⟨0, by omega, rfl, ho, b3⟩
  case round =>
    obtain ⟨j, hj, rfl, ho3, hb3⟩ := hrel
    clear ho b3 hg b2
    by_cases hlt : j < 32
    · have hbl : (Crc.burst y k b j).1.length = y.length := Crc.burst_length y k b j
      have hkj : k + j < 8 * y.length := by omega
      by_cases hc1 : b / 2 ^ j % 2 = 1
      · have hst : (Crc.burst y k b (j + 1)).1 = Crc.flip (Crc.burst y k b j).1 (k + j) := by simp only [Crc.burst]; rw [if_pos ⟨hc1, hkj⟩]
        have HST := Lib.hid hst; clear hst
        have HBL := Lib.hid hbl; clear hbl
        have HC1 := Lib.hid hc1; clear hc1
        generalize (Crc.burst y k b j).1 = m at *
        have hlm : (k + j) / 8 < m.length := by have := HBL.out; omega
        have hcell : wr.cell? { block := w2.heap.size, off := (k + j) / 8 } = some (.int .u8 (m[(k + j) / 8].toNat : Int)) := ho3.cellAt (bc_get hlm)
        have hfz : wr.frozen? { block := w2.heap.size, off := (k + j) / 8 } = false := ho3.frozen _ (by omega)
        have hq : (((b : Int) / 2 ^ j).tmod 2 == 1) = true := by
          have := HC1.out
          exact shr_yes b j this
        go_wp2
        go_roundw
        case rel =>
          refine ⟨j + 1, by omega, by go_num, ?_, hb3.setCell (by exact hz1) _⟩
          rw [HST.out, bc_flip m (k + j) hlm]
          exact ho3.set_ _ _
        case measure => simp [intOf]; omega
      · have hst : (Crc.burst y k b (j + 1)).1 = (Crc.burst y k b j).1 := by simp only [Crc.burst]; rw [if_neg (fun h => hc1 h.1)]
        have HST := Lib.hid hst; clear hst hbl
        have hq : (((b : Int) / 2 ^ j).tmod 2 == 1) = false := shr_no b j hc1
        clear hc1
        generalize (Crc.burst y k b j).1 = m at *
        go_wp2
        go_roundw
        case rel => exact ⟨j + 1, by omega, by go_num, by rw [HST.out]; exact ho3, hb3⟩
        case measure => simp [intOf]; omega
    · obtain rfl : j = 32 := by omega
      have hbl : (Crc.burst y k b 32).1.length = y.length := Crc.burst_length y k b 32
      have HTN := Lib.hid (HTURN.out k (by omega))
      clear HTURN
      generalize (Crc.burst y k b 32).1 = m at *
      have HBL := Lib.hid hbl; clear hbl
      have hml : m.length ≤ 3000 := by have := HBL.out; omega
      obtain ⟨q, st, hq⟩ : ∃ q st, scanF m = (q, st) := ⟨_, _, rfl⟩
      have hq2 := HSC.out m
      have hql := (scanF_le m).2.1
      rw [hq] at hq2 hql
      rw [hq] at HTN
      simp only at hq2 HTN hql
      have C := bscan_any (⟨R.toArray⟩ ++ ⟨m.toArray⟩) (R ++ m) (by simp [ByteArray.data_append]) (by rw [List.length_append]; omega) _ _ hq2
      have hln : (withLen (l.take n) ++ q).length = n + q.length := by rw [List.length_append, HWL.out]
      have htk : taken (withLen (l.take n) ++ q) = R.length + taken q := by rw [← HTK.out]; simp [taken]
      have hts : (withLen (l.take n) ++ q).map (·.1) = l.take n ++ q.map (·.1) := by rw [List.map_append, HWF.out]
      rw [hln, htk, hts] at C
      replace C := Lib.hid C
      clear hln htk hts hq2 hq
      have hcn : n ≤ n + q.length := by omega
      have htk : R.length ≤ R.length + taken q := by omega
      have HCN := Lib.hid (show n + q.length = n + q.length from rfl)
      have HE := Lib.hid (show (l.take n ++ q.map (·.1)).take n = l.take n by rw [List.take_append_of_le_length (by rw [List.length_take]; omega), List.take_of_length_le (by rw [List.length_take]; omega)])
      have HEN := Lib.hid (fun (hne : q ≠ []) => show ∃ h : n < (l.take n ++ q.map (·.1)).length, (l.take n ++ q.map (·.1))[n] ≠ l[n] by
        obtain ⟨⟨t, z⟩, q', rfl⟩ := List.exists_cons_of_ne_nil hne
        have hl : (l.take n).length = n := by rw [List.length_take]; omega
        refine ⟨by rw [List.length_append, hl]; simp, ?_⟩
        rw [List.getElem_append_right (by omega)]
        simp only [hl, Nat.sub_self, List.map_cons, List.getElem_cons_zero]
        rintro rfl
        exact HTN.out z q' rfl)
      have hqe : q = [] ∨ q ≠ [] := Classical.em _
      generalize l.take n ++ q.map (·.1) = ts at *
      generalize hcnt : n + q.length = cnt at *
      generalize R.length + taken q = tk at *
      have hd1 : decide (cnt < n) = false := decide_eq_false (by omega)
      have hd2 : decide (tk < R.length) = false := decide_eq_false (by omega)
      have HQ := Lib.hid hqe
      have HCT := Lib.hid hcnt
      have HC2 := Lib.hid hcut
      clear hcnt hqe HCN HTN HTK HWF HWL HSC
      go_wp2_with (refine wpList_string_of rfl 35 9 _ rfl 5 _ w2.heap.size _ _ rfl Try.underlying35 Try.underlying5 Try.underlying9 ho3 ?_)
      refine (C.out _).mono ?_
      rintro e w5 ⟨A2, cap2, rfl, T5, hts, hc2, b5⟩
      have b6 := hb3.trans (b5.mono hb3.size)
      have hcut2 := cutl_to A2 cnt cap2 n (by omega)
      have T6 := HT.out w5 b6
      have SM := Lib.hid (fun W (hb : Below w5.heap.size w5 W) => same_self (by have h := (T5.take (k := n) (by omega)).later hb; rw [HE.out] at h; exact h) ((T6.take (Nat.le_of_lt hnl)).later hb) (by rw [List.length_take]; omega))
      have STR := Lib.hid (fun W (hb : Below w5.heap.size w5 W) => str_at (T6.later hb).rd hnl)
      have STR2 := Lib.hid (fun W (hb : Below w5.heap.size w5 W) (h : n < ts.length) => str_at (T5.later hb).rd h)
      have HD8 := Lib.hid (fun W => head08_any W)
      clear C ho3 hb3 b5
      go_wp2_with fail
      refine wp_region_cls (fun W => Below w5.heap.size w5 W) (by kernel_rfl) (by kernel_rfl) (below_drew (Below.refl _ _)) (fun hne => ?_)
      repeat (go_big_quiet_step ((go_at_call 53; ((with_reducible refine call_cls_in _ SM.out (below_on (Nat.le_refl _)))))))
      refine wpQuiet_nil ?_
      refine sub_all fun w6 I6 => ?_
      clear SM
      rcases HQ.out with h0 | h0
      · have hcn2 : ((cnt : Int) == n) = true := by rw [beq_iff_eq]; have := HCT.out; subst h0; simp at this; omega
        go_wp2_with fail
        refine wp_region_cls (fun W => Below w5.heap.size w5 W) (by kernel_rfl) (by kernel_rfl) (below_drew I6) (fun hne => ?_)
        repeat (go_big_quiet_step ((go_at_call 75; ((with_reducible refine call_cls_in _ (fun W _ => HD8.out W) (below_on (Nat.le_refl _)))))))
        refine wpQuiet_nil ?_
        refine sub_all fun w7 I7 => ?_
        go_wp2
        go_ret
        exact ⟨rfl, b6.trans (I7.mono b6.size)⟩
      · obtain ⟨hnt, hne0⟩ := HEN.out h0
        have hcn2 : ((cnt : Int) == n) = false := by rw [beq_eq_false_iff_ne]; omega
        obtain ⟨ad2, rfl, hx2⟩ := STR2.out _ (Below.refl _ _) hnt
        have hs2 : ∀ y : Tran.Sub (fun W => Below w5.heap.size w5 W), y.w.cell? (ad2.add n) = some (.string ⟨ts[n].toArray⟩) := fun y => by
          obtain ⟨ad3, e3, hx3⟩ := STR2.out _ y.h hnt
          injection e3 with e3; subst e3; exact hx3
        have hs1 : ∀ y : Tran.Sub (fun W => Below w5.heap.size w5 W), y.w.cell? (ad.add n) = some (.string ⟨l[n].toArray⟩) := fun y => by
          obtain ⟨ad3, e3, hx3⟩ := STR.out _ y.h
          injection e3 with e3; subst e3; exact hx3
        have hne1 : (ts[n] == l[n]) = false := by rw [beq_eq_false_iff_ne]; exact hne0
        have hne2 : (ts[n] != l[n]) = true := by rw [bne_iff_ne]; exact hne0
        have hncnt : n < cnt := by omega
        clear hx2 hne0
        go_wp2_with fail
        refine wp_region_cls (fun W => Below w5.heap.size w5 W) (by kernel_rfl) (by kernel_rfl) (below_drew I6) (fun hne => ?_)
        repeat (go_big_quiet_step ((go_at_call 75; ((with_reducible refine call_cls_in _ (fun W _ => HD8.out W) (below_on (Nat.le_refl _)))))))
        refine wpQuiet_nil ?_
        refine sub_all fun w7 I7 => ?_
        go_wp2
        go_ret
        exact ⟨rfl, b6.trans (I7.mono b6.size)⟩
set_option maxRecDepth 100000 in
theorem rbursts_any (w : World) (A : Option Addr) (cap : Nat) (l : List (List UInt8)) (h : Txt w (.slice A l.length cap) l) (hl : l.length ≤ 8796093022208) (hs : ∀ s ∈ l, s.length ≤ 140737488355328) (x0 x1 : Nat) (hx0 : x0 < 65536) (hx1 : x1 < 65536) (b : Int) (h0 : 0 ≤ b) (h1 : b < 4294967296) :
    Calls Try.prog 19 #[.slice A l.length cap, .agg #[.int .u16 x0, .int .u16 x1], .int .u32 b] w fun e w' => e = .returned (.bool true) ∧ Below w.heap.size w w' := by
  have bx := (Below.refl w.heap.size w).alloc (Nat.le_refl _) (.cells #[.int .u16 (x0 : Nat), .int .u16 (x1 : Nat)] 113)
  have G := great08_any (w := w.alloc (.cells #[.int .u16 (x0 : Nat), .int .u16 (x1 : Nat)] 113)) (cap := cap) (h.later bx).rd hl hs
  cases hg : greatR l
  · rw [hg] at G
    by_cases hl0 : 0 < l.length
    · by_cases hb : b = 0
      · subst hb
        have hl0b : ((l.length : Int) == 0) = false := by rw [beq_eq_false_iff_ne]; omega
        replace G := Lib.hid G
        clear hg h hs
        go_enter Try.func19, Try.ntmps19
        go_wp2_with fail
        refine G.out.mono ?_
        rintro e w1 ⟨rfl, rfl⟩
        go_wp2_with fail
        refine (head08_any _).mono ?_
        rintro e w1 ⟨rfl, b1⟩
        go_wp2
        go_ret
        exact ⟨rfl, bx.trans (b1.mono bx.size)⟩
      · obtain ⟨n, rfl⟩ := Int.eq_ofNat_of_zero_le h0
        exact rbursts_main w A cap l h (small_row hg).1 (small_row hg).2 hl0 x0 x1 n hx0 hx1 (by omega) (by omega)
    · have hl0b : ((l.length : Int) == 0) = true := by rw [beq_iff_eq]; omega
      have hle : l.length ≤ 0 := by omega
      replace G := Lib.hid G
      clear hg h hs hl0
      go_enter Try.func19, Try.ntmps19
      go_wp2_with fail
      refine G.out.mono ?_
      rintro e w1 ⟨rfl, rfl⟩
      go_wp2_with fail
      refine (head08_any _).mono ?_
      rintro e w1 ⟨rfl, b1⟩
      go_wp2
      go_ret
      exact ⟨rfl, bx.trans (b1.mono bx.size)⟩
  · rw [hg] at G
    replace G := Lib.hid G
    clear hg h hl hs
    go_enter Try.func19, Try.ntmps19
    go_wp2_with fail
    refine G.out.mono ?_
    rintro e w1 ⟨rfl, rfl⟩
    go_wp2_with fail
    refine (head08_any _).mono ?_
    rintro e w1 ⟨rfl, b1⟩
    go_wp2
    go_ret
    exact ⟨rfl, bx.trans (b1.mono bx.size)⟩
end Go.Proofs.Ytfojjklohbiffaa
