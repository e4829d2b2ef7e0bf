/- WireBack: what was put is read, plain. -/
import Derived.Test.YtfojjklohbiffaaItemsE
import Derived.Deep.CutRange
import Derived.Deep.CutBlock
namespace Go.Proofs.Ytfojjklohbiffaa
open Go.RowKit Tran Tran.Wire
set_option linter.unusedVariables false
theorem rnum_back (n m : Nat) (hn : n < 2 ^ 64) (hm : n ≤ m) (r : List UInt8) : rnumS (some (numF n ++ r)) m = (n, some r) := by
  unfold rnumS
  rw [numS_numF n hn r]
  simp [hm]
theorem rtext_back (s r : List UInt8) (hs : s.length ≤ 100000000) : rtextS (some (textF s ++ r)) (s.length : Nat) = (s, some r) := by
  unfold rtextS textF
  rw [List.append_assoc, Int.toNat_natCast, rnum_back _ _ (by omega) (Nat.le_refl _)]
  simp [takeS]
theorem rdot_back (a b : Nat) (ha : a < 256) (hb : b < 4294967296) (r : List UInt8) : rdotS (some (dotF a b ++ r)) = ((a, b), some r) := by
  unfold rdotS dotF
  rw [List.append_assoc, rnum_back a 255 (by omega) (by omega)]
  simp only
  rw [rnum_back b 4294967295 (by omega) (by omega)]
theorem rvec_back (xs : List Nat) (hx : ∀ x ∈ xs, x < 2 ^ 32) (r : List UInt8) : ∀ k, k ≤ xs.length → rvecS (some (vecF xs ++ r)) k = (xs.take k, some (vecF (xs.drop k) ++ r))
  | 0, _ => by simp [rvecS]
  | k + 1, hk => by
    have ih := rvec_back xs hx r k (by omega)
    unfold rvecS
    rw [ih]
    simp only
    have e : xs.drop k = xs[k]'(by omega) :: xs.drop (k + 1) := List.drop_eq_getElem_cons (by omega)
    have hb := hx (xs[k]'(by omega)) (List.getElem_mem (by omega))
    rw [e, vecF, List.flatMap_cons, List.append_assoc, rnum_back _ 4294967295 (by omega) (by omega), List.take_succ_eq_append_getElem (by omega)]
    rfl
theorem dotV_back (a b : Nat) (ha : a < 256) (hb : b < 4294967296) (r : List UInt8) : dotV (some (dotF a b ++ r)) = .agg #[.int .u8 (a : Nat), .int .u32 (b : Nat)] := by
  unfold dotV; rw [rdot_back a b ha hb]; rfl
theorem vecV_back (xs : List Nat) (hl : xs.length = 8) (hx : ∀ x ∈ xs, x < 2 ^ 32) (r : List UInt8) : vecV (some (vecF xs ++ r)) = .agg (vecA xs) ∧ (rvecS (some (vecF xs ++ r)) 8).2 = some r := by
  have h := rvec_back xs hx r 8 (by omega)
  rw [List.take_of_length_le (by omega), List.drop_eq_nil_of_le (by omega)] at h
  unfold vecV
  rw [h]
  exact ⟨rfl, rfl⟩
theorem flat_drop (l : List NItem) (k : Nat) (hk : k < l.length) : (l.drop k).flatMap itemW = itemW l[k] ++ (l.drop (k + 1)).flatMap itemW := by
  rw [List.drop_eq_getElem_cons hk, List.flatMap_cons]
theorem dot_eql' (W : World) (a b c d : Int) : (binOp .eql 82 (.agg #[.int .u8 a, .int .u32 b]) (.agg #[.int .u8 c, .int .u32 d])).run Try.prog W = .ok (.bool (a == c && b == d)) W := by
  by_cases h1 : a = c <;> by_cases h2 : b = d <;> simp [go_sem, h1, h2]
theorem vec_of_lit {x : NItem} {x0 x1 x2 x3 x4 x5 x6 x7 : Nat} (h : itemA x = #[.int .u8 (x.kind : Int), .int .u64 (x.n : Int), .string ⟨x.s.toArray⟩, .int .u8 (x.r : Int), .int .u32 (x.dn : Int), .int .u32 (x0 : Int), .int .u32 (x1 : Int), .int .u32 (x2 : Int), .int .u32 (x3 : Int), .int .u32 (x4 : Int), .int .u32 (x5 : Int), .int .u32 (x6 : Int), .int .u32 (x7 : Int), .int .u64 (x.most : Int)]) (hl : x.xs.length = 8) :
    vecA x.xs = #[.int .u32 (x0 : Int), .int .u32 (x1 : Int), .int .u32 (x2 : Int), .int .u32 (x3 : Int), .int .u32 (x4 : Int), .int .u32 (x5 : Int), .int .u32 (x6 : Int), .int .u32 (x7 : Int)] := by
  obtain ⟨kind, n, s, r, dn, xs, most⟩ := x
  match xs, hl with
  | [a0, a1, a2, a3, a4, a5, a6, a7], _ =>
    simp [itemA, itemF] at h
    simp [vecA, h]
set_option maxRecDepth 100000 in
set_option maxHeartbeats 8000000 in
theorem back_any (w : World) (A : Option Addr) (cap : Nat) (l : List NItem) (h : Rd w A l.length 14 (l.flatMap itemF)) (hl : l.length ≤ maxLen) (hok : ∀ x ∈ l, x.ok) :
    Calls Try.prog 15 #[.slice A l.length cap] w fun e w' => e = .returned (.bool true) ∧ Below w.heap.size w w' := by
  have HG := great02_any (cap := cap) h hl hok
  cases hgr : greatI l
  · obtain ⟨hl100, hs⟩ := small_of hgr
    rw [hgr] at HG
    replace HG := Lib.hid HG
    have HFB := Lib.hid (fun k => flat_bound (l.take k) (fun x hx => hok x (List.mem_of_mem_take hx)) (fun x hx => hs x (List.mem_of_mem_take hx)))
    have HFS := Lib.hid (fun k hk => flat_snoc l k hk)
    have HFD := Lib.hid (fun k hk => flat_drop l k hk)
    have HR := Lib.hid (fun W (hb : Below w.heap.size w W) i (hi : i < l.length) => item_at hok (h.later hb) hi)
    have HOK := Lib.hid hok
    have HSS := Lib.hid hs
    clear hgr hl h hok hs
    go_enter Try.func15, Try.ntmps15
    go_wp2_with fail
    refine HG.out.mono ?_
    rintro e w1 ⟨rfl, rfl⟩
    go_wp2_with fail
    refine (wnew_any w).mono ?_
    rintro e w0 ⟨rfl, hw0⟩
    have n0 : WrAt w0 w.heap.size w.heap.size (.slice none 0 0) [] := by rw [hw0]; exact new_wr w (Nat.le_refl _)
    have b0 : Below w.heap.size w w0 := by rw [hw0]; exact (Below.refl _ _).alloc (Nat.le_refl _) _
    clear hw0 HG
    go_wp2_with fail
    go_loopw [4] (fun i wr => ∃ k : Nat, ∃ v, k ≤ l.length ∧ i = .int .i64 k ∧ WrAt wr w.heap.size w.heap.size v ((l.take k).flatMap itemW) ∧ Below w.heap.size w wr) (fun i _ => l.length - (intOf i).toNat)
    case atStart => exact ⟨0, _, by omega, rfl, n0, b0⟩
    case round =>
      clear n0 b0
      obtain ⟨k, v, hk, rfl, n1, b1⟩ := hrel
      by_cases hlt : k < l.length
      · obtain ⟨ad, rfl, h1⟩ := HR.out wr b1 k hlt
        have hfb := HFB.out k
        have hfb2 : ((l.take k).flatMap itemW).length ≤ 300000 := by
          have : (l.take k).length ≤ 100 := by rw [List.length_take]; omega
          omega
        have hx := HOK.out _ (List.getElem_mem hlt)
        have hxs := HSS.out _ (List.getElem_mem hlt)
        have HF := Lib.hid (HFS.out k hlt)
        have P := Lib.hid (put02_any n1 b1.size (by omega) l[k] hx (by omega))
        have H1 := Lib.hid h1
        have hsz : (itemA l[k]).size = 14 := itemA_size _ hx
        have N1 := Lib.hid n1
        clear h1 hx hfb n1
        generalize (l.take k).flatMap itemW = z at *
        generalize l[k] = x at *
        generalize itemW x = y at *
        go_wp2_with (refine wpList_load_cells rfl 84 _ rfl (ad.add (k * 14)) rfl (itemA x) _ H1.out Try.underlying84 rfl (by rw [hsz]; exact size84) ?_)
        refine P.out.mono ?_
        rintro e w2 ⟨v2, rfl, p2⟩
        have b2 := b1.trans (p2.toBelow N1.out b1.size)
        have n2 := p2.wr
        clear p2 P H1 b1
        go_wp2
        go_roundw
        case rel => exact ⟨k + 1, v2, hlt, by go_num, by rw [HF.out]; exact n2, b2⟩
        case measure => simp [intOf]; omega
      · have hkk : l.take k = l := List.take_of_length_le (by omega)
        have hfb := HFB.out k
        rw [hkk] at n1 hfb
        clear hkk
        have hzl : (l.flatMap itemW).length ≤ 300000 := by omega
        have Y := Lib.hid (bytes_any n1)
        have O := Lib.hid (open_r (l := l.flatMap itemW) wr (by omega))
        clear n1 HFB HFS hfb
        have Z := Lib.hid (show (l.drop 0).flatMap itemW = l.flatMap itemW by simp)
        go_wp2_with fail
        refine Y.out.mono ?_
        rintro e w2 ⟨rfl, rfl⟩
        go_wp2_with fail
        refine O.out.mono ?_
        rintro e w3 ⟨rfl, r3, hw3⟩
        have b3 : Below w.heap.size w w3 := by rw [hw3]; exact b1.alloc b1.size _
        have hgr : w.heap.size ≤ wr.heap.size := b1.size
        obtain ⟨gr, hgr'⟩ : ∃ gr, gr = wr.heap.size := ⟨_, rfl⟩
        rw [← hgr'] at r3 hgr ⊢
        clear hw3 b1 O Y hgr'
        have R3 := Lib.hid r3
        clear r3
        go_wp2_with fail
        go_loopw [6] (fun i wr => ∃ k : Nat, k ≤ l.length ∧ i = .int .i64 k ∧ RdP wr (some ⟨gr, 0, none⟩) (some ((l.drop k).flatMap itemW)) ∧ Below w.heap.size w wr) (fun i _ => l.length - (intOf i).toNat)
        case atStart => exact ⟨0, by omega, rfl, by rw [Z.out]; exact R3.out, b3⟩
        case round =>
          clear R3 b3 Z
          obtain ⟨k, hk, rfl, r, b⟩ := hrel
          by_cases hlt : k < l.length
          · obtain ⟨ad, rfl, h1⟩ := HR.out _ b k hlt
            have hx := HOK.out _ (List.getElem_mem hlt)
            have hxs := HSS.out _ (List.getElem_mem hlt)
            obtain ⟨x0, x1, x2, x3, x4, x5, x6, x7, hlit⟩ := item_lit l[k] hx
            have hfd := HFD.out k hlt
            rw [hfd] at r
            rw [hlit] at h1
            obtain ⟨z, hz⟩ : ∃ z, z = (l.drop (k + 1)).flatMap itemW := ⟨_, rfl⟩
            rw [← hz] at r
            have HZ := Lib.hid hz
            clear hz
            generalize l[k] = x at *
            have c0 := h1 0 _ rfl
            have c1 := h1 1 _ rfl
            have c2 := h1 2 _ rfl
            have c3 := h1 3 _ rfl
            have c4 := h1 4 _ rfl
            have c5 := h1 5 _ rfl
            have c6 := h1 6 _ rfl
            have c7 := h1 7 _ rfl
            have c8 := h1 8 _ rfl
            have c9 := h1 9 _ rfl
            have c10 := h1 10 _ rfl
            have c11 := h1 11 _ rfl
            have c12 := h1 12 _ rfl
            have c13 := h1 13 _ rfl
            rw [add_at _ _ _ (by omega)] at c1 c2 c3 c4 c5 c6 c7 c8 c9 c10 c11 c12 c13
            rw [add_zero_a] at c0
            have K := Lib.hid (Blk.new wr 84 #[.int .u8 (x.kind : Int), .int .u64 (x.n : Int), .string ⟨x.s.toArray⟩, .int .u8 (x.r : Int), .int .u32 (x.dn : Int), .int .u32 (x0 : Int), .int .u32 (x1 : Int), .int .u32 (x2 : Int), .int .u32 (x3 : Int), .int .u32 (x4 : Int), .int .u32 (x5 : Int), .int .u32 (x6 : Int), .int .u32 (x7 : Int), .int .u64 (x.most : Int)])
            have hgl := r.lt rfl
            have d := (Below.refl wr.heap.size wr).alloc (Nat.le_refl _) (.cells #[.int .u8 (x.kind : Int), .int .u64 (x.n : Int), .string ⟨x.s.toArray⟩, .int .u8 (x.r : Int), .int .u32 (x.dn : Int), .int .u32 (x0 : Int), .int .u32 (x1 : Int), .int .u32 (x2 : Int), .int .u32 (x3 : Int), .int .u32 (x4 : Int), .int .u32 (x5 : Int), .int .u32 (x6 : Int), .int .u32 (x7 : Int), .int .u64 (x.most : Int)] 84)
            have R := Lib.hid (r.below d)
            have B := Lib.hid (b.trans (d.mono b.size))
            have HX := Lib.hid hx
            have HL := Lib.hid hlit
            clear h1 hlit hx r b d hfd
            go_upto_block 4 with (fail)
            go_cut [8] from 44 to 75 (fun s8 wx => s8 = .bool true ∧ RdP wx (some ⟨gr, 0, none⟩) (some z) ∧ Below w.heap.size w wx)
            case first =>
              have HW := Lib.hid (show itemW x = if x.kind % 4 = 0 then numF x.n else if x.kind % 4 = 1 then textF x.s else if x.kind % 4 = 2 then dotF x.r x.dn else vecF x.xs from rfl)
              obtain ⟨ok0, ok1, ok2, ok3, ok4, ok5, ok6, ok7⟩ := HX.out
              have hvx : vecA x.xs = #[.int .u32 (x0 : Int), .int .u32 (x1 : Int), .int .u32 (x2 : Int), .int .u32 (x3 : Int), .int .u32 (x4 : Int), .int .u32 (x5 : Int), .int .u32 (x6 : Int), .int .u32 (x7 : Int)] := vec_of_lit HL.out ok5
              have hcs : x.kind % 4 = 0 ∨ x.kind % 4 = 1 ∨ x.kind % 4 = 2 ∨ x.kind % 4 = 3 := by omega
              clear HX HL ok2 ok7
              rcases hcs with hk | hk | hk | hk
              · have hi : itemW x = numF x.n := HW.out.trans (if_pos hk)
                have r := R.out
                rw [hi] at r
                have N := rnum_r r.drew x.n
                rw [rnum_back _ _ ok1 (Nat.le_refl _)] at N
                replace N := Lib.hid N
                have hm : (x.kind : Int) % 4 = 0 := by omega
                have HR3 := Lib.hid r
                clear hi hk r
                go_wp2_with fail
                go_region_with ((go_at_call 65; refine N.out.mono ?_; rintro e w4 ⟨rfl, r4⟩; have k4 := K.out.drew.chg r4.ch (fun e => by injection e with e; injection e with e; omega); have q1 := k4.cell 1))
                all_goals
                  go_wp2_with fail
                  go_meet
                  exact ⟨rfl, r4.rd, (below_drew B.out).trans (r4.toBelow hgr B.out.size)⟩
              · have hi : itemW x = textF x.s := HW.out.trans ((if_neg (by omega)).trans (if_pos hk))
                have r := R.out
                rw [hi] at r
                have N := rtext_r r.drew ((x.s.length : Nat) : Int) (by omega)
                rw [rtext_back _ _ (by omega)] at N
                replace N := Lib.hid N
                have hm : (x.kind : Int) % 4 = 1 := by omega
                have HR3 := Lib.hid r
                clear hi hk r
                go_wp2_with fail
                go_region_with ((go_at_call 66; refine N.out.mono ?_; rintro e w4 ⟨rfl, r4⟩; have k4 := K.out.drew.chg r4.ch (fun e => by injection e with e; injection e with e; omega); have q2 := k4.cell 2))
                all_goals
                  go_wp2_with fail
                  go_meet
                  exact ⟨rfl, r4.rd, (below_drew B.out).trans (r4.toBelow hgr B.out.size)⟩
              · have hi : itemW x = dotF x.r x.dn := HW.out.trans ((if_neg (by omega)).trans ((if_neg (by omega)).trans (if_pos hk)))
                have r := R.out
                rw [hi] at r
                have N := rdot_r r.drew
                rw [rdot_back _ _ ok3 ok4, dotV_back _ _ ok3 ok4] at N
                have heq := fun W => dot_eql' W (x.r : Int) (x.dn : Int) (x.r : Int) (x.dn : Int)
                simp only [beq_self_eq_true, Bool.and_self] at heq
                replace N := Lib.hid N
                have hm : (x.kind : Int) % 4 = 2 := by omega
                have HR3 := Lib.hid r
                clear hi hk r
                go_wp2_with fail
                go_region_with ((go_at_call 67; refine N.out.mono ?_; rintro e w4 ⟨rfl, r4⟩; have k4 := K.out.drew.chg r4.ch (fun e => by injection e with e; injection e with e; omega); have q3 := k4.cell 3; have q4 := k4.cell 4))
                all_goals
                  go_wp2_with fail
                  go_meet
                  exact ⟨rfl, r4.rd, (below_drew B.out).trans (r4.toBelow hgr B.out.size)⟩
              · have hi : itemW x = vecF x.xs := HW.out.trans ((if_neg (by omega)).trans ((if_neg (by omega)).trans (if_neg (by omega))))
                have r := R.out
                rw [hi] at r
                have N := rvec_r r.drew
                obtain ⟨hv1, hv2⟩ := vecV_back x.xs ok5 ok6 z
                rw [hv1, hv2, hvx] at N
                have heq := fun W => vec_eql x.xs x.xs ok5 ok5 W
                rw [hvx, beq_self_eq_true] at heq
                clear hv1 hv2
                replace N := Lib.hid N
                have hm : (x.kind : Int) % 4 = 3 := by omega
                have HR3 := Lib.hid r
                clear hi hk r
                go_wp2_with fail
                go_region_with ((go_at_call 68; refine N.out.mono ?_; rintro e w4 ⟨rfl, r4⟩; have k4 := K.out.drew.chg r4.ch (fun e => by injection e with e; injection e with e; omega); have q5 := k4.cell 5; have q6 := k4.cell 6; have q7 := k4.cell 7; have q8 := k4.cell 8; have q9 := k4.cell 9; have q10 := k4.cell 10; have q11 := k4.cell 11; have q12 := k4.cell 12))
                all_goals
                  go_wp2_with fail
                  go_meet
                  exact ⟨rfl, r4.rd, (below_drew B.out).trans (r4.toBelow hgr B.out.size)⟩
            case rest =>
              obtain ⟨rfl, r4, b4⟩ := hcut
              have R4 := Lib.hid r4
              have B4 := Lib.hid b4
              clear c0 c1 c2 c3 c4 c5 c6 c7 c8 c9 c10 c11 c12 c13 K R B HX HL r4 b4
              go_wp2_with fail
              refine (fine_r R4.out).mono ?_
              rintro e w5 ⟨rfl, rfl⟩
              go_wp2_with fail
              go_roundw
              case rel => exact ⟨k + 1, hlt, by go_num, by rw [← HZ.out]; exact R4.out, B4.out⟩
              case measure => simp [intOf]; omega
          · have hkk : l.drop k = [] := List.drop_eq_nil_of_le (by omega)
            rw [hkk] at r
            clear hkk
            have r : RdP wr (some ⟨gr, 0, none⟩) (some []) := r
            have E2 : Calls Try.prog 64 #[.pointer (some ⟨gr, 0, none⟩)] wr fun e w' => e = .returned (.int .i64 0) ∧ ∃ n, w' = wr.drewN n := end_r r r.left_le
            replace E2 := Lib.hid E2
            have R := Lib.hid r
            have B := Lib.hid b
            clear r b
            go_wp2_with fail
            refine E2.out.mono ?_
            rintro e w5 ⟨rfl, n5, hn5⟩
            have r5 : RdP w5 (some ⟨gr, 0, none⟩) (some []) := by rw [hn5]; exact R.out
            have b7 : Below w.heap.size w w5 := by rw [hn5]; exact below_drewN B.out n5
            have L5 : Calls Try.prog 63 #[.pointer (some ⟨gr, 0, none⟩)] w5 fun e w' => e = .returned (.int .i64 0) ∧ ∃ n, w' = w5.drewN n := left_r r5
            replace L5 := Lib.hid L5
            clear hn5 r5
            go_wp2_with fail
            refine L5.out.mono ?_
            rintro e w6 ⟨rfl, n6, hn6⟩
            have b8 : Below w.heap.size w w6 := by rw [hn6]; exact below_drewN b7 n6
            clear hn6
            go_wp2_with fail
            refine (head02_any _).mono ?_
            rintro e w9 ⟨rfl, d9⟩
            have b9 := b8.trans (d9.mono b8.size)
            go_wp2
            go_ret
            exact ⟨rfl, b9⟩
  · rw [hgr] at HG
    replace HG := Lib.hid HG
    clear hgr hl h hok
    go_enter Try.func15, Try.ntmps15
    go_wp2_with fail
    refine HG.out.mono ?_
    rintro e w1 ⟨rfl, rfl⟩
    go_wp2_with fail
    refine (head02_any w).mono ?_
    rintro e w2 ⟨rfl, b2⟩
    go_wp2
    go_ret
    exact ⟨rfl, b2⟩
end Go.Proofs.Ytfojjklohbiffaa
