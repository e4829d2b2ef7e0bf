/- The document's readers of texts, dots, vectors. -/
import Derived.Test.YtfojjklohbiffaaMq9
import Derived.Test.YtfojjklohbiffaaMq12
namespace Go.Proofs.Ytfojjklohbiffaa
open Go.RowKit Tran Tran.Wire
set_option linter.unusedVariables false
set_option maxRecDepth 100000 in
theorem rnumS_some {st : Option (List UInt8)} {m x : Nat} {l : List UInt8} (h : rnumS st m = (x, some l)) : st = some (numF x ++ l) ∧ x ≤ m ∧ x < 2 ^ 64 := by
  cases st with
  | none => rw [rnumS_none] at h; cases h
  | some s =>
    cases s with
    | nil => have e : rnumS (some []) m = (0, none) := by simp [rnumS, numS]
             rw [e] at h; cases h
    | cons b r =>
      have hbl := b.toNat_lt
      by_cases hb : b.toNat < 128
      · rw [rnum_lo r m hb] at h
        by_cases hm : b.toNat ≤ m
        · rw [if_pos hm] at h
          injection h with h1 h2
          injection h2 with h2
          subst h1 h2
          refine ⟨?_, hm, by omega⟩
          rw [show numF b.toNat = [b] by unfold numF; rw [if_pos hb]; congr 1; apply UInt8.toNat_inj.1; rw [UInt8.toNat_ofNat']; omega]
          rfl
        · rw [if_neg hm] at h; cases h
      · by_cases hk : 8 < b.toNat - 128 ∨ r.length < b.toNat - 128
        · rw [rnum_short r m hb hk] at h; cases h
        · rw [rnum_hi r m hb (by omega) (by omega)] at h
          by_cases hc : numF (val (r.take (b.toNat - 128))) = b :: r.take (b.toNat - 128) ∧ val (r.take (b.toNat - 128)) ≤ m
          · rw [if_pos hc] at h
            injection h with h1 h2
            injection h2 with h2
            subst h1 h2
            refine ⟨?_, hc.2, take_val r _ (by omega)⟩
            rw [hc.1, List.cons_append, List.take_append_drop]
          · rw [if_neg hc] at h; cases h
theorem rnumS_left {st : Option (List UInt8)} {m : Nat} {l : List UInt8} (h : (rnumS st m).2 = some l) : ∃ s, st = some s ∧ l.length ≤ s.length := by
  have h2 := rnumS_some (st := st) (m := m) (x := (rnumS st m).1) (l := l) (by rw [← h])
  exact ⟨_, h2.1, by simp⟩
theorem cutk_to (kd : IntKind) (l : List UInt8) (k : Nat) (hk : k ≤ l.length) (W : World) : (Instr.slice 9 (.string ⟨l.toArray⟩) none (some (.int kd k)) none).run Try.prog W = .ok (.string ⟨(l.take k).toArray⟩) W := by
  have h := run_slice_string_h (P := Try.prog) W 9 ⟨l.toArray⟩ Try.underlying9 kd (k : Int) (by omega) (by simp [ByteArray.size]; omega)
  rw [Int.toNat_natCast, str_take] at h
  exact h
theorem cutk_off (kd : IntKind) (l : List UInt8) (k : Nat) (hk : k ≤ l.length) (W : World) : (Instr.slice 9 (.string ⟨l.toArray⟩) (some (.int kd k)) none none).run Try.prog W = .ok (.string ⟨(l.drop k).toArray⟩) W := by
  have h := run_slice_string_l (P := Try.prog) W 9 ⟨l.toArray⟩ Try.underlying9 kd (k : Int) (by omega) (by simp [ByteArray.size]; omega)
  rw [Int.toNat_natCast, str_cut, show (⟨l.toArray⟩ : ByteArray).size = l.length from rfl, List.take_length] at h
  exact h
theorem rowC_form (st : Option (List UInt8)) : ∃ s f, rowC st = #[.string s, .bool f] := by cases st <;> exact ⟨_, _, rfl⟩
/-- three blocks in a reader's world -/
theorem keep_new {w w1 : World} {g : Nat} {A : Array Value} {t : TypeId} (k : Blk w g t A) (hb : Below w.heap.size w w1) (o : Obj) : Blk (w1.alloc o) g t A := (k.below hb k.lt).alloc o
set_option maxRecDepth 100000 in
set_option maxHeartbeats 4000000 in
theorem ttaketext_any (st : Option (List UInt8)) (hs : ∀ l, st = some l → l.length ≤ 140737488355328) (most : Int) (hm : most ≤ 140737488355328) (hm0 : -140737488355328 ≤ most) (w : World) :
    Calls Try.prog 111 #[.agg (rowC st), .int .i64 most] w (Took w (.string ⟨(rtextS st most).1.toArray⟩) (rtextS st most).2) := by
  obtain ⟨k0, k1, b0⟩ := two_blocks w (rowC st) 89
  have N := tknum_any st hs most.toNat
  have HT := Lib.hid (show rtextS st most = takeS (rnumS st most.toNat).2 (rnumS st most.toNat).1 from rfl)
  have HL := Lib.hid (fun l (h : (rnumS st most.toNat).2 = some l) => (by obtain ⟨s', h1, h2⟩ := rnumS_left h; exact Nat.le_trans h2 (hs s' h1) : l.length ≤ 140737488355328))
  generalize rnumS st most.toNat = q at *
  obtain ⟨x, s1⟩ := q
  have hmx : (most < 0 ∧ most.toNat = 0) ∨ (most = ((most.toNat : Nat) : Int)) := by omega
  have hb : most.toNat ≤ 140737488355328 := by omega
  generalize most.toNat = m at *
  obtain ⟨s, f, hsf⟩ := rowC_form st
  rw [hsf] at N k0 k1 b0 ⊢
  clear hs hm hm0 hsf
  have K1 := Lib.hid k1
  have B0 := Lib.hid b0
  clear k0 k1 b0
  generalize rtextS st most = rt at *
  rcases hmx with ⟨hneg, rfl⟩ | rfl
  case' inl => rw [show ((0 : Nat) : Int) = 0 from rfl] at N
  all_goals
    replace N := Lib.hid N
    go_enter Try.func111, Try.ntmps111
    go_wp2_with fail
    refine (N.out _).mono ?_
    rintro e w1 ⟨rfl, b1⟩
    cases s1 with
    | none =>
      have h1 : rt = ([], none) := HT.out
      subst h1
      have k1 := K1.out.below b1 K1.out.lt
      have b2 := (B0.out).trans (b1.mono B0.out.size)
      have d2 := (Below.refl w1.heap.size w1).alloc (Nat.le_refl _) (.cells #[.string ⟨#[]⟩, .bool false] 89)
      have k1 := k1.below d2 k1.lt
      have b2 := b2.trans (d2.mono b2.size)
      dsimp only [rowC]
      go_wp2_with fail
      refine (tfailed_any _).mono ?_
      rintro e w11 ⟨rfl, b11⟩
      have k2 := k1.below b11 k1.lt
      have b3 := b2.trans (b11.mono b2.size)
      clear k1 b2 b11 d2 b1
      go_wp2_with (refine wpList_store_row rfl 89 _ _ rfl (w.heap.size + 1) (rowC none) rfl rfl 89 (rowC none) k2 size89 rfl (rowC_one none) ?_)
      refine bodyPost_ret (results_tmp_row rfl _ _ (w.heap.size + 1) 89 (rowC none) (0, 0) _ _ rfl rfl (k2.row _) Try.underlying89 rfl size89) rfl ?_
      exact ⟨rfl, below_setRow b3 (by omega) _⟩
    | some l =>
      have hl := HL.out l rfl
      have k1 := K1.out.below b1 K1.out.lt
      have b2 := (B0.out).trans (b1.mono B0.out.size)
      have d2 := (Below.refl w1.heap.size w1).alloc (Nat.le_refl _) (.cells #[.string ⟨l.toArray⟩, .bool true] 89)
      have k1 := k1.below d2 k1.lt
      have b2 := b2.trans (d2.mono b2.size)
      have hwl : IntKind.u64.wrap (l.length : Nat) = (l.length : Nat) := IntWalk.u64_in _ (by omega)
      dsimp only [rowC]
      by_cases hx : x ≤ l.length
      · have h1 : rt = (l.take x, some (l.drop x)) := HT.out.trans (by unfold takeS; exact if_pos hx)
        subst h1
        have hd : decide (l.length < x) = false := decide_eq_false (by omega)
        have hct := cutk_to .u64 l x hx
        have hcd := cutk_off .u64 l x hx
        have hex0 : (⟨l.toArray⟩ : ByteArray).extract 0 x = ⟨(l.take x).toArray⟩ := str_take l x
        have hex : (⟨l.toArray⟩ : ByteArray).extract x l.length = ⟨(l.drop x).toArray⟩ := (str_cut l x l.length).trans (by simp)
        go_wp2_with fail
        obtain ⟨w3, hw3⟩ : ∃ w3, w3 = w1.alloc (.cells #[.string ⟨l.toArray⟩, .bool true] 89) := ⟨_, rfl⟩
        have hy0 := (Blk.new w1 89 #[.string ⟨l.toArray⟩, .bool true]).cell 0
        rw [← hw3] at k1 b2 hy0 ⊢
        clear hw3 d2 HT
        go_still_tail 10, (by kernel_rfl)
        change wpList _ _ _ _ _ w3.drew
        have k2 : Blk w3.drew (w.heap.size + 1) 89 (rowC none) := k1
        have b3 : Below w.heap.size w w3.drew := below_drew b2
        generalize w3.drew = w11 at *
        go_wp2_with (refine wpList_store_row rfl 89 _ _ rfl (w.heap.size + 1) (rowC (some (l.drop x))) rfl rfl 89 (rowC none) k2 size89 rfl (rowC_one (some (l.drop x))) ?_)
        refine bodyPost_ret (results_tmp_row rfl _ _ (w.heap.size + 1) 89 (rowC (some (l.drop x))) (0, 0) _ _ rfl rfl (k2.row _) Try.underlying89 rfl size89) rfl ?_
        exact ⟨rfl, below_setRow b3 (by omega) _⟩
      · have h1 : rt = ([], none) := HT.out.trans (by unfold takeS; exact if_neg hx)
        subst h1
        have hd : decide (l.length < x) = true := decide_eq_true (by omega)
        go_wp2_with fail
        refine (tfailed_any _).mono ?_
        rintro e w11 ⟨rfl, b11⟩
        have k2 := k1.below b11 k1.lt
        have b3 := b2.trans (b11.mono b2.size)
        clear k1 b2 b11 d2 b1
        go_wp2_with (refine wpList_store_row rfl 89 _ _ rfl (w.heap.size + 1) (rowC none) rfl rfl 89 (rowC none) k2 size89 rfl (rowC_one none) ?_)
        refine bodyPost_ret (results_tmp_row rfl _ _ (w.heap.size + 1) 89 (rowC none) (0, 0) _ _ rfl rfl (k2.row _) Try.underlying89 rfl size89) rfl ?_
        exact ⟨rfl, below_setRow b3 (by omega) _⟩
end Go.Proofs.Ytfojjklohbiffaa
/- Operations: their bytes and back, plain. -/
namespace Go.Proofs.Ytfojjklohbiffaa
open Go.RowKit Tran Tran.Wire
set_option linter.unusedVariables false
set_option linter.unusedSimpArgs false
theorem rnum_nm (n m : Nat) (hn : n ≤ m) (h64 : n < 2 ^ 64) (x : List UInt8) : rnumS (some (numF n ++ x)) m = (n, some x) := by
  unfold rnumS
  rw [numS_numF n h64 x]
  simp [hn]
theorem dotZ_of {st : Option (List UInt8)} {r n : Nat} {t : List UInt8} (h : rdotS st = ((r, n), some t)) : dotZ st = (r, n) := by simp [dotZ, h]
theorem vecZ_of {st : Option (List UInt8)} {xs : List Nat} {t : List UInt8} (h : rvecS st 8 = (xs, some t)) : vecZ st = xs := by simp [vecZ, h]
theorem num_some {st : Option (List UInt8)} {m : Nat} {l : List UInt8} (h : (rnumS st m).2 = some l) : st = some (numF (rnumS st m).1 ++ l) :=
  (rnumS_some (x := (rnumS st m).1) (Prod.ext rfl h)).1
theorem dot_some {st : Option (List UInt8)} {l : List UInt8} (h : (rdotS st).2 = some l) : st = some (dotF (dotZ st).1 (dotZ st).2 ++ l) := by
  have h2 := num_some h
  have h1 := num_some h2
  have e : dotZ st = (rdotS st).1 := by unfold dotZ; rw [h]; rfl
  rw [e]
  refine h1.trans ?_
  simp [dotF, rdotS, List.append_assoc]
theorem vec_back (st : Option (List UInt8)) : ∀ (k : Nat) {l : List UInt8}, (rvecS st k).2 = some l → st = some (vecF (rvecS st k).1 ++ l)
  | 0, l, h => by simpa [rvecS, vecF] using h
  | k + 1, l, h => by
    have h1 := vec_back st k (num_some h)
    refine h1.trans ?_
    simp [rvecS, vecF, List.append_assoc]
theorem vec_some {st : Option (List UInt8)} {l : List UInt8} (h : (rvecS st 8).2 = some l) : st = some (vecF (vecZ st) ++ l) := by
  have e : vecZ st = (rvecS st 8).1 := by unfold vecZ; rw [h]; rfl
  rw [e]
  exact vec_back st 8 h
theorem lines_some (st : Option (List UInt8)) : ∀ (k : Nat) {l : List UInt8}, (rdLines st k).2 = some l → st = some (linesF (rdLines st k).1 ++ l)
  | 0, l, h => by simpa [rdLines, linesF] using h
  | k + 1, l, h => by
    have h2 := dot_some h
    have h1 := dot_some h2
    have h0 := lines_some st k h1
    refine h0.trans ?_
    simp [rdLines, linesF, rdClaim, List.append_assoc]
theorem rdot_dot (r n : Nat) (hr : r < 256) (hn : n < 4294967296) (x : List UInt8) : rdotS (some (dotF r n ++ x)) = ((r, n), some x) := by
  have h1 : rnumS (some (dotF r n ++ x)) 255 = (r, some (numF n ++ x)) := by
    rw [dotF, List.append_assoc]; exact rnum_nm r 255 (by omega) (by omega) _
  have h2 := rnum_nm n 4294967295 (by omega) (by omega) x
  simp [rdotS, h1, h2]
theorem rvec_vec (xs : List Nat) (h : ∀ y ∈ xs, y < 4294967296) (x : List UInt8) : ∀ k, k ≤ xs.length → rvecS (some (vecF xs ++ x)) k = (xs.take k, some (vecF (xs.drop k) ++ x))
  | 0, _ => by simp [rvecS]
  | k + 1, hk => by
    have hk' : k < xs.length := hk
    have e : xs.drop k = xs[k] :: xs.drop (k + 1) := List.drop_eq_getElem_cons hk'
    have hy := h xs[k] (List.getElem_mem hk')
    have h1 := rnum_nm xs[k] 4294967295 (by omega) (by omega) (vecF (xs.drop (k + 1)) ++ x)
    have e3 : vecF (xs.drop k) ++ x = numF xs[k] ++ (vecF (xs.drop (k + 1)) ++ x) := by rw [e]; simp only [vecF, List.flatMap_cons, List.append_assoc]
    rw [rvecS, rvec_vec xs h x k (by omega)]
    simp only [e3, h1]
    rw [List.take_succ_eq_append_getElem hk']
theorem rdLines_lines (ls : List NClaim) (h : ∀ c ∈ ls, c.ok) (x : List UInt8) : ∀ k, k ≤ ls.length → rdLines (some (linesF ls ++ x)) k = (ls.take k, some (linesF (ls.drop k) ++ x))
  | 0, _ => by simp [rdLines]
  | k + 1, hk => by
    have hk' : k < ls.length := hk
    have e : ls.drop k = ls[k] :: ls.drop (k + 1) := List.drop_eq_getElem_cons hk'
    obtain ⟨o1, o2, o3, o4⟩ := h ls[k] (List.getElem_mem hk')
    have e2 : linesF (ls.drop k) ++ x = dotF ls[k].lr ls[k].ln ++ (dotF ls[k].vr ls[k].vn ++ (linesF (ls.drop (k + 1)) ++ x)) := by
      rw [e]; simp only [linesF, List.flatMap_cons, List.append_assoc]
    have h1 := rdot_dot ls[k].lr ls[k].ln o1 o2 (dotF ls[k].vr ls[k].vn ++ (linesF (ls.drop (k + 1)) ++ x))
    have h2 := rdot_dot ls[k].vr ls[k].vn o3 o4 (linesF (ls.drop (k + 1)) ++ x)
    simp only [rdLines, rdLines_lines ls h x k (by omega), rdClaim, rdClaimS, e2, h1, h2, dotZ_of h1, dotZ_of h2]
    rw [List.take_succ_eq_append_getElem hk']
theorem rdO_of (x : NOp) {st : Option (List UInt8)} {t1 t2 t3 t4 t5 t6 t7 t8 t9 t10 t11 t12 t13 t14 t15 t16 t17 tl : List UInt8} (h1 : rdotS st = ((x.dr, x.dn), some t1)) (h2 : rvecS (some t1) 8 = (x.dep, some t2))
    (h3 : rnumS (some t2) 18446744073709551615 = (x.time, some t3)) (h4 : rnumS (some t3) 4294967295 = (x.who, some t4)) (h5 : rdotS (some t4) = ((x.cr, x.cn), some t5)) (h6 : rnumS (some t5) 255 = (x.kind, some t6))
    (h7 : rdotS (some t6) = ((x.er, x.en), some t7)) (h8 : rnumS (some t7) 4294967295 = (x.to, some t8)) (h9 : rnumS (some t8) 255 = (x.roles, some t9)) (h10 : rnumS (some t9) 255 = (x.depth, some t10))
    (h11 : rnumS (some t10) 18446744073709551615 = (x.cap, some t11)) (h12 : rdotS (some t11) = ((x.ar, x.an), some t12)) (h13 : rdotS (some t12) = ((x.vr, x.vn), some t13)) (h14 : rnumS (some t13) 4294967295 = (x.item, some t14))
    (h15 : rnumS (some t14) 4294967295 = (x.qty, some t15)) (h16 : rnumS (some t15) 4294967295 = (x.price, some t16)) (h17 : rnumS (some t16) 16 = (x.lines.length, some t17)) (h18 : rdLines (some t17) x.lines.length = (x.lines, some tl)) :
    rdO st = (x, some tl) := by
  simp only [rdO, dotZ_of h1, h1, vecZ_of h2, h2, h3, h4, dotZ_of h5, h5, h6, dotZ_of h7, h7, h8, h9, h10, h11, dotZ_of h12, h12, dotZ_of h13, h13, h14, h15, h16, h17, h18]
theorem putO_split (x : NOp) (r : List UInt8) : putO x ++ r = dotF x.dr x.dn ++ (vecF x.dep ++ (numF x.time ++ (numF x.who ++ (dotF x.cr x.cn ++ (numF x.kind ++ (dotF x.er x.en ++ (numF x.to ++ (numF x.roles ++ (numF x.depth ++ (numF x.cap ++ (dotF x.ar x.an ++ (dotF x.vr x.vn ++ (numF x.item ++ (numF x.qty ++ (numF x.price ++ (numF x.lines.length ++ (linesF x.lines ++ r))))))))))))))))) := by
  simp only [putO, List.append_assoc]
  simp only [vecF, List.flatMap_cons, List.flatMap_nil, List.append_assoc, List.nil_append, List.append_nil]
/-- an operation's bytes are read back -/
theorem rdO_put (x : NOp) (hx : x.ok) (hl : x.lines.length ≤ 16) (r : List UInt8) : rdO (some (putO x ++ r)) = (x, some r) := by
  rw [putO_split]
  refine rdO_of x (t17 := linesF x.lines ++ r) (rdot_dot _ _ hx.dr hx.dn _) ?_ (rnum_nm _ _ (by have := hx.time; omega) (by have := hx.time; omega) _) (rnum_nm _ _ (by have := hx.who; omega) (by have := hx.who; omega) _) (rdot_dot _ _ hx.cr hx.cn _)
    (rnum_nm _ _ (by have := hx.kind; omega) (by have := hx.kind; omega) _) (rdot_dot _ _ hx.er hx.en _) (rnum_nm _ _ (by have := hx.to; omega) (by have := hx.to; omega) _) (rnum_nm _ _ (by have := hx.roles; omega) (by have := hx.roles; omega) _)
    (rnum_nm _ _ (by have := hx.depth; omega) (by have := hx.depth; omega) _) (rnum_nm _ _ (by have := hx.cap; omega) (by have := hx.cap; omega) _) (rdot_dot _ _ hx.ar hx.an _) (rdot_dot _ _ hx.vr hx.vn _)
    (rnum_nm _ _ (by have := hx.item; omega) (by have := hx.item; omega) _) (rnum_nm _ _ (by have := hx.qty; omega) (by have := hx.qty; omega) _) (rnum_nm _ _ (by have := hx.price; omega) (by have := hx.price; omega) _)
    (rnum_nm _ _ hl (by omega) _) ?_
  · have h := rvec_vec x.dep hx.dep (numF x.time ++ (numF x.who ++ (dotF x.cr x.cn ++ (numF x.kind ++ (dotF x.er x.en ++ (numF x.to ++ (numF x.roles ++ (numF x.depth ++ (numF x.cap ++ (dotF x.ar x.an ++ (dotF x.vr x.vn ++ (numF x.item ++ (numF x.qty ++ (numF x.price ++ (numF x.lines.length ++ (linesF x.lines ++ r)))))))))))))))) 8 (by rw [hx.dep8]; omega)
    rw [h, List.take_of_length_le (by rw [hx.dep8]; omega), List.drop_of_length_le (by rw [hx.dep8]; omega)]
    rfl
  · rw [rdLines_lines x.lines hx.lines r _ (Nat.le_refl _), List.take_length, List.drop_length]
    rfl
theorem putO_inj {x y : NOp} (hx : x.ok) (hy : y.ok) (hxl : x.lines.length ≤ 16) (hyl : y.lines.length ≤ 16) {r s : List UInt8} (h : putO x ++ r = putO y ++ s) : x = y ∧ r = s := by
  have h1 := rdO_put x hx hxl r
  rw [h, rdO_put y hy hyl s] at h1
  injection h1 with h1 h2
  injection h2 with h2
  exact ⟨h1.symm, h2.symm⟩
set_option maxRecDepth 100000 in
/-- what is read is an operation's bytes -/
theorem rdO_some {st : Option (List UInt8)} {l : List UInt8} (h : (rdO st).2 = some l) : st = some (putO (rdO st).1 ++ l) := by
  unfold rdO at h
  simp only at h
  have a17 := lines_some _ _ h
  have a16 := num_some a17
  have a15 := num_some a16
  have a14 := num_some a15
  have a13 := num_some a14
  have a12 := dot_some a13
  have a11 := dot_some a12
  have a10 := num_some a11
  have a9 := num_some a10
  have a8 := num_some a9
  have a7 := num_some a8
  have a6 := dot_some a7
  have a5 := num_some a6
  have a4 := dot_some a5
  have a3 := num_some a4
  have a2 := num_some a3
  have a1 := vec_some a2
  have a0 := dot_some a1
  rw [putO_split]
  refine a0.trans ?_
  unfold rdO
  simp only [rdLines_len]
theorem putO_len (x : NOp) (hx : x.ok) (hl : x.lines.length ≤ 16) : (putO x).length ≤ 900 := by
  have q1 := dotF_len x.dr x.dn hx.dr hx.dn
  have q2 := vecF_le x.dep (fun n hn => by have := hx.dep n hn; omega)
  have q3 := vecF_len2 [x.time, x.who] (by have h1 := hx.time; have h2 := hx.who; simp; omega)
  have q4 := dotF_len x.cr x.cn hx.cr hx.cn
  have q5 := vecF_len2 [x.kind] (by have h1 := hx.kind; simp; omega)
  have q6 := dotF_len x.er x.en hx.er hx.en
  have q7 := vecF_len2 [x.to, x.roles, x.depth, x.cap] (by have h1 := hx.to; have h2 := hx.roles; have h3 := hx.depth; have h4 := hx.cap; simp; omega)
  have q8 := dotF_len x.ar x.an hx.ar hx.an
  have q9 := dotF_len x.vr x.vn hx.vr hx.vn
  have q10 := vecF_len2 [x.item, x.qty, x.price, x.lines.length] (by have h1 := hx.item; have h2 := hx.qty; have h3 := hx.price; simp; omega)
  have q11 := linesF_len x.lines hx.lines
  rw [hx.dep8] at q2
  simp only [List.length_cons, List.length_nil] at q3 q5 q7 q10
  simp only [putO, List.length_append]
  omega
end Go.Proofs.Ytfojjklohbiffaa
