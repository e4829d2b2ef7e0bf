/- The document's readers of texts, dots, vectors. -/
import Derived.Test.YtfojjklohbiffaaMp16
namespace Go.Proofs.Ytfojjklohbiffaa
open Go.RowKit Tran Tran.Wire
set_option linter.unusedVariables false
set_option maxRecDepth 100000 in
theorem rnumS_some {st : Option (List UInt8)} {m x : Nat} {l : List UInt8} (h : rnumS st m = (x, some l)) : st = some (numF x ++ l) ∧ x ≤ m ∧ x < 2 ^ 64 := by
  cases st with
  | none => rw [rnumS_none] at h; cases h
  | some s =>
    cases s with
    | nil => have e : rnumS (some []) m = (0, none) := by simp [rnumS, numS]
             rw [e] at h; cases h
    | cons b r =>
      have hbl := b.toNat_lt
      by_cases hb : b.toNat < 128
      · rw [rnum_lo r m hb] at h
        by_cases hm : b.toNat ≤ m
        · rw [if_pos hm] at h
          injection h with h1 h2
          injection h2 with h2
          subst h1 h2
          refine ⟨?_, hm, by omega⟩
          rw [show numF b.toNat = [b] by unfold numF; rw [if_pos hb]; congr 1; apply UInt8.toNat_inj.1; rw [UInt8.toNat_ofNat']; omega]
          rfl
        · rw [if_neg hm] at h; cases h
      · by_cases hk : 8 < b.toNat - 128 ∨ r.length < b.toNat - 128
        · rw [rnum_short r m hb hk] at h; cases h
        · rw [rnum_hi r m hb (by omega) (by omega)] at h
          by_cases hc : numF (val (r.take (b.toNat - 128))) = b :: r.take (b.toNat - 128) ∧ val (r.take (b.toNat - 128)) ≤ m
          · rw [if_pos hc] at h
            injection h with h1 h2
            injection h2 with h2
            subst h1 h2
            refine ⟨?_, hc.2, take_val r _ (by omega)⟩
            rw [hc.1, List.cons_append, List.take_append_drop]
          · rw [if_neg hc] at h; cases h
theorem rnumS_left {st : Option (List UInt8)} {m : Nat} {l : List UInt8} (h : (rnumS st m).2 = some l) : ∃ s, st = some s ∧ l.length ≤ s.length := by
  have h2 := rnumS_some (st := st) (m := m) (x := (rnumS st m).1) (l := l) (by rw [← h])
  exact ⟨_, h2.1, by simp⟩
theorem cutk_to (kd : IntKind) (l : List UInt8) (k : Nat) (hk : k ≤ l.length) (W : World) : (Instr.slice 9 (.string ⟨l.toArray⟩) none (some (.int kd k)) none).run Try.prog W = .ok (.string ⟨(l.take k).toArray⟩) W := by
  have h := run_slice_string_h (P := Try.prog) W 9 ⟨l.toArray⟩ Try.underlying9 kd (k : Int) (by omega) (by simp [ByteArray.size]; omega)
  rw [Int.toNat_natCast, str_take] at h
  exact h
theorem cutk_off (kd : IntKind) (l : List UInt8) (k : Nat) (hk : k ≤ l.length) (W : World) : (Instr.slice 9 (.string ⟨l.toArray⟩) (some (.int kd k)) none none).run Try.prog W = .ok (.string ⟨(l.drop k).toArray⟩) W := by
  have h := run_slice_string_l (P := Try.prog) W 9 ⟨l.toArray⟩ Try.underlying9 kd (k : Int) (by omega) (by simp [ByteArray.size]; omega)
  rw [Int.toNat_natCast, str_cut, show (⟨l.toArray⟩ : ByteArray).size = l.length from rfl, List.take_length] at h
  exact h
theorem rowC_form (st : Option (List UInt8)) : ∃ s f, rowC st = #[.string s, .bool f] := by cases st <;> exact ⟨_, _, rfl⟩
/-- three blocks in a reader's world -/
theorem keep_new {w w1 : World} {g : Nat} {A : Array Value} {t : TypeId} (k : Blk w g t A) (hb : Below w.heap.size w w1) (o : Obj) : Blk (w1.alloc o) g t A := (k.below hb k.lt).alloc o
set_option maxRecDepth 100000 in
set_option maxHeartbeats 4000000 in
theorem ttaketext_any (st : Option (List UInt8)) (hs : ∀ l, st = some l → l.length ≤ 140737488355328) (most : Int) (hm : most ≤ 140737488355328) (hm0 : -140737488355328 ≤ most) (w : World) :
    Calls Try.prog 111 #[.agg (rowC st), .int .i64 most] w (Took w (.string ⟨(rtextS st most).1.toArray⟩) (rtextS st most).2) := by
  obtain ⟨k0, k1, b0⟩ := two_blocks w (rowC st) 89
  have N := tknum_any st hs most.toNat
  have HT := Lib.hid (show rtextS st most = takeS (rnumS st most.toNat).2 (rnumS st most.toNat).1 from rfl)
  have HL := Lib.hid (fun l (h : (rnumS st most.toNat).2 = some l) => (by obtain ⟨s', h1, h2⟩ := rnumS_left h; exact Nat.le_trans h2 (hs s' h1) : l.length ≤ 140737488355328))
  generalize rnumS st most.toNat = q at *
  obtain ⟨x, s1⟩ := q
  have hmx : (most < 0 ∧ most.toNat = 0) ∨ (most = ((most.toNat : Nat) : Int)) := by omega
  have hb : most.toNat ≤ 140737488355328 := by omega
  generalize most.toNat = m at *
  obtain ⟨s, f, hsf⟩ := rowC_form st
  rw [hsf] at N k0 k1 b0 ⊢
  clear hs hm hm0 hsf
  have K1 := Lib.hid k1
  have B0 := Lib.hid b0
  clear k0 k1 b0
  generalize rtextS st most = rt at *
  rcases hmx with ⟨hneg, rfl⟩ | rfl
  case' inl => rw [show ((0 : Nat) : Int) = 0 from rfl] at N
  all_goals
    replace N := Lib.hid N
    go_enter Try.func111, Try.ntmps111
    go_wp2_with fail
    refine (N.out _).mono ?_
    rintro e w1 ⟨rfl, b1⟩
    cases s1 with
    | none =>
      have h1 : rt = ([], none) := HT.out
      subst h1
      have k1 := K1.out.below b1 K1.out.lt
      have b2 := (B0.out).trans (b1.mono B0.out.size)
      have d2 := (Below.refl w1.heap.size w1).alloc (Nat.le_refl _) (.cells #[.string ⟨#[]⟩, .bool false] 89)
      have k1 := k1.below d2 k1.lt
      have b2 := b2.trans (d2.mono b2.size)
      dsimp only [rowC]
      go_wp2_with fail
      refine (tfailed_any _).mono ?_
      rintro e w11 ⟨rfl, b11⟩
      have k2 := k1.below b11 k1.lt
      have b3 := b2.trans (b11.mono b2.size)
      clear k1 b2 b11 d2 b1
      go_wp2_with (refine wpList_store_row rfl 89 _ _ rfl (w.heap.size + 1) (rowC none) rfl rfl 89 (rowC none) k2 size89 rfl (rowC_one none) ?_)
      refine bodyPost_ret (results_tmp_row rfl _ _ (w.heap.size + 1) 89 (rowC none) (0, 0) _ _ rfl rfl (k2.row _) Try.underlying89 rfl size89) rfl ?_
      exact ⟨rfl, below_setRow b3 (by omega) _⟩
    | some l =>
      have hl := HL.out l rfl
      have k1 := K1.out.below b1 K1.out.lt
      have b2 := (B0.out).trans (b1.mono B0.out.size)
      have d2 := (Below.refl w1.heap.size w1).alloc (Nat.le_refl _) (.cells #[.string ⟨l.toArray⟩, .bool true] 89)
      have k1 := k1.below d2 k1.lt
      have b2 := b2.trans (d2.mono b2.size)
      have hwl : IntKind.u64.wrap (l.length : Nat) = (l.length : Nat) := IntWalk.u64_in _ (by omega)
      dsimp only [rowC]
      by_cases hx : x ≤ l.length
      · have h1 : rt = (l.take x, some (l.drop x)) := HT.out.trans (by unfold takeS; exact if_pos hx)
        subst h1
        have hd : decide (l.length < x) = false := decide_eq_false (by omega)
        have hct := cutk_to .u64 l x hx
        have hcd := cutk_off .u64 l x hx
        have hex0 : (⟨l.toArray⟩ : ByteArray).extract 0 x = ⟨(l.take x).toArray⟩ := str_take l x
        have hex : (⟨l.toArray⟩ : ByteArray).extract x l.length = ⟨(l.drop x).toArray⟩ := (str_cut l x l.length).trans (by simp)
        go_wp2_with fail
        obtain ⟨w3, hw3⟩ : ∃ w3, w3 = w1.alloc (.cells #[.string ⟨l.toArray⟩, .bool true] 89) := ⟨_, rfl⟩
        have hy0 := (Blk.new w1 89 #[.string ⟨l.toArray⟩, .bool true]).cell 0
        rw [← hw3] at k1 b2 hy0 ⊢
        clear hw3 d2 HT
        go_still_tail 10, (by kernel_rfl)
        change wpList _ _ _ _ _ w3.drew
        have k2 : Blk w3.drew (w.heap.size + 1) 89 (rowC none) := k1
        have b3 : Below w.heap.size w w3.drew := below_drew b2
        generalize w3.drew = w11 at *
        go_wp2_with (refine wpList_store_row rfl 89 _ _ rfl (w.heap.size + 1) (rowC (some (l.drop x))) rfl rfl 89 (rowC none) k2 size89 rfl (rowC_one (some (l.drop x))) ?_)
        refine bodyPost_ret (results_tmp_row rfl _ _ (w.heap.size + 1) 89 (rowC (some (l.drop x))) (0, 0) _ _ rfl rfl (k2.row _) Try.underlying89 rfl size89) rfl ?_
        exact ⟨rfl, below_setRow b3 (by omega) _⟩
      · have h1 : rt = ([], none) := HT.out.trans (by unfold takeS; exact if_neg hx)
        subst h1
        have hd : decide (l.length < x) = true := decide_eq_true (by omega)
        go_wp2_with fail
        refine (tfailed_any _).mono ?_
        rintro e w11 ⟨rfl, b11⟩
        have k2 := k1.below b11 k1.lt
        have b3 := b2.trans (b11.mono b2.size)
        clear k1 b2 b11 d2 b1
        go_wp2_with (refine wpList_store_row rfl 89 _ _ rfl (w.heap.size + 1) (rowC none) rfl rfl 89 (rowC none) k2 size89 rfl (rowC_one none) ?_)
        refine bodyPost_ret (results_tmp_row rfl _ _ (w.heap.size + 1) 89 (rowC none) (0, 0) _ _ rfl rfl (k2.row _) Try.underlying89 rfl size89) rfl ?_
        exact ⟨rfl, below_setRow b3 (by omega) _⟩
end Go.Proofs.Ytfojjklohbiffaa
