/- Records: the document's readers of what stands first. -/
import Derived.Test.YtfojjklohbiffaaRecP
import Derived.Test.YtfojjklohbiffaaWireL
namespace Go.Proofs.Ytfojjklohbiffaa
open Go.RowKit Tran Tran.Wire
set_option linter.unusedVariables false
theorem prefix_take (a b : List UInt8) (h : a.length ≤ b.length) : decide (a <+: b) = (b.take a.length == a) := by
  rw [Bool.eq_iff_iff, decide_eq_true_eq, beq_iff_eq]
  constructor
  · rintro ⟨z, rfl⟩; simp
  · intro e; rw [← e]; exact List.take_prefix _ _
set_option maxRecDepth 100000 in
theorem begins_any (a b : List UInt8) (ha : a.length ≤ 140737488355328) (hb : b.length ≤ 140737488355328) (w : World) :
    Calls Try.prog 141 #[.string ⟨a.toArray⟩, .string ⟨b.toArray⟩] w fun e w' => e = .returned (.bool (decide (a <+: b))) ∧ w = w' := by
  by_cases h : a.length ≤ b.length
  · have HP := Lib.hid (prefix_take a b h)
    have hct := cut_to b a.length h
    have hex : (⟨b.toArray⟩ : ByteArray).extract 0 a.length = ⟨(b.take a.length).toArray⟩ := str_take b _
    have hd : decide (a.length ≤ b.length) = true := decide_eq_true h
    generalize hbt : b.take a.length = bt at *
    clear hbt
    go_enter Try.func141, Try.ntmps141
    go_wp2_with fail
    go_ret
    rw [HP.out]
    exact ⟨rfl, rfl⟩
  · have hd : decide (a.length ≤ b.length) = false := decide_eq_false h
    have HP := Lib.hid (show decide (a <+: b) = false from decide_eq_false (fun hp => h hp.length_le))
    clear h
    go_enter Try.func141, Try.ntmps141
    go_wp2_with fail
    go_ret
    rw [HP.out]
    exact ⟨rfl, rfl⟩
set_option maxRecDepth 100000 in
set_option maxHeartbeats 1000000 in
theorem tlength_any (s : List UInt8) (hs : s.length ≤ 140737488355328) (w : World) :
    Calls Try.prog 140 #[.string ⟨s.toArray⟩] w fun e w' => e = .returned (.bool (docLen s)) ∧ w = w' := by
  cases s with
  | nil =>
    go_enter Try.func140, Try.ntmps140
    go_wp2_with fail
    go_ret
    exact ⟨rfl, rfl⟩
  | cons b r =>
    have hi0 : ∀ h, (⟨(b :: r).toArray⟩ : ByteArray)[0]'h = b := fun _ => rfl
    have hl : r.length ≤ 140737488355328 := by simp only [List.length_cons] at hs; omega
    have hbl := b.toNat_lt
    clear hs
    by_cases h1 : b.toNat < 128
    · have HF := Lib.hid (show docLen (b :: r) = true by show docL b r = true; unfold docL; rw [if_pos h1])
      go_enter Try.func140, Try.ntmps140
      go_wp2_with fail
      go_ret
      rw [HF.out]
      exact ⟨rfl, rfl⟩
    · have h1' : ¬ (b.toNat : Int) < 128 := by omega
      by_cases h2 : b.toNat = 129
      · have h2' : (b.toNat : Int) = 129 := by omega
        cases r with
        | nil =>
          have HF := Lib.hid (show docLen [b] = true by show docL b [] = true; unfold docL; rw [if_neg h1, if_pos h2]; rfl)
          clear h2 h1
          go_enter Try.func140, Try.ntmps140
          go_wp2_with fail
          go_ret
          rw [HF.out]
          exact ⟨rfl, rfl⟩
        | cons c r =>
          have hi1 : ∀ h, (⟨(b :: c :: r).toArray⟩ : ByteArray)[1]'h = c := fun _ => rfl
          have HF := Lib.hid (show docLen (b :: c :: r) = decide ((128 : Int) ≤ (c.toNat : Nat)) by
            show docL b (c :: r) = _; unfold docL; rw [if_neg h1, if_pos h2]; show decide (128 ≤ c.toNat) = _; rw [Bool.eq_iff_iff, decide_eq_true_iff, decide_eq_true_iff]; omega)
          clear h2 h1
          go_enter Try.func140, Try.ntmps140
          go_wp2_with fail
          go_ret
          rw [HF.out]
          exact ⟨rfl, rfl⟩
      · have h2' : ((b.toNat : Int) == 129) = false := by rw [beq_eq_false_iff_ne]; omega
        by_cases h3 : b.toNat = 130
        · have h3' : (b.toNat : Int) = 130 := by omega
          cases r with
          | nil =>
            have HF := Lib.hid (show docLen [b] = true by show docL b [] = true; unfold docL; rw [if_neg h1, if_neg h2, if_pos h3]; rfl)
            clear h2 h1 h3
            go_enter Try.func140, Try.ntmps140
            go_wp2_with fail
            go_ret
            rw [HF.out]
            exact ⟨rfl, rfl⟩
          | cons c r =>
            have hi1 : ∀ h, (⟨(b :: c :: r).toArray⟩ : ByteArray)[1]'h = c := fun _ => rfl
            have HF := Lib.hid (show docLen (b :: c :: r) = decide ((1 : Int) ≤ (c.toNat : Nat)) by
              show docL b (c :: r) = _; unfold docL; rw [if_neg h1, if_neg h2, if_pos h3]; show decide (1 ≤ c.toNat) = _; rw [Bool.eq_iff_iff, decide_eq_true_iff, decide_eq_true_iff]; omega)
            clear h2 h1 h3
            go_enter Try.func140, Try.ntmps140
            go_wp2_with fail
            go_ret
            rw [HF.out]
            exact ⟨rfl, rfl⟩
        · have h3' : ((b.toNat : Int) == 130) = false := by rw [beq_eq_false_iff_ne]; omega
          have HF := Lib.hid (show docLen (b :: r) = decide ((b :: r).take 4 <+: [131, 1, 0, 0]) by
            show docL b r = _; unfold docL; rw [if_neg h1, if_neg h2, if_neg h3])
          have B := Lib.hid (begins_any ((b :: r).take 4) [131, 1, 0, 0] (by rw [List.length_take]; omega) (by simp))
          clear h2 h1 h3
          generalize decide ((b :: r).take 4 <+: [131, 1, 0, 0]) = q at *
          by_cases h4 : r.length + 1 ≤ 4
          · have hmin : min (((r.length : Nat) : Int) + 1) 4 = (r.length : Nat) + 1 := by omega
            have hct : ∀ W, (Instr.slice 9 (.string ⟨(b :: r).toArray⟩) none (some (.int .i64 ((r.length : Nat) + 1))) none).run Try.prog W = .ok (.string ⟨((b :: r).take 4).toArray⟩) W := fun W => by
              have h := cut_to (b :: r) (r.length + 1) (by simp) W
              rw [List.take_of_length_le (by simp)] at h
              rw [List.take_of_length_le (by simp; omega), show ((r.length : Int) + 1) = ((r.length + 1 : Nat) : Int) by omega]; exact h
            go_enter Try.func140, Try.ntmps140
            go_wp2_with fail
            refine (B.out _).mono ?_
            rintro e w' ⟨rfl, rfl⟩
            go_wp2_with fail
            go_ret
            rw [HF.out]
            exact ⟨rfl, rfl⟩
          · have hmin : min (((r.length : Nat) : Int) + 1) 4 = 4 := by omega
            have hct := cut_to (b :: r) 4 (by simp; omega)
            rw [show ((4 : Nat) : Int) = 4 from rfl] at hct
            go_enter Try.func140, Try.ntmps140
            go_wp2_with fail
            refine (B.out _).mono ?_
            rintro e w' ⟨rfl, rfl⟩
            go_wp2_with fail
            go_ret
            rw [HF.out]
            exact ⟨rfl, rfl⟩
theorem took_blk (w1 : World) (st : Option (List UInt8)) : Blk ((w1.alloc (.cells #[.string ⟨#[]⟩, .bool false] 89)).setRow w1.heap.size (rowC st)) w1.heap.size 89 (rowC st) :=
  (Blk.new w1 89 (rowC none)).row _
theorem took_below {B : Nat} {w w1 : World} (st : Option (List UInt8)) (b1 : Below B w w1) (hB : B ≤ w1.heap.size) : Below B w ((w1.alloc (.cells #[.string ⟨#[]⟩, .bool false] 89)).setRow w1.heap.size (rowC st)) :=
  below_setRow (b1.alloc hB _) hB _
theorem rest_len {s rest : List UInt8} {n m : Nat} (h : rnumS (some s) m = (n, some rest)) : rest.length ≤ s.length ∧ s = numF n ++ rest ∧ n ≤ m := by
  obtain ⟨h1, h2, _⟩ := rnumS_some h
  injection h1 with h1
  exact ⟨by rw [h1, List.length_append]; omega, h1, h2⟩
set_option maxRecDepth 100000 in
set_option maxHeartbeats 4000000 in
theorem tfirst_any (s : List UInt8) (hs : s.length ≤ 1000000) (w : World) :
    Calls Try.prog 123 #[.string ⟨s.toArray⟩] w fun e w' => e = .returned (.tuple #[.string ⟨(docFirst s).1.toArray⟩, .int .i64 ((docFirst s).2 : Nat)]) ∧ Below w.heap.size w w' := by
  have N := tknum_any (some s) (fun l h => by cases h; omega) 65536
  rw [show ((65536 : Nat) : Int) = 65536 from rfl] at N
  have HD : docFirst s = match rnumS (some s) 65536 with
    | (_, none) => ([], 0)
    | (n, some rest) => if rest.length < n + 4 then ([], 0) else if recF (rest.take n) <+: s then (rest.take n, (recF (rest.take n)).length) else ([], 0) := rfl
  have hq2 : ∀ n rest, rnumS (some s) 65536 = (n, some rest) → rest.length ≤ s.length ∧ s = numF n ++ rest ∧ n ≤ 65536 := fun n rest h => rest_len h
  generalize rnumS (some s) 65536 = q at *
  obtain ⟨n, _ | rest⟩ := q
  · have HD2 := Lib.hid (show docFirst s = ([], 0) from HD)
    replace N := Lib.hid N
    clear hq2 HD
    go_enter Try.func123, Try.ntmps123
    go_wp2_with fail
    refine (N.out _).mono ?_
    rintro e w1 ⟨rfl, b1⟩
    have k1 := Blk.new w1 89 (rowC none)
    have k2 := took_blk w1 none
    have b2 := took_below none b1 b1.size
    have c1 : _ = some (Value.bool false) := k2.cell 1
    replace k2 := Lib.hid k2
    go_wp2_with (refine wpList_store_row rfl 89 _ _ rfl w1.heap.size (rowC none) rfl rfl 89 (rowC none) k1 size89 rfl (rowC_one none) ?_)
    go_ret2
    rw [HD2.out]
    exact ⟨rfl, b2⟩
  · obtain ⟨hr1, hr2, hr3⟩ := hq2 n rest rfl
    have HD2 : docFirst s = if rest.length < n + 4 then ([], 0) else if recF (rest.take n) <+: s then (rest.take n, (recF (rest.take n)).length) else ([], 0) := HD
    replace N := Lib.hid N
    have HR := Lib.hid hr2
    clear hq2 HD hr2
    have hwl : IntKind.u64.wrap (rest.length : Nat) = (rest.length : Nat) := IntWalk.u64_in _ (by omega)
    have hwn : IntKind.u64.wrap ((n : Nat) + 4) = (n : Nat) + 4 := IntWalk.u64_in _ (by omega)
    by_cases c1 : rest.length < n + 4
    · have HD3 := Lib.hid (HD2.trans (if_pos c1))
      have hd : decide ((rest.length : Int) < (n : Nat) + 4) = true := decide_eq_true (by omega)
      clear HD2 c1
      go_enter Try.func123, Try.ntmps123
      go_wp2_with fail
      refine (N.out _).mono ?_
      rintro e w1 ⟨rfl, b1⟩
      have k1 := Blk.new w1 89 (rowC none)
      have k2 := took_blk w1 (some rest)
      have b2 := took_below (some rest) b1 b1.size
      have c1 : _ = some (Value.bool true) := k2.cell 1
      have c0 : _ = some (Value.string ⟨rest.toArray⟩) := k2.cell 0
      replace k2 := Lib.hid k2
      go_wp2_with (refine wpList_store_row rfl 89 _ _ rfl w1.heap.size (rowC (some rest)) rfl rfl 89 (rowC none) k1 size89 rfl (rowC_one (some rest)) ?_)
      go_ret2
      rw [HD3.out]
      exact ⟨rfl, b2⟩
    · have hd : decide ((rest.length : Int) < (n : Nat) + 4) = false := decide_eq_false (by omega)
      have HD3 := HD2.trans (if_neg c1)
      have hct := cutk_to .u64 rest n (by omega)
      have htl : (rest.take n).length = n := by rw [List.length_take]; omega
      have O := Lib.hid (record_any (rest.take n) (by omega))
      have hlen := recF_len2 (rest.take n)
      rw [htl] at hlen
      have hsl : s.length = (numF n).length + rest.length := by rw [HR.out, List.length_append]
      have hle : (recF (rest.take n)).length ≤ s.length := by omega
      have HP := prefix_take (recF (rest.take n)) s hle
      have hct2 := cut_to s (recF (rest.take n)).length hle
      have hle2 : (recF (rest.take n)).length ≤ 1000000 := by omega
      clear HD2 c1 htl hlen hsl
      by_cases c2 : recF (rest.take n) <+: s
      · have HD4 := Lib.hid (HD3.trans (if_pos c2))
        rw [decide_eq_true c2] at HP
        have hne : (s.take (recF (rest.take n)).length == recF (rest.take n)) = true := HP.symm
        clear HD3 c2 HP
        generalize recF (rest.take n) = x at *
        generalize s.take x.length = sx at *
        generalize rest.take n = t at *
        go_enter Try.func123, Try.ntmps123
        go_wp2_with fail
        refine (N.out _).mono ?_
        rintro e w1 ⟨rfl, b1⟩
        have k1 := Blk.new w1 89 (rowC none)
        have k2 := took_blk w1 (some rest)
        have b2 := took_below (some rest) b1 b1.size
        have c1 : _ = some (Value.bool true) := k2.cell 1
        have c0 : _ = some (Value.string ⟨rest.toArray⟩) := k2.cell 0
        replace k2 := Lib.hid k2
        go_wp2_with (refine wpList_store_row rfl 89 _ _ rfl w1.heap.size (rowC (some rest)) rfl rfl 89 (rowC none) k1 size89 rfl (rowC_one (some rest)) ?_)
        refine (O.out _).mono ?_
        rintro e w3 ⟨rfl, d3⟩
        have b3 := b2.trans (d3.mono b2.size)
        go_wp2_with fail
        go_ret2
        rw [HD4.out]
        exact ⟨rfl, b3⟩
      · have HD4 := Lib.hid (HD3.trans (if_neg c2))
        rw [decide_eq_false c2] at HP
        have hne : (s.take (recF (rest.take n)).length == recF (rest.take n)) = false := HP.symm
        clear HD3 c2 HP
        generalize recF (rest.take n) = x at *
        generalize s.take x.length = sx at *
        generalize rest.take n = t at *
        go_enter Try.func123, Try.ntmps123
        go_wp2_with fail
        refine (N.out _).mono ?_
        rintro e w1 ⟨rfl, b1⟩
        have k1 := Blk.new w1 89 (rowC none)
        have k2 := took_blk w1 (some rest)
        have b2 := took_below (some rest) b1 b1.size
        have c1 : _ = some (Value.bool true) := k2.cell 1
        have c0 : _ = some (Value.string ⟨rest.toArray⟩) := k2.cell 0
        replace k2 := Lib.hid k2
        go_wp2_with (refine wpList_store_row rfl 89 _ _ rfl w1.heap.size (rowC (some rest)) rfl rfl 89 (rowC none) k1 size89 rfl (rowC_one (some rest)) ?_)
        refine (O.out _).mono ?_
        rintro e w3 ⟨rfl, d3⟩
        have b3 := b2.trans (d3.mono b2.size)
        go_wp2_with fail
        go_ret2
        rw [HD4.out]
        exact ⟨rfl, b3⟩
end Go.Proofs.Ytfojjklohbiffaa
