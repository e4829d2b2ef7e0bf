/- Records: the document's Part. -/
import Derived.Test.YtfojjklohbiffaaRecR
namespace Go.Proofs.Ytfojjklohbiffaa
open Go.RowKit Tran Tran.Wire
set_option linter.unusedVariables false
set_option maxRecDepth 100000 in
set_option maxHeartbeats 4000000 in
theorem tpart_any (s : List UInt8) (hs : s.length ≤ 1000000) (w : World) :
    Calls Try.prog 124 #[.string ⟨s.toArray⟩] w fun e w' => e = .returned (.bool (docPart s)) ∧ Below w.heap.size w w' := by
  have L := tlength_any s (by omega)
  have N := tknum_any (some s) (fun l h => by cases h; omega) 65536
  rw [show ((65536 : Nat) : Int) = 65536 from rfl] at N
  have HD : docPart s = (docLen s && match rnumS (some s) 65536 with
  | (_, none) => true
  | (n, some rest) => if n + 4 ≤ rest.length then false else if rest.length ≤ n then true else decide (s <+: recF (rest.take n))) := rfl
  have hq2 : ∀ n rest, rnumS (some s) 65536 = (n, some rest) → rest.length ≤ s.length ∧ s = numF n ++ rest ∧ n ≤ 65536 := fun n rest h => rest_len h
  generalize docLen s = dl at *
  generalize rnumS (some s) 65536 = q at *
  cases dl with
  | false =>
    have HD2 := Lib.hid (show docPart s = false from HD)
    replace L := Lib.hid L
    clear N hq2 HD
    go_enter Try.func124, Try.ntmps124
    go_wp2_with fail
    refine (L.out _).mono ?_
    rintro e w1 ⟨rfl, rfl⟩
    go_wp2_with fail
    go_ret
    rw [HD2.out]
    exact ⟨rfl, Below.refl _ _⟩
  | true =>
  rw [Bool.true_and] at HD
  replace L := Lib.hid L
  obtain ⟨n, _ | rest⟩ := q
  · have HD2 := Lib.hid (show docPart s = true from HD)
    replace N := Lib.hid N
    clear hq2 HD
    go_enter Try.func124, Try.ntmps124
    go_wp2_with fail
    refine (L.out _).mono ?_
    rintro e w1 ⟨rfl, rfl⟩
    go_wp2_with fail
    refine (N.out _).mono ?_
    rintro e w1 ⟨rfl, b1⟩
    have k1 := Blk.new w1 89 (rowC none)
    have k2 := took_blk w1 none
    have b2 := took_below none b1 b1.size
    have c1 : _ = some (Value.bool false) := k2.cell 1
    replace k2 := Lib.hid k2
    go_wp2_with (refine wpList_store_row rfl 89 _ _ rfl w1.heap.size (rowC none) rfl rfl 89 (rowC none) k1 size89 rfl (rowC_one none) ?_)
    go_ret
    rw [HD2.out]
    exact ⟨rfl, b2⟩
  · obtain ⟨hr1, hr2, hr3⟩ := hq2 n rest rfl
    have HD2 : docPart s = if n + 4 ≤ rest.length then false else if rest.length ≤ n then true else decide (s <+: recF (rest.take n)) := HD
    replace N := Lib.hid N
    clear hq2 HD hr2
    have hwl : IntKind.u64.wrap (rest.length : Nat) = (rest.length : Nat) := IntWalk.u64_in _ (by omega)
    have hwn : IntKind.u64.wrap ((n : Nat) + 4) = (n : Nat) + 4 := IntWalk.u64_in _ (by omega)
    by_cases c1 : n + 4 ≤ rest.length
    · have HD3 := Lib.hid (HD2.trans (if_pos c1))
      have hd : decide ((n : Nat) + 4 ≤ (rest.length : Int)) = true := decide_eq_true (by omega)
      clear HD2 c1
      go_enter Try.func124, Try.ntmps124
      go_wp2_with fail
      refine (L.out _).mono ?_
      rintro e w1 ⟨rfl, rfl⟩
      go_wp2_with fail
      refine (N.out _).mono ?_
      rintro e w1 ⟨rfl, b1⟩
      have k1 := Blk.new w1 89 (rowC none)
      have k2 := took_blk w1 (some rest)
      have b2 := took_below (some rest) b1 b1.size
      have c1 : _ = some (Value.bool true) := k2.cell 1
      have c0 : _ = some (Value.string ⟨rest.toArray⟩) := k2.cell 0
      replace k2 := Lib.hid k2
      go_wp2_with (refine wpList_store_row rfl 89 _ _ rfl w1.heap.size (rowC (some rest)) rfl rfl 89 (rowC none) k1 size89 rfl (rowC_one (some rest)) ?_)
      go_ret
      rw [HD3.out]
      exact ⟨rfl, b2⟩
    · have hd : decide ((n : Nat) + 4 ≤ (rest.length : Int)) = false := decide_eq_false (by omega)
      have HD3 := HD2.trans (if_neg c1)
      by_cases c2 : rest.length ≤ n
      · have HD4 := Lib.hid (HD3.trans (if_pos c2))
        have hd2 : decide (rest.length ≤ n) = true := decide_eq_true (by omega)
        clear HD2 HD3 c1 c2
        go_enter Try.func124, Try.ntmps124
        go_wp2_with fail
        refine (L.out _).mono ?_
        rintro e w1 ⟨rfl, rfl⟩
        go_wp2_with fail
        refine (N.out _).mono ?_
        rintro e w1 ⟨rfl, b1⟩
        have k1 := Blk.new w1 89 (rowC none)
        have k2 := took_blk w1 (some rest)
        have b2 := took_below (some rest) b1 b1.size
        have c1 : _ = some (Value.bool true) := k2.cell 1
        have c0 : _ = some (Value.string ⟨rest.toArray⟩) := k2.cell 0
        replace k2 := Lib.hid k2
        go_wp2_with (refine wpList_store_row rfl 89 _ _ rfl w1.heap.size (rowC (some rest)) rfl rfl 89 (rowC none) k1 size89 rfl (rowC_one (some rest)) ?_)
        go_ret
        rw [HD4.out]
        exact ⟨rfl, b2⟩
      · have HD4 := Lib.hid (HD3.trans (if_neg c2))
        have hd2 : decide (rest.length ≤ n) = false := decide_eq_false (by omega)
        have hct := cutk_to .u64 rest n (by omega)
        have htl : (rest.take n).length = n := by rw [List.length_take]; omega
        have O := Lib.hid (record_any (rest.take n) (by omega))
        have hrl := (recF_len (rest.take n) (by omega)).2
        have B := Lib.hid (begins_any s (recF (rest.take n)) (by omega) (by omega))
        clear HD2 HD3 c1 c2 htl hrl
        generalize recF (rest.take n) = x at *
        generalize rest.take n = t at *
        generalize decide (s <+: x) = bb at *
        go_enter Try.func124, Try.ntmps124
        go_wp2_with fail
        refine (L.out _).mono ?_
        rintro e w1 ⟨rfl, rfl⟩
        go_wp2_with fail
        refine (N.out _).mono ?_
        rintro e w1 ⟨rfl, b1⟩
        have k1 := Blk.new w1 89 (rowC none)
        have k2 := took_blk w1 (some rest)
        have b2 := took_below (some rest) b1 b1.size
        have c1 : _ = some (Value.bool true) := k2.cell 1
        have c0 : _ = some (Value.string ⟨rest.toArray⟩) := k2.cell 0
        replace k2 := Lib.hid k2
        go_wp2_with (refine wpList_store_row rfl 89 _ _ rfl w1.heap.size (rowC (some rest)) rfl rfl 89 (rowC none) k1 size89 rfl (rowC_one (some rest)) ?_)
        refine (O.out _).mono ?_
        rintro e w3 ⟨rfl, d3⟩
        have b3 := b2.trans (d3.mono b2.size)
        go_wp2_with fail
        refine (B.out _).mono ?_
        rintro e w4 ⟨rfl, rfl⟩
        go_wp2_with fail
        go_ret
        rw [HD4.out]
        exact ⟨rfl, b3⟩
end Go.Proofs.Ytfojjklohbiffaa
