/- Records: the record that stands first. -/
import Derived.Test.YtfojjklohbiffaaRecC
namespace Go.Proofs.Ytfojjklohbiffaa
open Go.RowKit Tran Tran.Wire
set_option linter.unusedVariables false
theorem hasPrefix_iff (l p : List UInt8) : Lib.hasPrefix l p = decide (p <+: l) := by
  unfold Lib.hasPrefix
  rw [Bool.eq_iff_iff]
  simp [List.isPrefixOf_iff_prefix]
/-- what a whole length tells: text, bytes, state -/
def firstN (s : List UInt8) (n own : Nat) : List UInt8 × Nat × Nat :=
  if ((s.drop own).take n).length < n then ([], 0, 1)
  else if recF ((s.drop own).take n) <+: s then ((s.drop own).take n, (recF ((s.drop own).take n)).length, 0)
  else if s.length < (recF ((s.drop own).take n)).length ∧ s <+: recF ((s.drop own).take n) then ([], 0, 1)
  else ([], 0, 2)
/-- the record that stands first: its text, its bytes, the state -/
def firstF (b : UInt8) (r : List UInt8) : List UInt8 × Nat × Nat :=
  if (lengthF b r).2.2 ≠ 0 then ([], 0, (lengthF b r).2.2) else firstN (b :: r) (lengthF b r).1 (lengthF b r).2.1
theorem lengthF_ok {b : UInt8} {r : List UInt8} (h : (lengthF b r).2.2 = 0) : (lengthF b r).1 ≤ 65536 ∧ 1 ≤ (lengthF b r).2.1 ∧ (lengthF b r).2.1 ≤ r.length + 1 := by
  have hbl := b.toNat_lt
  unfold lengthF at h ⊢
  split
  · exact ⟨by simp only; omega, by simp, by simp⟩
  · rename_i h1
    rw [if_neg h1] at h
    split
    · rename_i h2; rw [if_pos h2] at h; cases h
    · rename_i h2
      rw [if_neg h2] at h
      split
      · rename_i h3; rw [if_pos h3] at h; cases h
      · rename_i h3
        simp only
        omega
theorem lengthF_st (b : UInt8) (r : List UInt8) : (lengthF b r).2.2 ≤ 2 := by
  unfold lengthF
  split
  · simp
  · split
    · simp
    · split <;> simp
def Firsts (w : World) (q : List UInt8 × Nat × Nat) (e : Ending) (w' : World) : Prop := e = .returned (.tuple #[.string ⟨q.1.toArray⟩, .int .i64 (q.2.1 : Nat), .int .u8 (q.2.2 : Nat)]) ∧ Below w.heap.size w w'
theorem cut_mid (l : List UInt8) (a m : Nat) (ha : a ≤ m) (hm : m ≤ l.length) (W : World) : (Instr.slice 9 (.string ⟨l.toArray⟩) (some (.int .i64 a)) (some (.int .i64 m)) none).run Try.prog W = .ok (.string ⟨((l.take m).drop a).toArray⟩) W := by
  have h := run_slice_string (P := Try.prog) W 9 ⟨l.toArray⟩ .i64 .i64 (a : Int) (m : Int) Try.underlying9 (by omega) (by omega) (by simp [ByteArray.size]; omega)
  rw [Int.toNat_natCast, Int.toNat_natCast, str_cut] at h
  exact h
set_option maxRecDepth 100000 in
set_option maxHeartbeats 8000000 in
theorem first_any (b : UInt8) (r : List UInt8) (hl : r.length ≤ 1000000) (w : World) : Calls Try.prog 139 #[.string ⟨(b :: r).toArray⟩] w (Firsts w (firstF b r)) := by
  have L := length_any b r (by omega) w
  have HOK := lengthF_ok (b := b) (r := r)
  have HST := lengthF_st b r
  have HF := Lib.hid (show firstF b r = if (lengthF b r).2.2 ≠ 0 then ([], 0, (lengthF b r).2.2) else firstN (b :: r) (lengthF b r).1 (lengthF b r).2.1 from rfl)
  generalize lengthF b r = q at *
  obtain ⟨n, own, st⟩ := q
  simp only at HOK HST HF
  unfold Lens at L
  simp only at L
  by_cases hst : st = 0
  · obtain ⟨hn, ho1, ho2⟩ := HOK hst
    subst hst
    rw [show ((0 : Nat) : Int) = 0 from rfl] at L
    replace L := Lib.hid L
    have HF2 := Lib.hid (HF.out.trans (if_neg (by simp)))
    clear HF HOK HST
    obtain ⟨s, hs⟩ : ∃ s, s = b :: r := ⟨_, rfl⟩
    have hsl : s.length = r.length + 1 := by rw [hs]; simp
    rw [← hs] at HF2
    obtain ⟨t, ht⟩ : ∃ t, t = (s.drop own).take n := ⟨_, rfl⟩
    have htl : t.length = min n (s.length - own) := by rw [ht, List.length_take, List.length_drop]
    have O := Lib.hid (one_any t (by omega))
    have HN := Lib.hid (show firstN s n own = if t.length < n then ([], 0, 1) else if recF t <+: s then (t, (recF t).length, 0) else if s.length < (recF t).length ∧ s <+: recF t then ([], 0, 1) else ([], 0, 2) by
      unfold firstN; rw [← ht])
    have hrl := recF_len t (by omega)
    have P1 := Lib.hid (fun W => Try.strings_HasPrefix ⟨(b :: r).toArray⟩ ⟨(recF t).toArray⟩ W)
    have P2 := Lib.hid (fun W => Try.strings_HasPrefix ⟨(recF t).toArray⟩ ⟨(b :: r).toArray⟩ W)
    by_cases hlong : own + n ≤ s.length
    · have hcut : ∀ W, (Instr.slice 9 (.string ⟨(b :: r).toArray⟩) (some (.int .i64 own)) (some (.int .i64 ((own : Int) + n))) none).run Try.prog W = .ok (.string ⟨t.toArray⟩) W := fun W => by
        have h := cut_mid s own (own + n) (by omega) hlong W
        rw [show ((own + n : Nat) : Int) = (own : Int) + n by omega, List.drop_take, show own + n - own = n by omega, ← ht, hs] at h
        exact h
      have hmin : min ((own : Int) + n) ((r.length : Nat) + 1) = (own : Int) + n := by omega
      have htn : ¬ t.length < n := by omega
      have hlw : (b :: r).length = r.length + 1 := by simp
      have P1 : ∀ W, Calls Try.prog 146 #[.string ⟨(b :: r).toArray⟩, .string ⟨(recF t).toArray⟩] W fun e w' => e = .returned (.bool (decide (recF t <+: s))) ∧ w' = W := fun W => by
        have h := P1.out W
        rw [hasPrefix_iff] at h
        rw [hs]; exact h
      have P2 : ∀ W, Calls Try.prog 146 #[.string ⟨(recF t).toArray⟩, .string ⟨(b :: r).toArray⟩] W fun e w' => e = .returned (.bool (decide (s <+: recF t))) ∧ w' = W := fun W => by
        have h := P2.out W
        rw [hasPrefix_iff] at h
        rw [hs]; exact h
      have HN2 := HN.out.trans (if_neg htn)
      have HS := Lib.hid hs
      have HL := Lib.hid hsl
      have HT := Lib.hid ht
      have hdl : decide (t.length < n) = false := decide_eq_false (by omega)
      have hslI : s.length = r.length + 1 := hsl
      clear ht hs hsl hlw htl hlong htn
      by_cases hp : recF t <+: s
      · have HF3 := Lib.hid (HF2.out.trans (HN2.trans (if_pos hp)))
        rw [decide_eq_true hp] at P1
        have P1' := Lib.hid P1
        clear hp HN2 HF2 HN P2 P1 hslI
        generalize recF t = z at *
        go_enter Try.func139, Try.ntmps139
        go_wp2_with fail
        refine L.out.mono ?_
        rintro e w1 ⟨rfl, b1⟩
        go_wp2_with fail
        refine (O.out _).mono ?_
        rintro e w2 ⟨rfl, d2⟩
        have b2 := b1.trans (d2.mono b1.size)
        clear b1 d2
        go_wp2_with fail
        refine (P1'.out _).mono ?_
        rintro e w3 ⟨rfl, rfl⟩
        go_wp2_with fail
        go_ret3
        unfold Firsts
        rw [HF3.out]
        exact ⟨rfl, b2⟩
      · have HN3 := HN2.trans (if_neg hp)
        rw [decide_eq_false hp] at P1
        have P1' := Lib.hid P1
        clear hp HN2 HN P1
        by_cases hq : s.length < (recF t).length
        · by_cases hp2 : s <+: recF t
          · have HF3 := Lib.hid (HF2.out.trans (HN3.trans (if_pos ⟨hq, hp2⟩)))
            rw [decide_eq_true hp2] at P2
            have P2' := Lib.hid P2
            have hqd : decide (((r.length : Nat) : Int) + 1 < ((recF t).length : Nat)) = true := decide_eq_true (by omega)
            clear hp2 HN3 HF2 P2 hq hslI
            generalize recF t = z at *
            go_enter Try.func139, Try.ntmps139
            go_wp2_with fail
            refine L.out.mono ?_
            rintro e w1 ⟨rfl, b1⟩
            go_wp2_with fail
            refine (O.out _).mono ?_
            rintro e w2 ⟨rfl, d2⟩
            have b2 := b1.trans (d2.mono b1.size)
            clear b1 d2
            go_wp2_with fail
            refine (P1'.out _).mono ?_
            rintro e w3 ⟨rfl, rfl⟩
            go_wp2_with fail
            refine (P2'.out _).mono ?_
            rintro e w3 ⟨rfl, rfl⟩
            go_wp2_with fail
            go_ret3
            unfold Firsts
            rw [HF3.out]
            exact ⟨rfl, b2⟩
          · have HF3 := Lib.hid (HF2.out.trans (HN3.trans (if_neg (fun h => hp2 h.2))))
            rw [decide_eq_false hp2] at P2
            have P2' := Lib.hid P2
            have hqd : decide (((r.length : Nat) : Int) + 1 < ((recF t).length : Nat)) = true := decide_eq_true (by omega)
            clear hp2 HN3 HF2 P2 hq hslI
            generalize recF t = z at *
            go_enter Try.func139, Try.ntmps139
            go_wp2_with fail
            refine L.out.mono ?_
            rintro e w1 ⟨rfl, b1⟩
            go_wp2_with fail
            refine (O.out _).mono ?_
            rintro e w2 ⟨rfl, d2⟩
            have b2 := b1.trans (d2.mono b1.size)
            clear b1 d2
            go_wp2_with fail
            refine (P1'.out _).mono ?_
            rintro e w3 ⟨rfl, rfl⟩
            go_wp2_with fail
            refine (P2'.out _).mono ?_
            rintro e w3 ⟨rfl, rfl⟩
            go_wp2_with fail
            go_ret3
            unfold Firsts
            rw [HF3.out]
            exact ⟨rfl, b2⟩
        · have HF3 := Lib.hid (HF2.out.trans (HN3.trans (if_neg (fun h => hq h.1))))
          have hqd : decide (((r.length : Nat) : Int) + 1 < ((recF t).length : Nat)) = false := decide_eq_false (by omega)
          clear HN3 HF2 P2 hq hslI
          generalize recF t = z at *
          go_enter Try.func139, Try.ntmps139
          go_wp2_with fail
          refine L.out.mono ?_
          rintro e w1 ⟨rfl, b1⟩
          go_wp2_with fail
          refine (O.out _).mono ?_
          rintro e w2 ⟨rfl, d2⟩
          have b2 := b1.trans (d2.mono b1.size)
          clear b1 d2
          go_wp2_with fail
          refine (P1'.out _).mono ?_
          rintro e w3 ⟨rfl, rfl⟩
          go_wp2_with fail
          go_ret3
          unfold Firsts
          rw [HF3.out]
          exact ⟨rfl, b2⟩
    · have hcut : ∀ W, (Instr.slice 9 (.string ⟨(b :: r).toArray⟩) (some (.int .i64 own)) (some (.int .i64 ((r.length : Nat) + 1))) none).run Try.prog W = .ok (.string ⟨t.toArray⟩) W := fun W => by
        have h := cut_mid s own s.length (by omega) (Nat.le_refl _) W
        rw [List.take_length, hsl, show ((r.length + 1 : Nat) : Int) = (r.length : Nat) + 1 by omega, hs] at h
        have e : t = (b :: r).drop own := by rw [ht, hs]; exact List.take_of_length_le (by rw [List.length_drop, ← hs]; omega)
        rw [e]; exact h
      have hmin : min ((own : Int) + n) ((r.length : Nat) + 1) = (r.length : Nat) + 1 := by omega
      have htn : t.length < n := by omega
      have HF3 := Lib.hid (HF2.out.trans (HN.out.trans (if_pos htn)))
      have hdl : decide (t.length < n) = true := decide_eq_true (by omega)
      clear ht hs hsl htl hlong htn HF2 HN P1 P2
      generalize recF t = z at *
      go_enter Try.func139, Try.ntmps139
      go_wp2_with fail
      refine L.out.mono ?_
      rintro e w1 ⟨rfl, b1⟩
      go_wp2_with fail
      refine (O.out _).mono ?_
      rintro e w2 ⟨rfl, d2⟩
      have b2 := b1.trans (d2.mono b1.size)
      clear b1 d2
      go_wp2_with fail
      go_ret3
      unfold Firsts
      rw [HF3.out]
      exact ⟨rfl, b2⟩
  · replace L := Lib.hid L
    have HF2 := Lib.hid (HF.out.trans (if_pos hst))
    have hne : ((st : Int) == 0) = false := by rw [beq_eq_false_iff_ne]; omega
    clear HF HOK
    go_enter Try.func139, Try.ntmps139
    go_wp2_with fail
    refine L.out.mono ?_
    rintro e w1 ⟨rfl, b1⟩
    go_wp2_with fail
    go_ret3
    unfold Firsts
    rw [HF2.out]
    exact ⟨rfl, b1⟩
end Go.Proofs.Ytfojjklohbiffaa
