/- The document's nets: Same, Send. -/
import Derived.Test.YtfojjklohbiffaaNetD
namespace Go.Proofs.Ytfojjklohbiffaa
open Go.RowKit Tran
theorem Txt.cell {w : World} {A : Option Addr} {n : Nat} {l : List (List UInt8)} (h : Rd w A n 1 (strs l)) {j : Nat} (hj : j < l.length) : ∃ ad, A = some ad ∧ w.cell? (ad.add j) = some (.string ⟨l[j].toArray⟩) := by
  have hl := h.1
  rw [strs_length] at hl
  obtain ⟨ad, rfl, hc⟩ := h.2 (by omega)
  exact ⟨ad, rfl, hc j _ (strs_get hj)⟩
set_option maxRecDepth 100000 in
set_option maxHeartbeats 1000000 in
theorem same_any {w : World} {va vb : Value} {a b : List (List UInt8)} (ha : Txt w va a) (hb : Txt w vb b) (hl : a.length ≤ 100000) :
    Calls Try.prog 53 #[va, vb] w fun e w' => e = .returned (.bool (a == b)) ∧ Below w.heap.size w w' := by
  obtain ⟨A, ca, rfl, ha1, ha2, ha3⟩ := ha
  obtain ⟨Bb, cb, rfl, hb1, hb2, hb3⟩ := hb
  unfold maxLen at ha2 hb2
  by_cases hne : a.length = b.length
  · have hq : ((a.length : Int) != (b.length : Int)) = false := by rw [bne_eq_false_iff_eq]; omega
    have HNE := Lib.hid hne; have HA := Lib.hid ha3; have HB := Lib.hid hb3
    clear hne ha3 hb3
    go_enter Try.func53, Try.ntmps53
    go_wp2
    go_loopw [5] (fun i wr => ∃ k : Nat, k ≤ a.length ∧ i = .int .i64 k ∧ a.take k = b.take k ∧ ∃ n, wr = w.drewN n) (fun i _ => a.length - (intOf i).toNat)
    case atStart => exact ⟨0, by omega, rfl, rfl, 0, rfl⟩
    case round =>
      obtain ⟨k, hk, rfl, htk, n, rfl⟩ := hrel
      have HTK := Lib.hid htk; clear htk
      by_cases hlt : k < a.length
      · have hltb : k < b.length := by have := HNE.out; omega
        obtain ⟨ad, rfl, hc1⟩ := Txt.cell HA.out hlt
        obtain ⟨bd, rfl, hc2⟩ := Txt.cell HB.out hltb
        cases heq : (a[k] == b[k])
        · have hfin : (a == b) = false := by
            rw [beq_eq_false_iff_ne] at heq ⊢
            intro e; subst e; exact heq rfl
          have HF := Lib.hid hfin; clear hfin
          go_wp2_with fail
          go_quiet (fail)
          go_wp2
          go_ret
          exact ⟨by rw [HF.out]; rfl, below_drewN (below_drewN (Below.refl _ _) _) _⟩
        · have HE := Lib.hid (p := a.take (k + 1) = b.take (k + 1)) (by
            rw [List.take_succ_eq_append_getElem hlt, List.take_succ_eq_append_getElem hltb, HTK.out, eq_of_beq heq])
          go_wp2_with fail
          go_quiet (fail)
          go_wp2
          go_roundw
          case rel => exact ⟨k + 1, by omega, by go_num, HE.out, n + nq, rfl⟩
          case measure => simp [intOf]; omega
      · have hfin : (a == b) = true := by
          have h1 := HTK.out
          have h2 := HNE.out
          rw [List.take_of_length_le (by omega), List.take_of_length_le (by omega)] at h1
          rw [h1]; exact beq_self_eq_true b
        have HF := Lib.hid hfin; clear hfin
        go_wp2
        go_ret
        exact ⟨by rw [HF.out]; rfl, below_drewN (Below.refl _ _) _⟩
  · have hq : ((a.length : Int) != (b.length : Int)) = true := by rw [bne_iff_ne]; omega
    have hfin : (a == b) = false := by
      rw [beq_eq_false_iff_ne]; intro e; subst e; exact hne rfl
    have HF := Lib.hid hfin; clear hfin hne ha3 hb3
    go_enter Try.func53, Try.ntmps53
    go_wp2
    go_ret
    exact ⟨by rw [HF.out]; rfl, Below.refl _ _⟩

def refSent (w : World) (v : Value) (r : List (List UInt8) × Nat) (e : Ending) (w' : World) : Prop := ∃ v', e = .returned (.tuple #[v', .int .i64 (r.2 : Nat)]) ∧ Txt w' v' r.1 ∧ Below w.heap.size w w' ∧ ∀ k, rdOf v' = some k → rdOf v = some k ∨ w.heap.size ≤ k
set_option maxRecDepth 100000 in
set_option maxHeartbeats 1000000 in
theorem refsend_any {w : World} {v : Value} {l : List (List UInt8)} (h : Txt w v l) (b : List UInt8) : Calls Try.prog 105 #[v, .string ⟨b.toArray⟩] w (refSent w v (sendF l b)) := by
  obtain ⟨i0, hi, hz0, hz1, hz2⟩ := info_parts info9
  have ht := h
  obtain ⟨A, cap, rfl, hl1, hl2, h3⟩ := h
  unfold maxLen at hl2
  by_cases h1 : 262144 < b.length
  · have HS := Lib.hid (p := sendF l b = (l, 3)) (by unfold sendF; rw [if_pos h1])
    go_enter Try.func105, Try.ntmps105
    go_wp2
    go_ret2
    exact ⟨_, by rw [HS.out]; rfl, by rw [HS.out]; exact ht, .refl _ _, fun _ hk => .inl hk⟩
  · by_cases h2 : 4096 ≤ l.length
    · have HS := Lib.hid (p := sendF l b = (l, 6)) (by unfold sendF; rw [if_neg h1, if_pos h2])
      go_enter Try.func105, Try.ntmps105
      go_wp2
      go_ret2
      exact ⟨_, by rw [HS.out]; rfl, by rw [HS.out]; exact ht, .refl _ _, fun _ hk => .inl hk⟩
    · have HS := Lib.hid (p := sendF l b = (l ++ [b], 0)) (by unfold sendF; rw [if_neg h1, if_neg h2])
      have hown : Own (w.alloc (.cells #[] 9)) w.heap.size 9 1 (.slice (some ⟨w.heap.size, 0, none⟩) 0 0) 0 [] := Own.empty _ _ _ _ _
      have hrd : Rd (w.alloc (.cells #[] 9)) A l.length 1 (strs l) := by
        obtain ⟨_, _, hv, _, _, hh⟩ := ht.later ((Below.refl _ w).alloc (Nat.le_refl _) (.cells #[] 9))
        injection hv with h1 _ _
        subst h1
        exact hh
      have tok1 : True := trivial
      go_enter Try.func105, Try.ntmps105
      go_wp2_with (first
        | (at_builtin; have _t := tok1; refine wpList_append_Own _ rfl (.tmp 14) (.tmp 15) 43 rfl w.heap.size 9 i0 _ 1 16 Try.underlying43 hi hz0 hz1 hz2 rfl (by decide) (.slice (some ⟨w.heap.size, 0, none⟩) 0 0) _ _ rfl hown A l.length cap _ rfl hrd (strs_one l) (by unfold maxLen; omega) (by omega) (by simp) ?_; intro v2 w2 ho2 hg2 hat2; clear tok1; have hB2 := ((Below.refl _ w).alloc (Nat.le_refl _) (.cells #[] 9)).grown hg2 (by simp) (by simp [blkOf]); have hz3 := hB2.size)
        | (at_builtin; refine wpList_append_Own _ rfl (.tmp 16) (.tmp 18) 43 rfl w.heap.size 9 i0 _ 1 16 Try.underlying43 hi hz0 hz1 hz2 rfl (by decide) v2 _ _ rfl (ho2.alloc _) (some ⟨w2.heap.size, 0, none⟩) 1 1 [_] rfl (Rd.one w2 _ 9) (by intro u hu; simp at hu; subst hu; rfl) (by unfold maxLen; omega) (by omega) (by simp; omega) ?_; intro v3 w3 ho3 hg3 hat3))
      go_ret2
      have e : strs (l ++ [b]) = [] ++ strs l ++ [Value.string ⟨b.toArray⟩] := by simp [strs]
      have ho4 : Own w3 w.heap.size 9 1 v3 (l ++ [b]).length (strs (l ++ [b])) := by
        rw [e]; have : (l ++ [b]).length = 0 + l.length + 1 := by simp
        rw [this]; exact ho3
      refine ⟨v3, by rw [HS.out]; rfl, by rw [HS.out]; exact Txt.of ho4, (hB2.alloc hz3 _).grown hg3 (by simp; omega) (fun k hk => (ho2.lt k hk).1), fun k hk => .inr (ho4.lt k (rd_blk ho4 hk)).1⟩
end Go.Proofs.Ytfojjklohbiffaa
