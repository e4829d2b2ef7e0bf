/- Frames: the document's May. -/
import Derived.Test.YtfojjklohbiffaaMq19
namespace Go.Proofs.Ytfojjklohbiffaa
open Go.RowKit Tran
set_option linter.unusedVariables false
set_option linter.unusedSimpArgs false
set_option maxRecDepth 100000 in
set_option maxHeartbeats 16000000 in
theorem tmay_any (w : World) (x : NFrame) (ov : Value) (hx : x.ok) (hO : Ops w ov x.ops) : Calls Try.prog 47 #[.agg (frA x ov)] w (Tells w (mayF x)) := by
  have k0 := Blk.new w 57 (frA x ov)
  have hb := (Below.refl w.heap.size w).alloc (Nat.le_refl _) (.cells (frA x ov) 57)
  obtain ⟨A, cap, rfl, hrd, hlen, hgood⟩ := hO
  have f0 := (k0.cell 0).trans (fr_c0 x _)
  have f1 := (k0.cell 1).trans (fr_c1 x _)
  have f2 := (k0.cell 2).trans (fr_c2 x _)
  have f11 := (k0.cell 11).trans (fr_c11 x _ hx.have8)
  have HA := Lib.hid (fun k (hk : k < x.ops.length) => op_at (hrd.later hb) (fun p hp => ⟨(hgood p hp).1.later hb, (hgood p hp).2⟩) hk)
  have HG := Lib.hid hgood
  have HB := Lib.hid hb
  obtain ⟨n, hn⟩ : ∃ n, x.ops.length = n := ⟨_, rfl⟩
  have HN := Lib.hid hn
  have HM := Lib.hid (show mayF x ↔ (x.kind ≤ 1 ∧ x.src < 8 ∧ x.dst < 8 ∧ x.src ≠ x.dst ∧ (x.kind = 1 ∨ x.ops = []) ∧ n ≤ 64 ∧ ¬ ∃ p ∈ x.ops, 16 < p.1.lines.length) by unfold mayF; rw [hn])
  have HE := Lib.hid (show x.ops = [] ↔ n = 0 by rw [← hn]; exact List.length_eq_zero_iff.symm)
  clear k0 hb hrd hgood hx
  generalize frA x (.slice A x.ops.length cap) = X at *
  rw [hn] at f11 hlen
  clear hn

  by_cases c1 : 1 < x.kind
  · have d1 : decide ((1 : Int) < (x.kind : Int)) = true := decide_eq_true (by omega)
    go_enter Try.func47, Try.ntmps47
    go_wp2_with fail
    all_goals
      go_ret
      exact ⟨false, rfl, ⟨fun h => absurd h (by simp), fun h => by have h := HM.out.1 h; rw [HE.out] at h; exfalso; omega⟩, HB.out⟩
  have d1 : decide ((1 : Int) < (x.kind : Int)) = false := decide_eq_false (by omega)
  by_cases c2 : 7 < x.src
  · have d2 : decide ((7 : Int) < (x.src : Int)) = true := decide_eq_true (by omega)
    go_enter Try.func47, Try.ntmps47
    go_wp2_with fail
    all_goals
      go_ret
      exact ⟨false, rfl, ⟨fun h => absurd h (by simp), fun h => by have h := HM.out.1 h; rw [HE.out] at h; exfalso; omega⟩, HB.out⟩
  have d2 : decide ((7 : Int) < (x.src : Int)) = false := decide_eq_false (by omega)
  by_cases c3 : 7 < x.dst
  · have d3 : decide ((7 : Int) < (x.dst : Int)) = true := decide_eq_true (by omega)
    go_enter Try.func47, Try.ntmps47
    go_wp2_with fail
    all_goals
      go_ret
      exact ⟨false, rfl, ⟨fun h => absurd h (by simp), fun h => by have h := HM.out.1 h; rw [HE.out] at h; exfalso; omega⟩, HB.out⟩
  have d3 : decide ((7 : Int) < (x.dst : Int)) = false := decide_eq_false (by omega)
  by_cases c4 : x.src = x.dst
  · have d4 : ((x.src : Int) == (x.dst : Int)) = true := by rw [beq_iff_eq]; omega
    go_enter Try.func47, Try.ntmps47
    go_wp2_with fail
    all_goals
      go_ret
      exact ⟨false, rfl, ⟨fun h => absurd h (by simp), fun h => by have h := HM.out.1 h; rw [HE.out] at h; exfalso; omega⟩, HB.out⟩
  have d4 : ((x.src : Int) == (x.dst : Int)) = false := by rw [beq_eq_false_iff_ne]; omega
  by_cases c5 : x.kind = 0 ∧ 0 < n
  · have d5 : ((x.kind : Int) == 0) = true := by rw [beq_iff_eq]; omega
    have d6 : decide ((0 : Int) < (n : Int)) = true := decide_eq_true (by omega)
    go_enter Try.func47, Try.ntmps47
    go_wp2_with fail
    all_goals
      go_ret
      exact ⟨false, rfl, ⟨fun h => absurd h (by simp), fun h => by have h := HM.out.1 h; rw [HE.out] at h; exfalso; omega⟩, HB.out⟩
  by_cases c7 : x.kind = 0
  · obtain rfl : n = 0 := by omega
    have d5 : ((x.kind : Int) == 0) = true := by rw [beq_iff_eq]; omega
    have hnil := HE.out.2 rfl
    have HNIL := Lib.hid hnil
    clear hnil HA HG
    go_enter Try.func47, Try.ntmps47
    go_wp2_with fail
    go_loopw [3] (fun i wr => i = .int .i64 0 ∧ wr = w.alloc (.cells X 57)) (fun _ _ => 0)
    case atStart => exact ⟨rfl, rfl⟩
    case round =>
      obtain ⟨rfl, rfl⟩ := hrel
      go_wp2_with fail
      go_ret
      refine ⟨true, rfl, ⟨fun _ => HM.out.2 ?_, fun _ => rfl⟩, HB.out⟩
      rw [HNIL.out]
      exact ⟨by omega, by omega, by omega, c4, .inr rfl, by omega, by simp⟩
  · have d5 : ((x.kind : Int) == 0) = false := by rw [beq_eq_false_iff_ne]; omega
    by_cases c6 : 64 < n
    · have d7 : decide ((64 : Int) < (n : Int)) = true := decide_eq_true (by omega)
      go_enter Try.func47, Try.ntmps47
      go_wp2_with fail
      all_goals
        go_ret
        exact ⟨false, rfl, ⟨fun h => absurd h (by simp), fun h => by have h := HM.out.1 h; rw [HE.out] at h; exfalso; omega⟩, HB.out⟩
    have d7 : decide ((64 : Int) < (n : Int)) = false := decide_eq_false (by omega)
    go_enter Try.func47, Try.ntmps47
    go_wp2_with fail
    go_loopw [3] (fun i wr => ∃ k : Nat, k ≤ n ∧ i = .int .i64 k ∧ (∀ p ∈ x.ops.take k, ¬ 16 < p.1.lines.length) ∧ wr = w.alloc (.cells X 57)) (fun i _ => n - (intOf i).toNat)
    case atStart => exact ⟨0, by omega, rfl, by simp, rfl⟩
    case round =>
      obtain ⟨k, hk, rfl, ht, rfl⟩ := hrel
      have HT := Lib.hid ht
      clear ht
      by_cases hlt : k < n
      · have hk2 : k < x.ops.length := by have := HN.out; omega
        obtain ⟨ad, rfl, hc⟩ := HA.out k hk2
        have hg := HG.out _ (List.getElem_mem hk2)
        have HQ := Lib.hid (List.getElem?_eq_getElem hk2)
        generalize x.ops[k] = q at *
        obtain ⟨y, ly⟩ := q
        obtain ⟨B, cb, hly, _, hll⟩ := hg.1
        simp only at hc hly hll
        have c28 := hc 28 _ (op_c28 y ly hg.2.dep8)
        rw [add_at _ _ _ (by omega), hly] at c28
        have hix := ix55 (W := w.alloc (.cells X 57)) (ad := ad) (c := cap) hlt hlen
        clear hc hg hly hk2
        by_cases h16 : 16 < y.lines.length
        · have d16 : decide ((16 : Int) < ((y.lines.length : Nat) : Int)) = true := decide_eq_true (by omega)
          have H16 := Lib.hid h16
          clear h16
          go_wp2_with fail
          go_ret
          exact ⟨false, rfl, ⟨fun h => absurd h (by simp), fun h => absurd ⟨_, List.mem_of_getElem? HQ.out, H16.out⟩ (HM.out.1 h).2.2.2.2.2.2⟩, HB.out⟩
        · have d16 : decide ((16 : Int) < ((y.lines.length : Nat) : Int)) = false := decide_eq_false (by omega)
          have H16 := Lib.hid h16
          clear h16
          go_wp2_with fail
          go_roundw
          case rel =>
            refine ⟨k + 1, hlt, by go_num, ?_, by simp⟩
            rw [List.take_add_one, HQ.out]
            intro p hp
            rcases List.mem_append.1 hp with hp | hp
            · exact HT.out p hp
            · simp at hp; rw [hp]; exact H16.out
          case measure => simp [intOf]; omega
      · go_wp2_with fail
        go_ret
        refine ⟨true, rfl, ⟨fun _ => HM.out.2 ?_, fun _ => rfl⟩, HB.out⟩
        have h2 := HT.out
        rw [List.take_of_length_le (by have := HN.out; omega)] at h2
        rw [HE.out]
        refine ⟨by omega, by omega, by omega, c4, by omega, by omega, fun ⟨p, hp, h3⟩ => h2 p hp h3⟩
end Go.Proofs.Ytfojjklohbiffaa
