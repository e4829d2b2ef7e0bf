/- Records: the document's Scan. -/
import Derived.Test.YtfojjklohbiffaaRecS
import Derived.Test.YtfojjklohbiffaaRecQ
namespace Go.Proofs.Ytfojjklohbiffaa
open Go.RowKit Tran Tran.Wire
set_option linter.unusedVariables false
def ScanRel (s : List UInt8) (w : World) (v i : Value) (wr : World) : Prop :=
  ∃ (pre : List (List UInt8 × Nat)) (t : List UInt8) (k : Nat), i = .int .i64 k ∧ k + t.length = s.length ∧ s.drop k = t ∧ (scanF s).1 = pre ++ (scanF t).1 ∧ (scanF s).2 = (scanF t).2 ∧ taken pre = k ∧
    Tran.Own wr w.heap.size 9 1 v pre.length (strs (pre.map (·.1))) ∧ Below w.heap.size w wr
set_option maxRecDepth 100000 in
set_option maxHeartbeats 8000000 in
theorem tscan_any (s : List UInt8) (hs : s.length ≤ 1000000) (w : World) : Calls Try.prog 81 #[.string ⟨s.toArray⟩] w (Scanned w (scanF s)) := by
  obtain ⟨i0, hi, hz0, hz1, hz2⟩ := info_parts info9_
  go_enter Try.func81, Try.ntmps81
  go_wp2_with fail
  go_loopw [5, 6] (fun v i wr => ScanRel s w v i wr) (fun _ i _ => s.length - (intOf i).toNat)
  case atStart => exact ⟨[], s, 0, rfl, by omega, rfl, rfl, rfl, rfl, Own.nil _ _ _ _, Below.refl _ _⟩
  case round =>
    obtain ⟨pre, t, k, rfl, hkt, hdr, hx1, hx2, htk, ho, hb⟩ := hrel
    obtain ⟨A, cap, rfl, _, _, _⟩ := ho.slice
    have HO := Lib.hid ho
    have HX1 := Lib.hid hx1
    have HX2 := Lib.hid hx2
    have HTK := Lib.hid htk
    have hpl : pre.length ≤ s.length := by
      have h1 := (scanF_le s).2.1
      rw [hx1, List.length_append] at h1; omega
    have hct := cut_from s k (by omega)
    rw [hdr] at hct
    have HDR := Lib.hid hdr
    have HKT := Lib.hid hkt
    clear ho hx1 hx2 htk hdr
    cases t with
    | nil =>
      obtain rfl : k = s.length := by simpa using hkt
      clear hkt hct
      go_wp2
      go_ret3
      have e1 : (scanF s).1 = pre := by rw [HX1.out, scanF_nil]; simp
      have e2 : (scanF s).2 = 0 := by rw [HX2.out, scanF_nil]
      refine ⟨_, ?_, by rw [e1]; exact HO.out, hb⟩
      rw [e1, e2, HTK.out]; rfl
    | cons b r =>
      have hlt : k < s.length := by simp only [List.length_cons] at hkt; omega
      have hbr : (b :: r).length ≤ 1000000 := by omega
      have F := tfirst_any (b :: r) hbr
      have P := tpart_any (b :: r) hbr
      have HSC : scanF (b :: r) = if (firstF b r).2.2 = 0 then
          (((firstF b r).1, (firstF b r).2.1) :: (scanF ((b :: r).drop (firstF b r).2.1)).1, (scanF ((b :: r).drop (firstF b r).2.1)).2)
        else ([], (firstF b r).2.2) := by rw [scanF]; split <;> rfl
      have hyes := docFirst_yes (b := b) (r := r)
      have hno := docFirst_no (b := b) (r := r)
      have hown := firstF_own (b := b) (r := r)
      have hst := firstF_st b r
      generalize firstF b r = q at *
      obtain ⟨t1, own, st⟩ := q
      simp only at hyes hno hown hst HSC
      clear hkt
      by_cases h0 : st = 0
      · subst h0
        have h1 := hyes rfl
        obtain ⟨h2, h3⟩ := hown rfl
        rw [if_pos rfl] at HSC
        rw [HSC] at HX1 HX2
        rw [h1] at F
        have F := Lib.hid F
        have hne : ((own : Int) == 0) = false := by rw [beq_eq_false_iff_ne]; omega
        have hlk : k + own ≤ s.length := by have := HKT.out; simp only [List.length_cons] at this; omega
        clear hyes hno hown HSC h1 P
        go_wp2_with fail
        refine (F.out _).mono ?_
        rintro e w2 ⟨rfl, d2⟩
        have ho2 := Lib.hid (HO.out.below d2 (Nat.le_refl _))
        have b2 := hb.trans (d2.mono hb.size)
        clear d2 hb
        go_wp2_with (at_builtin; refine wpList_append_Own _ rfl (.tmp 30) (.tmp 32) 43 rfl w.heap.size 9 i0 _ 1 16 Try.underlying43 hi hz0 hz1 hz2 rfl (by decide) (.slice A pre.length cap) _ _ rfl (ho2.out.alloc _) (some ⟨w2.heap.size, 0, none⟩) 1 1 [_] rfl (Rd.one w2 _ 9) (by intro u hu; simp at hu; subst hu; rfl) (by unfold maxLen; omega) (by omega) (by have := b2.size; simp; omega) ?_; intro v' w3 ho4 hg4 hat4)
        have hb4 : Below w.heap.size w w3 := (b2.alloc b2.size _).grown hg4 (by have := b2.size; simp; omega) (fun g hg => (ho2.out.lt g hg).1)
        go_wp2_with fail
        go_roundw
        case rel =>
          refine ⟨pre ++ [(t1, own)], (b :: r).drop own, k + own, by go_num, ?_, ?_, by simpa using HX1.out, HX2.out, by rw [taken_snoc, HTK.out], ?_, hb4⟩
          · have := HKT.out; rw [List.length_drop]; omega
          · rw [← HDR.out, List.drop_drop]
          · have e : strs ((pre ++ [(t1, own)]).map (·.1)) = strs (pre.map (·.1)) ++ [.string ⟨t1.toArray⟩] := by simp [strs]
            rw [e, List.length_append, List.length_singleton]
            exact ho4
        case measure => simp [intOf]; omega
      · obtain ⟨h1, h2⟩ := hno h0
        rw [if_neg h0] at HSC
        rw [HSC] at HX1 HX2
        rw [h1] at F
        rw [show (([] : List UInt8), (0 : Nat)).1.toArray = #[] from rfl, show (((([] : List UInt8), (0 : Nat)).2 : Nat) : Int) = 0 from rfl] at F
        rw [h2] at P
        have e1 : (scanF s).1 = pre := by rw [HX1.out]; simp
        have e2 : (scanF s).2 = st := HX2.out
        have E1 := Lib.hid e1
        have E2 := Lib.hid e2
        clear hyes hno hown HSC h1 h2 e1 e2 HX1 HX2
        by_cases h3 : st = 1
        · subst h3
          rw [decide_eq_true rfl] at P
          have F := Lib.hid F
          have P := Lib.hid P
          go_wp2_with fail
          refine (F.out _).mono ?_
          rintro e w2 ⟨rfl, d2⟩
          have ho2 := Lib.hid (HO.out.below d2 (Nat.le_refl _))
          have b2 := hb.trans (d2.mono hb.size)
          clear d2 hb
          go_wp2_with fail
          refine (P.out _).mono ?_
          rintro e w3 ⟨rfl, d3⟩
          have ho3 := Lib.hid (ho2.out.below d3 (Nat.le_refl _))
          have b3 := b2.trans (d3.mono b2.size)
          go_wp2_with fail
          go_ret3
          refine ⟨_, ?_, by rw [E1.out]; exact ho3.out, b3⟩
          rw [E1.out, E2.out, HTK.out]; rfl
        · obtain rfl : st = 2 := by omega
          rw [decide_eq_false h3] at P
          have F := Lib.hid F
          have P := Lib.hid P
          go_wp2_with fail
          refine (F.out _).mono ?_
          rintro e w2 ⟨rfl, d2⟩
          have ho2 := Lib.hid (HO.out.below d2 (Nat.le_refl _))
          have b2 := hb.trans (d2.mono hb.size)
          clear d2 hb
          go_wp2_with fail
          refine (P.out _).mono ?_
          rintro e w3 ⟨rfl, d3⟩
          have ho3 := Lib.hid (ho2.out.below d3 (Nat.le_refl _))
          have b3 := b2.trans (d3.mono b2.size)
          go_wp2_with fail
          go_ret3
          refine ⟨_, ?_, by rw [E1.out]; exact ho3.out, b3⟩
          rw [E1.out, E2.out, HTK.out]; rfl
end Go.Proofs.Ytfojjklohbiffaa
