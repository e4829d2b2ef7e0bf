/-
  For every text, every place and every burst the call tranterlaw01.SumBursts returns true, and its arguments read afterwards as before.
  Its conditions: none beyond the row's own.
-/
import Derived.Test.YtfojjklohbiffaaRows
import Derived.WalkKit
import Derived.ProofKit
import Derived.OpenShut
import Derived.ShutString
import Derived.Test.YtfojjklohbiffaaPost
import Derived.Test.YtfojjklohbiffaaHead1
import Derived.Test.YtfojjklohbiffaaFlip
namespace Go.Proofs.Ytfojjklohbiffaa.sumBursts
open Go.ChangeShapes Go.WideShapes Go.ChangeAt Go.RowKit Tran
open Go.ChangeMaps (open_string shut_string)
set_option linter.unusedVariables false
theorem own : ownKnob Try.prog.godebug = none := by kernel_rfl
set_option maxRecDepth 100000 in
set_option maxHeartbeats 1000000 in
theorem walk (l : List UInt8) (w0 : l.length ≤ maxLen) (a1 : Int) (h10 : -9223372036854775808 ≤ a1) (h11 : a1 < 9223372036854775808) (a2 : Int) (h0 : 0 ≤ a2) (h1 : a2 < 4294967296) (w : World) :
    Calls Try.prog 5 #[.string ⟨l.toArray⟩, .int .i64 a1, .int .u32 a2] w fun e w' => e = .returned (.bool true) ∧ Below w.heap.size w w' := by
  unfold maxLen at w0
  by_cases hs : 3000 < l.length ∨ a2 = 0 ∨ a1 < 0
  · clear h10 h11 h1
    by_cases g1 : 3000 < l.length
    · go_enter Try.func5, Try.ntmps5
      go_wp2_with fail
      refine (head1_any _).mono ?_
      rintro e w1 ⟨rfl, hb⟩
      go_wp2
      go_ret
      exact ⟨rfl, hb⟩
    · by_cases g2 : a2 = 0
      · have g2' : (a2 == 0) = true := by rw [beq_iff_eq]; exact g2
        clear g2 hs
        go_enter Try.func5, Try.ntmps5
        go_wp2_with fail
        refine (head1_any _).mono ?_
        rintro e w1 ⟨rfl, hb⟩
        go_wp2
        go_ret
        exact ⟨rfl, hb⟩
      · have g2' : (a2 == 0) = false := by rw [beq_eq_false_iff_ne]; exact g2
        have g3 : a1 < 0 := by omega
        clear g2 hs
        go_enter Try.func5, Try.ntmps5
        go_wp2_with fail
        refine (head1_any _).mono ?_
        rintro e w1 ⟨rfl, hb⟩
        go_wp2
        go_ret
        exact ⟨rfl, hb⟩
  · have hs1 : l.length ≤ 3000 := by omega
    have hs2 : (a2 == 0) = false := by rw [beq_eq_false_iff_ne]; omega
    have hs3 : 0 ≤ a1 := by omega
    obtain ⟨b, rfl⟩ := Int.eq_ofNat_of_zero_le h0
    have hb32 : b < 4294967296 := by omega
    clear hs h10 h11 h0 h1
    go_enter Try.func5, Try.ntmps5
    go_wp2_with fail
    refine (seal_l l (by omega) _).mono ?_
    rintro e w1 ⟨rfl, hb⟩
    have hyl : (Crc.sealed l).length = l.length + 4 := Crc.sealed_length l
    have hn : (((Crc.sealed l).length : Int) != (l.length : Int) + 4) = false := by rw [bne_eq_false_iff_eq]; omega
    obtain ⟨k, hk⟩ := Int.eq_ofNat_of_zero_le (Int.emod_nonneg a1 (by omega : 8 * ((Crc.sealed l).length : Int) ≠ 0))
    have hkl : k < 8 * (Crc.sealed l).length := by have := Int.emod_lt_of_pos a1 (by omega : 0 < 8 * ((Crc.sealed l).length : Int)); omega
    have HB := Lib.hid (Crc.opened_burst l k b)
    have hy4 : 4 ≤ (Crc.sealed l).length := by omega
    have hy3 : (Crc.sealed l).length ≤ 3004 := by omega
    clear hyl
    generalize Crc.sealed l = y at *
    go_wp2_with (refine wpList_bytes_new rfl 9 35 _ rfl 5 ⟨y.toArray⟩ rfl Try.underlying9 Try.underlying35 Try.underlying5 (by show y.toArray.size ≤ maxLen; unfold maxLen; simp; omega) ?_; rintro v w2 cap rfl hown hg)
    have ho := hown w1.heap.size (Nat.le_refl _)
    clear hown
    have hb2 := hb.grown hg hb.size (by simp)
    have hz1 : w.heap.size ≤ w1.heap.size := hb.size
    go_loopw [8, 10] (fun t i wr => ∃ j : Nat, j ≤ 32 ∧ i = .int .i64 j ∧ t = .bool (Crc.burst y k b j).2 ∧ Own wr w1.heap.size 5 1 (.slice (some ⟨w1.heap.size, 0, none⟩) y.length cap) y.length (bc (Crc.burst y k b j).1) ∧ Below w.heap.size w wr)
      (fun _ i _ => 32 - (intOf i).toNat)
    case atStart => exact ⟨0, by omega, rfl, rfl, ho, hb2⟩
    case round =>
      obtain ⟨j, hj, rfl, rfl, ho3, hb3⟩ := hrel
      clear ho hb2 hb hg
      by_cases hlt : j < 32
      · have hbl : (Crc.burst y k b j).1.length = y.length := Crc.burst_length y k b j
        by_cases hc : b / 2 ^ j % 2 = 1 ∧ k + j < 8 * y.length
        · have hst : Crc.burst y k b (j + 1) = (Crc.flip (Crc.burst y k b j).1 (k + j), true) := by simp only [Crc.burst]; rw [if_pos hc]
          have HST := Lib.hid hst; clear hst
          have HBL := Lib.hid hbl; clear hbl
          obtain ⟨hc1, hc2⟩ := hc
          have HC1 := Lib.hid hc1; clear hc1
          generalize hm : Crc.burst y k b j = m at *
          clear hm
          obtain ⟨m, t⟩ := m
          simp only at ho3 HST HBL
          have hlm : (k + j) / 8 < m.length := by have := HBL.out; omega
          have hcell : wr.cell? { block := w1.heap.size, off := (k + j) / 8 } = some (.int .u8 (m[(k + j) / 8].toNat : Int)) := ho3.cellAt (bc_get hlm)
          have hfz : wr.frozen? { block := w1.heap.size, off := (k + j) / 8 } = false := ho3.frozen rfl _ (by omega)
          have hq : (((b : Int) / 2 ^ j).tmod 2 == 1) = true := by
            have := HC1.out
            exact shr_yes b j this
          go_wp2
          go_roundw
          case rel =>
            refine ⟨j + 1, by omega, by go_num, by rw [HST.out], ?_, hb3.setCell (by exact hz1) _⟩
            rw [HST.out, bc_flip m (k + j) hlm]
            exact ho3.set_ _ _
          case measure => simp [intOf]; omega
        · have hst : Crc.burst y k b (j + 1) = Crc.burst y k b j := by simp only [Crc.burst]; rw [if_neg hc]
          have HST := Lib.hid hst; clear hst
          have HC := Lib.hid hc; clear hc hbl
          generalize hm : Crc.burst y k b j = m at *
          clear hm
          by_cases hc1 : b / 2 ^ j % 2 = 1
          · have hc2 : ¬ k + j < 8 * y.length := fun h => HC.out ⟨hc1, h⟩
            have hq : (((b : Int) / 2 ^ j).tmod 2 == 1) = true := shr_yes b j hc1
            clear hc1
            go_wp2
            go_roundw
            case rel => exact ⟨j + 1, by omega, by go_num, by rw [HST.out], by rw [HST.out]; exact ho3, hb3⟩
            case measure => simp [intOf]; omega
          · have hq : (((b : Int) / 2 ^ j).tmod 2 == 1) = false := shr_no b j hc1
            clear hc1
            go_wp2
            go_roundw
            case rel => exact ⟨j + 1, by omega, by go_num, by rw [HST.out], by rw [HST.out]; exact ho3, hb3⟩
            case measure => simp [intOf]; omega
      · obtain rfl : j = 32 := by omega
        have hbl : (Crc.burst y k b 32).1.length = y.length := Crc.burst_length y k b 32
        generalize Crc.burst y k b 32 = m at *
        obtain ⟨m, t⟩ := m
        dsimp only at ho3 hbl HB
        have HBL := Lib.hid hbl; clear hbl
        have hml : m.length ≤ 1000000 := by have := HBL.out; omega
        go_wp2_with (refine wpList_string_of rfl 35 9 _ rfl 5 _ w1.heap.size _ _ rfl Try.underlying35 Try.underlying5 Try.underlying9 ho3 ?_)
        refine (open_any m hml _).mono ?_
        rintro e w4 ⟨rfl, hb4⟩
        have hB4 := hb3.trans (hb4.mono hb3.size)
        have hqq : (Crc.opened m == !t) = true := by rw [beq_iff_eq]; exact HB.out
        go_wp2_with fail
        refine (head1_any _).mono ?_
        rintro e w5 ⟨rfl, hb5⟩
        have hB5 := hB4.trans (hb5.mono hB4.size)
        go_wp2
        go_ret
        exact ⟨rfl, hB5⟩
set_option maxRecDepth 100000 in
theorem lifted (os : Os) (started : os.Started) (H : Type) (enc : TypeId × Value → H) :
    ReturnsInHanded {} Try.checked os 5 .any (Rows.sumBurstsSpec.pre6 enc Try.prog Try.f5 Rows.sumBurstsRow.domain false) (Rows.sumBurstsSpec.post enc Try.prog Try.f5 false true false false) := by
  refine returnsInHanded_of_change (C := Try.checked) own started (by kernel_rfl) Try.func5
    (ChangeSpec.witness6 (enc := enc) (C := Try.checked) false ⟨#[], #[.string ByteArray.empty, .int .i64 0, .int .u32 0], []⟩ 8 (by kernel_rfl) (by kernel_rfl) (by kernel_rfl) (by kernel_rfl)) ?_
  intro W base args ds gs before hval0 hW hcnd _
  have hval : ∀ (j : Nat) t v, Try.f5.params[j]? = some t → args[j]? = some v → Value.okWide Try.prog W .any base t v := hval0
  have hW' := hW
  obtain ⟨p, q, hA0, hV, rfl, hfz, hnd⟩ := hW
  have hA : DataW.TrodAll enc Try.prog W 0 (fun _ => true) true Try.f5.params.toList args.toList ds p := hA0
  rw [Try.params5] at hA hval
  obtain ⟨v0, vs0, d0, ds0, p0, q0, hargs, rfl, rfl, h0, r0⟩ := trodAll_cons hA
  obtain ⟨v1, vs1, d1, ds1, p1, q1, rfl, rfl, rfl, h1, r1⟩ := trodAll_cons r0
  obtain ⟨v2, vs2, d2, ds2, p2, q2, rfl, rfl, rfl, h2, r2⟩ := trodAll_cons r1
  obtain ⟨rfl, rfl, rfl⟩ := trodAll_nil r2
  obtain rfl : args = #[v0, v1, v2] := by cases args; simp_all
  obtain ⟨rfl, rfl⟩ := trodVars_none hV
  obtain ⟨a0, rfl, rfl, rfl, w0⟩ := open_string Try.underlying9 (hval 0 9 v0 rfl rfl) h0
  obtain ⟨a1, rfl, rfl, rfl, w1⟩ := open_int Try.underlying3 (hval 1 3 v1 rfl rfl) h1
  obtain ⟨a2, rfl, rfl, rfl, w2⟩ := open_int Try.underlying22 (hval 2 22 v2 rfl rfl) h2
  clear hA0 hval0
  simp only [List.append_nil] at hW'
  have e0 := str_mk a0
  have b1 := bounds_i64 w1
  have b2 := bounds_u32 w2
  have hw := walk a0.data.toList (by simpa using w0) a1 (by omega) (by omega) a2 (by omega) (by omega) W
  rw [← e0] at hw
  refine hw.mono fun e W' ⟨he, hg⟩ => ?_
  subst he
  exact ⟨_, rfl, post_of_below (pa := []) (pv := []) hW' (fun _ _ _ => (trodAll_cons_mk (shut_bool Try.underlying4 _) trodAll_mk0)) (fun sp _ => (trodAll_cons_mk (shut_string Try.underlying9 w0) (trodAll_cons_mk (shut_int Try.underlying3 w1) (trodAll_cons_mk (shut_int Try.underlying22 w2) trodAll_mk0)))) (fun _ _ => rfl) rfl
    hg (ok_one (by kernel_rfl) rfl (okWide_bool_mk Try.underlying4 _))⟩
theorem over : Rows.sumBurstsRow.holds Try.pinned (OpenSpec.ofChange Rows.sumBurstsSpec) :=
  OpenClaim.holds_of_wide 5 Try.f5 rfl rfl rfl rfl rfl rfl rfl ⟨rfl, rfl, rfl, rfl, rfl⟩ rfl rfl rfl rfl rfl (by kernel_rfl) Try.func5 (by kernel_rfl)
    (of_decide_eq_true (by kernel_rfl)) (by unfold Func.isWrapper; first | (rw [if_pos (by decide +kernel)]; kernel_rfl) | (rw [if_neg (by decide +kernel)]; exact ⟨rfl, rfl⟩))
    (fun os started H enc _ => lifted os started H enc)
/-- THE STATEMENT -/
theorem proved : Rows.SumBurstsSaid :=
  over
#print axioms proved
end Go.Proofs.Ytfojjklohbiffaa.sumBursts
