/-
  NetFull: whatever the text: true.
  Its conditions: none beyond the row's own.
-/
import Derived.Test.YtfojjklohbiffaaRows
import Derived.WalkKit
import Derived.ProofKit
import Derived.OpenShut
import Derived.ShutString
import Derived.Test.YtfojjklohbiffaaPost
import Derived.Test.YtfojjklohbiffaaNetL
namespace Go.Proofs.Ytfojjklohbiffaa.netFull
open Go.ChangeShapes Go.WideShapes Go.ChangeAt Go.RowKit Tran
open Go.ChangeMaps (open_string shut_string)
set_option linter.unusedVariables false
theorem own : ownKnob Try.prog.godebug = none := by kernel_rfl
set_option maxRecDepth 100000 in
set_option maxHeartbeats 8000000 in
theorem walk (a : List UInt8) (wa : a.length ≤ maxLen) (w : World) :
    Calls Try.prog 11 #[.string ⟨a.toArray⟩] w fun e w' => e = .returned (.bool true) ∧ Below w.heap.size w w' := by
  obtain ⟨i0, hi, hz0, hz1, hz2⟩ := info_parts info5'
  unfold maxLen at wa
  by_cases h100 : 100 < a.length
  · go_enter Try.func11, Try.ntmps11
    go_wp2_with fail
    refine (head13_any w).mono ?_
    rintro e w0 ⟨rfl, b0⟩
    go_wp2
    go_ret
    exact ⟨rfl, b0⟩
  · go_enter Try.func11, Try.ntmps11
    go_wp2_with fail
    refine (new_any w).mono ?_
    rintro e w0 ⟨rfl, hw0⟩
    have n0 : NetAt w0 w.heap.size w.heap.size (.slice none 0 0) [] := by rw [hw0]; exact new_net w (Nat.le_refl _)
    have b0 : Below w.heap.size w w0 := by rw [hw0]; exact (Below.refl _ _).alloc (Nat.le_refl _) _
    clear hw0
    go_wp2_with fail
    go_loopw [4] (fun i wr => ∃ k : Nat, ∃ v fr, k ≤ 4096 ∧ i = .int .i64 k ∧ NetAt wr w.heap.size w.heap.size v fr ∧ fr.length = k ∧ (∀ x ∈ fr, x.length ≤ 100) ∧ Below w.heap.size w wr) (fun i _ => 4096 - (intOf i).toNat)
    case atStart => exact ⟨0, _, [], by omega, rfl, n0, rfl, by simp, b0⟩
    case round =>
      obtain ⟨k, v, fr, hk, rfl, n1, hf, hs, b1⟩ := hrel
      clear n0 b0
      have HF := Lib.hid hf
      have HS := Lib.hid hs
      clear hs hf
      by_cases hlt : k < 4096
      · have S := send_any n1 b1.size a
        rw [show sendF fr a = (fr ++ [a], 0) by unfold sendF; have := HF.out; rw [if_neg (by omega), if_neg (by omega)]] at S
        have S := Lib.hid S
        go_wp2_with fail
        refine S.out.mono ?_
        rintro e w4 ⟨v4, rfl, n4, m4, g4⟩
        have b4 := b1.trans (n1.toBelow b1.size g4)
        go_wp2
        go_roundw
        case rel => exact ⟨k + 1, v4, _, hlt, by go_num, n4, by have := HF.out; simp; omega, fun x hx => by
          rcases List.mem_append.1 hx with h | h
          · exact HS.out x h
          · simp at h; subst h; omega, b4⟩
        case measure => simp [intOf]; omega
      · have hfl : fr.length = 4096 := by have := HF.out; omega
        have E1 : sendF fr a = (fr, 6) := by unfold sendF; rw [if_neg (by omega), if_pos (by omega)]
        have E2 : doubleF fr 5 = (fr, 6) := by
          unfold doubleF okPlace
          rw [if_pos (by simp; omega)]
          have h5 : fr.getD (5 : Int).toNat [] = fr[5] := by simp; rw [List.getElem?_eq_getElem (by omega)]; rfl
          have := HS.out fr[5] (List.getElem_mem (by omega))
          rw [h5]; unfold sendF; rw [if_neg (by omega), if_pos (by omega)]
        have E3 : dropF fr 5 = (cutF fr 5, 0) := by
          unfold dropF okPlace
          rw [if_pos (by simp; omega)]; rfl
        have L2 : (cutF fr 5).length = 4095 := by simp [cutF]; omega
        have E3 := Lib.hid E3; have E1 := Lib.hid E1; have E2 := Lib.hid E2; have L2 := Lib.hid L2; have HFL := Lib.hid hfl
        clear hfl
        have ZZ := Lib.hid (zeros 262145)
        go_wp2_with (first
          | (refine wpList_make_full _ rfl (.const (.int .i64 262145)) (.const (.int .i64 262145)) 35 rfl w.heap.size 5 i0 _ 1 Try.underlying35 hi hz0 hz1 .i64 .i64 _ _ 262145 rfl rfl rfl rfl (by rw [hz2]; omega) (by unfold maxLen; omega) b1.size ?_; intro w2 how hg; obtain ⟨Z, hZ, hbc⟩ := ZZ.out; have ho := Own.of how; rw [hbc] at ho; clear how hbc; have HZ := Lib.hid hZ; have HO := Lib.hid ho; clear hZ ho ZZ; have n2 := n1.chg ((Chg.refl (fun _ => False) wr).grown hg (by simp)) (fun h => h) (fun _ _ h => h); have b2 := b1.grown hg b1.size (by simp); clear hg)
          | (refine wpList_string_of rfl 35 9 (.tmp 26) rfl 5 _ w.heap.size _ Z rfl Try.underlying35 Try.underlying5 Try.underlying9 HO.out ?_))
        have S := send_any n2 b2.size a
        rw [E1.out] at S
        have S := Lib.hid S
        refine S.out.mono ?_
        rintro e w4 ⟨v4, rfl, n4, m4, g4⟩
        have b4 := b2.trans (n2.toBelow b2.size g4)
        have D := double_any n4 b4.size 5
        rw [E2.out] at D
        have D := Lib.hid D
        clear S n1 n2 m4 g4 b1
        go_wp2_with fail
        refine D.out.mono ?_
        rintro e w5 ⟨v5, rfl, n5, m5, g5⟩
        have b5 := b4.trans (n4.toBelow b4.size g5)
        have D2 := drop_any n5 b5.size (by have := HFL.out; omega) 5
        rw [E3.out] at D2
        have D2 := Lib.hid D2
        clear D n4 m5 g5
        go_wp2_with fail
        refine D2.out.mono ?_
        rintro e w6 ⟨v6, rfl, n6, m6, g6⟩
        have b6 := b5.trans (n5.toBelow b5.size g6)
        have S3 := send_any n6 b6.size Z
        rw [show sendF (cutF fr 5) Z = (cutF fr 5, 3) by unfold sendF; have := HZ.out; rw [if_pos (by omega)]] at S3
        have S3 := Lib.hid S3
        clear D2 n5 m6 g6
        go_wp2_with fail
        refine S3.out.mono ?_
        rintro e w7 ⟨v7, rfl, n7, m7, g7⟩
        have b7 := b6.trans (n6.toBelow b6.size g7)
        have S4 := send_any n7 b7.size (Z.drop 1)
        rw [show sendF (cutF fr 5) (Z.drop 1) = (cutF fr 5 ++ [Z.drop 1], 0) by unfold sendF; have h1 := HZ.out; have h2 := L2.out; rw [if_neg (by rw [List.length_drop]; omega), if_neg (by omega)]] at S4
        have S4 := Lib.hid S4
        have hzl1 : 1 ≤ Z.length := by have := HZ.out; omega
        have hzl2 : Z.length ≤ 300000 := by have := HZ.out; omega
        clear S3 n6 m7 g7
        go_wp2_with fail
        rw [show (⟨Z.toArray⟩ : ByteArray).extract 1 Z.length = ⟨(Z.drop 1).toArray⟩ by rw [str_cut, List.take_length]]
        refine S4.out.mono ?_
        rintro e w8 ⟨v8, rfl, n8, m8, g8⟩
        have b8 := b7.trans (n7.toBelow b7.size g8)
        have L4 := Lib.hid (len_any n8)
        have HL : (((cutF fr 5 ++ [Z.drop 1]).length : Nat) : Int) = 4096 := by rw [List.length_append, L2.out]; rfl
        rw [HL] at L4
        clear S4 n7 m8 g8 HL hzl1 hzl2
        go_wp2_with fail
        refine L4.out.mono ?_
        rintro e w9 ⟨rfl, rfl⟩
        have hB8 := b8.size
        have hT : Two ((w8.alloc (.cells #[.slice none 0 0, .bool false] 72)).alloc (.cells #[.pointer none, .pointer (some ⟨w8.heap.size, 0, none⟩)] 41)) ⟨w8.heap.size + 1, 0, none⟩ := two_new w8
        have b9 := (b8.alloc hB8 (.cells #[.slice none 0 0, .bool false] 72)).alloc (by simp; omega) (.cells #[.pointer none, .pointer (some ⟨w8.heap.size, 0, none⟩)] 41)
        clear L4 n8
        go_wp2
        obtain ⟨ad, had⟩ : ∃ ad : Addr, ad = ⟨w8.heap.size + 1, 0, none⟩ := ⟨_, rfl⟩
        rw [← had] at hT ⊢
        clear had
        go_loopw [8] (fun i wr => ∃ j : Nat, j ≤ 2 ∧ i = .int .i64 j ∧ Two wr ad ∧ Below w.heap.size w wr) (fun i _ => 2 - (intOf i).toNat)
        case atStart => exact ⟨0, by omega, rfl, hT, b9⟩
        case round =>
          obtain ⟨j, hj, rfl, hT2, c1⟩ := hrel
          clear hT b9 b8
          by_cases hlt2 : j < 2
          · obtain ⟨q, hc, hn⟩ := hT2 j hlt2
            have D := Lib.hid (deliver_no hn 0)
            go_wp2_with fail
            refine D.out.mono ?_
            rintro e w1 ⟨rfl, d1⟩
            have c2 := c1.trans (d1.mono c1.size)
            have T2 := Lib.hid (hT2.below d1)
            have n2' := Lib.hid (hn.below d1)
            have hc2 : w1.cell? (ad.add j) = some (.pointer q) := by rw [d1.cell (World.block_lt_of_cell? _ _ hc)]; exact hc
            clear D hT2 hn hc d1
            go_wp2_with fail
            refine (send_no n2'.out a).mono ?_
            rintro e w2 ⟨rfl, rfl⟩
            go_wp2_with fail
            refine (drop_no n2'.out 0).mono ?_
            rintro e w2 ⟨rfl, rfl⟩
            go_wp2_with fail
            refine (double_no n2'.out 0).mono ?_
            rintro e w2 ⟨rfl, rfl⟩
            go_wp2_with fail
            refine (frames_no n2'.out).mono ?_
            rintro e w2 ⟨rfl, rfl⟩
            go_wp2_with fail
            refine (len_no n2'.out).mono ?_
            rintro e w2 ⟨rfl, rfl⟩
            go_wp2_with fail
            refine (copy_no n2'.out).mono ?_
            rintro e w2 ⟨rfl, rfl⟩
            go_wp2
            go_roundw
            case rel => exact ⟨j + 1, hlt2, by go_num, T2.out, c2⟩
            case measure => simp [intOf]; omega
          · go_wp2_with fail
            refine (head13_any _).mono ?_
            rintro e w0 ⟨rfl, d0⟩
            have c2 := c1.trans (d0.mono c1.size)
            go_wp2
            go_ret
            exact ⟨rfl, c2⟩
set_option maxRecDepth 100000 in
theorem lifted (os : Os) (started : os.Started) (H : Type) (enc : TypeId × Value → H) :
    ReturnsInHanded {} Try.checked os 11 .any (Rows.netFullSpec.pre6 enc Try.prog Try.f11 Rows.netFullRow.domain false) (Rows.netFullSpec.post enc Try.prog Try.f11 false true false false) := by
  refine returnsInHanded_of_change (C := Try.checked) own started (by kernel_rfl) Try.func11
    (ChangeSpec.witness6 (enc := enc) (C := Try.checked) false ⟨#[], #[.string ByteArray.empty], []⟩ 8 (by kernel_rfl) (by kernel_rfl) (by kernel_rfl) (by kernel_rfl)) ?_
  intro W base args ds gs before hval0 hW hcnd _
  have hval : ∀ (j : Nat) t v, Try.f11.params[j]? = some t → args[j]? = some v → Value.okWide Try.prog W .any base t v := hval0
  have hW' := hW
  obtain ⟨p, q, hA0, hV, rfl, hfz, hnd⟩ := hW
  have hA : DataW.TrodAll enc Try.prog W 0 (fun _ => true) true Try.f11.params.toList args.toList ds p := hA0
  rw [Try.params11] at hA hval
  obtain ⟨v0, vs0, d0, ds0, p0, q0, hargs, rfl, rfl, h0, r0⟩ := trodAll_cons hA
  obtain ⟨rfl, rfl, rfl⟩ := trodAll_nil r0
  obtain rfl : args = #[v0] := by cases args; simp_all
  obtain ⟨rfl, rfl⟩ := trodVars_none hV
  obtain ⟨a0, rfl, rfl, rfl, w0⟩ := open_string Try.underlying9 (hval 0 9 v0 rfl rfl) h0
  clear hA0 hval0
  simp only [List.append_nil] at hW'
  have e0 := str_mk a0
  have hw := walk a0.data.toList (by simpa using w0) W
  rw [← e0] at hw
  refine hw.mono fun e W' ⟨he, hg⟩ => ?_
  subst he
  exact ⟨_, rfl, post_of_below (pa := []) (pv := []) hW' (fun _ _ _ => (trodAll_cons_mk (shut_bool Try.underlying4 _) trodAll_mk0)) (fun sp _ => (trodAll_cons_mk (shut_string Try.underlying9 w0) trodAll_mk0)) (fun _ _ => rfl) rfl
    hg (ok_one (by kernel_rfl) rfl (okWide_bool_mk Try.underlying4 _))⟩
theorem over : Rows.netFullRow.holds Try.pinned (OpenSpec.ofChange Rows.netFullSpec) :=
  OpenClaim.holds_of_wide 11 Try.f11 rfl rfl rfl rfl rfl rfl rfl ⟨rfl, rfl, rfl, rfl, rfl⟩ rfl rfl rfl rfl rfl (by kernel_rfl) Try.func11 (by kernel_rfl)
    (of_decide_eq_true (by kernel_rfl)) (by unfold Func.isWrapper; first | (rw [if_pos (by decide +kernel)]; kernel_rfl) | (rw [if_neg (by decide +kernel)]; exact ⟨rfl, rfl⟩))
    (fun os started H enc _ => lifted os started H enc)
/-- THE STATEMENT -/
theorem proved : Rows.NetFullSaid :=
  over
#print axioms proved
end Go.Proofs.Ytfojjklohbiffaa.netFull
