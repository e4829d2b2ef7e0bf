/-
  For every text and every word the call tranterlaw01.SumTells returns true, and its arguments read afterwards as before.
  Its conditions: none beyond the row's own.
-/
import Derived.Test.YtfojjklohbiffaaRows
import Derived.WalkKit
import Derived.ProofKit
import Derived.OpenShut
import Derived.ShutString
import Derived.Test.YtfojjklohbiffaaPost
import Derived.Test.YtfojjklohbiffaaHead1
namespace Go.Proofs.Ytfojjklohbiffaa.sumTells
open Go.ChangeShapes Go.WideShapes Go.ChangeAt Go.RowKit Tran
open Go.ChangeMaps (open_string shut_string)
set_option linter.unusedVariables false
theorem own : ownKnob Try.prog.godebug = none := by kernel_rfl
set_option maxRecDepth 100000 in
set_option maxHeartbeats 1000000 in
theorem walk (l : List UInt8) (w0 : l.length ≤ maxLen) (a1 : Int) (h0 : 0 ≤ a1) (h1 : a1 < 4294967296) (w : World) :
    Calls Try.prog 3 #[.string ⟨l.toArray⟩, .int .u32 a1] w fun e w' => e = .returned (.bool true) ∧ Below w.heap.size w w' := by
  unfold maxLen at w0
  by_cases hs : 3000 < l.length
  · go_enter Try.func3, Try.ntmps3
    go_wp2_with fail
    refine (head1_any _).mono ?_
    rintro e w1 ⟨rfl, hb⟩
    go_wp2
    go_ret
    exact ⟨rfl, hb⟩
  · go_enter Try.func3, Try.ntmps3
    go_wp2_with fail
    refine (table_any _).mono ?_
    rintro e w1 ⟨rfl, hb⟩
    have hz : w.heap.size ≤ w1.heap.size := hb.size
    go_wp2_with (refine wpList_store_row rfl 24 _ _ rfl w1.heap.size tabArr rfl rfl 24 Try.zeroCells24 (Blk.new w1 24 _) (by rw [tabArr_size]; exact size24) (by rw [tabArr_size]; exact zero24_size) tabArr_one ?_)
    have hk := (Blk.new w1 24 Try.zeroCells24).row tabArr
    have hB : Below w.heap.size w ((w1.alloc (Obj.cells Try.zeroCells24 24)).setRow w1.heap.size tabArr) := below_setRow (hb.alloc hz _) hz _
    generalize (w1.alloc (Obj.cells Try.zeroCells24 24)).setRow w1.heap.size tabArr = W at *
    clear hb
    go_loopw [6] (fun i wr => ∃ k : Nat, k ≤ 256 ∧ i = .int .i64 k ∧ Blk wr w1.heap.size 24 tabArr ∧ Below w.heap.size w wr) (fun i _ => 256 - (intOf i).toNat)
    case atStart => exact ⟨0, by omega, rfl, hk, hB⟩
    case round =>
      obtain ⟨k, hk1, rfl, hk2, hB2⟩ := hrel
      by_cases hlt : k < 256
      · have hc : wr.cell? ⟨w1.heap.size, k, none⟩ = some (.int .u32 (Crc.it 8 k)) := (hk2.cell k).trans (tabArr_get hlt)
        have hi : (k : Int) % 4294967296 = k := by omega
        have HE := Lib.hid (entry_any k (by omega))
        go_wp2_with fail
        go_quiet ((go_at_call 24; exact quiet_left (HE.out _)))
        go_wp2
        go_roundw
        case rel => exact ⟨k + 1, by omega, by go_num, hk2.drewN _, below_drewN hB2 _⟩
        case measure => simp [intOf]; omega
      · clear hB hk
        go_wp2_with fail
        refine (open_any l (by omega) _).mono ?_
        rintro e w2 ⟨rfl, hb2⟩
        have hB3 := hB2.trans (hb2.mono hB2.size)
        clear hb2
        go_wp2_with fail
        refine (refopen_any l (by omega) _).mono ?_
        rintro e w3 ⟨rfl, hb3⟩
        have hB4 := hB3.trans (hb3.mono hB3.size)
        clear hb3
        go_wp2_with fail
        refine (sum_l l (by omega) _).mono ?_
        rintro e w4 ⟨rfl, hb4⟩
        have hB5 := hB4.trans (hb4.mono hB4.size)
        clear hb4
        go_wp2_with fail
        refine (refsum_l l (by omega) _).mono ?_
        rintro e w5 ⟨rfl, rfl⟩
        go_wp2_with fail
        refine (more_l a1 h0 h1 l (by omega) _).mono ?_
        rintro e w6 ⟨rfl, hb6⟩
        have hB7 := hB5.trans (hb6.mono hB5.size)
        clear hb6
        go_wp2_with fail
        refine (refmore_l a1 h0 h1 l (by omega) _).mono ?_
        rintro e w7 ⟨rfl, rfl⟩
        go_wp2_with fail
        refine (seal_l l (by omega) _).mono ?_
        rintro e w8 ⟨rfl, hb8⟩
        have hB9 := hB7.trans (hb8.mono hB7.size)
        clear hb8
        go_wp2_with fail
        refine (refseal_l l (by omega) _).mono ?_
        rintro e w9 ⟨rfl, hb9⟩
        have hB10 := hB9.trans (hb9.mono hB9.size)
        clear hb9
        go_wp2_with fail
        refine (head1_any _).mono ?_
        rintro e w10 ⟨rfl, hb10⟩
        have hB11 := hB10.trans (hb10.mono hB10.size)
        clear hb10
        go_wp2
        go_ret
        exact ⟨rfl, hB11⟩
set_option maxRecDepth 100000 in
theorem lifted (os : Os) (started : os.Started) (H : Type) (enc : TypeId × Value → H) :
    ReturnsInHanded {} Try.checked os 3 .any (Rows.sumTellsSpec.pre6 enc Try.prog Try.f3 Rows.sumTellsRow.domain false) (Rows.sumTellsSpec.post enc Try.prog Try.f3 false true false false) := by
  refine returnsInHanded_of_change (C := Try.checked) own started (by kernel_rfl) Try.func3
    (ChangeSpec.witness6 (enc := enc) (C := Try.checked) false ⟨#[], #[.string ByteArray.empty, .int .u32 0], []⟩ 8 (by kernel_rfl) (by kernel_rfl) (by kernel_rfl) (by kernel_rfl)) ?_
  intro W base args ds gs before hval0 hW hcnd _
  have hval : ∀ (j : Nat) t v, Try.f3.params[j]? = some t → args[j]? = some v → Value.okWide Try.prog W .any base t v := hval0
  have hW' := hW
  obtain ⟨p, q, hA0, hV, rfl, hfz, hnd⟩ := hW
  have hA : DataW.TrodAll enc Try.prog W 0 (fun _ => true) true Try.f3.params.toList args.toList ds p := hA0
  rw [Try.params3] at hA hval
  obtain ⟨v0, vs0, d0, ds0, p0, q0, hargs, rfl, rfl, h0, r0⟩ := trodAll_cons hA
  obtain ⟨v1, vs1, d1, ds1, p1, q1, rfl, rfl, rfl, h1, r1⟩ := trodAll_cons r0
  obtain ⟨rfl, rfl, rfl⟩ := trodAll_nil r1
  obtain rfl : args = #[v0, v1] := by cases args; simp_all
  obtain ⟨rfl, rfl⟩ := trodVars_none hV
  obtain ⟨a0, rfl, rfl, rfl, w0⟩ := open_string Try.underlying9 (hval 0 9 v0 rfl rfl) h0
  obtain ⟨a1, rfl, rfl, rfl, w1⟩ := open_int Try.underlying22 (hval 1 22 v1 rfl rfl) h1
  clear hA0 hval0
  simp only [List.append_nil] at hW'
  have e0 := str_mk a0
  have b1 := bounds_u32 w1
  have hw := walk a0.data.toList (by simpa using w0) a1 (by omega) (by omega) W
  rw [← e0] at hw
  refine hw.mono fun e W' ⟨he, hg⟩ => ?_
  subst he
  exact ⟨_, rfl, post_of_below (pa := []) (pv := []) hW' (fun _ _ _ => (trodAll_cons_mk (shut_bool Try.underlying4 _) trodAll_mk0)) (fun sp _ => (trodAll_cons_mk (shut_string Try.underlying9 w0) (trodAll_cons_mk (shut_int Try.underlying22 w1) trodAll_mk0))) (fun _ _ => rfl) rfl
    hg (ok_one (by kernel_rfl) rfl (okWide_bool_mk Try.underlying4 _))⟩
theorem over : Rows.sumTellsRow.holds Try.pinned (OpenSpec.ofChange Rows.sumTellsSpec) :=
  OpenClaim.holds_of_wide 3 Try.f3 rfl rfl rfl rfl rfl rfl rfl ⟨rfl, rfl, rfl, rfl, rfl⟩ rfl rfl rfl rfl rfl (by kernel_rfl) Try.func3 (by kernel_rfl)
    (of_decide_eq_true (by kernel_rfl)) (by unfold Func.isWrapper; first | (rw [if_pos (by decide +kernel)]; kernel_rfl) | (rw [if_neg (by decide +kernel)]; exact ⟨rfl, rfl⟩))
    (fun os started H enc _ => lifted os started H enc)
/-- THE STATEMENT -/
theorem proved : Rows.SumTellsSaid :=
  over
#print axioms proved
end Go.Proofs.Ytfojjklohbiffaa.sumTells
