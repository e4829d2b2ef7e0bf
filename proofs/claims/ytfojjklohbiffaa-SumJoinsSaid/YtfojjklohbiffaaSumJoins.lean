/-
  For every text and every place the call tranterlaw01.SumJoins returns true, and its arguments read afterwards as before.
  Its conditions: none beyond the row's own.
-/
import Derived.Test.YtfojjklohbiffaaRows
import Derived.WalkKit
import Derived.ProofKit
import Derived.OpenShut
import Derived.ShutString
import Derived.Test.YtfojjklohbiffaaPost
import Derived.Test.YtfojjklohbiffaaHead1
namespace Go.Proofs.Ytfojjklohbiffaa.sumJoins
open Go.ChangeShapes Go.WideShapes Go.ChangeAt Go.RowKit Tran
open Go.ChangeMaps (open_string shut_string)
set_option linter.unusedVariables false
theorem own : ownKnob Try.prog.godebug = none := by kernel_rfl
set_option maxRecDepth 100000 in
set_option maxHeartbeats 1000000 in
theorem walk (l : List UInt8) (w0 : l.length ≤ maxLen) (a1 : Int) (h0 : 0 ≤ a1) (h1 : a1 < 65536) (w : World) :
    Calls Try.prog 4 #[.string ⟨l.toArray⟩, .int .u16 a1] w fun e w' => e = .returned (.bool true) ∧ Below w.heap.size w w' := by
  unfold maxLen at w0
  by_cases hs : 3000 < l.length
  · go_enter Try.func4, Try.ntmps4
    go_wp2_with fail
    refine (head1_any _).mono ?_
    rintro e w1 ⟨rfl, hb⟩
    go_wp2
    go_ret
    exact ⟨rfl, hb⟩
  · obtain ⟨k, hk⟩ := Int.eq_ofNat_of_zero_le (Int.emod_nonneg a1 (by omega : (l.length : Int) + 1 ≠ 0))
    have hkl : k ≤ l.length := by have := Int.emod_lt_of_pos a1 (by omega : 0 < (l.length : Int) + 1); omega
    go_enter Try.func4, Try.ntmps4
    go_wp2_with fail
    refine (seal_l l (by omega) _).mono ?_
    rintro e w1 ⟨rfl, hb⟩
    go_wp2_with fail
    refine (open_at (Crc.sealed l) l true (by rw [Crc.sealed_length]; omega) ⟨Crc.opened_sealed _, Crc.opens_sealed _⟩ _).mono ?_
    rintro e w2 ⟨rfl, hb2⟩
    go_wp2_with fail
    have hB2 := hb.trans (hb2.mono hb.size)
    clear hb hb2
    have c1 : ∀ W, Calls Try.prog 27 #[.string ((⟨l.toArray⟩ : ByteArray).extract 0 k)] W fun e w' => e = .returned (.int .u32 (Crc.crc (l.take k))) ∧ Below W.heap.size W w' := by
      intro W; rw [str_take]; exact sum_l _ (by simp; omega) W
    have c2 : ∀ W, Calls Try.prog 29 #[.int .u32 (Crc.crc (l.take k)), .string ((⟨l.toArray⟩ : ByteArray).extract k l.length)] W fun e w' => e = .returned (.int .u32 (Crc.crc l)) ∧ Below W.heap.size W w' := by
      intro W
      rw [str_cut]
      have := more_l (Crc.crc (l.take k)) (by omega) (by have := Crc.crc_lt (l.take k); omega) ((l.take l.length).drop k) (by simp; omega) W
      rw [Int.toNat_natCast, List.take_length, Crc.crc_append, List.take_append_drop] at this
      rw [List.take_length]; exact this
    have c3 := sum_l l (by omega)
    have C1 := Lib.hid c1; have C2 := Lib.hid c2; have C3 := Lib.hid c3; clear c1 c2 c3
    have hlen : (Crc.sealed l).length = l.length + 4 := Crc.sealed_length l
    have htk : (⟨(Crc.sealed l).toArray⟩ : ByteArray).extract 0 l.length = ⟨l.toArray⟩ := by rw [str_take, Crc.sealed_take]
    refine wp_region_cls (fun W => Below w.heap.size w W) (by kernel_rfl) (by kernel_rfl) hB2.drew (fun hne => ?_)
    repeat (go_big_quiet_step (first
      | (go_at_call 27; ((with_reducible refine call_cls _ C1.out (below_on (Nat.le_refl _)))))
      | (go_at_call 29; ((with_reducible refine call_cls _ C2.out (below_on (Nat.le_refl _)))))
      | (go_at_call 27; ((with_reducible refine call_cls _ C3.out (below_on (Nat.le_refl _)))))))
    refine wpQuiet_nil ?_
    rintro ⟨w9, hB9⟩
    have hB9' : Below w.heap.size w (Sub.w ⟨w9, hB9⟩) := hB9
    generalize Sub.w ⟨w9, hB9⟩ = w10 at *
    clear hB9
    go_wp2_with fail
    refine (head1_any _).mono ?_
    rintro e w11 ⟨rfl, hb11⟩
    have hB11 := hB9'.trans (hb11.mono hB9'.size)
    go_wp2
    go_ret
    exact ⟨rfl, hB11⟩
set_option maxRecDepth 100000 in
theorem lifted (os : Os) (started : os.Started) (H : Type) (enc : TypeId × Value → H) :
    ReturnsInHanded {} Try.checked os 4 .any (Rows.sumJoinsSpec.pre6 enc Try.prog Try.f4 Rows.sumJoinsRow.domain false) (Rows.sumJoinsSpec.post enc Try.prog Try.f4 false true false false) := by
  refine returnsInHanded_of_change (C := Try.checked) own started (by kernel_rfl) Try.func4
    (ChangeSpec.witness6 (enc := enc) (C := Try.checked) false ⟨#[], #[.string ByteArray.empty, .int .u16 0], []⟩ 8 (by kernel_rfl) (by kernel_rfl) (by kernel_rfl) (by kernel_rfl)) ?_
  intro W base args ds gs before hval0 hW hcnd _
  have hval : ∀ (j : Nat) t v, Try.f4.params[j]? = some t → args[j]? = some v → Value.okWide Try.prog W .any base t v := hval0
  have hW' := hW
  obtain ⟨p, q, hA0, hV, rfl, hfz, hnd⟩ := hW
  have hA : DataW.TrodAll enc Try.prog W 0 (fun _ => true) true Try.f4.params.toList args.toList ds p := hA0
  rw [Try.params4] at hA hval
  obtain ⟨v0, vs0, d0, ds0, p0, q0, hargs, rfl, rfl, h0, r0⟩ := trodAll_cons hA
  obtain ⟨v1, vs1, d1, ds1, p1, q1, rfl, rfl, rfl, h1, r1⟩ := trodAll_cons r0
  obtain ⟨rfl, rfl, rfl⟩ := trodAll_nil r1
  obtain rfl : args = #[v0, v1] := by cases args; simp_all
  obtain ⟨rfl, rfl⟩ := trodVars_none hV
  obtain ⟨a0, rfl, rfl, rfl, w0⟩ := open_string Try.underlying9 (hval 0 9 v0 rfl rfl) h0
  obtain ⟨a1, rfl, rfl, rfl, w1⟩ := open_int Try.underlying33 (hval 1 33 v1 rfl rfl) h1
  clear hA0 hval0
  simp only [List.append_nil] at hW'
  have e0 := str_mk a0
  have b1 := bounds_u16 w1
  have hw := walk a0.data.toList (by simpa using w0) a1 (by omega) (by omega) W
  rw [← e0] at hw
  refine hw.mono fun e W' ⟨he, hg⟩ => ?_
  subst he
  exact ⟨_, rfl, post_of_below (pa := []) (pv := []) hW' (fun _ _ _ => (trodAll_cons_mk (shut_bool Try.underlying4 _) trodAll_mk0)) (fun sp _ => (trodAll_cons_mk (shut_string Try.underlying9 w0) (trodAll_cons_mk (shut_int Try.underlying33 w1) trodAll_mk0))) (fun _ _ => rfl) rfl
    hg (ok_one (by kernel_rfl) rfl (okWide_bool_mk Try.underlying4 _))⟩
theorem over : Rows.sumJoinsRow.holds Try.pinned (OpenSpec.ofChange Rows.sumJoinsSpec) :=
  OpenClaim.holds_of_wide 4 Try.f4 rfl rfl rfl rfl rfl rfl rfl ⟨rfl, rfl, rfl, rfl, rfl⟩ rfl rfl rfl rfl rfl (by kernel_rfl) Try.func4 (by kernel_rfl)
    (of_decide_eq_true (by kernel_rfl)) (by unfold Func.isWrapper; first | (rw [if_pos (by decide +kernel)]; kernel_rfl) | (rw [if_neg (by decide +kernel)]; exact ⟨rfl, rfl⟩))
    (fun os started H enc _ => lifted os started H enc)
/-- THE STATEMENT -/
theorem proved : Rows.SumJoinsSaid :=
  over
#print axioms proved
end Go.Proofs.Ytfojjklohbiffaa.sumJoins
