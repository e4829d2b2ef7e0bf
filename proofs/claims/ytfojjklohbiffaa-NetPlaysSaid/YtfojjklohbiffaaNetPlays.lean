/-
  NetPlays: whatever the acts: true.
  Its conditions: none beyond the row's own.
-/
import Derived.Test.YtfojjklohbiffaaRows
import Derived.WalkKit
import Derived.ProofKit
import Derived.OpenShut
import Derived.ShutString
import Derived.SizedLaws
import Derived.Carry
import Derived.Test.YtfojjklohbiffaaPost
import Derived.Test.YtfojjklohbiffaaNetJ
import Derived.Test.YtfojjklohbiffaaActs
namespace Go.Proofs.Ytfojjklohbiffaa.netPlays
open Go.ChangeShapes Go.WideShapes Go.ChangeAt Go.RowKit Tran
open Go.ChangeMaps (open_string shut_string)
set_option linter.unusedVariables false
theorem own : ownKnob Try.prog.godebug = none := by kernel_rfl
theorem laidOut : laidOutB Try.prog = true := by kernel_rfl
set_option maxRecDepth 100000 in
set_option maxHeartbeats 8000000 in
theorem walk (w : World) (A : Option Addr) (cap : Nat) (l : List NAct) (h : Rd w A l.length 3 (actCells l)) (hl : l.length ≤ maxLen) (hw0 : ∀ x ∈ l, x.ok) (hs : ∀ x ∈ l, x.s.length ≤ 140737488355328) :
    Calls Try.prog 9 #[.slice A l.length cap] w fun e w' => e = .returned (.bool true) ∧ Below w.heap.size w w' := by
  have HG := Lib.hid (great_any (cap := cap) h hl hs)
  have HR := Lib.hid h
  have HW := Lib.hid (fun x hx => (hw0 x hx).1)
  unfold maxLen at hl
  clear h hs hw0
  cases hgr : greatF l
  · have hl100 : l.length ≤ 100 := by
      unfold greatF at hgr
      rw [Bool.or_eq_false_iff] at hgr
      have := of_decide_eq_false hgr.1
      omega
    rw [hgr] at HG
    clear hgr
    go_enter Try.func9, Try.ntmps9
    go_wp2_with fail
    refine HG.out.mono ?_
    rintro e w1 ⟨rfl, rfl⟩
    go_wp2_with fail
    refine (new_any w).mono ?_
    rintro e w0 ⟨rfl, hw0⟩
    have n0 : NetAt w0 w.heap.size w.heap.size (.slice none 0 0) [] := by rw [hw0]; exact new_net w (Nat.le_refl _)
    have b0 : Below w.heap.size w w0 := by rw [hw0]; exact (Below.refl _ _).alloc (Nat.le_refl _) _
    have t0 : Txt w0 (.slice none 0 0) [] := ⟨none, 0, rfl, Nat.le_refl _, Nat.zero_le _, rfl, fun h => absurd h (by simp)⟩
    clear hw0 HG
    go_wp2_with fail
    go_loopw [3, 4, 5] (fun n q i wr => ∃ k : Nat, ∃ g B v fr, k ≤ l.length ∧ i = .int .i64 k ∧ n = .pointer (some ⟨g, 0, none⟩) ∧ NetAt wr g B v fr ∧ Txt wr q fr ∧ fr.length ≤ k ∧ Below w.heap.size w wr) (fun _ _ i _ => l.length - (intOf i).toNat)
    case atStart => exact ⟨0, w.heap.size, w.heap.size, _, [], by omega, rfl, rfl, n0, t0, by simp, b0⟩
    case round =>
      obtain ⟨k, g, B, v, fr, hk, rfl, rfl, n1, t1, hf, b1⟩ := hrel
      clear n0 t0 b0
      by_cases hlt : k < l.length
      · have C1 := Lib.hid (copy_any n1 (by omega))
        have hB := b1.size
        have hf2 : fr.length ≤ 5000 := by omega
        go_wp2_with fail
        refine C1.out.mono ?_
        rintro e w2 ⟨g2, v2, rfl, n2, d2⟩
        have b2 := b1.trans (d2.mono hB)
        have n3 := n1.below d2
        have t3 := t1.later d2
        have h3 : Held w2 g2 v2 _ fr := ⟨t3, fun k0 hk0 => by
          have e1 := t1.lt hk0
          have e2 := n2.ge
          exact ⟨by omega, fun e => by have := (n2.own.lt k0 e).1; omega⟩⟩
        obtain ⟨ad, rfl, h1c, h2c, h3c⟩ := act_cells (HR.out.later b2) hlt
        have D := Lib.hid (does_any n2 h3 d2.size hf2 l[k].what l[k].s l[k].place (HW.out _ (List.getElem_mem hlt)))
        have HF3 := Lib.hid (fun k hk => t1.lt (k := k) hk)
        obtain ⟨Aq, cq, rfl, _, _, _⟩ := id t1
        have N1 := Lib.hid n1.lt
        clear C1 h3 n1 t1 n2
        go_wp2_with fail
        refine D.out.mono ?_
        rintro e w4 ⟨v4, u4, rfl, n4, h4, d4⟩
        have n5 := n3.belowAt d4 N1.out.1 N1.out.2
        have t5 := t3.below d4 HF3.out
        have b4 := b2.trans (d4.mono hB)
        have hfl := actF_len fr l[k].what l[k].s l[k].place
        generalize actF fr l[k].what l[k].s l[k].place = fr2 at *
        have F1 := Lib.hid (frames_any n4 (by omega))
        clear D n3 t3 h1c h2c h3c
        go_wp2_with fail
        refine F1.out.mono ?_
        rintro e w6 ⟨v6, rfl, o6, d6⟩
        have t6 := h4.txt.later d6
        have S1 := Lib.hid (same_self (Txt.of o6) t6 (by omega))
        have b6 := b4.trans (d6.mono b4.size)
        have n6 := n5.below d6
        have n46 := n4.below d6
        have t56 := t5.later d6
        obtain ⟨A6, c6, rfl, _, _, _⟩ := id h4.txt
        obtain ⟨A9, c9, rfl, _, _, _⟩ := o6.slice
        clear F1 o6 n5 n4 t5
        go_wp2_with fail
        refine S1.out.mono ?_
        rintro e w7 ⟨rfl, d7⟩
        have b7 := b6.trans (d7.mono b6.size)
        have n7 := n6.below d7
        have n47 := n46.below d7
        have t57 := t56.later d7
        have t67 := t6.later d7
        have F2 := Lib.hid (frames_any n7 (by omega))
        clear S1 n6 n46 t56 t6
        go_wp2_with fail
        refine F2.out.mono ?_
        rintro e w8 ⟨v8, rfl, o8, d8⟩
        have b8 := b7.trans (d8.mono b7.size)
        have n48 := n47.below d8
        have t58 := t57.later d8
        have t68 := t67.later d8
        have S2 := Lib.hid (same_self (Txt.of o8) t58 (by omega))
        obtain ⟨A8, c8, rfl, _, _, _⟩ := o8.slice
        clear F2 n47 t57 t67 n7 o8
        go_wp2_with fail
        refine S2.out.mono ?_
        rintro e w9 ⟨rfl, d9⟩
        have b9 := b8.trans (d9.mono b8.size)
        have n49 := n48.below d9
        have t69 := t68.later d9
        have L2 := Lib.hid (len_any n49)
        clear S2 n48 t58 t68
        go_wp2_with fail
        refine L2.out.mono ?_
        rintro e w10 ⟨rfl, rfl⟩
        go_wp2
        go_roundw
        case rel => exact ⟨k + 1, g2, _, v4, fr2, hlt, by go_num, rfl, n49, t69, by omega, b9⟩
        case measure => simp [intOf]; omega
      · clear n1 t1
        go_wp2_with fail
        refine (head13_any _).mono ?_
        rintro e w9 ⟨rfl, d9⟩
        have b9 := b1.trans (d9.mono b1.size)
        go_wp2
        go_ret
        exact ⟨rfl, b9⟩
  · rw [hgr] at HG
    clear hgr
    go_enter Try.func9, Try.ntmps9
    go_wp2_with fail
    refine HG.out.mono ?_
    rintro e w1 ⟨rfl, rfl⟩
    go_wp2_with fail
    refine (head13_any w).mono ?_
    rintro e w0 ⟨rfl, b0⟩
    go_wp2
    go_ret
    exact ⟨rfl, b0⟩
set_option maxRecDepth 100000 in
theorem lifted (os : Os) (started : os.Started) (H : Type) (enc : TypeId × Value → H) :
    ReturnsInHanded {} Try.checked os 9 .any (Rows.netPlaysSpec.pre6 enc Try.prog Try.f9 Rows.netPlaysRow.domain false) (Rows.netPlaysSpec.post enc Try.prog Try.f9 false true false false) := by
  refine returnsInHanded_of_change_sized (C := Try.checked) own started (by kernel_rfl) Try.func9
    (ChangeSpec.witness6 (enc := enc) (C := Try.checked) false ⟨#[], #[.slice none 0 0], []⟩ 8 (by kernel_rfl) (by kernel_rfl) (by kernel_rfl) (by kernel_rfl)) ?_
  intro W base args ds gs before hval0 hW _ hsz0 _
  have hsz : (DataW.weightsEach Try.prog (Try.f9.params.toList ++ Rows.netPlaysSpec.plain.varTypes Try.prog) (ds ++ gs)).all (· ≤ reachBytes) = true := hsz0
  clear hsz0
  have hval : ∀ (j : Nat) t v, Try.f9.params[j]? = some t → args[j]? = some v → Value.okWide Try.prog W .any base t v := hval0
  have hW' := hW
  obtain ⟨p, q, hA0, hV, rfl, hfz, hnd⟩ := hW
  have hlt : ∀ x ∈ p, x.block < W.heap.size := fun x hx => hW'.lt x (List.mem_append_left _ hx)
  have hA : DataW.TrodAll enc Try.prog W 0 (fun _ => true) true Try.f9.params.toList args.toList ds p := hA0
  rw [Try.params9] at hA hval hsz
  obtain ⟨v0, vs0, d0, ds0, p0, q0, hargs, rfl, rfl, h0, r0⟩ := trodAll_cons hA
  obtain ⟨rfl, rfl, rfl⟩ := trodAll_nil r0
  obtain rfl : args = #[v0] := by cases args; simp_all
  obtain ⟨rfl, rfl⟩ := trodVars_none hV
  obtain ⟨a0, len0, cap0, rfl⟩ := okWide_slice Try.underlying39 (hval 0 39 v0 rfl rfl)
  have hk0 := h0
  obtain ⟨fuel0, hf0⟩ := h0
  obtain ⟨A0, c0, l0, e0, hr0, hl0, ho0, hs0⟩ := acts_of (v := .slice a0 len0 cap0) hf0 (fun n hn => by simpa using List.all_eq_true.1 hsz n (DataW.weights_mem_each (j := 0) (t := 39) rfl rfl n hn))
  clear hA0 hval0
  have hw := walk W A0 c0 l0 hr0 hl0 ho0 hs0
  rw [← e0] at hw
  refine hw.mono fun e W' ⟨he, hg⟩ => ?_
  subst he
  exact ⟨_, rfl, post_of_below (pa := (p0 ++ [])) (pv := []) hW' (fun _ _ _ => (trodAll_cons_mk (shut_bool Try.underlying4 _) trodAll_mk0)) (fun sp hsp => (trodAll_cons_mk (WideElems.Trod_stays laidOut (by kernel_rfl) (of_decide_eq_true (by kernel_rfl)) hk0 (fun x hx => hg.same (hlt x (by simp [hx]))) (fun x hx => hsp x (by simp [hx]))) trodAll_mk0)) (fun _ _ => rfl) rfl
    hg (ok_one (by kernel_rfl) rfl (okWide_bool_mk Try.underlying4 _))⟩
theorem over : Rows.netPlaysRow.holds Try.pinned (OpenSpec.ofChange Rows.netPlaysSpec) :=
  OpenClaim.holds_of_wide 9 Try.f9 rfl rfl rfl rfl rfl rfl rfl ⟨rfl, rfl, rfl, rfl, rfl⟩ rfl rfl rfl rfl rfl (by kernel_rfl) Try.func9 (by kernel_rfl)
    (of_decide_eq_true (by kernel_rfl)) (by unfold Func.isWrapper; first | (rw [if_pos (by decide +kernel)]; kernel_rfl) | (rw [if_neg (by decide +kernel)]; exact ⟨rfl, rfl⟩))
    (fun os started H enc _ => lifted os started H enc)
/-- THE STATEMENT -/
theorem proved : Rows.NetPlaysSaid :=
  over
#print axioms proved
end Go.Proofs.Ytfojjklohbiffaa.netPlays
