/-
  NetCounts: whatever the acts: true.
  Its conditions: none beyond the row's own.
-/
import Derived.Test.YtfojjklohbiffaaRows
import Derived.WalkKit
import Derived.ProofKit
import Derived.OpenShut
import Derived.ShutString
import Derived.SizedLaws
import Derived.Carry
import Derived.Test.YtfojjklohbiffaaPost
import Derived.Test.YtfojjklohbiffaaNetK
import Derived.Test.YtfojjklohbiffaaActs
namespace Go.Proofs.Ytfojjklohbiffaa.netCounts
open Go.ChangeShapes Go.WideShapes Go.ChangeAt Go.RowKit Tran
open Go.ChangeMaps (open_string shut_string)
set_option linter.unusedVariables false
theorem own : ownKnob Try.prog.godebug = none := by kernel_rfl
theorem laidOut : laidOutB Try.prog = true := by kernel_rfl
theorem apart_nil (a : Value) : Apart (.slice none 0 0) a := fun k hk => by simp [blkOf] at hk
theorem total_mem : ∀ (l : List NAct) (x : NAct), x ∈ l → x.s.length ≤ total l
  | y :: l, x, hx => by
    unfold total
    rw [List.map_cons, List.sum_cons]
    rcases List.mem_cons.1 hx with rfl | h
    · omega
    · have := total_mem l x h
      unfold total at this; omega
set_option maxRecDepth 100000 in
set_option maxHeartbeats 8000000 in
theorem walk (w : World) (A : Option Addr) (cap : Nat) (l : List NAct) (h : Rd w A l.length 3 (actCells l)) (hl : l.length ≤ maxLen) (hw0 : ∀ x ∈ l, x.ok) (hs : ∀ x ∈ l, x.s.length ≤ 140737488355328) :
    Calls Try.prog 7 #[.slice A l.length cap] w fun e w' => e = .returned (.bool true) ∧ Below w.heap.size w w' := by
  obtain ⟨i0, hi, hz0, hz1, hz2⟩ := info_parts info9
  have HG := Lib.hid (great_any (cap := cap) h hl hs)
  have HR := Lib.hid h
  have HW := Lib.hid (fun x hx => (hw0 x hx).1)
  unfold maxLen at hl
  clear h hs hw0
  cases hgr : greatF l
  · have hl100 : l.length ≤ 100 := by
      unfold greatF at hgr
      rw [Bool.or_eq_false_iff] at hgr
      have := of_decide_eq_false hgr.1
      omega
    have hl2000 : total l ≤ 2000 := by
      unfold greatF at hgr
      rw [Bool.or_eq_false_iff] at hgr
      have := of_decide_eq_false hgr.2
      omega
    have HT := Lib.hid (fun x hx => Nat.le_trans (total_mem l x hx) hl2000)
    rw [hgr] at HG
    clear hgr hl2000
    go_enter Try.func7, Try.ntmps7
    go_wp2_with fail
    refine HG.out.mono ?_
    rintro e w1 ⟨rfl, rfl⟩
    go_wp2_with fail
    refine (new_any w).mono ?_
    rintro e w0 ⟨rfl, hw0⟩
    have n0 : NetAt w0 w.heap.size w.heap.size (.slice none 0 0) [] := by rw [hw0]; exact new_net w (Nat.le_refl _)
    have b0 : Below w.heap.size w w0 := by rw [hw0]; exact (Below.refl _ _).alloc (Nat.le_refl _) _
    have C0 : Cnt w0 w.heap.size w.heap.size (.slice none 0 0) (.slice none 0 0) (.slice none 0 0) [] [] [] := ⟨n0, Own.nil _ _ _ _, Own.nil _ _ _ _, apart_nil _, apart_nil _, apart_nil _⟩
    clear hw0 HG n0
    go_wp2_with fail
    go_loopw [4, 5, 6] (fun a b i wr => ∃ k : Nat, ∃ v fr ins outs, k ≤ l.length ∧ i = .int .i64 k ∧ Cnt wr w.heap.size w.heap.size v a b fr ins outs ∧ ins.Perm (outs ++ fr) ∧ ins.length ≤ k ∧ Below w.heap.size w wr) (fun _ _ i _ => l.length - (intOf i).toNat)
    case atStart => exact ⟨0, _, [], [], [], by omega, rfl, C0, .refl _, by simp, b0⟩
    case round =>
      obtain ⟨k, v, fr, ins, outs, hk, rfl, C1, pm, hil, b1⟩ := hrel
      clear b0 C0
      have PM := Lib.hid pm
      have hpl := pm.length_eq
      rw [List.length_append] at hpl
      have hol : outs.length ≤ k := by omega
      have hfl : fr.length ≤ k := by omega
      clear pm hpl
      by_cases hlt : k < l.length
      · have hB := b1.size
        have F := Lib.hid (frames_any C1.net (by omega))
        obtain ⟨Aa, ca, rfl, _, _, _⟩ := C1.oa.slice
        obtain ⟨Ab, cb, rfl, _, _, _⟩ := C1.ob.slice
        go_wp2_with fail
        refine F.out.mono ?_
        rintro e w2 ⟨v7, rfl, o7, d2⟩
        have b2 := b1.trans (d2.mono hB)
        have C2 := C1.below d2
        have H2 := Held.new C1.net o7
        have HC := Lib.hid (fun W (hb : Below w.heap.size w W) => act_cells (HR.out.later hb) hlt)
        have hs2 := HT.out _ (List.getElem_mem hlt)
        have hw2 := HW.out _ (List.getElem_mem hlt)
        clear C1 F
        have h5 : l[k].what % 5 = 0 ∨ l[k].what % 5 = 1 ∨ l[k].what % 5 = 2 ∨ l[k].what % 5 = 3 ∨ l[k].what % 5 = 4 := by omega
        generalize l[k].what = what at *
        generalize l[k].s = s at *
        generalize l[k].place = place at *
        obtain ⟨ad, rfl, h1c, h2c, h3c⟩ := HC.out w2 b2
        rcases h5 with hx | hx | hx | hx | hx
        · have t0 : (what % 5 == 0) = true := by rw [beq_iff_eq]; omega
          clear hx
          have hsf : sendF fr s = (fr ++ [s], 0) := by unfold sendF; rw [if_neg (by omega), if_neg (by omega)]
          have S := send_any C2.net b2.size s
          rw [hsf] at S
          have S := Lib.hid S
          clear hsf H2 o7
          go_wp2_with fail
          refine S.out.mono ?_
          rintro e w4 ⟨v4, rfl, n4, m4, g4⟩
          have b4 := b2.trans (C2.net.toBelow b2.size g4)
          have C4 := C2.step n4 m4 g4
          obtain ⟨ad', had, h1d, h2d, h3d⟩ := HC.out w4 b4
          injection had with had
          subst had
          have hB4 := b4.size
          have ho := C4.oa
          go_wp2_with (at_builtin; refine wpList_append_Own _ rfl (.tmp 70) (.tmp 76) 43 rfl w.heap.size 9 i0 _ 1 16 Try.underlying43 hi hz0 hz1 hz2 rfl (by decide) (.slice Aa ins.length ca) _ _ rfl (ho.alloc _) (some ⟨w4.heap.size, 0, none⟩) 1 1 [_] rfl (Rd.one w4 _ 9) (by intro u hu; simp at hu; subst hu; rfl) (by unfold maxLen; omega) (by omega) (by simp; omega) ?_; intro va w5 ho5 hg5 hat5; have l5 := (Below.refl w4.heap.size w4).alloc (Nat.le_refl _) (.cells #[.string ⟨s.toArray⟩] 9); have C5 := (C4.below l5).growA ho5 hg5 hat5; have b5 := (b4.alloc hB4 (.cells #[.string ⟨s.toArray⟩] 9)).grown hg5 (by simp; omega) (fun k hk => (ho.lt k hk).1))
          obtain ⟨Ac, cc, hac, _, _, _⟩ := C5.oa.slice
          subst hac
          go_roundw
          case rel => exact ⟨k + 1, _, _, _, _, hlt, by go_num, C5, perm_in PM.out s, by first | omega | (simp; omega), b5⟩
          case measure => simp [intOf]; omega
        · have t0 : (what % 5 == 0) = false := by rw [beq_eq_false_iff_ne]; omega
          have t1 : (what % 5 == 1) = true := by rw [beq_iff_eq]; omega
          clear hx
          have hsf : sendF fr s = (fr ++ [s], 0) := by unfold sendF; rw [if_neg (by omega), if_neg (by omega)]
          have S := send_any C2.net b2.size s
          rw [hsf] at S
          have S := Lib.hid S
          clear hsf H2 o7
          go_wp2_with fail
          refine S.out.mono ?_
          rintro e w4 ⟨v4, rfl, n4, m4, g4⟩
          have b4 := b2.trans (C2.net.toBelow b2.size g4)
          have C4 := C2.step n4 m4 g4
          obtain ⟨ad', had, h1d, h2d, h3d⟩ := HC.out w4 b4
          injection had with had
          subst had
          have hB4 := b4.size
          have ho := C4.oa
          go_wp2_with (at_builtin; refine wpList_append_Own _ rfl (.tmp 70) (.tmp 76) 43 rfl w.heap.size 9 i0 _ 1 16 Try.underlying43 hi hz0 hz1 hz2 rfl (by decide) (.slice Aa ins.length ca) _ _ rfl (ho.alloc _) (some ⟨w4.heap.size, 0, none⟩) 1 1 [_] rfl (Rd.one w4 _ 9) (by intro u hu; simp at hu; subst hu; rfl) (by unfold maxLen; omega) (by omega) (by simp; omega) ?_; intro va w5 ho5 hg5 hat5; have l5 := (Below.refl w4.heap.size w4).alloc (Nat.le_refl _) (.cells #[.string ⟨s.toArray⟩] 9); have C5 := (C4.below l5).growA ho5 hg5 hat5; have b5 := (b4.alloc hB4 (.cells #[.string ⟨s.toArray⟩] 9)).grown hg5 (by simp; omega) (fun k hk => (ho.lt k hk).1))
          obtain ⟨Ac, cc, hac, _, _, _⟩ := C5.oa.slice
          subst hac
          go_roundw
          case rel => exact ⟨k + 1, _, _, _, _, hlt, by go_num, C5, perm_in PM.out s, by first | omega | (simp; omega), b5⟩
          case measure => simp [intOf]; omega
        · have t0 : (what % 5 == 0) = false := by rw [beq_eq_false_iff_ne]; omega
          have t1 : (what % 5 == 1) = false := by rw [beq_eq_false_iff_ne]; omega
          have t2 : (what % 5 == 2) = true := by rw [beq_iff_eq]; omega
          clear hx
          have S := deliver_any C2.net b2.size (by omega) place
          clear H2 o7
          rcases take_cases fr place with ⟨p, hp, rfl, e⟩ | e
          · rw [e] at S
            have S := Lib.hid S
            clear e
            go_wp2_with fail
            refine S.out.mono ?_
            rintro e w4 ⟨v4, rfl, n4, m4, g4⟩
            have b4 := b2.trans (C2.net.toBelow b2.size g4)
            have C4 := C2.step n4 m4 g4
            have hB4 := b4.size
            have ho := C4.ob
            go_wp2_with (at_builtin; refine wpList_append_Own _ rfl (.tmp 88) (.tmp 90) 43 rfl w.heap.size 9 i0 _ 1 16 Try.underlying43 hi hz0 hz1 hz2 rfl (by decide) (.slice Ab outs.length cb) _ _ rfl (ho.alloc _) (some ⟨w4.heap.size, 0, none⟩) 1 1 [_] rfl (Rd.one w4 _ 9) (by intro u hu; simp at hu; subst hu; rfl) (by unfold maxLen; omega) (by omega) (by simp; omega) ?_; intro va w5 ho5 hg5 hat5; have l5 := (Below.refl w4.heap.size w4).alloc (Nat.le_refl _) (.cells #[.string ⟨fr[p].toArray⟩] 9); have C5 := (C4.below l5).growB ho5 hg5 hat5; have b5 := (b4.alloc hB4 (.cells #[.string ⟨fr[p].toArray⟩] 9)).grown hg5 (by simp; omega) (fun k hk => (ho.lt k hk).1))
            obtain ⟨Ac, cc, hac, _, _, _⟩ := C5.ob.slice
            subst hac
            go_roundw
            case rel => exact ⟨k + 1, _, _, _, _, hlt, by go_num, C5, perm_out PM.out hp, by first | omega | (simp; omega), b5⟩
            case measure => simp [intOf]; omega
          · rw [e] at S
            have S := Lib.hid S
            clear e
            go_wp2_with fail
            refine S.out.mono ?_
            rintro e w4 ⟨v4, rfl, n4, m4, g4⟩
            have b4 := b2.trans (C2.net.toBelow b2.size g4)
            have C4 := C2.step n4 m4 g4
            go_wp2
            go_roundw
            case rel => exact ⟨k + 1, _, _, _, _, hlt, by go_num, C4, PM.out, by first | omega | (simp; omega), b4⟩
            case measure => simp [intOf]; omega
        · have t0 : (what % 5 == 0) = false := by rw [beq_eq_false_iff_ne]; omega
          have t1 : (what % 5 == 1) = false := by rw [beq_eq_false_iff_ne]; omega
          have t2 : (what % 5 == 2) = false := by rw [beq_eq_false_iff_ne]; omega
          have t3 : (what % 5 == 3) = true := by rw [beq_iff_eq]; omega
          clear hx
          have S := drop_any C2.net b2.size (by omega) place
          obtain ⟨A7, c7, rfl, _, _, _⟩ := o7.slice
          rcases drop_cases fr place with ⟨p, hp, rfl, e⟩ | e
          · rw [e] at S
            have S := Lib.hid S
            clear e
            go_wp2_with fail
            refine S.out.mono ?_
            rintro e w4 ⟨v4, rfl, n4, m4, g4⟩
            have b4 := b2.trans (C2.net.toBelow b2.size g4)
            have C4 := C2.step n4 m4 g4
            have H4 := H2.step m4 g4
            obtain ⟨A7', c7', hv7, _, _, r7⟩ := H4.txt
            injection hv7 with hv7 _ _
            subst hv7
            obtain ⟨a7, rfl, c7c⟩ := Txt.cell r7 hp
            have hB4 := b4.size
            have ho := C4.ob
            go_wp2_with (at_builtin; refine wpList_append_Own _ rfl (.tmp 108) (.tmp 113) 43 rfl w.heap.size 9 i0 _ 1 16 Try.underlying43 hi hz0 hz1 hz2 rfl (by decide) (.slice Ab outs.length cb) _ _ rfl (ho.alloc _) (some ⟨w4.heap.size, 0, none⟩) 1 1 [_] rfl (Rd.one w4 _ 9) (by intro u hu; simp at hu; subst hu; rfl) (by unfold maxLen; omega) (by omega) (by simp; omega) ?_; intro va w5 ho5 hg5 hat5; have l5 := (Below.refl w4.heap.size w4).alloc (Nat.le_refl _) (.cells #[.string ⟨fr[p].toArray⟩] 9); have C5 := (C4.below l5).growB ho5 hg5 hat5; have b5 := (b4.alloc hB4 (.cells #[.string ⟨fr[p].toArray⟩] 9)).grown hg5 (by simp; omega) (fun k hk => (ho.lt k hk).1))
            obtain ⟨Ac, cc, hac, _, _, _⟩ := C5.ob.slice
            subst hac
            go_roundw
            case rel => exact ⟨k + 1, _, _, _, _, hlt, by go_num, C5, perm_out PM.out hp, by first | omega | (simp; omega), b5⟩
            case measure => simp [intOf]; omega
          · rw [e] at S
            have S := Lib.hid S
            clear e
            go_wp2_with fail
            refine S.out.mono ?_
            rintro e w4 ⟨v4, rfl, n4, m4, g4⟩
            have b4 := b2.trans (C2.net.toBelow b2.size g4)
            have C4 := C2.step n4 m4 g4
            go_wp2
            go_roundw
            case rel => exact ⟨k + 1, _, _, _, _, hlt, by go_num, C4, PM.out, by first | omega | (simp; omega), b4⟩
            case measure => simp [intOf]; omega
        · have t0 : (what % 5 == 0) = false := by rw [beq_eq_false_iff_ne]; omega
          have t1 : (what % 5 == 1) = false := by rw [beq_eq_false_iff_ne]; omega
          have t2 : (what % 5 == 2) = false := by rw [beq_eq_false_iff_ne]; omega
          have t3 : (what % 5 == 3) = false := by rw [beq_eq_false_iff_ne]; omega
          clear hx
          have S := double_any C2.net b2.size place
          obtain ⟨A7, c7, rfl, _, _, _⟩ := o7.slice
          rcases double_cases fr place with ⟨p, hp, rfl, e⟩ | ⟨c, hc0, hc1, e⟩
          · rw [e] at S
            have S := Lib.hid S
            clear e
            go_wp2_with fail
            refine S.out.mono ?_
            rintro e w4 ⟨v4, rfl, n4, m4, g4⟩
            have b4 := b2.trans (C2.net.toBelow b2.size g4)
            have C4 := C2.step n4 m4 g4
            have H4 := H2.step m4 g4
            obtain ⟨A7', c7', hv7, _, _, r7⟩ := H4.txt
            injection hv7 with hv7 _ _
            subst hv7
            obtain ⟨a7, rfl, c7c⟩ := Txt.cell r7 hp
            have hB4 := b4.size
            have ho := C4.oa
            go_wp2_with (at_builtin; refine wpList_append_Own _ rfl (.tmp 52) (.tmp 57) 43 rfl w.heap.size 9 i0 _ 1 16 Try.underlying43 hi hz0 hz1 hz2 rfl (by decide) (.slice Aa ins.length ca) _ _ rfl (ho.alloc _) (some ⟨w4.heap.size, 0, none⟩) 1 1 [_] rfl (Rd.one w4 _ 9) (by intro u hu; simp at hu; subst hu; rfl) (by unfold maxLen; omega) (by omega) (by simp; omega) ?_; intro va w5 ho5 hg5 hat5; have l5 := (Below.refl w4.heap.size w4).alloc (Nat.le_refl _) (.cells #[.string ⟨fr[p].toArray⟩] 9); have C5 := (C4.below l5).growA ho5 hg5 hat5; have b5 := (b4.alloc hB4 (.cells #[.string ⟨fr[p].toArray⟩] 9)).grown hg5 (by simp; omega) (fun k hk => (ho.lt k hk).1))
            obtain ⟨Ac, cc, hac, _, _, _⟩ := C5.oa.slice
            subst hac
            go_roundw
            case rel => exact ⟨k + 1, _, _, _, _, hlt, by go_num, C5, perm_in PM.out _, by first | omega | (simp; omega), b5⟩
            case measure => simp [intOf]; omega
          · rw [e] at S
            have S := Lib.hid S
            have hcf : ((c : Int) == 0) = false := by rw [beq_eq_false_iff_ne]; omega
            clear e hc0
            go_wp2_with fail
            refine S.out.mono ?_
            rintro e w4 ⟨v4, rfl, n4, m4, g4⟩
            have b4 := b2.trans (C2.net.toBelow b2.size g4)
            have C4 := C2.step n4 m4 g4
            go_wp2
            go_roundw
            case rel => exact ⟨k + 1, _, _, _, _, hlt, by go_num, C4, PM.out, by first | omega | (simp; omega), b4⟩
            case measure => simp [intOf]; omega
      · have F := Lib.hid (frames_any C1.net (by omega))
        have hq2 : ((ins.length : Int) == (outs.length : Int) + (fr.length : Int)) = true := by
          have := PM.out.length_eq
          rw [List.length_append] at this
          rw [beq_iff_eq]; omega
        obtain ⟨Aa, ca, rfl, _, _, _⟩ := C1.oa.slice
        obtain ⟨Ab, cb, rfl, _, _, _⟩ := C1.ob.slice
        go_wp2_with fail
        refine F.out.mono ?_
        rintro e w2 ⟨v11, rfl, o11, d2⟩
        have b2 := b1.trans (d2.mono b1.size)
        have C2 := C1.below d2
        obtain ⟨A11, c11, rfl, _, _, _⟩ := o11.slice
        have X1 : ∃ D : Nat, Own w2 D 9 1 (.slice A11 fr.length c11) fr.length (strs fr) := ⟨_, o11⟩
        have X0 := Lib.hid (And.intro b2 (And.intro C2.oa (And.intro C2.ob X1)))
        clear F C1 C2 o11 b2 X1
        go_wp2
        go_loopw [12] (fun i wr => ∃ k : Nat, k ≤ l.length ∧ i = .int .i64 k ∧ Below w.heap.size w wr ∧ Own wr w.heap.size 9 1 (.slice Aa ins.length ca) ins.length (strs ins) ∧ Own wr w.heap.size 9 1 (.slice Ab outs.length cb) outs.length (strs outs) ∧ ∃ D : Nat, Own wr D 9 1 (.slice A11 fr.length c11) fr.length (strs fr)) (fun i _ => l.length - (intOf i).toNat)
        case atStart => exact ⟨0, by omega, rfl, X0.out⟩
        case round =>
          obtain ⟨j, hj, rfl, b3, oa, ob, D, of⟩ := hrel
          have OA := Lib.hid oa; have OB := Lib.hid ob; have OF := Lib.hid of
          clear oa ob of X0
          by_cases hlj : j < l.length
          · obtain ⟨ad, rfl, h1c, h2c, h3c⟩ := act_cells (HR.out.later b3) hlj
            have hcc : ins.count l[j].s = outs.count l[j].s + fr.count l[j].s := by rw [PM.out.count_eq, List.count_append]
            have hca := List.count_le_length (a := l[j].s) (l := ins)
            have HA := Lib.hid (fun m => count_any (Txt.of (OA.out.drewN m)) (by omega) l[j].s)
            have HB := Lib.hid (fun m => count_any (Txt.of (OB.out.drewN m)) (by omega) l[j].s)
            have HF := Lib.hid (fun m => count_any (Txt.of (OF.out.drewN m)) (by omega) l[j].s)
            clear h1c h3c
            generalize ins.count l[j].s = xa at *
            generalize outs.count l[j].s = xb at *
            generalize fr.count l[j].s = xf at *
            have hqq : ((xa : Int) != (xb : Int) + (xf : Int)) = false := by rw [bne_eq_false_iff_eq]; omega
            have hxb : xb ≤ 100 := by omega
            have hxf : xf ≤ 100 := by omega
            clear hcc hca
            go_wp2_with fail
            go_quiet ((go_at_call 41; first | (with_reducible exact quiet_left (HA.out _)) | (with_reducible exact quiet_left (HB.out _)) | (with_reducible exact quiet_left (HF.out _))))
            go_wp2
            go_roundw
            case rel => exact ⟨j + 1, by omega, by go_num, below_drewN b3 nq, OA.out.drewN nq, OB.out.drewN nq, D, OF.out.drewN nq⟩
            case measure => simp [intOf]; omega
          · go_wp2_with fail
            refine (head13_any _).mono ?_
            rintro e w9 ⟨rfl, d9⟩
            have b9 := b3.trans (d9.mono b3.size)
            go_wp2
            go_ret
            exact ⟨rfl, b9⟩
  · rw [hgr] at HG
    clear hgr
    go_enter Try.func7, Try.ntmps7
    go_wp2_with fail
    refine HG.out.mono ?_
    rintro e w1 ⟨rfl, rfl⟩
    go_wp2_with fail
    refine (head13_any w).mono ?_
    rintro e w0 ⟨rfl, b0⟩
    go_wp2
    go_ret
    exact ⟨rfl, b0⟩
set_option maxRecDepth 100000 in
theorem lifted (os : Os) (started : os.Started) (H : Type) (enc : TypeId × Value → H) :
    ReturnsInHanded {} Try.checked os 7 .any (Rows.netCountsSpec.pre6 enc Try.prog Try.f7 Rows.netCountsRow.domain false) (Rows.netCountsSpec.post enc Try.prog Try.f7 false true false false) := by
  refine returnsInHanded_of_change_sized (C := Try.checked) own started (by kernel_rfl) Try.func7
    (ChangeSpec.witness6 (enc := enc) (C := Try.checked) false ⟨#[], #[.slice none 0 0], []⟩ 8 (by kernel_rfl) (by kernel_rfl) (by kernel_rfl) (by kernel_rfl)) ?_
  intro W base args ds gs before hval0 hW _ hsz0 _
  have hsz : (DataW.weightsEach Try.prog (Try.f7.params.toList ++ Rows.netCountsSpec.plain.varTypes Try.prog) (ds ++ gs)).all (· ≤ reachBytes) = true := hsz0
  clear hsz0
  have hval : ∀ (j : Nat) t v, Try.f7.params[j]? = some t → args[j]? = some v → Value.okWide Try.prog W .any base t v := hval0
  have hW' := hW
  obtain ⟨p, q, hA0, hV, rfl, hfz, hnd⟩ := hW
  have hlt : ∀ x ∈ p, x.block < W.heap.size := fun x hx => hW'.lt x (List.mem_append_left _ hx)
  have hA : DataW.TrodAll enc Try.prog W 0 (fun _ => true) true Try.f7.params.toList args.toList ds p := hA0
  rw [Try.params7] at hA hval hsz
  obtain ⟨v0, vs0, d0, ds0, p0, q0, hargs, rfl, rfl, h0, r0⟩ := trodAll_cons hA
  obtain ⟨rfl, rfl, rfl⟩ := trodAll_nil r0
  obtain rfl : args = #[v0] := by cases args; simp_all
  obtain ⟨rfl, rfl⟩ := trodVars_none hV
  obtain ⟨a0, len0, cap0, rfl⟩ := okWide_slice Try.underlying39 (hval 0 39 v0 rfl rfl)
  have hk0 := h0
  obtain ⟨fuel0, hf0⟩ := h0
  obtain ⟨A0, c0, l0, e0, hr0, hl0, ho0, hs0⟩ := acts_of (v := .slice a0 len0 cap0) hf0 (fun n hn => by simpa using List.all_eq_true.1 hsz n (DataW.weights_mem_each (j := 0) (t := 39) rfl rfl n hn))
  clear hA0 hval0
  have hw := walk W A0 c0 l0 hr0 hl0 ho0 hs0
  rw [← e0] at hw
  refine hw.mono fun e W' ⟨he, hg⟩ => ?_
  subst he
  exact ⟨_, rfl, post_of_below (pa := (p0 ++ [])) (pv := []) hW' (fun _ _ _ => (trodAll_cons_mk (shut_bool Try.underlying4 _) trodAll_mk0)) (fun sp hsp => (trodAll_cons_mk (WideElems.Trod_stays laidOut (by kernel_rfl) (of_decide_eq_true (by kernel_rfl)) hk0 (fun x hx => hg.same (hlt x (by simp [hx]))) (fun x hx => hsp x (by simp [hx]))) trodAll_mk0)) (fun _ _ => rfl) rfl
    hg (ok_one (by kernel_rfl) rfl (okWide_bool_mk Try.underlying4 _))⟩
theorem over : Rows.netCountsRow.holds Try.pinned (OpenSpec.ofChange Rows.netCountsSpec) :=
  OpenClaim.holds_of_wide 7 Try.f7 rfl rfl rfl rfl rfl rfl rfl ⟨rfl, rfl, rfl, rfl, rfl⟩ rfl rfl rfl rfl rfl (by kernel_rfl) Try.func7 (by kernel_rfl)
    (of_decide_eq_true (by kernel_rfl)) (by unfold Func.isWrapper; first | (rw [if_pos (by decide +kernel)]; kernel_rfl) | (rw [if_neg (by decide +kernel)]; exact ⟨rfl, rfl⟩))
    (fun os started H enc _ => lifted os started H enc)
/-- THE STATEMENT -/
theorem proved : Rows.NetCountsSaid :=
  over
#print axioms proved
end Go.Proofs.Ytfojjklohbiffaa.netCounts
