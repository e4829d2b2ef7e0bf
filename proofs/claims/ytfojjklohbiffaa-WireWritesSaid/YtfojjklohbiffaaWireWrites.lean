/-
  For every list of items the call tranterlaw02.WireWrites returns true, and its argument read afterwards is as before.
  Its conditions: none beyond the row's own.
-/
import Derived.Test.YtfojjklohbiffaaRows
import Derived.WalkKit
import Derived.ProofKit
import Derived.OpenShut
import Derived.ShutString
import Derived.SizedLaws
import Derived.Carry
import Derived.Test.YtfojjklohbiffaaPost
import Derived.Test.YtfojjklohbiffaaItemsC
import Derived.Test.YtfojjklohbiffaaWireJ
namespace Go.Proofs.Ytfojjklohbiffaa.wireWrites
open Go.ChangeShapes Go.WideShapes Go.ChangeAt Go.RowKit Tran
open Go.ChangeMaps (open_string shut_string)
set_option linter.unusedVariables false
theorem own : ownKnob Try.prog.godebug = none := by kernel_rfl
theorem laidOut : laidOutB Try.prog = true := by kernel_rfl
set_option maxRecDepth 100000 in
set_option maxHeartbeats 8000000 in
theorem walk (w : World) (A : Option Addr) (cap : Nat) (l : List NItem) (h : Rd w A l.length 14 (l.flatMap itemF)) (hl : l.length ≤ maxLen) (hok : ∀ x ∈ l, x.ok) :
    Calls Try.prog 12 #[.slice A l.length cap] w fun e w' => e = .returned (.bool true) ∧ Below w.heap.size w w' := by
  have HG := great02_any (cap := cap) h hl hok
  cases hgr : greatI l
  · obtain ⟨hl100, hs⟩ := small_of hgr
    rw [hgr] at HG
    replace HG := Lib.hid HG
    have HFB := Lib.hid (fun k => flat_bound (l.take k) (fun x hx => hok x (List.mem_of_mem_take hx)) (fun x hx => hs x (List.mem_of_mem_take hx)))
    have HFS := Lib.hid (fun k hk => flat_snoc l k hk)
    have HR := Lib.hid (fun W (hb : Below w.heap.size w W) i (hi : i < l.length) => item_at hok (h.later hb) hi)
    have HOK := Lib.hid hok
    have HSS := Lib.hid hs
    clear hgr hl h hok hs
    go_enter Try.func12, Try.ntmps12
    go_wp2_with fail
    refine HG.out.mono ?_
    rintro e w1 ⟨rfl, rfl⟩
    go_wp2_with fail
    refine (wnew_any w).mono ?_
    rintro e w0 ⟨rfl, hw0⟩
    have n0 : WrAt w0 w.heap.size w.heap.size (.slice none 0 0) [] := by rw [hw0]; exact new_wr w (Nat.le_refl _)
    have b0 : Below w.heap.size w w0 := by rw [hw0]; exact (Below.refl _ _).alloc (Nat.le_refl _) _
    clear hw0 HG
    go_wp2_with fail
    go_loopw [4, 5] (fun s i wr => ∃ k : Nat, ∃ v, k ≤ l.length ∧ i = .int .i64 k ∧ s = .string ⟨((l.take k).flatMap itemW).toArray⟩ ∧ WrAt wr w.heap.size w.heap.size v ((l.take k).flatMap itemW) ∧ Below w.heap.size w wr) (fun _ i _ => l.length - (intOf i).toNat)
    case atStart => exact ⟨0, _, by omega, rfl, rfl, n0, b0⟩
    case round =>
      clear n0 b0
      obtain ⟨k, v, hk, rfl, rfl, n1, b1⟩ := hrel
      by_cases hlt : k < l.length
      · obtain ⟨ad, rfl, h1⟩ := HR.out wr b1 k hlt
        have hfb := HFB.out k
        have hfb2 : ((l.take k).flatMap itemW).length ≤ 300000 := by
          have : (l.take k).length ≤ 100 := by rw [List.length_take]; omega
          omega
        have hx := HOK.out _ (List.getElem_mem hlt)
        have hxs := HSS.out _ (List.getElem_mem hlt)
        have hwl := itemW_len l[k] hx (by omega)
        have HF := Lib.hid (HFS.out k hlt)
        have P := Lib.hid (put02_any n1 b1.size (by omega) l[k] hx (by omega))
        have H1 := Lib.hid h1
        have hsz : (itemA l[k]).size = 14 := itemA_size _ hx
        have N1 := Lib.hid n1
        clear h1 hx hfb n1
        generalize (l.take k).flatMap itemW = z at *
        generalize l[k] = x at *
        generalize itemW x = y at *
        go_wp2_with (refine wpList_load_cells rfl 84 _ rfl (ad.add (k * 14)) rfl (itemA x) _ H1.out Try.underlying84 rfl (by rw [hsz]; exact size84) ?_)
        refine P.out.mono ?_
        rintro e w2 ⟨v2, rfl, p2⟩
        have b2 := b1.trans (p2.toBelow N1.out b1.size)
        have n2 := p2.wr
        clear p2 P H1 b1
        go_wp2
        go_roundw
        case rel => exact ⟨k + 1, v2, hlt, by go_num, by rw [HF.out]; exact congrArg Value.string (str_app _ _), by rw [HF.out]; exact n2, b2⟩
        case measure => simp [intOf]; omega
      · have hkk : l.take k = l := List.take_of_length_le (by omega)
        rw [hkk] at n1 ⊢
        clear hkk
        have Y := Lib.hid (bytes_any n1)
        clear n1 HFB HFS HR HOK HSS
        generalize l.flatMap itemW = z at *
        go_wp2_with fail
        refine Y.out.mono ?_
        rintro e w2 ⟨rfl, rfl⟩
        go_wp2_with fail
        refine (head02_any _).mono ?_
        rintro e w3 ⟨rfl, d3⟩
        have b3 := b1.trans (d3.mono b1.size)
        go_wp2
        go_ret
        exact ⟨rfl, b3⟩
  · rw [hgr] at HG
    replace HG := Lib.hid HG
    clear hgr hl h hok
    go_enter Try.func12, Try.ntmps12
    go_wp2_with fail
    refine HG.out.mono ?_
    rintro e w1 ⟨rfl, rfl⟩
    go_wp2_with fail
    refine (head02_any w).mono ?_
    rintro e w2 ⟨rfl, b2⟩
    go_wp2
    go_ret
    exact ⟨rfl, b2⟩
set_option maxRecDepth 100000 in
theorem lifted (os : Os) (started : os.Started) (H : Type) (enc : TypeId × Value → H) :
    ReturnsInHanded {} Try.checked os 12 .any (Rows.wireWritesSpec.pre6 enc Try.prog Try.f12 Rows.wireWritesRow.domain false) (Rows.wireWritesSpec.post enc Try.prog Try.f12 false true false false) := by
  refine returnsInHanded_of_change_sized (C := Try.checked) own started (by kernel_rfl) Try.func12
    (ChangeSpec.witness6 (enc := enc) (C := Try.checked) false ⟨#[], #[.slice none 0 0], []⟩ 8 (by kernel_rfl) (by kernel_rfl) (by kernel_rfl) (by kernel_rfl)) ?_
  intro W base args ds gs before hval0 hW _ hsz0 _
  have hsz : (DataW.weightsEach Try.prog (Try.f12.params.toList ++ Rows.wireWritesSpec.plain.varTypes Try.prog) (ds ++ gs)).all (· ≤ reachBytes) = true := hsz0
  clear hsz0
  have hval : ∀ (j : Nat) t v, Try.f12.params[j]? = some t → args[j]? = some v → Value.okWide Try.prog W .any base t v := hval0
  have hW' := hW
  obtain ⟨p, q, hA0, hV, rfl, hfz, hnd⟩ := hW
  have hlt : ∀ x ∈ p, x.block < W.heap.size := fun x hx => hW'.lt x (List.mem_append_left _ hx)
  have hA : DataW.TrodAll enc Try.prog W 0 (fun _ => true) true Try.f12.params.toList args.toList ds p := hA0
  rw [Try.params12] at hA hval hsz
  obtain ⟨v0, vs0, d0, ds0, p0, q0, hargs, rfl, rfl, h0, r0⟩ := trodAll_cons hA
  obtain ⟨rfl, rfl, rfl⟩ := trodAll_nil r0
  obtain rfl : args = #[v0] := by cases args; simp_all
  obtain ⟨rfl, rfl⟩ := trodVars_none hV
  obtain ⟨a0, len0, cap0, rfl⟩ := okWide_slice Try.underlying75 (hval 0 75 v0 rfl rfl)
  have hk0 := h0
  obtain ⟨fuel0, hf0⟩ := h0
  obtain ⟨A0, c0, l0, e0, hr0, hl0, ho0⟩ := items_of (v := .slice a0 len0 cap0) hf0 (fun n hn => by simpa using List.all_eq_true.1 hsz n (DataW.weights_mem_each (j := 0) (t := 75) rfl rfl n hn))
  clear hA0 hval0
  have hw := walk W A0 c0 l0 hr0 hl0 ho0
  rw [← e0] at hw
  refine hw.mono fun e W' ⟨he, hg⟩ => ?_
  subst he
  exact ⟨_, rfl, post_of_below (pa := (p0 ++ [])) (pv := []) hW' (fun _ _ _ => (trodAll_cons_mk (shut_bool Try.underlying4 _) trodAll_mk0)) (fun sp hsp => (trodAll_cons_mk (WideElems.Trod_stays laidOut (by kernel_rfl) (of_decide_eq_true (by kernel_rfl)) hk0 (fun x hx => hg.same (hlt x (by simp [hx]))) (fun x hx => hsp x (by simp [hx]))) trodAll_mk0)) (fun _ _ => rfl) rfl
    hg (ok_one (by kernel_rfl) rfl (okWide_bool_mk Try.underlying4 _))⟩
theorem over : Rows.wireWritesRow.holds Try.pinned (OpenSpec.ofChange Rows.wireWritesSpec) :=
  OpenClaim.holds_of_wide 12 Try.f12 rfl rfl rfl rfl rfl rfl rfl ⟨rfl, rfl, rfl, rfl, rfl⟩ rfl rfl rfl rfl rfl (by kernel_rfl) Try.func12 (by kernel_rfl)
    (of_decide_eq_true (by kernel_rfl)) (by unfold Func.isWrapper; first | (rw [if_pos (by decide +kernel)]; kernel_rfl) | (rw [if_neg (by decide +kernel)]; exact ⟨rfl, rfl⟩))
    (fun os started H enc _ => lifted os started H enc)
/-- THE STATEMENT -/
theorem proved : Rows.WireWritesSaid :=
  over
#print axioms proved
end Go.Proofs.Ytfojjklohbiffaa.wireWrites
