/-
  For every three texts the call tranterlaw01.SumMixes returns true, and its arguments read afterwards as before.
  Its conditions: none beyond the row's own.
-/
import Derived.Test.YtfojjklohbiffaaRows
import Derived.WalkKit
import Derived.ProofKit
import Derived.OpenShut
import Derived.ShutString
import Derived.Test.YtfojjklohbiffaaPost
import Derived.Test.YtfojjklohbiffaaHead1
namespace Go.Proofs.Ytfojjklohbiffaa.sumMixes
open Go.ChangeShapes Go.WideShapes Go.ChangeAt Go.RowKit Tran
open Go.ChangeMaps (open_string shut_string)
set_option linter.unusedVariables false
theorem own : ownKnob Try.prog.godebug = none := by kernel_rfl
theorem wpList_min3 {P : Program} {ops : Array Oper} {rest : List Oper} {o : Oper} {a : Act} {w : World} {Q : Exit → Act → World → Prop} (hgd : o.guard = none) (s1 s2 s3 : Operand) (ts : Array TypeId)
    (ho : o.op = .call { callee := .builtin .min, args := #[s1, s2, s3], argTypes := ts }) (x y z n : Nat) (h1 : a.eval s1 = .int .i64 x) (h2 : a.eval s2 = .int .i64 y) (h3 : a.eval s3 = .int .i64 z) (hn : min x (min y z) = n)
    (h : wpList P ops Q rest (a.put o.dst (.int .i64 n)) w) : wpList P ops Q (o :: rest) a w := by
  refine wpList_plain hgd fun K hK => ?_
  unfold Oper.wp execOp
  simp only [ho, resolve, invoke, builtin, Sem.run_bind, Sem.run_pure, Result.andThen_ok, List.map_toArray, List.map_cons, List.map_nil, h1, h2, h3, run_min_int3]
  have e : (if (z : Int) < (if (y : Int) < (x : Int) then (y : Int) else x) then (z : Int) else (if (y : Int) < (x : Int) then (y : Int) else x)) = (n : Int) := by
    repeat' split
    all_goals omega
  rw [e]
  exact hK _ _ h
theorem made_zero (n : Nat) : (madeCells (Value.int .u8 0).cells (n * 1)).toList = bc (List.replicate n 0) := by
  apply List.ext_getElem
  · simp [madeCells, bc]
  · intro i h1 h2
    simp [madeCells, bc, Value.cells, Nat.mod_one]
theorem mix_get (a b c : List UInt8) (n j : Nat) (ha : n ≤ a.length) (hb : n ≤ b.length) (hc : n ≤ c.length) (hj : j < n) :
    ∃ h : j < (Crc.zx (Crc.zx (a.take n) (b.take n)) (c.take n)).length, (Crc.zx (Crc.zx (a.take n) (b.take n)) (c.take n))[j] = (a[j]'(by omega) ^^^ b[j]'(by omega)) ^^^ c[j]'(by omega) := by
  have hl : j < (Crc.zx (Crc.zx (a.take n) (b.take n)) (c.take n)).length := by simp [Crc.zx_length]; omega
  refine ⟨hl, ?_⟩
  simp [Crc.zx]
theorem mix_val (x y z : UInt8) : bits BinOp.xor .u8 (bits BinOp.xor .u8 (x.toNat : Int) (y.toNat : Int)) (z.toNat : Int) = (((x ^^^ y) ^^^ z).toNat : Int) := by
  rw [u8_xor_nat _ _ (Crc.byte_lt _) (Crc.byte_lt _), u8_xor_nat _ _ (Crc.xor_lt 8 (Crc.byte_lt _) (Crc.byte_lt _)) (Crc.byte_lt _), UInt8.toNat_xor, UInt8.toNat_xor]
theorem mix_step (x : List UInt8) (n j : Nat) (hx : x.length = n) (hj : j < x.length) :
    bc (x.take (j + 1) ++ List.replicate (n - (j + 1)) 0) = (bc (x.take j ++ List.replicate (n - j) 0)).set j (.int .u8 (x[j].toNat : Int)) := by
  unfold bc
  rw [← List.map_set (f := fun b : UInt8 => Value.int .u8 (b.toNat : Int))]
  congr 1
  have hl : (x.take j).length = j := by simp; omega
  obtain ⟨m, hm⟩ : ∃ m, n - j = m + 1 := ⟨n - j - 1, by omega⟩
  rw [show n - (j + 1) = m by omega, hm, List.set_append, if_neg (by omega), hl, Nat.sub_self, List.replicate_succ, List.set_cons_zero, List.take_succ_eq_append_getElem hj, List.append_assoc]
  rfl
set_option maxRecDepth 100000 in
set_option maxHeartbeats 1000000 in
theorem walk (a : List UInt8) (wa : a.length ≤ maxLen) (b : List UInt8) (wb : b.length ≤ maxLen) (c : List UInt8) (wc : c.length ≤ maxLen) (w : World) :
    Calls Try.prog 6 #[.string ⟨a.toArray⟩, .string ⟨b.toArray⟩, .string ⟨c.toArray⟩] w fun e w' => e = .returned (.bool true) ∧ Below w.heap.size w w' := by
  unfold maxLen at wa wb wc
  obtain ⟨n, hn⟩ : ∃ n, min a.length (min b.length c.length) = n := ⟨_, rfl⟩
  obtain ⟨i0, hi, hz0, hz1, hz2⟩ := info_parts info5
  have ha : n ≤ a.length := by omega
  have hb : n ≤ b.length := by omega
  have hc : n ≤ c.length := by omega
  have HN := Lib.hid hn; clear hn
  by_cases hs : 3000 < n
  · go_enter Try.func6, Try.ntmps6
    go_wp2_with (refine wpList_min3 rfl (.tmp 11) (.tmp 13) (.tmp 15) _ rfl _ _ _ n rfl rfl rfl HN.out ?_)
    refine (head1_any _).mono ?_
    rintro e w1 ⟨rfl, hb⟩
    go_wp2
    go_ret
    exact ⟨rfl, hb⟩
  · go_enter Try.func6, Try.ntmps6
    go_wp2_with (first
      | (refine wpList_min3 rfl (.tmp 11) (.tmp 13) (.tmp 15) _ rfl _ _ _ n rfl rfl rfl HN.out ?_)
      | (refine wpList_make_full _ rfl (.tmp 20) (.tmp 20) 35 rfl w.heap.size 5 i0 _ 1 Try.underlying35 hi hz0 hz1 .i64 .i64 _ _ n rfl rfl rfl rfl (by rw [hz2]; omega) (by unfold maxLen; omega) (Nat.le_refl _) ?_; intro w2 how hg))
    have ho := Own.of how
    rw [made_zero] at ho
    have hb2 := (Below.refl w.heap.size w).grown hg (Nat.le_refl _) (by simp)
    clear how hg

    go_loopw [9] (fun i wr => ∃ j : Nat, j ≤ n ∧ i = .int .i64 j ∧ Own wr w.heap.size 5 1 (.slice (some ⟨w.heap.size, 0, none⟩) n n) n (bc ((Crc.zx (Crc.zx (a.take n) (b.take n)) (c.take n)).take j ++ List.replicate (n - j) 0)) ∧ Below w.heap.size w wr)
      (fun i _ => n - (intOf i).toNat)
    case atStart => exact ⟨0, by omega, rfl, by simpa using ho, hb2⟩
    case round =>
      obtain ⟨j, hj, rfl, ho3, hb3⟩ := hrel
      clear ho hb2
      by_cases hlt : j < n
      · have hfz : wr.frozen? { block := w.heap.size, off := j } = false := ho3.frozen rfl _ (by omega)
        have hold : ∃ u, wr.cell? { block := w.heap.size, off := j } = some u := by
          have hl : j < (bc ((Crc.zx (Crc.zx (a.take n) (b.take n)) (c.take n)).take j ++ List.replicate (n - j) 0)).length := by have := ho3.1; omega
          exact ⟨_, ho3.cellAt (List.getElem?_eq_getElem hl)⟩
        obtain ⟨u, hu⟩ := hold
        have hja : j < a.length := by omega
        have hjb : j < b.length := by omega
        have hjc : j < c.length := by omega
        go_wp2
        go_region
        all_goals go_wp2
        go_roundw
        case rel =>
          obtain ⟨hx, hv⟩ := mix_get a b c n j ha hb hc hlt
          have hxl : (Crc.zx (Crc.zx (a.take n) (b.take n)) (c.take n)).length = n := by simp [Crc.zx_length]; omega
          refine ⟨j + 1, by omega, by go_num, ?_, (hb3.setCell (by exact Nat.le_refl _) _).drew⟩
          have e := mix_step _ n j hxl hx
          rw [hv, ← mix_val] at e
          rw [e]
          exact (ho3.set_ _ _).drew
        case measure => simp [intOf]; omega
      · have hjn : j = n := by omega
        have hxl : (Crc.zx (Crc.zx (a.take n) (b.take n)) (c.take n)).length = n := by simp [Crc.zx_length]; omega
        rw [hjn, Nat.sub_self, List.replicate_zero, List.append_nil, List.take_of_length_le (by omega)] at ho3
        have hmix := Crc.crc_mix (a.take n) (b.take n) (c.take n) (by simp; omega) (by simp; omega)
        clear hjn
        generalize Crc.zx (Crc.zx (a.take n) (b.take n)) (c.take n) = x at *
        have c0 := sum_l x (by omega)
        have c1 : ∀ W, Calls Try.prog 27 #[.string ((⟨a.toArray⟩ : ByteArray).extract 0 n)] W fun e w' => e = .returned (.int .u32 (Crc.crc (a.take n))) ∧ Below W.heap.size W w' := by
          intro W; rw [str_take]; exact sum_l _ (by simp; omega) W
        have c2 : ∀ W, Calls Try.prog 27 #[.string ((⟨b.toArray⟩ : ByteArray).extract 0 n)] W fun e w' => e = .returned (.int .u32 (Crc.crc (b.take n))) ∧ Below W.heap.size W w' := by
          intro W; rw [str_take]; exact sum_l _ (by simp; omega) W
        have c3 : ∀ W, Calls Try.prog 27 #[.string ((⟨c.toArray⟩ : ByteArray).extract 0 n)] W fun e w' => e = .returned (.int .u32 (Crc.crc (c.take n))) ∧ Below W.heap.size W w' := by
          intro W; rw [str_take]; exact sum_l _ (by simp; omega) W
        have la := Crc.crc_lt (a.take n)
        have lb := Crc.crc_lt (b.take n)
        have lc := Crc.crc_lt (c.take n)
        rw [hmix] at c0
        have hlen : x.length ≤ maxLen := by unfold maxLen; omega
        have C0 := Lib.hid c0; have C1 := Lib.hid c1; have C2 := Lib.hid c2; have C3 := Lib.hid c3; have HM := Lib.hid hmix; have HX := Lib.hid hxl; clear c0 c1 c2 c3 hmix hxl
        generalize Crc.crc (a.take n) = ca at *
        generalize Crc.crc (b.take n) = cb at *
        generalize Crc.crc (c.take n) = cc at *
        have e1 : bits BinOp.xor .u32 (ca : Int) (cb : Int) = ((ca ^^^ cb : Nat) : Int) := u32_xor_nat _ _ la lb
        have e2 : bits BinOp.xor .u32 ((ca ^^^ cb : Nat) : Int) (cc : Int) = ((ca ^^^ cb ^^^ cc : Nat) : Int) := u32_xor_nat _ _ (Crc.xor_lt 32 la lb) lc
        go_wp2_with fail
        have hI : ∀ W W', (Below w.heap.size w W ∧ Own W w.heap.size 5 1 (.slice (some ⟨w.heap.size, 0, none⟩) n n) n (bc x)) → Below W.heap.size W W' → (Below w.heap.size w W' ∧ Own W' w.heap.size 5 1 (.slice (some ⟨w.heap.size, 0, none⟩) n n) n (bc x)) :=
          fun W W' h k => ⟨h.1.trans (k.mono h.1.size), h.2.below k (Nat.le_refl _)⟩
        have HI := Lib.hid hI; clear hI
        refine wp_region_cls (fun W => Below w.heap.size w W ∧ Own W w.heap.size 5 1 (.slice (some ⟨w.heap.size, 0, none⟩) n n) n (bc x)) (by kernel_rfl) (by kernel_rfl) ⟨hb3.drew, ho3.drew⟩ (fun hne => ?_)
        have hcv : ∀ y : Sub (fun W => Below w.heap.size w W ∧ Own W w.heap.size 5 1 (.slice (some ⟨w.heap.size, 0, none⟩) n n) n (bc x)), (convert 35 9 (.slice (some ⟨w.heap.size, 0, none⟩) n n)).run Try.prog y.w = .ok (.string ⟨x.toArray⟩) y.w := by
          intro y
          obtain ⟨A, cap, hv, _, _, hr⟩ := y.h.2.slice
          injection hv with h1 h2 h3
          subst h1 h3
          exact run_string_of _ 35 9 5 _ n _ x Try.underlying35 Try.underlying5 Try.underlying9 hr
        repeat (go_big_quiet_step (first
          | (go_at_call 27; ((with_reducible refine call_cls _ C0.out HI.out)))
          | (go_at_call 27; ((with_reducible refine call_cls _ C1.out HI.out)))
          | (go_at_call 27; ((with_reducible refine call_cls _ C2.out HI.out)))
          | (go_at_call 27; ((with_reducible refine call_cls _ C3.out HI.out)))
          | (go_at_call 22; ((with_reducible refine call_cls _ head1_any HI.out)))))
        refine wpQuiet_nil ?_
        rintro ⟨w9, hB9, ho9⟩
        have hB9' : Below w.heap.size w (Sub.w (I := fun W => Below w.heap.size w W ∧ Own W w.heap.size 5 1 (.slice (some ⟨w.heap.size, 0, none⟩) n n) n (bc x)) ⟨w9, hB9, ho9⟩) := hB9
        go_wp2
        go_ret
        exact ⟨rfl, hB9'⟩
set_option maxRecDepth 100000 in
theorem lifted (os : Os) (started : os.Started) (H : Type) (enc : TypeId × Value → H) :
    ReturnsInHanded {} Try.checked os 6 .any (Rows.sumMixesSpec.pre6 enc Try.prog Try.f6 Rows.sumMixesRow.domain false) (Rows.sumMixesSpec.post enc Try.prog Try.f6 false true false false) := by
  refine returnsInHanded_of_change (C := Try.checked) own started (by kernel_rfl) Try.func6
    (ChangeSpec.witness6 (enc := enc) (C := Try.checked) false ⟨#[], #[.string ByteArray.empty, .string ByteArray.empty, .string ByteArray.empty], []⟩ 8 (by kernel_rfl) (by kernel_rfl) (by kernel_rfl) (by kernel_rfl)) ?_
  intro W base args ds gs before hval0 hW hcnd _
  have hval : ∀ (j : Nat) t v, Try.f6.params[j]? = some t → args[j]? = some v → Value.okWide Try.prog W .any base t v := hval0
  have hW' := hW
  obtain ⟨p, q, hA0, hV, rfl, hfz, hnd⟩ := hW
  have hA : DataW.TrodAll enc Try.prog W 0 (fun _ => true) true Try.f6.params.toList args.toList ds p := hA0
  rw [Try.params6] at hA hval
  obtain ⟨v0, vs0, d0, ds0, p0, q0, hargs, rfl, rfl, h0, r0⟩ := trodAll_cons hA
  obtain ⟨v1, vs1, d1, ds1, p1, q1, rfl, rfl, rfl, h1, r1⟩ := trodAll_cons r0
  obtain ⟨v2, vs2, d2, ds2, p2, q2, rfl, rfl, rfl, h2, r2⟩ := trodAll_cons r1
  obtain ⟨rfl, rfl, rfl⟩ := trodAll_nil r2
  obtain rfl : args = #[v0, v1, v2] := by cases args; simp_all
  obtain ⟨rfl, rfl⟩ := trodVars_none hV
  obtain ⟨a0, rfl, rfl, rfl, w0⟩ := open_string Try.underlying9 (hval 0 9 v0 rfl rfl) h0
  obtain ⟨a1, rfl, rfl, rfl, w1⟩ := open_string Try.underlying9 (hval 1 9 v1 rfl rfl) h1
  obtain ⟨a2, rfl, rfl, rfl, w2⟩ := open_string Try.underlying9 (hval 2 9 v2 rfl rfl) h2
  clear hA0 hval0
  simp only [List.append_nil] at hW'
  have e0 := str_mk a0
  have e1 := str_mk a1
  have e2 := str_mk a2
  have hw := walk a0.data.toList (by simpa using w0) a1.data.toList (by simpa using w1) a2.data.toList (by simpa using w2) W
  rw [← e0] at hw
  rw [← e1] at hw
  rw [← e2] at hw
  refine hw.mono fun e W' ⟨he, hg⟩ => ?_
  subst he
  exact ⟨_, rfl, post_of_below (pa := []) (pv := []) hW' (fun _ _ _ => (trodAll_cons_mk (shut_bool Try.underlying4 _) trodAll_mk0)) (fun sp _ => (trodAll_cons_mk (shut_string Try.underlying9 w0) (trodAll_cons_mk (shut_string Try.underlying9 w1) (trodAll_cons_mk (shut_string Try.underlying9 w2) trodAll_mk0)))) (fun _ _ => rfl) rfl
    hg (ok_one (by kernel_rfl) rfl (okWide_bool_mk Try.underlying4 _))⟩
theorem over : Rows.sumMixesRow.holds Try.pinned (OpenSpec.ofChange Rows.sumMixesSpec) :=
  OpenClaim.holds_of_wide 6 Try.f6 rfl rfl rfl rfl rfl rfl rfl ⟨rfl, rfl, rfl, rfl, rfl⟩ rfl rfl rfl rfl rfl (by kernel_rfl) Try.func6 (by kernel_rfl)
    (of_decide_eq_true (by kernel_rfl)) (by unfold Func.isWrapper; first | (rw [if_pos (by decide +kernel)]; kernel_rfl) | (rw [if_neg (by decide +kernel)]; exact ⟨rfl, rfl⟩))
    (fun os started H enc _ => lifted os started H enc)
/-- THE STATEMENT -/
theorem proved : Rows.SumMixesSaid :=
  over
#print axioms proved
end Go.Proofs.Ytfojjklohbiffaa.sumMixes
