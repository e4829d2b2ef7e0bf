/- Frames' laws: the walk of FramePuts. -/
import Derived.Test.YtfojjklohbiffaaMp13
import Derived.Test.YtfojjklohbiffaaMp33
import Derived.Test.YtfojjklohbiffaaMp35
import Derived.Test.YtfojjklohbiffaaMp36
import Derived.Test.YtfojjklohbiffaaMp37
namespace Go.Proofs.Ytfojjklohbiffaa
open Go.RowKit Tran Tran.Wire
set_option linter.unusedVariables false
set_option linter.unusedSimpArgs false
/-- the worlds within the law: its argument's box -/
structure FPW (w : World) (X : Array Value) (W : World) : Prop where
  k0 : Blk W w.heap.size 57 X
  b : Below w.heap.size w W
theorem FPW.next {w : World} {X : Array Value} (W W' : World) (h : FPW w X W) (k : Below W.heap.size W W') : FPW w X W' :=
  ⟨h.k0.below k h.k0.lt, h.b.trans (k.mono h.b.size)⟩
theorem FPW.drew {w : World} {X : Array Value} {W : World} (h : FPW w X W) : FPW w X W.drew := ⟨h.k0, below_drew h.b⟩
theorem FPW.start (w : World) (X : Array Value) : FPW w X (w.alloc (.cells X 57)) := ⟨Blk.new w 57 X, (Below.refl _ w).alloc (Nat.le_refl _) _⟩
theorem putF_len (w : World) (x : NFrame) (ov : Value) (hx : x.ok) (hO : Ops w ov x.ops) (mf : mayF x) : (putF x).length ≤ 100000 := by
  obtain ⟨_, _, _, _, _, hg⟩ := hO
  have h1 := textsF_len x.ops hg mf.2.2.2.2.2.2
  have h2 := mf.2.2.2.2.2.1
  have h3 := (numF_len x.ops.length (by omega)).1
  have h4 := vecF_le x.have_ (fun n hn => by have := hx.have_ n hn; omega)
  have h5 := vecF_le [x.kind, x.src, x.dst] (by have k1 := hx.kind; have k2 := hx.src; have k3 := hx.dst; simp; omega)
  rw [hx.have8] at h4
  simp only [List.length_cons, List.length_nil] at h5
  have h6 : (bodyF x).length ≤ 90000 := by simp only [bodyF, List.length_append]; omega
  rw [putF, Crc.sealed_length]; omega
/-- a frame's bytes are got back -/
theorem getfr_put (w : World) (x : NFrame) (hx : x.ok) (gx : ∀ p ∈ x.ops, p.1.ok) (mx : mayF x) (hl : (putF x).length ≤ 1000000) : Calls Try.prog 48 #[.string ⟨(putF x).toArray⟩] w fun e w' =>
    (∃ (y : NFrame) (ov : Value), e = .returned (.tuple #[.agg (frA y ov), .int .i64 0]) ∧ Ops w' ov y.ops ∧ sameF y x ∧ y.ok) ∧ Below w.heap.size w w' := by
  obtain ⟨h1, h2, h3⟩ := fr_put x hx gx mx
  refine (getfr_any w (putF x) hl).mono ?_
  rintro e w' ⟨⟨_, ps, ov, rfl, hP, hps⟩ | ⟨hn, _⟩, hb⟩
  · refine ⟨⟨{ x with ops := ps }, ov, by rw [h3], hP, ⟨rfl, rfl, rfl, rfl, hps.trans h2⟩, ?_⟩, hb⟩
    exact ⟨hx.kind, hx.src, hx.dst, hx.have8, hx.have_⟩
  · exact absurd h1 hn
set_option maxRecDepth 100000 in
set_option maxHeartbeats 32000000 in
theorem fp_no (w : World) (x : NFrame) (ov : Value) (hx : x.ok) (hO : Ops w ov x.ops) (mf : ¬ mayF x) :
    Calls Try.prog 8 #[.agg (frA x ov)] w fun e w' => e = .returned (.bool true) ∧ Below w.heap.size w w' := by
  have hr : (false = true) ↔ mayF x := by simp [mf]
  have S0 := FPW.start w (frA x ov)
  have GX := Lib.hid (fun W (h : FPW w (frA x ov) W) => great06_any W x ov hx (hO.later h.b))
  have PX := Lib.hid (fun W (h : FPW w (frA x ov) W) => putfr_no W x ov hx (hO.later h.b) mf)
  have PY := Lib.hid (fun W (h : FPW w (frA x ov) W) => tputfr_no W x ov hx (hO.later h.b) mf)
  have SA := Lib.hid (fun W (h : FPW w (frA x ov) W) => (may_any W x ov hx (hO.later h.b)).mono fun e w' h => h.fixed hr)
  have SB := Lib.hid (fun W (h : FPW w (frA x ov) W) => (tmay_any W x ov hx (hO.later h.b)).mono fun e w' h => h.fixed hr)
  have HSX := Lib.hid (frA_size x ov hx.have8)
  have S0 := Lib.hid S0
  clear hx hO mf hr
  generalize frA x ov = X at *
  go_enter Try.func8, Try.ntmps8
  go_wp2_with (refine wpList_load_row rfl 57 _ rfl w.heap.size rfl 57 X (0, 0) _ S0.out.k0 Try.underlying57 rfl (by rw [HSX.out]; exact size57) ?_)
  refine (GX.out _ S0.out).mono ?_
  rintro e w1 ⟨⟨r1, rfl⟩, h1⟩
  have S1 := Lib.hid (FPW.next _ _ S0.out h1)
  clear h1 S0
  cases r1
  case true =>
    go_wp2_with fail
    refine (head06_any _).mono ?_
    rintro e w9 ⟨rfl, h9⟩
    have H9 := Lib.hid (S1.out.b.trans (h9.mono S1.out.b.size))
    clear h9
    go_wp2_with fail
    go_ret
    exact ⟨rfl, H9.out⟩
  go_wp2_with (refine wpList_load_row rfl 57 _ rfl w.heap.size rfl 57 X (0, 0) _ S1.out.k0 Try.underlying57 rfl (by rw [HSX.out]; exact size57) ?_)
  refine (PX.out _ S1.out).mono ?_
  rintro e w3 ⟨rfl, h3⟩
  have S3 := Lib.hid (FPW.next _ _ S1.out h3)
  clear h3 S1
  go_wp2_with (refine wpList_load_row rfl 57 _ rfl w.heap.size rfl 57 X (0, 0) _ S3.out.k0 Try.underlying57 rfl (by rw [HSX.out]; exact size57) ?_)
  refine (PY.out _ S3.out).mono ?_
  rintro e w4 ⟨rfl, h4⟩
  have S4 := Lib.hid (FPW.next _ _ S3.out h4)
  clear h4 S3
  go_wp2_with fail
  refine wp_region_cls (FPW w X) (by kernel_rfl) (by kernel_rfl) (FPW.drew S4.out) (fun hne => ?_)
  have F1 := Lib.hid (fun (W : World) (h : FPW w X W) => ld57 h.k0 HSX.out)
  repeat (first | (go_big_quiet_want; refine quiet_load_sub 57 _ rfl ⟨w.heap.size, 0, none⟩ rfl X F1.out ?_; go_simp; go_big_quiet_on) | go_big_quiet_step ((first | (go_at_call 46; ((with_reducible refine call_cls_of _ SA.out FPW.next))) | (go_at_call 47; ((with_reducible refine call_cls_of _ SB.out FPW.next))))))
  refine wpQuiet_nil ?_
  refine sub_all fun w5 S5 => ?_
  have S5 := Lib.hid S5
  clear hne F1 S4
  go_wp2_with fail
  refine (head06_any _).mono ?_
  rintro e w9 ⟨rfl, h9⟩
  have H9 := Lib.hid (S5.out.b.trans (h9.mono S5.out.b.size))
  clear h9
  go_wp2_with fail
  go_ret
  exact ⟨rfl, H9.out⟩
set_option maxRecDepth 100000 in
set_option maxHeartbeats 32000000 in
theorem fp_yes (w : World) (x : NFrame) (ov : Value) (hx : x.ok) (hO : Ops w ov x.ops) (mf : mayF x) :
    Calls Try.prog 8 #[.agg (frA x ov)] w fun e w' => e = .returned (.bool true) ∧ Below w.heap.size w w' := by
  have hr : (true = true) ↔ mayF x := by simp [mf]
  have S0 := FPW.start w (frA x ov)
  have GX := Lib.hid (fun W (h : FPW w (frA x ov) W) => great06_any W x ov hx (hO.later h.b))
  have PX := Lib.hid (fun W (h : FPW w (frA x ov) W) => putfr_yes W x ov hx (hO.later h.b) mf)
  have PY := Lib.hid (fun W (h : FPW w (frA x ov) W) => tputfr_yes W x ov hx (hO.later h.b) mf)
  have SA := Lib.hid (fun W (h : FPW w (frA x ov) W) => (may_any W x ov hx (hO.later h.b)).mono fun e w' h => h.fixed hr)
  have SB := Lib.hid (fun W (h : FPW w (frA x ov) W) => (tmay_any W x ov hx (hO.later h.b)).mono fun e w' h => h.fixed hr)
  have GT := Lib.hid (fun W => getfr_put W x hx (fun p hp => by obtain ⟨_, _, _, _, _, h⟩ := hO; exact (h p hp).2) mf (by have := putF_len w x ov hx hO mf; omega))
  have TA := Lib.hid (fun (W W' : World) (y : NFrame) (pv : Value) (hy : y.ok) (hQ : Ops W pv y.ops) (hs : sameF y x) (h : FPW w (frA x ov) W) (hb : Below W.heap.size W W') => (tfsame_any W' y x pv ov hy hx (hQ.later hb) ((hO.later h.b).later hb)).mono fun e w' h => h.fixed (r := true) (by simp [hs]))
  have FA := Lib.hid (fun (W W' : World) (y : NFrame) (pv : Value) (hy : y.ok) (hQ : Ops W pv y.ops) (hs : sameF y x) (h : FPW w (frA x ov) W) (hb : Below W.heap.size W W') => (fsame_any W' y x pv ov hy hx (hQ.later hb) ((hO.later h.b).later hb)).mono fun e w' h => h.fixed (r := true) (by simp [hs]))
  have HSX := Lib.hid (frA_size x ov hx.have8)
  have S0 := Lib.hid S0
  obtain ⟨a, ha⟩ : ∃ a, putF x = a := ⟨_, rfl⟩
  rw [ha] at PX PY GT
  clear hx hO mf hr ha
  generalize frA x ov = X at *
  go_enter Try.func8, Try.ntmps8
  go_wp2_with (refine wpList_load_row rfl 57 _ rfl w.heap.size rfl 57 X (0, 0) _ S0.out.k0 Try.underlying57 rfl (by rw [HSX.out]; exact size57) ?_)
  refine (GX.out _ S0.out).mono ?_
  rintro e w1 ⟨⟨r1, rfl⟩, h1⟩
  have S1 := Lib.hid (FPW.next _ _ S0.out h1)
  clear h1 S0
  cases r1
  case true =>
    go_wp2_with fail
    refine (head06_any _).mono ?_
    rintro e w9 ⟨rfl, h9⟩
    have H9 := Lib.hid (S1.out.b.trans (h9.mono S1.out.b.size))
    clear h9
    go_wp2_with fail
    go_ret
    exact ⟨rfl, H9.out⟩
  go_wp2_with (refine wpList_load_row rfl 57 _ rfl w.heap.size rfl 57 X (0, 0) _ S1.out.k0 Try.underlying57 rfl (by rw [HSX.out]; exact size57) ?_)
  refine (PX.out _ S1.out).mono ?_
  rintro e w3 ⟨rfl, h3⟩
  have S3 := Lib.hid (FPW.next _ _ S1.out h3)
  clear h3 S1
  go_wp2_with (refine wpList_load_row rfl 57 _ rfl w.heap.size rfl 57 X (0, 0) _ S3.out.k0 Try.underlying57 rfl (by rw [HSX.out]; exact size57) ?_)
  refine (PY.out _ S3.out).mono ?_
  rintro e w4 ⟨rfl, h4⟩
  have S4 := Lib.hid (FPW.next _ _ S3.out h4)
  clear h4 S3
  go_wp2_with fail
  refine wp_region_cls (FPW w X) (by kernel_rfl) (by kernel_rfl) (FPW.drew S4.out) (fun hne => ?_)
  have F1 := Lib.hid (fun (W : World) (h : FPW w X W) => ld57 h.k0 HSX.out)
  repeat (first | (go_big_quiet_want; refine quiet_load_sub 57 _ rfl ⟨w.heap.size, 0, none⟩ rfl X F1.out ?_; go_simp; go_big_quiet_on) | go_big_quiet_step ((first | (go_at_call 46; ((with_reducible refine call_cls_of _ SA.out FPW.next))) | (go_at_call 47; ((with_reducible refine call_cls_of _ SB.out FPW.next))))))
  refine wpQuiet_nil ?_
  refine sub_all fun w5 S5 => ?_
  have S5 := Lib.hid S5
  clear hne F1 S4
  go_wp2_with fail
  refine (GT.out _).mono ?_
  rintro e w6 ⟨⟨y, pv, rfl, hQ, hs, hy⟩, h6⟩
  have S6 := Lib.hid (FPW.next _ _ S5.out h6)
  clear h6 S5
  have TA := Lib.hid (fun W' (hb : Below w6.heap.size w6 W') => TA.out w6 W' y pv hy hQ hs S6.out hb)
  have FA := Lib.hid (fun W' (hb : Below w6.heap.size w6 W') => FA.out w6 W' y pv hy hQ hs S6.out hb)
  have HSY := Lib.hid (frA_size y pv hy.have8)
  have HY1 : Hid ((frA y pv).all (·.oneCell') = true) := Lib.hid (by
    obtain ⟨A1, cap1, e1, _⟩ := hQ
    rw [e1]; simp [frA, frF, Value.oneCell'])
  clear hQ hs hy
  generalize frA y pv = Y at *
  have b7 := (Below.refl _ w6).alloc (Nat.le_refl _) (.cells z12 57)
  have k7 := Blk.new w6 57 z12
  have K7 := Lib.hid k7
  have K8 := Lib.hid (k7.row Y)
  have B8 := Lib.hid (below_setRow b7 (Nat.le_refl _) Y)
  have S8 := Lib.hid (FPW.next _ _ S6.out B8.out)
  rw [z12_eq] at K7 K8 B8 S8
  clear b7 k7
  go_wp2_with (first
    | (refine wpList_store_row rfl 57 _ _ rfl w6.heap.size Y rfl rfl 57 _ K7.out (by rw [HSY.out]; exact size57) (by rw [HSY.out]; rfl) HY1.out ?_)
    | (refine wpList_load_row_if (by rfl) 57 _ rfl w6.heap.size rfl 57 Y (0, 0) _ K8.out Try.underlying57 rfl (by rw [HSY.out]; exact size57) ?_)
    | (refine wpList_load_row_if (by rfl) 57 _ rfl w.heap.size rfl 57 X (0, 0) _ S8.out.k0 Try.underlying57 rfl (by rw [HSX.out]; exact size57) ?_))
  refine (TA.out _ B8.out).mono ?_
  rintro e w9 ⟨rfl, h9⟩
  have S9 := Lib.hid (FPW.next _ _ S8.out h9)
  have K9 := Lib.hid (K8.out.below h9 K8.out.lt)
  have B9 := Lib.hid (B8.out.trans (h9.mono B8.out.size))
  clear h9 S8 K8 B8 K7
  go_wp2_with (first
    | (refine wpList_load_row_if (by rfl) 57 _ rfl w6.heap.size rfl 57 Y (0, 0) _ K9.out Try.underlying57 rfl (by rw [HSY.out]; exact size57) ?_)
    | (refine wpList_load_row_if (by rfl) 57 _ rfl w.heap.size rfl 57 X (0, 0) _ S9.out.k0 Try.underlying57 rfl (by rw [HSX.out]; exact size57) ?_))
  refine (FA.out _ B9.out).mono ?_
  rintro e w10 ⟨rfl, h10⟩
  have S10 := Lib.hid (FPW.next _ _ S9.out h10)
  clear h10 S9 K9 B9
  go_wp2_with fail
  refine (head06_any _).mono ?_
  rintro e w11 ⟨rfl, h11⟩
  have H11 := Lib.hid (S10.out.b.trans (h11.mono S10.out.b.size))
  clear h11
  go_wp2_with fail
  go_ret
  exact ⟨rfl, H11.out⟩
theorem fp_any (w : World) (x : NFrame) (ov : Value) (hx : x.ok) (hO : Ops w ov x.ops) :
    Calls Try.prog 8 #[.agg (frA x ov)] w fun e w' => e = .returned (.bool true) ∧ Below w.heap.size w w' := by
  by_cases mf : mayF x
  · exact fp_yes w x ov hx hO mf
  · exact fp_no w x ov hx hO mf
end Go.Proofs.Ytfojjklohbiffaa
/- An argument that is a frame, opened. -/
namespace Go.Proofs.Ytfojjklohbiffaa
open Go.RowKit Go.ChangeShapes Go.WideShapes Go.Deep Tran
theorem okWide_struct {P : Program} {w : World} {r : Reach} {base : Nat} {t : TypeId} {v : Value} {fs : Array Field} (ht : P.underlying t = some (.struct fs)) (h : Value.okWide P w r base t v) : ∃ cs, v = .agg cs ∧ cs.size = P.cellsOf t := by
  simp only [Value.okWide, ht] at h
  obtain ⟨cs, h1, h2, _⟩ := h
  exact ⟨cs, h1, h2⟩
set_option maxRecDepth 100000 in
theorem frame_of {H : Type} {enc : TypeId × Value → H} {w : World} {base : Nat} {r : Reach} {b0 : Nat} {v : Value} {d : DataW H} {p : List MemPlace}
    (hv : Value.okWide Try.prog w r b0 57 v) (h : DataW.Trod enc Try.prog w base (fun _ => true) true 57 v d p) (hz : ∀ n ∈ d.weights Try.prog 57, n ≤ reachBytes) :
    ∃ (x : NFrame) (ov : Value), v = .agg (frA x ov) ∧ Ops w ov x.ops ∧ x.ok := by
  obtain ⟨cs, rfl, hsz⟩ := okWide_struct Try.underlying57 hv
  obtain ⟨fuel, hf⟩ := h
  obtain ⟨x, ov, e, hO, hx⟩ := fr_of (x := (d, p)) hf hz
  refine ⟨x, ov, ?_, hO, hx⟩
  obtain ⟨l⟩ := cs
  have e2 : l = frF x ov := e
  rw [e2]
  rfl
end Go.Proofs.Ytfojjklohbiffaa
