/- Frames' laws: the walk of FramePuts. -/
import Derived.Test.YtfojjklohbiffaaMq28
import Derived.Test.YtfojjklohbiffaaMq30
import Derived.Test.YtfojjklohbiffaaMq31
import Derived.Test.YtfojjklohbiffaaMq32
namespace Go.Proofs.Ytfojjklohbiffaa
open Go.RowKit Tran Tran.Wire
set_option linter.unusedVariables false
set_option linter.unusedSimpArgs false
/-- the worlds within the law: its argument's box -/
structure FPW (w : World) (X : Array Value) (W : World) : Prop where
  k0 : Blk W w.heap.size 57 X
  b : Below w.heap.size w W
theorem FPW.next {w : World} {X : Array Value} (W W' : World) (h : FPW w X W) (k : Below W.heap.size W W') : FPW w X W' :=
  ⟨h.k0.below k h.k0.lt, h.b.trans (k.mono h.b.size)⟩
theorem FPW.drew {w : World} {X : Array Value} {W : World} (h : FPW w X W) : FPW w X W.drew := ⟨h.k0, below_drew h.b⟩
theorem FPW.start (w : World) (X : Array Value) : FPW w X (w.alloc (.cells X 57)) := ⟨Blk.new w 57 X, (Below.refl _ w).alloc (Nat.le_refl _) _⟩
theorem putF_len (w : World) (x : NFrame) (ov : Value) (hx : x.ok) (hO : Ops w ov x.ops) (mf : mayF x) : (putF x).length ≤ 100000 := by
  obtain ⟨_, _, _, _, _, hg⟩ := hO
  have h1 := textsF_len x.ops hg mf.2.2.2.2.2.2
  have h2 := mf.2.2.2.2.2.1
  have h3 := (numF_len x.ops.length (by omega)).1
  have h4 := vecF_le x.have_ (fun n hn => by have := hx.have_ n hn; omega)
  have h5 := vecF_le [x.kind, x.src, x.dst] (by have k1 := hx.kind; have k2 := hx.src; have k3 := hx.dst; simp; omega)
  rw [hx.have8] at h4
  simp only [List.length_cons, List.length_nil] at h5
  have h6 : (bodyF x).length ≤ 90000 := by simp only [bodyF, List.length_append]; omega
  rw [putF, Crc.sealed_length]; omega
/-- a frame's bytes are got back -/
theorem getfr_put (w : World) (x : NFrame) (hx : x.ok) (gx : ∀ p ∈ x.ops, p.1.ok) (mx : mayF x) (hl : (putF x).length ≤ 1000000) : Calls Try.prog 48 #[.string ⟨(putF x).toArray⟩] w fun e w' =>
    (∃ (y : NFrame) (ov : Value), e = .returned (.tuple #[.agg (frA y ov), .int .i64 0]) ∧ Ops w' ov y.ops ∧ sameF y x ∧ y.ok) ∧ Below w.heap.size w w' := by
  obtain ⟨h1, h2, h3⟩ := fr_put x hx gx mx
  refine (getfr_any w (putF x) hl).mono ?_
  rintro e w' ⟨⟨_, ps, ov, rfl, hP, hps⟩ | ⟨hn, _⟩, hb⟩
  · refine ⟨⟨{ x with ops := ps }, ov, by rw [h3], hP, ⟨rfl, rfl, rfl, rfl, hps.trans h2⟩, ?_⟩, hb⟩
    exact ⟨hx.kind, hx.src, hx.dst, hx.have8, hx.have_⟩
  · exact absurd h1 hn
set_option maxRecDepth 100000 in
set_option maxHeartbeats 32000000 in
theorem fp_no (w : World) (x : NFrame) (ov : Value) (hx : x.ok) (hO : Ops w ov x.ops) (mf : ¬ mayF x) :
    Calls Try.prog 8 #[.agg (frA x ov)] w fun e w' => e = .returned (.bool true) ∧ Below w.heap.size w w' := by
  have hr : (false = true) ↔ mayF x := by simp [mf]
  have S0 := FPW.start w (frA x ov)
  have GX := Lib.hid (fun W (h : FPW w (frA x ov) W) => great06_any W x ov hx (hO.later h.b))
  have PX := Lib.hid (fun W (h : FPW w (frA x ov) W) => putfr_no W x ov hx (hO.later h.b) mf)
  have PY := Lib.hid (fun W (h : FPW w (frA x ov) W) => tputfr_no W x ov hx (hO.later h.b) mf)
  have SA := Lib.hid (fun W (h : FPW w (frA x ov) W) => (may_any W x ov hx (hO.later h.b)).mono fun e w' h => h.fixed hr)
  have SB := Lib.hid (fun W (h : FPW w (frA x ov) W) => (tmay_any W x ov hx (hO.later h.b)).mono fun e w' h => h.fixed hr)
  have HSX := Lib.hid (frA_size x ov hx.have8)
  have S0 := Lib.hid S0
  clear hx hO mf hr
  generalize frA x ov = X at *
  go_enter Try.func8, Try.ntmps8
  go_wp2_with (refine wpList_load_row rfl 57 _ rfl w.heap.size rfl 57 X (0, 0) _ S0.out.k0 Try.underlying57 rfl (by rw [HSX.out]; exact size57) ?_)
  refine (GX.out _ S0.out).mono ?_
  rintro e w1 ⟨⟨r1, rfl⟩, h1⟩
  have S1 := Lib.hid (FPW.next _ _ S0.out h1)
  clear h1 S0
  cases r1
  case true =>
    go_wp2_with fail
    refine (head06_any _).mono ?_
    rintro e w9 ⟨rfl, h9⟩
    have H9 := Lib.hid (S1.out.b.trans (h9.mono S1.out.b.size))
    clear h9
    go_wp2_with fail
    go_ret
    exact ⟨rfl, H9.out⟩
  go_wp2_with (refine wpList_load_row rfl 57 _ rfl w.heap.size rfl 57 X (0, 0) _ S1.out.k0 Try.underlying57 rfl (by rw [HSX.out]; exact size57) ?_)
  refine (PX.out _ S1.out).mono ?_
  rintro e w3 ⟨rfl, h3⟩
  have S3 := Lib.hid (FPW.next _ _ S1.out h3)
  clear h3 S1
  go_wp2_with (refine wpList_load_row rfl 57 _ rfl w.heap.size rfl 57 X (0, 0) _ S3.out.k0 Try.underlying57 rfl (by rw [HSX.out]; exact size57) ?_)
  refine (PY.out _ S3.out).mono ?_
  rintro e w4 ⟨rfl, h4⟩
  have S4 := Lib.hid (FPW.next _ _ S3.out h4)
  clear h4 S3
  go_wp2_with fail
  refine wp_region_cls (FPW w X) (by kernel_rfl) (by kernel_rfl) (FPW.drew S4.out) (fun hne => ?_)
  have F1 := Lib.hid (fun (W : World) (h : FPW w X W) => ld57 h.k0 HSX.out)
  repeat (first | (go_big_quiet_want; refine quiet_load_sub 57 _ rfl ⟨w.heap.size, 0, none⟩ rfl X F1.out ?_; go_simp; go_big_quiet_on) | go_big_quiet_step ((first | (go_at_call 46; ((with_reducible refine call_cls_of _ SA.out FPW.next))) | (go_at_call 47; ((with_reducible refine call_cls_of _ SB.out FPW.next))))))
  refine wpQuiet_nil ?_
  refine sub_all fun w5 S5 => ?_
  have S5 := Lib.hid S5
  clear hne F1 S4
  go_wp2_with fail
  refine (head06_any _).mono ?_
  rintro e w9 ⟨rfl, h9⟩
  have H9 := Lib.hid (S5.out.b.trans (h9.mono S5.out.b.size))
  clear h9
  go_wp2_with fail
  go_ret
  exact ⟨rfl, H9.out⟩
set_option maxRecDepth 100000 in
set_option maxHeartbeats 32000000 in
theorem fp_yes (w : World) (x : NFrame) (ov : Value) (hx : x.ok) (hO : Ops w ov x.ops) (mf : mayF x) :
    Calls Try.prog 8 #[.agg (frA x ov)] w fun e w' => e = .returned (.bool true) ∧ Below w.heap.size w w' := by
  have hr : (true = true) ↔ mayF x := by simp [mf]
  have S0 := FPW.start w (frA x ov)
  have GX := Lib.hid (fun W (h : FPW w (frA x ov) W) => great06_any W x ov hx (hO.later h.b))
  have PX := Lib.hid (fun W (h : FPW w (frA x ov) W) => putfr_yes W x ov hx (hO.later h.b) mf)
  have PY := Lib.hid (fun W (h : FPW w (frA x ov) W) => tputfr_yes W x ov hx (hO.later h.b) mf)
  have SA := Lib.hid (fun W (h : FPW w (frA x ov) W) => (may_any W x ov hx (hO.later h.b)).mono fun e w' h => h.fixed hr)
  have SB := Lib.hid (fun W (h : FPW w (frA x ov) W) => (tmay_any W x ov hx (hO.later h.b)).mono fun e w' h => h.fixed hr)
  have GT := Lib.hid (fun W => getfr_put W x hx (fun p hp => by obtain ⟨_, _, _, _, _, h⟩ := hO; exact (h p hp).2) mf (by have := putF_len w x ov hx hO mf; omega))
  have TA := Lib.hid (fun (W W' : World) (y : NFrame) (pv : Value) (hy : y.ok) (hQ : Ops W pv y.ops) (hs : sameF y x) (h : FPW w (frA x ov) W) (hb : Below W.heap.size W W') => (tfsame_any W' y x pv ov hy hx (hQ.later hb) ((hO.later h.b).later hb)).mono fun e w' h => h.fixed (r := true) (by simp [hs]))
  have FA := Lib.hid (fun (W W' : World) (y : NFrame) (pv : Value) (hy : y.ok) (hQ : Ops W pv y.ops) (hs : sameF y x) (h : FPW w (frA x ov) W) (hb : Below W.heap.size W W') => (fsame_any W' y x pv ov hy hx (hQ.later hb) ((hO.later h.b).later hb)).mono fun e w' h => h.fixed (r := true) (by simp [hs]))
  have HSX := Lib.hid (frA_size x ov hx.have8)
  have S0 := Lib.hid S0
  obtain ⟨a, ha⟩ : ∃ a, putF x = a := ⟨_, rfl⟩
  rw [ha] at PX PY GT
  clear hx hO mf hr ha
  generalize frA x ov = X at *
  go_enter Try.func8, Try.ntmps8
  go_wp2_with (refine wpList_load_row rfl 57 _ rfl w.heap.size rfl 57 X (0, 0) _ S0.out.k0 Try.underlying57 rfl (by rw [HSX.out]; exact size57) ?_)
  refine (GX.out _ S0.out).mono ?_
  rintro e w1 ⟨⟨r1, rfl⟩, h1⟩
  have S1 := Lib.hid (FPW.next _ _ S0.out h1)
  clear h1 S0
  cases r1
  case true =>
    go_wp2_with fail
    refine (head06_any _).mono ?_
    rintro e w9 ⟨rfl, h9⟩
    have H9 := Lib.hid (S1.out.b.trans (h9.mono S1.out.b.size))
    clear h9
    go_wp2_with fail
    go_ret
    exact ⟨rfl, H9.out⟩
  go_wp2_with (refine wpList_load_row rfl 57 _ rfl w.heap.size rfl 57 X (0, 0) _ S1.out.k0 Try.underlying57 rfl (by rw [HSX.out]; exact size57) ?_)
  refine (PX.out _ S1.out).mono ?_
  rintro e w3 ⟨rfl, h3⟩
  have S3 := Lib.hid (FPW.next _ _ S1.out h3)
  clear h3 S1
  go_wp2_with (refine wpList_load_row rfl 57 _ rfl w.heap.size rfl 57 X (0, 0) _ S3.out.k0 Try.underlying57 rfl (by rw [HSX.out]; exact size57) ?_)
  refine (PY.out _ S3.out).mono ?_
  rintro e w4 ⟨rfl, h4⟩
  have S4 := Lib.hid (FPW.next _ _ S3.out h4)
  clear h4 S3
  go_wp2_with fail
  refine wp_region_cls (FPW w X) (by kernel_rfl) (by kernel_rfl) (FPW.drew S4.out) (fun hne => ?_)
  have F1 := Lib.hid (fun (W : World) (h : FPW w X W) => ld57 h.k0 HSX.out)
  repeat (first | (go_big_quiet_want; refine quiet_load_sub 57 _ rfl ⟨w.heap.size, 0, none⟩ rfl X F1.out ?_; go_simp; go_big_quiet_on) | go_big_quiet_step ((first | (go_at_call 46; ((with_reducible refine call_cls_of _ SA.out FPW.next))) | (go_at_call 47; ((with_reducible refine call_cls_of _ SB.out FPW.next))))))
  refine wpQuiet_nil ?_
  refine sub_all fun w5 S5 => ?_
  have S5 := Lib.hid S5
  clear hne F1 S4
  go_wp2_with fail
  refine (GT.out _).mono ?_
  rintro e w6 ⟨⟨y, pv, rfl, hQ, hs, hy⟩, h6⟩
  have S6 := Lib.hid (FPW.next _ _ S5.out h6)
  clear h6 S5
  have TA := Lib.hid (fun W' (hb : Below w6.heap.size w6 W') => TA.out w6 W' y pv hy hQ hs S6.out hb)
  have FA := Lib.hid (fun W' (hb : Below w6.heap.size w6 W') => FA.out w6 W' y pv hy hQ hs S6.out hb)
  have HSY := Lib.hid (frA_size y pv hy.have8)
  have HY1 : Hid ((frA y pv).all (·.oneCell') = true) := Lib.hid (by
    obtain ⟨A1, cap1, e1, _⟩ := hQ
    rw [e1]; simp [frA, frF, Value.oneCell'])
  clear hQ hs hy
  generalize frA y pv = Y at *
  have b7 := (Below.refl _ w6).alloc (Nat.le_refl _) (.cells z12 57)
  have k7 := Blk.new w6 57 z12
  have K7 := Lib.hid k7
  have K8 := Lib.hid (k7.row Y)
  have B8 := Lib.hid (below_setRow b7 (Nat.le_refl _) Y)
  have S8 := Lib.hid (FPW.next _ _ S6.out B8.out)
  rw [z12_eq] at K7 K8 B8 S8
  clear b7 k7
  go_wp2_with (first
    | (refine wpList_store_row rfl 57 _ _ rfl w6.heap.size Y rfl rfl 57 _ K7.out (by rw [HSY.out]; exact size57) (by rw [HSY.out]; rfl) HY1.out ?_)
    | (refine wpList_load_row_if (by rfl) 57 _ rfl w6.heap.size rfl 57 Y (0, 0) _ K8.out Try.underlying57 rfl (by rw [HSY.out]; exact size57) ?_)
    | (refine wpList_load_row_if (by rfl) 57 _ rfl w.heap.size rfl 57 X (0, 0) _ S8.out.k0 Try.underlying57 rfl (by rw [HSX.out]; exact size57) ?_))
  refine (TA.out _ B8.out).mono ?_
  rintro e w9 ⟨rfl, h9⟩
  have S9 := Lib.hid (FPW.next _ _ S8.out h9)
  have K9 := Lib.hid (K8.out.below h9 K8.out.lt)
  have B9 := Lib.hid (B8.out.trans (h9.mono B8.out.size))
  clear h9 S8 K8 B8 K7
  go_wp2_with (first
    | (refine wpList_load_row_if (by rfl) 57 _ rfl w6.heap.size rfl 57 Y (0, 0) _ K9.out Try.underlying57 rfl (by rw [HSY.out]; exact size57) ?_)
    | (refine wpList_load_row_if (by rfl) 57 _ rfl w.heap.size rfl 57 X (0, 0) _ S9.out.k0 Try.underlying57 rfl (by rw [HSX.out]; exact size57) ?_))
  refine (FA.out _ B9.out).mono ?_
  rintro e w10 ⟨rfl, h10⟩
  have S10 := Lib.hid (FPW.next _ _ S9.out h10)
  clear h10 S9 K9 B9
  go_wp2_with fail
  refine (head06_any _).mono ?_
  rintro e w11 ⟨rfl, h11⟩
  have H11 := Lib.hid (S10.out.b.trans (h11.mono S10.out.b.size))
  clear h11
  go_wp2_with fail
  go_ret
  exact ⟨rfl, H11.out⟩
theorem fp_any (w : World) (x : NFrame) (ov : Value) (hx : x.ok) (hO : Ops w ov x.ops) :
    Calls Try.prog 8 #[.agg (frA x ov)] w fun e w' => e = .returned (.bool true) ∧ Below w.heap.size w w' := by
  by_cases mf : mayF x
  · exact fp_yes w x ov hx hO mf
  · exact fp_no w x ov hx hO mf
end Go.Proofs.Ytfojjklohbiffaa
/- Frames: plain: what the document's reader of a frame meets at a frame's bytes. -/
namespace Go.Proofs.Ytfojjklohbiffaa
open Go.RowKit Tran Tran.Wire
set_option linter.unusedVariables false
set_option linter.unusedSimpArgs false
/-- a frame's bytes -/
def isFr (l : List UInt8) : Prop := ∃ x : NFrame, x.ok ∧ (∀ p ∈ x.ops, p.1.ok) ∧ mayF x ∧ putF x = l
/-- what is got of bytes: the frame whose they are, or none -/
def GetsF (w : World) (l : List UInt8) (e : Ending) (w' : World) : Prop :=
  ((∃ (x : NFrame) (ov : Value), e = .returned (.tuple #[.agg (frA x ov), .int .i64 0]) ∧ Ops w' ov x.ops ∧ x.ok ∧ mayF x ∧ putF x = l) ∨ (¬ isFr l ∧ e = .returned (.tuple #[.agg z12, .int .i64 5]))) ∧ Below w.heap.size w w'
theorem getfr_is (w : World) (l : List UInt8) (hl : l.length ≤ 1000000) : Calls Try.prog 48 #[.string ⟨l.toArray⟩] w (GetsF w l) := by
  refine (getfr_any w l hl).mono ?_
  rintro e w' ⟨⟨hi, ps, ov, rfl, hO, hps⟩ | ⟨hn, rfl⟩, hb⟩
  · obtain ⟨h1, h2⟩ := fr_back l hi ps hps
    exact ⟨.inl ⟨frHead l ps, ov, rfl, hO, frHead_ok l ps, hi.2.2 ps hps, h1⟩, hb⟩
  · refine ⟨.inr ⟨?_, rfl⟩, hb⟩
    rintro ⟨x, hx, gx, mx, rfl⟩
    exact hn (fr_put x hx gx mx).1
theorem three_of (x : NFrame) (mx : mayF x) : ∃ a b c : UInt8, vecF [x.kind, x.src, x.dst] = [a, b, c] ∧ a.toNat = x.kind ∧ b.toNat = x.src ∧ c.toNat = x.dst := by
  obtain ⟨h1, h2⟩ := small3 mx
  generalize vecF [x.kind, x.src, x.dst] = z at *
  match z, h1 with
  | [a, b, c], _ =>
    simp [bc] at h2
    obtain ⟨e1, e2, e3⟩ := h2
    exact ⟨a, b, c, rfl, by omega, by omega, by omega⟩
theorem gOps_none (L n : Nat) : gOps L (n + 1) none true = ([], (rtextS none (L : Int)).2, false) := by
  have hc : ¬ (rdO (some (rtextS none (L : Int)).1)).2 = some [] := by
    intro h
    have h1 := rdO_some h
    have h2 : (rtextS none (L : Int)).1 = [] := by
      have e : rnumS none (L : Int).toNat = (0, none) := by unfold rnumS; rw [if_neg (fun h => by have h := h.1; simp [numS] at h)]
      rw [rtextS, e]; rfl
    have hdr := (rdO_ok (some (rtextS none (L : Int)).1)).dr
    generalize (rdO (some (rtextS none (L : Int)).1)).1 = x0 at h1 hdr
    rw [h2] at h1
    injection h1 with h1
    have h3 := congrArg List.length h1
    have h5 := (numF_len x0.dr (by omega)).2
    simp only [putO, dotF, List.length_append, List.length_nil] at h3
    omega
  exact gOps_bad hc
theorem endN_five {st : Option (List UInt8)} (h : ¬ st = some []) : endN st = 5 := by
  cases st with
  | none => rfl
  | some l => cases l with
    | nil => exact absurd rfl h
    | cons a b => rfl
/-- what is met at a frame's bytes -/
theorem isFr_reads {l : List UInt8} (h : isFr l) : Crc.opened l = true ∧ ∃ (x : NFrame) (a b c : UInt8) (r : List UInt8), x.ok ∧ (∀ p ∈ x.ops, p.1.ok) ∧ mayF x ∧ putF x = l ∧ Crc.opens l = a :: b :: c :: r ∧ a.toNat = x.kind ∧ b.toNat = x.src ∧ c.toNat = x.dst ∧
    vecZ (some r) = x.have_ ∧ rnumS (rvecS (some r) 8).2 64 = (x.ops.length, some (textsF x.ops)) ∧ gOps l.length x.ops.length (some (textsF x.ops)) true = (opsOf x.ops, some [], true) := by
  obtain ⟨x, hx, gx, mx, rfl⟩ := h
  have m6 := may_len mx
  obtain ⟨a, b, c, hz, ha, hb, hc⟩ := three_of x mx
  have hop : Crc.opens (putF x) = bodyF x := Crc.opens_sealed _
  refine ⟨Crc.opened_sealed _, x, a, b, c, vecF x.have_ ++ numF x.ops.length ++ textsF x.ops, hx, gx, mx, rfl, ?_, ha, hb, hc, ?_⟩
  · rw [hop, bodyF, hz]; simp
  · have hV : rvecS (some (vecF x.have_ ++ (numF x.ops.length ++ textsF x.ops))) 8 = (x.have_, some (numF x.ops.length ++ textsF x.ops)) := by
      rw [rvec_vec x.have_ hx.have_ _ 8 (by rw [hx.have8]; omega), List.take_of_length_le (by rw [hx.have8]; omega), List.drop_of_length_le (by rw [hx.have8]; omega)]
      rfl
    rw [List.append_assoc]
    refine ⟨vecZ_of hV, ?_, ?_⟩
    · rw [hV]; exact rnum_nm _ 64 m6 (by omega) _
    · have h := gOps_put (putF x).length [] x.ops (fun p hp => ⟨gx p hp, may_ops mx p hp⟩) (by rw [putF, Crc.sealed_length, bodyF]; simp only [List.length_append]; omega)
      rw [List.append_nil] at h
      exact h
/-- what is got is the frame: no other -/
theorem isFr_same {l : List UInt8} (h : isFr l) {a b c : UInt8} {r : List UInt8} (hs : Crc.opens l = a :: b :: c :: r) {ps : List POp} {st : Option (List UInt8)} {ok : Bool}
    (hg : gOps l.length (rnumS (rvecS (some r) 8).2 64).1 (rnumS (rvecS (some r) 8).2 64).2 true = (opsOf ps, st, ok)) :
    ok = true ∧ st = some [] ∧ ∃ x : NFrame, x.ok ∧ (∀ p ∈ x.ops, p.1.ok) ∧ mayF x ∧ putF x = l ∧ sameF x { kind := a.toNat, src := b.toNat, dst := c.toNat, have_ := vecZ (some r), ops := ps } := by
  obtain ⟨_, x, a', b', c', r', hx, gx, mx, hp, hs', ha, hb, hc, hv, hn, hgo⟩ := isFr_reads h
  rw [hs] at hs'
  injection hs' with e1 hs'
  injection hs' with e2 hs'
  injection hs' with e3 e4
  subst e1 e2 e3 e4
  rw [hn] at hg
  simp only at hg
  rw [hgo] at hg
  injection hg with g1 g2
  injection g2 with g2 g3
  exact ⟨g3.symm, g2.symm, x, hx, gx, mx, hp, ha.symm, hb.symm, hc.symm, hv.symm, g1⟩
end Go.Proofs.Ytfojjklohbiffaa
