/- Frames' laws: the walk of FrameGets. -/
import Derived.Test.YtfojjklohbiffaaMq38
namespace Go.Proofs.Ytfojjklohbiffaa
open Go.RowKit Tran Tran.Wire
set_option linter.unusedVariables false
set_option linter.unusedSimpArgs false
theorem tgetfr_any (w : World) (l : List UInt8) (hl : l.length ≤ 1000000) : Calls Try.prog 82 #[.string ⟨l.toArray⟩] w (GetsF w l) := by
  cases ho : Crc.opened l with
  | false => exact tgetfr_bad w l hl (.inl ho)
  | true =>
    rcases hs : Crc.opens l with _ | ⟨a, _ | ⟨b, _ | ⟨c, r⟩⟩⟩
    · exact tgetfr_bad w l hl (.inr (by rw [hs]; simp))
    · exact tgetfr_bad w l hl (.inr (by rw [hs]; simp))
    · exact tgetfr_bad w l hl (.inr (by rw [hs]; simp))
    · exact tgetfr_good w l hl ho a b c r hs
theorem zeroF_ok : zeroF.ok := ⟨by decide, by decide, by decide, rfl, by intro y hy; simp [zeroF, zer8] at hy; omega⟩
def GotY (l : List UInt8) (w : World) (e : Ending) (w' : World) : Prop :=
  (∃ (x : NFrame) (ov : Value), e = .returned (.tuple #[.agg (frA x ov), .int .i64 0]) ∧ Ops w' ov x.ops ∧ x.ok ∧ mayF x ∧ putF x = l) ∧ Below w.heap.size w w'
theorem GetsF.yes {l : List UInt8} {w w' : World} {e : Ending} (h : GetsF w l e w') (hi : isFr l) : GotY l w e w' := by
  obtain ⟨h | ⟨h, _⟩, hb⟩ := h
  · exact ⟨h, hb⟩
  · exact absurd hi h
theorem GetsF.no {l : List UInt8} {w w' : World} {e : Ending} (h : GetsF w l e w') (hi : ¬ isFr l) : e = .returned (.tuple #[.agg z12, .int .i64 5]) ∧ Below w.heap.size w w' := by
  obtain ⟨⟨x, ov, _, hO, hx, hm, hp⟩ | ⟨_, h⟩, hb⟩ := h
  · obtain ⟨_, _, _, _, _, hg⟩ := hO
    exact absurd ⟨x, hx, fun p hp => (hg p hp).2, hm, hp⟩ hi
  · exact ⟨h, hb⟩
set_option maxRecDepth 100000 in
set_option maxHeartbeats 16000000 in
theorem fg_no (w : World) (l : List UInt8) (h6 : l.length ≤ 6000) (hi : ¬ isFr l) : Calls Try.prog 21 #[.string ⟨l.toArray⟩] w fun e w' => e = .returned (.bool true) ∧ Below w.heap.size w w' := by
  have G := Lib.hid (fun W => (getfr_is W l (by omega)).mono fun e w' h => h.no hi)
  have TG := Lib.hid (fun W => (tgetfr_any W l (by omega)).mono fun e w' h => h.no hi)
  have SM := Lib.hid (fun W => (tfsame_any W zeroF zeroF (.slice none 0 0) (.slice none 0 0) zeroF_ok zeroF_ok (Ops.nil W) (Ops.nil W)).mono fun e w' h => h.fixed (r := true) (by simp [sameF]))
  rw [← z12_fr] at SM
  have hd : decide ((6000 : Int) < (l.length : Int)) = false := decide_eq_false (by omega)
  have hd2 : decide (6000 < l.length) = false := decide_eq_false (by omega)
  clear hi
  go_enter Try.func21, Try.ntmps21
  go_wp2_with fail
  refine (G.out _).mono ?_
  rintro e w1 ⟨rfl, h1⟩
  have B1 := Lib.hid h1
  obtain ⟨t1, t3, tb⟩ := one_set w1 z12 z12 57
  have T1 := Lib.hid t1
  have K1 := Lib.hid t3
  have B1 := Lib.hid (B1.out.trans (tb.mono B1.out.size))
  clear t1 t3 tb h1
  rw [z12_eq] at T1
  go_wp2_with (refine wpList_store_row rfl 57 _ _ rfl w1.heap.size z12 rfl rfl 57 _ T1.out size57 rfl fr_zero_one ?_)
  refine (TG.out _).mono ?_
  rintro e w2 ⟨rfl, h2⟩
  have K1 := Lib.hid (K1.out.below h2 K1.out.lt)
  have B2 := Lib.hid (B1.out.trans (h2.mono B1.out.size))
  obtain ⟨t1, t3, tb⟩ := one_set w2 z12 z12 57
  have T2 := Lib.hid t1
  have K2 := Lib.hid t3
  have K1 := Lib.hid (K1.out.below tb K1.out.lt)
  have B2 := Lib.hid (B2.out.trans (tb.mono B2.out.size))
  clear t1 t3 tb h2
  rw [z12_eq] at T2
  go_wp2_with (first
    | (refine wpList_store_row rfl 57 _ _ rfl w2.heap.size z12 rfl rfl 57 _ T2.out size57 rfl fr_zero_one ?_)
    | (refine wpList_load_row rfl 57 _ rfl w1.heap.size rfl 57 z12 (0, 0) _ K1.out Try.underlying57 rfl size57 ?_)
    | (refine wpList_load_row rfl 57 _ rfl w2.heap.size rfl 57 z12 (0, 0) _ K2.out Try.underlying57 rfl size57 ?_))
  refine (SM.out _).mono ?_
  rintro e w3 ⟨rfl, h3⟩
  have B3 := Lib.hid (B2.out.trans (h3.mono B2.out.size))
  clear h3
  go_wp2_with fail
  refine (head06_any _).mono ?_
  rintro e w9 ⟨rfl, h9⟩
  have H9 := Lib.hid (B3.out.trans (h9.mono B3.out.size))
  clear h9
  go_wp2_with fail
  go_ret
  exact ⟨rfl, H9.out⟩
set_option maxRecDepth 100000 in
set_option maxHeartbeats 16000000 in
theorem fg_yes (w : World) (l : List UInt8) (h6 : l.length ≤ 6000) (hi : isFr l) : Calls Try.prog 21 #[.string ⟨l.toArray⟩] w fun e w' => e = .returned (.bool true) ∧ Below w.heap.size w w' := by
  have G := Lib.hid (fun W => (getfr_is W l (by omega)).mono fun e w' h => h.yes hi)
  have TG := Lib.hid (fun W => (tgetfr_any W l (by omega)).mono fun e w' h => h.yes hi)
  have hd : decide ((6000 : Int) < (l.length : Int)) = false := decide_eq_false (by omega)
  have hd2 : decide (6000 < l.length) = false := decide_eq_false (by omega)
  clear hi
  go_enter Try.func21, Try.ntmps21
  go_wp2_with fail
  refine (G.out _).mono ?_
  rintro e w1 ⟨⟨x, ov, rfl, hO, hx, mx, hpx⟩, h1⟩
  have B1 := Lib.hid h1
  have HSX := Lib.hid (frA_size x ov hx.have8)
  have HX1 : Hid ((frA x ov).all (·.oneCell') = true) := Lib.hid (by
    obtain ⟨A1, cap1, e1, _⟩ := hO
    rw [e1]; exact frA_one_ _ _ _ _)
  obtain ⟨t1, t3, tb⟩ := one_set w1 z12 (frA x ov) 57
  have T1 := Lib.hid t1
  have K1 := Lib.hid t3
  have OX := Lib.hid (fun W (hb : Below w1.heap.size w1 W) => hO.later hb)
  have B01 := Lib.hid h1
  have TB1 := Lib.hid tb
  have HX := Lib.hid (And.intro hx (And.intro mx hpx))
  clear t1 t3 tb h1 hO hx mx hpx B1
  rw [z12_eq] at T1 K1 TB1
  go_wp2_with (refine wpList_store_row rfl 57 _ _ rfl w1.heap.size (frA x ov) rfl rfl 57 _ T1.out (by rw [HSX.out]; exact size57) (by rw [HSX.out]; rfl) HX1.out ?_)
  refine (TG.out _).mono ?_
  rintro e w2 ⟨⟨y, pv, rfl, hQ, hy, my, hpy⟩, h2⟩
  have K1 := Lib.hid (K1.out.below h2 K1.out.lt)
  have BX := Lib.hid (TB1.out.trans (h2.mono TB1.out.size))
  have HSY := Lib.hid (frA_size y pv hy.have8)
  have HY1 : Hid ((frA y pv).all (·.oneCell') = true) := Lib.hid (by
    obtain ⟨A1, cap1, e1, _⟩ := hQ
    rw [e1]; exact frA_one_ _ _ _ _)
  obtain ⟨t1, t3, tb⟩ := one_set w2 z12 (frA y pv) 57
  have T2 := Lib.hid t1
  have K2 := Lib.hid t3
  have K1 := Lib.hid (K1.out.below tb K1.out.lt)
  have BX2 := Lib.hid (BX.out.trans (tb.mono BX.out.size))
  have SM := Lib.hid (fun W (h : Below w1.heap.size w1 W) (k : Below w2.heap.size w2 W) => (tfsame_any W x y ov pv HX.out.1 hy (OX.out W h) (hQ.later k)).mono fun e w' h => h.fixed (r := true) (by
    refine ⟨fun _ => ?_, fun _ => rfl⟩
    obtain ⟨_, _, _, _, _, g1⟩ := OX.out _ (Below.refl _ _)
    obtain ⟨_, _, _, _, _, g2⟩ := hQ
    exact (putF_same HX.out.1 hy (fun p hp => (g1 p hp).2) (fun p hp => (g2 p hp).2) HX.out.2.1 my).1 (HX.out.2.2.trans hpy.symm)))
  have TB2 := Lib.hid tb
  have PX := Lib.hid (fun W (h : Below w1.heap.size w1 W) => putfr_yes W x ov HX.out.1 (OX.out W h) HX.out.2.1)
  rw [HX.out.2.2] at PX
  clear t1 t3 tb h2 hQ hy my hpy BX TB1
  rw [z12_eq] at T2 K1 K2 BX2 TB2
  go_wp2_with (first
    | (refine wpList_store_row rfl 57 _ _ rfl w2.heap.size (frA y pv) rfl rfl 57 _ T2.out (by rw [HSY.out]; exact size57) (by rw [HSY.out]; rfl) HY1.out ?_)
    | (refine wpList_load_row rfl 57 _ rfl w1.heap.size rfl 57 (frA x ov) (0, 0) _ K1.out Try.underlying57 rfl (by rw [HSX.out]; exact size57) ?_)
    | (refine wpList_load_row rfl 57 _ rfl w2.heap.size rfl 57 (frA y pv) (0, 0) _ K2.out Try.underlying57 rfl (by rw [HSY.out]; exact size57) ?_))
  refine (SM.out _ BX2.out TB2.out).mono ?_
  rintro e w3 ⟨rfl, h3⟩
  have K1 := Lib.hid (K1.out.below h3 K1.out.lt)
  have BX3 := Lib.hid (BX2.out.trans (h3.mono BX2.out.size))
  clear h3
  go_wp2_with (refine wpList_load_row rfl 57 _ rfl w1.heap.size rfl 57 (frA x ov) (0, 0) _ K1.out Try.underlying57 rfl (by rw [HSX.out]; exact size57) ?_)
  refine (PX.out _ BX3.out).mono ?_
  rintro e w4 ⟨rfl, h4⟩
  have BX4 := Lib.hid (BX3.out.trans (h4.mono BX3.out.size))
  clear h4
  go_wp2_with fail
  refine (head06_any _).mono ?_
  rintro e w9 ⟨rfl, h9⟩
  have H9 := Lib.hid (B01.out.trans ((BX4.out.trans (h9.mono BX4.out.size)).mono B01.out.size))
  clear h9
  go_wp2_with fail
  go_ret
  exact ⟨rfl, H9.out⟩
set_option maxRecDepth 100000 in
set_option maxHeartbeats 4000000 in
theorem fg_any (w : World) (l : List UInt8) : Calls Try.prog 21 #[.string ⟨l.toArray⟩] w fun e w' => e = .returned (.bool true) ∧ Below w.heap.size w w' := by
  by_cases h6 : l.length ≤ 6000
  · by_cases hi : isFr l
    · exact fg_yes w l h6 hi
    · exact fg_no w l h6 hi
  · have hd : decide ((6000 : Int) < (l.length : Int)) = true := decide_eq_true (by omega)
    have hd2 : decide (6000 < l.length) = true := decide_eq_true (by omega)
    go_enter Try.func21, Try.ntmps21
    go_wp2_with fail
    refine (head06_any _).mono ?_
    rintro e w9 ⟨rfl, h9⟩
    go_wp2_with fail
    go_ret
    exact ⟨rfl, h9⟩
end Go.Proofs.Ytfojjklohbiffaa
