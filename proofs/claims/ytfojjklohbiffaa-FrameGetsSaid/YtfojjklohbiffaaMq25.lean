/- Frames: frame.Get of bytes that are not sealed. -/
import Derived.Test.YtfojjklohbiffaaMq24
namespace Go.Proofs.Ytfojjklohbiffaa
open Go.RowKit Tran Tran.Wire
set_option linter.unusedVariables false
set_option linter.unusedSimpArgs false
set_option maxRecDepth 100000 in
set_option maxHeartbeats 4000000 in
theorem shortm_any {w : World} {g bx : Nat} {st : Option (List UInt8)} (h : RdP w (some ⟨g, 0, none⟩) st) (kb : Blk w bx 86 #[.pointer (some ⟨g, 0, none⟩)]) (m : Nat) (hm : m ≤ 255) :
    Calls Try.prog 99 #[.int .u64 m, .pointer (some ⟨bx, 0, none⟩)] w fun e w' => e = .returned (.int .u8 ((rnumS st m).1 : Nat)) ∧ Rdd w w' (some ⟨g, 0, none⟩) (rnumS st m).2 := by
  have bx0 : _ = some (Value.pointer (some ⟨g, 0, none⟩)) := kb.cell 0
  have R := rnum_r h m
  have hl := rnumS_le st m
  generalize rnumS st m = q at *
  obtain ⟨n, s2⟩ := q
  simp only at hl R ⊢
  have hw : IntKind.u8.wrap (n : Int) = n := IntWalk.u8_in _ (by omega)
  have R := Lib.hid R
  clear h kb
  go_enter Try.func99, Try.ntmps99
  go_wp2_with fail
  refine R.out.mono ?_
  rintro e w1 ⟨rfl, hr⟩
  go_wp2
  go_ret
  first | exact ⟨rfl, hr⟩ | exact ⟨by rw [hw], hr⟩
def z12 : Array Value := #[.int .u8 0, .int .u8 0, .int .u8 0, .int .u32 0, .int .u32 0, .int .u32 0, .int .u32 0, .int .u32 0, .int .u32 0, .int .u32 0, .int .u32 0, .slice none 0 0]
theorem z12_eq : z12 = #[.int .u8 0, .int .u8 0, .int .u8 0, .int .u32 0, .int .u32 0, .int .u32 0, .int .u32 0, .int .u32 0, .int .u32 0, .int .u32 0, .int .u32 0, .slice none 0 0] := rfl
def zeroF : NFrame := { kind := 0, src := 0, dst := 0, have_ := zer8, ops := [] }
theorem z12_fr : z12 = frA zeroF (.slice none 0 0) := rfl
theorem fr_put0 (x : NFrame) (ov : Value) (a : Nat) : (frA x ov).setIfInBounds 0 (.int .u8 (a : Nat)) = frA { x with kind := a } ov := by cases x; rfl
theorem fr_put1 (x : NFrame) (ov : Value) (a : Nat) : (frA x ov).setIfInBounds 1 (.int .u8 (a : Nat)) = frA { x with src := a } ov := by cases x; rfl
theorem fr_put2 (x : NFrame) (ov : Value) (a : Nat) : (frA x ov).setIfInBounds 2 (.int .u8 (a : Nat)) = frA { x with dst := a } ov := by cases x; rfl
theorem fr_put3 (x : NFrame) (ov : Value) (h : x.have_.length = 8) (xs : List Nat) (hx : xs.length = 8) : putAt (frA x ov) 3 (vecA xs).toList = frA { x with have_ := xs } ov := by
  cases x
  obtain ⟨_, _, _, _, _, _, _, _, rfl⟩ := dep8 h
  obtain ⟨_, _, _, _, _, _, _, _, rfl⟩ := dep8 hx
  simp [vecA, putAt, frA, frF]
/-- the worlds within frame.Get: the result, the text's box, the reader, its box, the frame -/
structure GtW (w0 : World) (G : Nat) (s : List UInt8) (W : World) (st : Option (List UInt8)) (X : Array Value) : Prop where
  kr : Blk W w0.heap.size 57 z12
  ks : Blk W G 9 #[.string ⟨s.toArray⟩]
  kb : Blk W (G + 1 + 1) 86 #[.pointer (some ⟨G + 1, 0, none⟩)]
  ko : Blk W (G + 1 + 1 + 1) 57 X
  rd : RdP W (some ⟨G + 1, 0, none⟩) st
  b : Below w0.heap.size w0 W
  gt : w0.heap.size < G
theorem GtW.rdd {w0 : World} {G : Nat} {s : List UInt8} {W W' : World} {st st' : Option (List UInt8)} {X : Array Value} (h : GtW w0 G s W st X) (r : Rdd W W' (some ⟨G + 1, 0, none⟩) st') : GtW w0 G s W' st' X := by
  have hgt := h.gt
  refine ⟨h.kr.chg r.ch ?_, h.ks.chg r.ch ?_, h.kb.chg r.ch ?_, h.ko.chg r.ch ?_, r.rd, h.b.trans (r.toBelow (by omega) h.b.size), h.gt⟩
  all_goals (intro e; injection e with e; injection e with e; omega)
theorem GtW.set {w0 : World} {G : Nat} {s : List UInt8} {W : World} {st : Option (List UInt8)} {X : Array Value} (h : GtW w0 G s W st X) (i : Nat) (u : Value) : GtW w0 G s (W.setCell ⟨G + 1 + 1 + 1, i, none⟩ u) st (X.setIfInBounds i u) := by
  have hgt := h.gt
  refine ⟨h.kr.far (p := ⟨G + 1 + 1 + 1, i, none⟩) (show w0.heap.size ≠ G + 1 + 1 + 1 by omega) u, h.ks.far (p := ⟨G + 1 + 1 + 1, i, none⟩) (show G ≠ G + 1 + 1 + 1 by omega) u, h.kb.far (p := ⟨G + 1 + 1 + 1, i, none⟩) (show G + 1 + 1 ≠ G + 1 + 1 + 1 by omega) u,
    h.ko.set_ i u, h.rd.far (fun k e => by injection e with e; injection e with e; show k ≠ G + 1 + 1 + 1; omega) u, h.b.setCell (p := ⟨G + 1 + 1 + 1, i, none⟩) (show w0.heap.size ≤ G + 1 + 1 + 1 by omega) u, h.gt⟩
theorem RdP.farCells {w : World} {p : Option Addr} {st : Option (List UInt8)} (h : RdP w p st) {k : Nat} (hk : ∀ g, p = some ⟨g, 0, none⟩ → g ≠ k) (o : Nat) (vs : List Value) : RdP (w.setCells k o vs) p st := by
  rcases h with h | ⟨g, hp, s, pos, ok, hkk, h1⟩
  · exact .inl h
  · exact .inr ⟨g, hp, s, pos, ok, hkk.farCells (hk g hp) o vs, h1⟩
theorem GtW.sets {w0 : World} {G : Nat} {s : List UInt8} {W : World} {st : Option (List UInt8)} {X : Array Value} (h : GtW w0 G s W st X) (o : Nat) (vs : List Value) : GtW w0 G s (W.setCells (G + 1 + 1 + 1) o vs) st (putAt X o vs) := by
  have hgt := h.gt
  exact ⟨h.kr.farCells (by omega) o vs, h.ks.farCells (by omega) o vs, h.kb.farCells (by omega) o vs, h.ko.setCells o vs, h.rd.farCells (fun k e => by injection e with e; injection e with e; omega) o vs, below_setCells h.b (by omega) o vs, h.gt⟩
theorem GtW.start {w0 w1 w2 : World} {G : Nat} {s : List UInt8} (kr : Blk w1 w0.heap.size 57 z12) (b : Below w0.heap.size w0 w1) (hG : G = w1.heap.size) (hs : s.length ≤ 140737488355328)
    (h2 : w2 = (w1.alloc (.cells #[.string ⟨s.toArray⟩] 9)).alloc (.cells #[.string ⟨s.toArray⟩, .int .i64 0, .bool true] 146)) :
    GtW w0 G s ((w2.alloc (.cells #[.pointer (some ⟨G + 1, 0, none⟩)] 86)).alloc (.cells z12 57)) (some s) z12 := by
  subst hG h2
  have hlt := kr.lt
  have e1 : ((w1.alloc (.cells #[.string ⟨s.toArray⟩] 9)).alloc (.cells #[.string ⟨s.toArray⟩, .int .i64 0, .bool true] 146)).heap.size = w1.heap.size + 1 + 1 := by simp
  have e2 : (((w1.alloc (.cells #[.string ⟨s.toArray⟩] 9)).alloc (.cells #[.string ⟨s.toArray⟩, .int .i64 0, .bool true] 146)).alloc (.cells #[.pointer (some ⟨w1.heap.size + 1, 0, none⟩)] 86)).heap.size = w1.heap.size + 1 + 1 + 1 := by simp
  have kb := (Blk.new ((w1.alloc (.cells #[.string ⟨s.toArray⟩] 9)).alloc (.cells #[.string ⟨s.toArray⟩, .int .i64 0, .bool true] 146)) 86 #[.pointer (some ⟨w1.heap.size + 1, 0, none⟩)]).alloc (.cells z12 57)
  rw [e1] at kb
  have ko := Blk.new (((w1.alloc (.cells #[.string ⟨s.toArray⟩] 9)).alloc (.cells #[.string ⟨s.toArray⟩, .int .i64 0, .bool true] 146)).alloc (.cells #[.pointer (some ⟨w1.heap.size + 1, 0, none⟩)] 86)) 57 z12
  rw [e2] at ko
  have kd := ((Blk.new (w1.alloc (.cells #[.string ⟨s.toArray⟩] 9)) 146 #[.string ⟨s.toArray⟩, .int .i64 0, .bool true]).alloc (.cells #[.pointer (some ⟨w1.heap.size + 1, 0, none⟩)] 86)).alloc (.cells z12 57)
  rw [World.size_alloc] at kd
  refine ⟨(((kr.alloc _).alloc _).alloc _).alloc _, (((Blk.new w1 9 _).alloc _).alloc _).alloc _, kb, ko, .inr ⟨_, rfl, s, 0, true, kd, by omega, hs, by simp⟩, ?_, by omega⟩
  have hsz := b.size
  exact (((b.alloc hsz _).alloc (by simp; omega) _).alloc (by simp; omega) _).alloc (by simp; omega) _
theorem rvec_z {w : World} {p : Option Addr} {st : Option (List UInt8)} (h : RdP w p st) : Calls Try.prog 68 #[.pointer p] w fun e w' => e = .returned (.agg (vecA (vecZ st))) ∧ Rdd w w' p (rvecS st 8).2 := by
  have := rvec_r h
  rwa [vecV_eq] at this
theorem fr_zero_one : z12.all (·.oneCell') = true := by simp [z12, Value.oneCell']
set_option maxRecDepth 100000 in
set_option maxHeartbeats 16000000 in
theorem getfr_bad (w : World) (l : List UInt8) (hl : l.length ≤ 1000000) (ho : Crc.opened l = false) : Calls Try.prog 48 #[.string ⟨l.toArray⟩] w fun e w' => e = .returned (.tuple #[.agg z12, .int .i64 5]) ∧ Below w.heap.size w w' := by
  have O := open_any l hl
  rw [ho] at O
  have hsl : (Crc.opens l).length ≤ 1000000 := by unfold Crc.opens; rw [ho]; simp
  generalize Crc.opens l = s at *
  have O := Lib.hid O
  have kr := Blk.new w 57 z12
  have hb := (Below.refl w.heap.size w).alloc (Nat.le_refl _) (.cells z12 57)
  have KR := Lib.hid kr
  have HB := Lib.hid hb
  rw [z12_eq] at KR HB
  clear kr hb ho
  go_enter Try.func48, Try.ntmps48
  go_wp2_with fail
  refine (O.out _).mono ?_
  rintro e w1 ⟨rfl, hb1⟩
  have KR1 := Lib.hid (KR.out.below hb1 KR.out.lt)
  have HB1 := Lib.hid (HB.out.trans (hb1.mono HB.out.size))
  clear hb1
  obtain ⟨G, hG⟩ : ∃ G, w1.heap.size = G := ⟨_, rfl⟩
  go_wp2_with fail
  refine (open_r _ (by omega)).mono ?_
  rintro e w2 ⟨rfl, _, hw2⟩
  rw [World.size_alloc]
  have S0 := Lib.hid (GtW.start (G := G) KR1.out HB1.out hG.symm (by omega) hw2)
  have hsz2 : w2.heap.size = G + 1 + 1 := by rw [hw2]; simp [hG]
  rw [hG]
  clear hw2 hG
  go_wp2_with fail
  rw [← z12_eq]
  refine (shortm_any S0.out.rd S0.out.kb 1 (by omega)).mono ?_
  rintro e w3 ⟨rfl, hr⟩
  have S1 := Lib.hid (S0.out.rdd hr)
  clear hr
  clear S0 hsz2
  go_wp2_with fail
  refine (shortm_any S1.out.rd S1.out.kb 7 (by omega)).mono ?_
  rintro e w4 ⟨rfl, hr⟩
  have S2 := Lib.hid (S1.out.rdd hr)
  clear hr
  clear S1
  go_wp2_with fail
  refine (shortm_any S2.out.rd S2.out.kb 7 (by omega)).mono ?_
  rintro e w5 ⟨rfl, hr⟩
  have S3 := Lib.hid (S2.out.rdd hr)
  clear hr
  clear S2
  generalize (rnumS (some s) 1).1 = n1 at *
  generalize (rnumS (rnumS (some s) 1).2 7).1 = n2 at *
  generalize (rnumS (rnumS (rnumS (some s) 1).2 7).2 7).1 = n3 at *
  generalize (rnumS (rnumS (rnumS (some s) 1).2 7).2 7).2 = st3 at *
  have c0 := S3.out.ko.cell 0
  have c1 := S3.out.ko.cell 1
  have c2 := S3.out.ko.cell 2
  rw [show z12[0]? = some (.int .u8 0) from rfl] at c0
  rw [show z12[1]? = some (.int .u8 0) from rfl] at c1
  rw [show z12[2]? = some (.int .u8 0) from rfl] at c2
  have z0 := S3.out.ko.frozen 0
  have z1 := S3.out.ko.frozen 1
  have z2 := S3.out.ko.frozen 2
  have bx := S3.out.kb.cell 0
  rw [show (#[Value.pointer (some ⟨G + 1, 0, none⟩)] : Array Value)[0]? = some (Value.pointer (some ⟨G + 1, 0, none⟩)) from rfl] at bx
  go_wp2_with fail
  have S4 := Lib.hid (((S3.out.set 0 (.int .u8 (n1 : Int))).set 1 (.int .u8 (n2 : Int))).set 2 (.int .u8 (n3 : Int)))
  clear c0 c1 c2 z0 z1 z2 bx S3
  refine (rvec_z S4.out.rd).mono ?_
  rintro e w6 ⟨rfl, hr⟩
  have S5 := Lib.hid (S4.out.rdd hr)
  clear hr S4
  have hx8 : (vecA (vecZ st3)).size = 8 := by rw [vecA_size]; exact vecZ_len st3
  have HX8 := Lib.hid hx8
  have hth : w6.there (G + 1 + 1 + 1) 3 (vecA (vecZ st3)).size := S5.out.ko.there (by rw [hx8]; simp [z12])
  have HTH := Lib.hid hth
  have H1 := Lib.hid (vecA_one (vecZ st3))
  have S6 := Lib.hid (S5.out.sets 3 (vecA (vecZ st3)).toList)
  have bx := S6.out.kb.cell 0
  rw [show (#[Value.pointer (some ⟨G + 1, 0, none⟩)] : Array Value)[0]? = some (Value.pointer (some ⟨G + 1, 0, none⟩)) from rfl] at bx
  generalize (rvecS st3 8).2 = st4 at *
  generalize vecA (vecZ st3) = V at *
  clear hx8 hth S5
  go_wp2_with (refine wpList_store_mid rfl 54 _ _ rfl (G + 1 + 1 + 1) 3 V rfl rfl HTH.out (by rw [HX8.out]; exact size54) H1.out ?_)
  have R := rnum_r S6.out.rd 64
  rw [show ((64 : Nat) : Int) = 64 from rfl] at R
  refine R.mono ?_
  rintro e w7 ⟨rfl, hr⟩
  have S7 := Lib.hid (S6.out.rdd hr)
  clear hr S6 R bx
  generalize (rnumS st4 64).1 = n5 at *
  generalize (rnumS st4 64).2 = st5 at *
  generalize putAt (((z12.setIfInBounds 0 (Value.int IntKind.u8 (n1 : Int))).setIfInBounds 1 (Value.int IntKind.u8 (n2 : Int))).setIfInBounds 2 (Value.int IntKind.u8 (n3 : Int))) 3 V.toList = X at *
  go_wp2_with fail
  go_loopw [5, 10, 11] (fun is n p wr => is = .bool false ∧ n = .int .u64 (n5 : Int) ∧ wr = w7) (fun _ _ _ _ => 0)
  case atStart => exact ⟨rfl, rfl, rfl⟩
  case round =>
    obtain ⟨rfl, rfl, rfl⟩ := hrel
    have HZ := Lib.hid (S7.out.kr)
    have HB7 := Lib.hid S7.out.b
    by_cases h5 : 0 < n5
    · have hd : decide ((0 : Int) < (n5 : Int)) = true := decide_eq_true (by omega)
      go_wp2_with (refine wpList_store_row rfl 57 _ _ rfl w.heap.size z12 rfl (by rw [z12_eq]; rfl) 57 z12 HZ.out size57 rfl fr_zero_one ?_)
      refine bodyPost_ret (results_row_tmp rfl _ _ w.heap.size 57 z12 (0, 0) _ _ rfl rfl (HZ.out.row _) Try.underlying57 rfl size57) rfl ?_
      exact ⟨rfl, below_setRow HB7.out (Nat.le_refl _) _⟩
    · have hd : decide ((0 : Int) < (n5 : Int)) = false := decide_eq_false (by omega)
      go_wp2_with (refine wpList_store_row rfl 57 _ _ rfl w.heap.size z12 rfl (by rw [z12_eq]; rfl) 57 z12 HZ.out size57 rfl fr_zero_one ?_)
      refine bodyPost_ret (results_row_tmp rfl _ _ w.heap.size 57 z12 (0, 0) _ _ rfl rfl (HZ.out.row _) Try.underlying57 rfl size57) rfl ?_
      exact ⟨rfl, below_setRow HB7.out (Nat.le_refl _) _⟩
end Go.Proofs.Ytfojjklohbiffaa
