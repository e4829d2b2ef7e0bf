/- Frames' laws: the walk of FrameBursts. -/
import Derived.Test.YtfojjklohbiffaaMq25
import Derived.Test.YtfojjklohbiffaaMq26
import Derived.Test.YtfojjklohbiffaaMq29
namespace Go.Proofs.Ytfojjklohbiffaa
open Go.RowKit Tran Tran.Wire
set_option linter.unusedVariables false
set_option linter.unusedSimpArgs false
/-- the worlds within the law: its arguments' boxes -/
structure FBW (w : World) (X Y Z : Array Value) (W : World) : Prop where
  k0 : Blk W w.heap.size 57 X
  k1 : Blk W (w.heap.size + 1) 57 Y
  k2 : Blk W (w.heap.size + 1 + 1) 69 Z
  b : Below w.heap.size w W
theorem FBW.next {w : World} {X Y Z : Array Value} (W W' : World) (h : FBW w X Y Z W) (k : Below W.heap.size W W') : FBW w X Y Z W' :=
  ⟨h.k0.below k h.k0.lt, h.k1.below k h.k1.lt, h.k2.below k h.k2.lt, h.b.trans (k.mono h.b.size)⟩
theorem FBW.drew {w : World} {X Y Z : Array Value} {W : World} (h : FBW w X Y Z W) : FBW w X Y Z W.drew := ⟨h.k0, h.k1, h.k2, below_drew h.b⟩
theorem FBW.start (w : World) (X Y Z : Array Value) : FBW w X Y Z (((w.alloc (.cells X 57)).alloc (.cells Y 57)).alloc (.cells Z 69)) := by
  have k1 := (Blk.new (w.alloc (.cells X 57)) 57 Y).alloc (.cells Z 69)
  have k2 := Blk.new ((w.alloc (.cells X 57)).alloc (.cells Y 57)) 69 Z
  simp only [World.size_alloc] at k1 k2
  exact ⟨((Blk.new w 57 X).alloc _).alloc _, k1, k2, (((Below.refl _ w).alloc (Nat.le_refl _) _).alloc (by simp) _).alloc (by simp; omega) _⟩
theorem FBW.set {w : World} {X Y Z : Array Value} {W : World} (h : FBW w X Y Z W) {q : Addr} (hq : w.heap.size + 3 ≤ q.block) (u : Value) : FBW w X Y Z (W.setCell q u) :=
  ⟨h.k0.far (by omega) u, h.k1.far (by omega) u, h.k2.far (by omega) u, h.b.setCell (by omega) u⟩
theorem FBW.grown {w : World} {X Y Z : Array Value} {W W' : World} (h : FBW w X Y Z W) (hg : W.grownBy W' none) : FBW w X Y Z W' :=
  ⟨h.k0.grown hg (by simp), h.k1.grown hg (by simp), h.k2.grown hg (by simp), h.b.grown hg h.b.size (by simp)⟩
theorem ld57 {W : World} {g : Nat} {cs : Array Value} (k : Blk W g 57 cs) (h : cs.size = 12) : (loadVar 57 ⟨g, 0, none⟩).run Try.prog W = .ok (.agg cs) W :=
  run_load_cells W ⟨g, 0, none⟩ 57 cs _ (fun j x hj => by rw [lit_add, Nat.zero_add]; exact (k.cell j).trans hj) Try.underlying57 rfl (by rw [h]; exact size57)
theorem eqstr {a b : List UInt8} {r : Bool} (h : r = true ↔ a = b) : (a == b) = r := by
  rw [Bool.eq_iff_iff, h]; simp

theorem burst_bad (x : NFrame) (k b : Nat) (hb0 : b ≠ 0) (hb32 : b < 4294967296) (hk : k + 32 ≤ 8 * (putF x).length) : Crc.opened (Crc.burst (putF x) k b 32).1 = false := by
  unfold putF at *
  rw [Crc.opened_burst, Crc.burst_turned _ k b hk hb0 (by omega)]
  rfl
set_option maxRecDepth 100000 in
set_option maxHeartbeats 32000000 in
theorem fb_no (w : World) (x y : NFrame) (ov pv : Value) (hx : x.ok) (hy : y.ok) (hO : Ops w ov x.ops) (hQ : Ops w pv y.ops) (x0 b : Nat) (hx0 : x0 < 4294967296) (hb32 : b < 4294967296) (mf : ¬ mayF x) (mg : ¬ mayF y) :
    Calls Try.prog 10 #[.agg (frA x ov), .agg (frA y pv), .agg #[.int .u32 (x0 : Int), .int .u32 (b : Int)]] w fun e w' => e = .returned (.bool true) ∧ Below w.heap.size w w' := by
  obtain ⟨r, hr⟩ := bool_of (sameF x y)
  have S0 := FBW.start w (frA x ov) (frA y pv) #[.int .u32 (x0 : Int), .int .u32 (b : Int)]
  have GX := Lib.hid (fun W (h : FBW w (frA x ov) (frA y pv) #[.int .u32 (x0 : Int), .int .u32 (b : Int)] W) => great06_any W x ov hx (hO.later h.b))
  have GY := Lib.hid (fun W (h : FBW w (frA x ov) (frA y pv) #[.int .u32 (x0 : Int), .int .u32 (b : Int)] W) => great06_any W y pv hy (hQ.later h.b))
  have PX := Lib.hid (fun W (h : FBW w (frA x ov) (frA y pv) #[.int .u32 (x0 : Int), .int .u32 (b : Int)] W) => putfr_no W x ov hx (hO.later h.b) mf)
  have PY := Lib.hid (fun W (h : FBW w (frA x ov) (frA y pv) #[.int .u32 (x0 : Int), .int .u32 (b : Int)] W) => putfr_no W y pv hy (hQ.later h.b) mg)
  have SA := Lib.hid (fun W (h : FBW w (frA x ov) (frA y pv) #[.int .u32 (x0 : Int), .int .u32 (b : Int)] W) => (fsame_any W x y ov pv hx hy (hO.later h.b) (hQ.later h.b)).mono fun e w' h => h.fixed hr)
  have SB := Lib.hid (fun W (h : FBW w (frA x ov) (frA y pv) #[.int .u32 (x0 : Int), .int .u32 (b : Int)] W) => (tfsame_any W x y ov pv hx hy (hO.later h.b) (hQ.later h.b)).mono fun e w' h => h.fixed hr)
  have HSX := Lib.hid (frA_size x ov hx.have8)
  have HSY := Lib.hid (frA_size y pv hy.have8)
  have S0 := Lib.hid S0
  have HR := Lib.hid hr
  clear hx hy hO hQ mf mg hr
  generalize frA x ov = X at *
  generalize frA y pv = Y at *
  go_enter Try.func10, Try.ntmps10
  go_wp2_with (refine wpList_load_row rfl 57 _ rfl w.heap.size rfl 57 X (0, 0) _ S0.out.k0 Try.underlying57 rfl (by rw [HSX.out]; exact size57) ?_)
  refine (GX.out _ S0.out).mono ?_
  rintro e w1 ⟨⟨r1, rfl⟩, h1⟩
  have S1 := Lib.hid (FBW.next _ _ S0.out h1)
  clear h1 S0
  cases r1
  case true =>
    go_wp2_with fail
    refine (head06_any _).mono ?_
    rintro e w9 ⟨rfl, h9⟩
    have H9 := Lib.hid (S1.out.b.trans (h9.mono S1.out.b.size))
    clear h9
    go_wp2_with fail
    go_ret
    exact ⟨rfl, H9.out⟩
  go_wp2_with (refine wpList_load_row_if (by rfl) 57 _ rfl (w.heap.size + 1) rfl 57 Y (0, 0) _ S1.out.k1 Try.underlying57 rfl (by rw [HSY.out]; exact size57) ?_)
  refine (GY.out _ S1.out).mono ?_
  rintro e w2 ⟨⟨r2, rfl⟩, h2⟩
  have S2 := Lib.hid (FBW.next _ _ S1.out h2)
  clear h2 S1
  cases r2
  case true =>
    go_wp2_with fail
    refine (head06_any _).mono ?_
    rintro e w9 ⟨rfl, h9⟩
    have H9 := Lib.hid (S2.out.b.trans (h9.mono S2.out.b.size))
    clear h9
    go_wp2_with fail
    go_ret
    exact ⟨rfl, H9.out⟩
  go_wp2_with (refine wpList_load_row rfl 57 _ rfl w.heap.size rfl 57 X (0, 0) _ S2.out.k0 Try.underlying57 rfl (by rw [HSX.out]; exact size57) ?_)
  refine (PX.out _ S2.out).mono ?_
  rintro e w3 ⟨rfl, h3⟩
  have S3 := Lib.hid (FBW.next _ _ S2.out h3)
  clear h3 S2
  go_wp2_with (refine wpList_load_row rfl 57 _ rfl (w.heap.size + 1) rfl 57 Y (0, 0) _ S3.out.k1 Try.underlying57 rfl (by rw [HSY.out]; exact size57) ?_)
  refine (PY.out _ S3.out).mono ?_
  rintro e w4 ⟨rfl, h4⟩
  have S4 := Lib.hid (FBW.next _ _ S3.out h4)
  clear h4 S3
  go_wp2_with fail
  refine wp_region_cls (FBW w X Y #[.int .u32 (x0 : Int), .int .u32 (b : Int)]) (by kernel_rfl) (by kernel_rfl) (FBW.drew S4.out) (fun hne => ?_)
  have F1 := Lib.hid (fun (W : World) (h : FBW w X Y #[.int .u32 (x0 : Int), .int .u32 (b : Int)] W) => ld57 h.k0 HSX.out)
  have F2 := Lib.hid (fun (W : World) (h : FBW w X Y #[.int .u32 (x0 : Int), .int .u32 (b : Int)] W) => ld57 h.k1 HSY.out)
  repeat (first | (go_big_quiet_want; refine quiet_load_sub 57 _ rfl ⟨w.heap.size, 0, none⟩ rfl X F1.out ?_; go_simp; go_big_quiet_on) | (go_big_quiet_want; refine quiet_load_sub 57 _ rfl ⟨w.heap.size + 1, 0, none⟩ rfl Y F2.out ?_; go_simp; go_big_quiet_on) | go_big_quiet_step ((first | (go_at_call 50; ((with_reducible refine call_cls_of _ SA.out FBW.next))) | (go_at_call 49; ((with_reducible refine call_cls_of _ SB.out FBW.next))))))
  refine wpQuiet_nil ?_
  refine sub_all fun w5 S5 => ?_
  have S5 := Lib.hid S5
  clear hne F1 F2 S4
  have hrr : (r != r) = false := by simp
  go_wp2_with fail
  refine (head06_any _).mono ?_
  rintro e w9 ⟨rfl, h9⟩
  have H9 := Lib.hid (S5.out.b.trans (h9.mono S5.out.b.size))
  clear h9
  go_wp2_with fail
  go_ret
  exact ⟨rfl, H9.out⟩
set_option maxRecDepth 100000 in
set_option maxHeartbeats 32000000 in
theorem fb_no1 (w : World) (x y : NFrame) (ov pv : Value) (hx : x.ok) (hy : y.ok) (hO : Ops w ov x.ops) (hQ : Ops w pv y.ops) (x0 b : Nat) (hx0 : x0 < 4294967296) (hb32 : b < 4294967296) (mf : ¬ mayF x) (mg : mayF y) :
    Calls Try.prog 10 #[.agg (frA x ov), .agg (frA y pv), .agg #[.int .u32 (x0 : Int), .int .u32 (b : Int)]] w fun e w' => e = .returned (.bool true) ∧ Below w.heap.size w w' := by
  obtain ⟨r, hr⟩ := bool_of (sameF x y)
  have S0 := FBW.start w (frA x ov) (frA y pv) #[.int .u32 (x0 : Int), .int .u32 (b : Int)]
  have GX := Lib.hid (fun W (h : FBW w (frA x ov) (frA y pv) #[.int .u32 (x0 : Int), .int .u32 (b : Int)] W) => great06_any W x ov hx (hO.later h.b))
  have GY := Lib.hid (fun W (h : FBW w (frA x ov) (frA y pv) #[.int .u32 (x0 : Int), .int .u32 (b : Int)] W) => great06_any W y pv hy (hQ.later h.b))
  have PX := Lib.hid (fun W (h : FBW w (frA x ov) (frA y pv) #[.int .u32 (x0 : Int), .int .u32 (b : Int)] W) => putfr_no W x ov hx (hO.later h.b) mf)
  have PY := Lib.hid (fun W (h : FBW w (frA x ov) (frA y pv) #[.int .u32 (x0 : Int), .int .u32 (b : Int)] W) => putfr_yes W y pv hy (hQ.later h.b) mg)
  have SA := Lib.hid (fun W (h : FBW w (frA x ov) (frA y pv) #[.int .u32 (x0 : Int), .int .u32 (b : Int)] W) => (fsame_any W x y ov pv hx hy (hO.later h.b) (hQ.later h.b)).mono fun e w' h => h.fixed hr)
  have SB := Lib.hid (fun W (h : FBW w (frA x ov) (frA y pv) #[.int .u32 (x0 : Int), .int .u32 (b : Int)] W) => (tfsame_any W x y ov pv hx hy (hO.later h.b) (hQ.later h.b)).mono fun e w' h => h.fixed hr)
  have HSX := Lib.hid (frA_size x ov hx.have8)
  have HSY := Lib.hid (frA_size y pv hy.have8)
  have S0 := Lib.hid S0
  have HR := Lib.hid hr
  clear hx hy hO hQ mf mg hr
  generalize frA x ov = X at *
  generalize frA y pv = Y at *
  generalize putF y = c at *
  go_enter Try.func10, Try.ntmps10
  go_wp2_with (refine wpList_load_row rfl 57 _ rfl w.heap.size rfl 57 X (0, 0) _ S0.out.k0 Try.underlying57 rfl (by rw [HSX.out]; exact size57) ?_)
  refine (GX.out _ S0.out).mono ?_
  rintro e w1 ⟨⟨r1, rfl⟩, h1⟩
  have S1 := Lib.hid (FBW.next _ _ S0.out h1)
  clear h1 S0
  cases r1
  case true =>
    go_wp2_with fail
    refine (head06_any _).mono ?_
    rintro e w9 ⟨rfl, h9⟩
    have H9 := Lib.hid (S1.out.b.trans (h9.mono S1.out.b.size))
    clear h9
    go_wp2_with fail
    go_ret
    exact ⟨rfl, H9.out⟩
  go_wp2_with (refine wpList_load_row_if (by rfl) 57 _ rfl (w.heap.size + 1) rfl 57 Y (0, 0) _ S1.out.k1 Try.underlying57 rfl (by rw [HSY.out]; exact size57) ?_)
  refine (GY.out _ S1.out).mono ?_
  rintro e w2 ⟨⟨r2, rfl⟩, h2⟩
  have S2 := Lib.hid (FBW.next _ _ S1.out h2)
  clear h2 S1
  cases r2
  case true =>
    go_wp2_with fail
    refine (head06_any _).mono ?_
    rintro e w9 ⟨rfl, h9⟩
    have H9 := Lib.hid (S2.out.b.trans (h9.mono S2.out.b.size))
    clear h9
    go_wp2_with fail
    go_ret
    exact ⟨rfl, H9.out⟩
  go_wp2_with (refine wpList_load_row rfl 57 _ rfl w.heap.size rfl 57 X (0, 0) _ S2.out.k0 Try.underlying57 rfl (by rw [HSX.out]; exact size57) ?_)
  refine (PX.out _ S2.out).mono ?_
  rintro e w3 ⟨rfl, h3⟩
  have S3 := Lib.hid (FBW.next _ _ S2.out h3)
  clear h3 S2
  go_wp2_with (refine wpList_load_row rfl 57 _ rfl (w.heap.size + 1) rfl 57 Y (0, 0) _ S3.out.k1 Try.underlying57 rfl (by rw [HSY.out]; exact size57) ?_)
  refine (PY.out _ S3.out).mono ?_
  rintro e w4 ⟨rfl, h4⟩
  have S4 := Lib.hid (FBW.next _ _ S3.out h4)
  clear h4 S3
  go_wp2_with fail
  refine wp_region_cls (FBW w X Y #[.int .u32 (x0 : Int), .int .u32 (b : Int)]) (by kernel_rfl) (by kernel_rfl) (FBW.drew S4.out) (fun hne => ?_)
  have F1 := Lib.hid (fun (W : World) (h : FBW w X Y #[.int .u32 (x0 : Int), .int .u32 (b : Int)] W) => ld57 h.k0 HSX.out)
  have F2 := Lib.hid (fun (W : World) (h : FBW w X Y #[.int .u32 (x0 : Int), .int .u32 (b : Int)] W) => ld57 h.k1 HSY.out)
  repeat (first | (go_big_quiet_want; refine quiet_load_sub 57 _ rfl ⟨w.heap.size, 0, none⟩ rfl X F1.out ?_; go_simp; go_big_quiet_on) | (go_big_quiet_want; refine quiet_load_sub 57 _ rfl ⟨w.heap.size + 1, 0, none⟩ rfl Y F2.out ?_; go_simp; go_big_quiet_on) | go_big_quiet_step ((first | (go_at_call 50; ((with_reducible refine call_cls_of _ SA.out FBW.next))) | (go_at_call 49; ((with_reducible refine call_cls_of _ SB.out FBW.next))))))
  refine wpQuiet_nil ?_
  refine sub_all fun w5 S5 => ?_
  have S5 := Lib.hid S5
  clear hne F1 F2 S4
  have hrr : (r != r) = false := by simp
  go_wp2_with fail
  refine (head06_any _).mono ?_
  rintro e w9 ⟨rfl, h9⟩
  have H9 := Lib.hid (S5.out.b.trans (h9.mono S5.out.b.size))
  clear h9
  go_wp2_with fail
  go_ret
  exact ⟨rfl, H9.out⟩
set_option maxRecDepth 100000 in
set_option maxHeartbeats 32000000 in
theorem fb_yes (w : World) (x y : NFrame) (ov pv : Value) (hx : x.ok) (hy : y.ok) (hO : Ops w ov x.ops) (hQ : Ops w pv y.ops) (x0 b : Nat) (hx0 : x0 < 4294967296) (hb32 : b < 4294967296) (mf : mayF x) (mg : mayF y) :
    Calls Try.prog 10 #[.agg (frA x ov), .agg (frA y pv), .agg #[.int .u32 (x0 : Int), .int .u32 (b : Int)]] w fun e w' => e = .returned (.bool true) ∧ Below w.heap.size w w' := by
  obtain ⟨r, hr⟩ := bool_of (sameF x y)
  have HPS := putF_same hx hy (fun p hp => by obtain ⟨_, _, _, _, _, h⟩ := hO; exact (h p hp).2) (fun p hp => by obtain ⟨_, _, _, _, _, h⟩ := hQ; exact (h p hp).2) mf mg
  have EQ := eqstr (hr.trans HPS.symm)
  clear HPS
  have S0 := FBW.start w (frA x ov) (frA y pv) #[.int .u32 (x0 : Int), .int .u32 (b : Int)]
  have GX := Lib.hid (fun W (h : FBW w (frA x ov) (frA y pv) #[.int .u32 (x0 : Int), .int .u32 (b : Int)] W) => great06_any W x ov hx (hO.later h.b))
  have GY := Lib.hid (fun W (h : FBW w (frA x ov) (frA y pv) #[.int .u32 (x0 : Int), .int .u32 (b : Int)] W) => great06_any W y pv hy (hQ.later h.b))
  have PX := Lib.hid (fun W (h : FBW w (frA x ov) (frA y pv) #[.int .u32 (x0 : Int), .int .u32 (b : Int)] W) => putfr_yes W x ov hx (hO.later h.b) mf)
  have PY := Lib.hid (fun W (h : FBW w (frA x ov) (frA y pv) #[.int .u32 (x0 : Int), .int .u32 (b : Int)] W) => putfr_yes W y pv hy (hQ.later h.b) mg)
  have SA := Lib.hid (fun W (h : FBW w (frA x ov) (frA y pv) #[.int .u32 (x0 : Int), .int .u32 (b : Int)] W) => (fsame_any W x y ov pv hx hy (hO.later h.b) (hQ.later h.b)).mono fun e w' h => h.fixed hr)
  have SB := Lib.hid (fun W (h : FBW w (frA x ov) (frA y pv) #[.int .u32 (x0 : Int), .int .u32 (b : Int)] W) => (tfsame_any W x y ov pv hx hy (hO.later h.b) (hQ.later h.b)).mono fun e w' h => h.fixed hr)
  have HSX := Lib.hid (frA_size x ov hx.have8)
  have HSY := Lib.hid (frA_size y pv hy.have8)
  have S0 := Lib.hid S0
  have HR := Lib.hid hr
  have hlen : (putF x).length ≤ 100000 ∧ 4 ≤ (putF x).length := by
    obtain ⟨_, _, _, _, _, hg⟩ := hO
    have h1 := textsF_len x.ops hg mf.2.2.2.2.2.2
    have h2 := mf.2.2.2.2.2.1
    have h3 := (numF_len x.ops.length (by omega)).1
    have h4 := vecF_le x.have_ (fun n hn => by have := hx.have_ n hn; omega)
    have h5 := vecF_le [x.kind, x.src, x.dst] (by have k1 := hx.kind; have k2 := hx.src; have k3 := hx.dst; simp; omega)
    rw [hx.have8] at h4
    simp only [List.length_cons, List.length_nil] at h5
    have h6 : (bodyF x).length ≤ 90000 := by simp only [bodyF, List.length_append]; omega
    rw [putF, Crc.sealed_length]; omega
  have HLN := Lib.hid hlen
  have HBU := Lib.hid (fun k (hk : k + 32 ≤ 8 * (putF x).length) (hb0 : b ≠ 0) => show Crc.opened (Crc.burst (putF x) k b 32).1 = false from burst_bad x k b hb0 hb32 hk)
  obtain ⟨a, ha⟩ : ∃ a, putF x = a := ⟨_, rfl⟩
  rw [ha] at PX HLN HBU EQ
  clear hx hy hO hQ mf mg hr hlen ha
  generalize frA x ov = X at *
  generalize frA y pv = Y at *
  generalize putF y = c at *
  go_enter Try.func10, Try.ntmps10
  go_wp2_with (refine wpList_load_row rfl 57 _ rfl w.heap.size rfl 57 X (0, 0) _ S0.out.k0 Try.underlying57 rfl (by rw [HSX.out]; exact size57) ?_)
  refine (GX.out _ S0.out).mono ?_
  rintro e w1 ⟨⟨r1, rfl⟩, h1⟩
  have S1 := Lib.hid (FBW.next _ _ S0.out h1)
  clear h1 S0
  cases r1
  case true =>
    go_wp2_with fail
    refine (head06_any _).mono ?_
    rintro e w9 ⟨rfl, h9⟩
    have H9 := Lib.hid (S1.out.b.trans (h9.mono S1.out.b.size))
    clear h9
    go_wp2_with fail
    go_ret
    exact ⟨rfl, H9.out⟩
  go_wp2_with (refine wpList_load_row_if (by rfl) 57 _ rfl (w.heap.size + 1) rfl 57 Y (0, 0) _ S1.out.k1 Try.underlying57 rfl (by rw [HSY.out]; exact size57) ?_)
  refine (GY.out _ S1.out).mono ?_
  rintro e w2 ⟨⟨r2, rfl⟩, h2⟩
  have S2 := Lib.hid (FBW.next _ _ S1.out h2)
  clear h2 S1
  cases r2
  case true =>
    go_wp2_with fail
    refine (head06_any _).mono ?_
    rintro e w9 ⟨rfl, h9⟩
    have H9 := Lib.hid (S2.out.b.trans (h9.mono S2.out.b.size))
    clear h9
    go_wp2_with fail
    go_ret
    exact ⟨rfl, H9.out⟩
  go_wp2_with (refine wpList_load_row rfl 57 _ rfl w.heap.size rfl 57 X (0, 0) _ S2.out.k0 Try.underlying57 rfl (by rw [HSX.out]; exact size57) ?_)
  refine (PX.out _ S2.out).mono ?_
  rintro e w3 ⟨rfl, h3⟩
  have S3 := Lib.hid (FBW.next _ _ S2.out h3)
  clear h3 S2
  go_wp2_with (refine wpList_load_row rfl 57 _ rfl (w.heap.size + 1) rfl 57 Y (0, 0) _ S3.out.k1 Try.underlying57 rfl (by rw [HSY.out]; exact size57) ?_)
  refine (PY.out _ S3.out).mono ?_
  rintro e w4 ⟨rfl, h4⟩
  have S4 := Lib.hid (FBW.next _ _ S3.out h4)
  clear h4 S3
  go_wp2_with fail
  refine wp_region_cls (FBW w X Y #[.int .u32 (x0 : Int), .int .u32 (b : Int)]) (by kernel_rfl) (by kernel_rfl) (FBW.drew S4.out) (fun hne => ?_)
  have F1 := Lib.hid (fun (W : World) (h : FBW w X Y #[.int .u32 (x0 : Int), .int .u32 (b : Int)] W) => ld57 h.k0 HSX.out)
  have F2 := Lib.hid (fun (W : World) (h : FBW w X Y #[.int .u32 (x0 : Int), .int .u32 (b : Int)] W) => ld57 h.k1 HSY.out)
  repeat (first | (go_big_quiet_want; refine quiet_load_sub 57 _ rfl ⟨w.heap.size, 0, none⟩ rfl X F1.out ?_; go_simp; go_big_quiet_on) | (go_big_quiet_want; refine quiet_load_sub 57 _ rfl ⟨w.heap.size + 1, 0, none⟩ rfl Y F2.out ?_; go_simp; go_big_quiet_on) | go_big_quiet_step ((first | (go_at_call 50; ((with_reducible refine call_cls_of _ SA.out FBW.next))) | (go_at_call 49; ((with_reducible refine call_cls_of _ SB.out FBW.next))))))
  refine wpQuiet_nil ?_
  refine sub_all fun w5 S5 => ?_
  have S5 := Lib.hid S5
  clear hne F1 F2 S4
  have hrr : (r != r) = false := by simp
  obtain ⟨hl1, hl2⟩ := HLN.out
  have hl0b : ((a.length : Int) == 0) = false := by rw [beq_eq_false_iff_ne]; omega
  have c1 := S5.out.k2.cell 1
  have c0 := S5.out.k2.cell 0
  rw [show (#[Value.int .u32 (x0 : Int), .int .u32 (b : Int)] : Array Value)[1]? = some (.int .u32 (b : Int)) from rfl] at c1
  rw [show (#[Value.int .u32 (x0 : Int), .int .u32 (b : Int)] : Array Value)[0]? = some (.int .u32 (x0 : Int)) from rfl] at c0
  by_cases hb0 : b = 0
  · have hb0b : ((b : Int) == 0) = true := by rw [beq_iff_eq]; omega
    go_wp2_with fail
    refine (head06_any _).mono ?_
    rintro e w9 ⟨rfl, h9⟩
    have H9 := Lib.hid (S5.out.b.trans (h9.mono S5.out.b.size))
    clear h9
    go_wp2_with fail
    go_ret
    exact ⟨rfl, H9.out⟩
  have hb0b : ((b : Int) == 0) = false := by rw [beq_eq_false_iff_ne]; omega
  have HB0 := Lib.hid hb0
  obtain ⟨k, hk⟩ : ∃ k, k = x0 % (8 * a.length - 31) := ⟨_, rfl⟩
  have hk8 : k < 8 * a.length - 31 := by rw [hk]; exact Nat.mod_lt _ (by omega)
  have hkI : ((x0 : Int) % (8 * (a.length : Nat) - 31)) = (k : Nat) := by
    rw [hk, Int.natCast_emod, Int.natCast_sub (by omega), Int.natCast_mul]; rfl
  clear hk hb0
  have SZ : w.heap.size + 3 ≤ w5.heap.size := by have := S5.out.k2.lt; omega
  go_wp2_with (refine wpList_bytes_new rfl 9 35 _ rfl 5 ⟨a.toArray⟩ rfl Try.underlying9 Try.underlying35 Try.underlying5 (by show a.toArray.size ≤ maxLen; unfold maxLen; simp; omega) ?_; rintro v w6 cap3 rfl hown hg; have d0 : _ = some (Value.int .u32 (x0 : Nat)) := (S5.out.k2.grown hg (by simp)).cell 0)
  have ho := hown w5.heap.size (Nat.le_refl _)
  have S6 := Lib.hid (S5.out.grown hg)
  clear hown S5 c0 c1 d0 hkI hg
  go_loopw [13] (fun i wr => ∃ j : Nat, j ≤ 32 ∧ i = .int .i64 j ∧ Tran.Own wr w5.heap.size 5 1 (.slice (some ⟨w5.heap.size, 0, none⟩) a.length cap3) a.length (bc (Crc.burst a k b j).1) ∧ FBW w X Y #[.int .u32 (x0 : Int), .int .u32 (b : Int)] wr)
      (fun i _ => 32 - (intOf i).toNat)
  case atStart => exact ⟨0, by omega, rfl, ho, S6.out⟩
  case round =>
    obtain ⟨j, hj, rfl, ho3, hS⟩ := hrel
    have H3 := Lib.hid hS
    have c1 := hS.k2.cell 1
    rw [show (#[Value.int .u32 (x0 : Int), .int .u32 (b : Int)] : Array Value)[1]? = some (.int .u32 (b : Int)) from rfl] at c1
    clear ho S6 hS
    by_cases hlt : j < 32
    · have hbl : (Crc.burst a k b j).1.length = a.length := Crc.burst_length a k b j
      have hkj : k + j < 8 * a.length := by omega
      by_cases hc1 : b / 2 ^ j % 2 = 1
      · have hst : (Crc.burst a k b (j + 1)).1 = Crc.flip (Crc.burst a k b j).1 (k + j) := by simp only [Crc.burst]; rw [if_pos ⟨hc1, hkj⟩]
        have HST := Lib.hid hst; clear hst
        have HBL := Lib.hid hbl; clear hbl
        have HC1 := Lib.hid hc1; clear hc1
        generalize (Crc.burst a k b j).1 = m at *
        have hlm : (k + j) / 8 < m.length := by have := HBL.out; omega
        have hcell : wr.cell? { block := w5.heap.size, off := (k + j) / 8 } = some (.int .u8 (m[(k + j) / 8].toNat : Int)) := ho3.cellAt (bc_get hlm)
        have hfz : wr.frozen? { block := w5.heap.size, off := (k + j) / 8 } = false := ho3.frozen _ (by omega)
        have hq : (((b : Int) / 2 ^ j).tmod 2 == 1) = true := by
          have := HC1.out
          exact shr_yes b j this
        go_wp2
        go_roundw
        case rel =>
          refine ⟨j + 1, by omega, by go_num, ?_, H3.out.set (by exact SZ) _⟩
          rw [HST.out, bc_flip m (k + j) hlm]
          exact ho3.set_ _ _
        case measure => simp [intOf]; omega
      · have hst : (Crc.burst a k b (j + 1)).1 = (Crc.burst a k b j).1 := by simp only [Crc.burst]; rw [if_neg (fun h => hc1 h.1)]
        have HST := Lib.hid hst; clear hst hbl
        have hq : (((b : Int) / 2 ^ j).tmod 2 == 1) = false := shr_no b j hc1
        clear hc1
        generalize (Crc.burst a k b j).1 = m at *
        go_wp2
        go_roundw
        case rel => exact ⟨j + 1, by omega, by go_num, by rw [HST.out]; exact ho3, H3.out⟩
        case measure => simp [intOf]; omega
    · obtain rfl : j = 32 := by omega
      have hbl : (Crc.burst a k b 32).1.length = a.length := Crc.burst_length a k b 32
      have hbad := HBU.out k (by omega) HB0.out
      have G := Lib.hid (fun W => getfr_bad W (Crc.burst a k b 32).1 (by rw [hbl]; omega) hbad)
      generalize (Crc.burst a k b 32).1 = m at *
      clear hbl hbad HBU
      go_wp2_with (refine wpList_string_of rfl 35 9 _ rfl 5 _ w5.heap.size _ _ rfl Try.underlying35 Try.underlying5 Try.underlying9 ho3 ?_)
      refine (G.out _).mono ?_
      rintro e w7 ⟨rfl, h7⟩
      have H7 := Lib.hid (H3.out.b.trans (h7.mono H3.out.b.size))
      have H8 := Lib.hid (fun o => below_setRow (H7.out.alloc H7.out.size o) H7.out.size z12)
      have KN := Lib.hid (Blk.new w7 57 z12)
      rw [z12_eq] at KN
      clear h7 H3 ho3 c1
      go_wp2_with (refine wpList_store_row rfl 57 _ _ rfl w7.heap.size z12 rfl rfl 57 _ KN.out size57 rfl fr_zero_one ?_)
      refine (head06_any _).mono ?_
      rintro e w9 ⟨rfl, h9⟩
      have H9 := Lib.hid ((H8.out _).trans (h9.mono (H8.out _).size))
      clear h9
      go_wp2_with fail
      go_ret
      exact ⟨rfl, H9.out⟩
set_option maxRecDepth 100000 in
set_option maxHeartbeats 32000000 in
theorem fb_yes1 (w : World) (x y : NFrame) (ov pv : Value) (hx : x.ok) (hy : y.ok) (hO : Ops w ov x.ops) (hQ : Ops w pv y.ops) (x0 b : Nat) (hx0 : x0 < 4294967296) (hb32 : b < 4294967296) (mf : mayF x) (mg : ¬ mayF y) :
    Calls Try.prog 10 #[.agg (frA x ov), .agg (frA y pv), .agg #[.int .u32 (x0 : Int), .int .u32 (b : Int)]] w fun e w' => e = .returned (.bool true) ∧ Below w.heap.size w w' := by
  obtain ⟨r, hr⟩ := bool_of (sameF x y)
  have S0 := FBW.start w (frA x ov) (frA y pv) #[.int .u32 (x0 : Int), .int .u32 (b : Int)]
  have GX := Lib.hid (fun W (h : FBW w (frA x ov) (frA y pv) #[.int .u32 (x0 : Int), .int .u32 (b : Int)] W) => great06_any W x ov hx (hO.later h.b))
  have GY := Lib.hid (fun W (h : FBW w (frA x ov) (frA y pv) #[.int .u32 (x0 : Int), .int .u32 (b : Int)] W) => great06_any W y pv hy (hQ.later h.b))
  have PX := Lib.hid (fun W (h : FBW w (frA x ov) (frA y pv) #[.int .u32 (x0 : Int), .int .u32 (b : Int)] W) => putfr_yes W x ov hx (hO.later h.b) mf)
  have PY := Lib.hid (fun W (h : FBW w (frA x ov) (frA y pv) #[.int .u32 (x0 : Int), .int .u32 (b : Int)] W) => putfr_no W y pv hy (hQ.later h.b) mg)
  have SA := Lib.hid (fun W (h : FBW w (frA x ov) (frA y pv) #[.int .u32 (x0 : Int), .int .u32 (b : Int)] W) => (fsame_any W x y ov pv hx hy (hO.later h.b) (hQ.later h.b)).mono fun e w' h => h.fixed hr)
  have SB := Lib.hid (fun W (h : FBW w (frA x ov) (frA y pv) #[.int .u32 (x0 : Int), .int .u32 (b : Int)] W) => (tfsame_any W x y ov pv hx hy (hO.later h.b) (hQ.later h.b)).mono fun e w' h => h.fixed hr)
  have HSX := Lib.hid (frA_size x ov hx.have8)
  have HSY := Lib.hid (frA_size y pv hy.have8)
  have S0 := Lib.hid S0
  have HR := Lib.hid hr
  have hlen : (putF x).length ≤ 100000 ∧ 4 ≤ (putF x).length := by
    obtain ⟨_, _, _, _, _, hg⟩ := hO
    have h1 := textsF_len x.ops hg mf.2.2.2.2.2.2
    have h2 := mf.2.2.2.2.2.1
    have h3 := (numF_len x.ops.length (by omega)).1
    have h4 := vecF_le x.have_ (fun n hn => by have := hx.have_ n hn; omega)
    have h5 := vecF_le [x.kind, x.src, x.dst] (by have k1 := hx.kind; have k2 := hx.src; have k3 := hx.dst; simp; omega)
    rw [hx.have8] at h4
    simp only [List.length_cons, List.length_nil] at h5
    have h6 : (bodyF x).length ≤ 90000 := by simp only [bodyF, List.length_append]; omega
    rw [putF, Crc.sealed_length]; omega
  have HLN := Lib.hid hlen
  have HBU := Lib.hid (fun k (hk : k + 32 ≤ 8 * (putF x).length) (hb0 : b ≠ 0) => show Crc.opened (Crc.burst (putF x) k b 32).1 = false from burst_bad x k b hb0 hb32 hk)
  obtain ⟨a, ha⟩ : ∃ a, putF x = a := ⟨_, rfl⟩
  rw [ha] at PX HLN HBU
  clear hx hy hO hQ mf mg hr hlen ha
  generalize frA x ov = X at *
  generalize frA y pv = Y at *
  go_enter Try.func10, Try.ntmps10
  go_wp2_with (refine wpList_load_row rfl 57 _ rfl w.heap.size rfl 57 X (0, 0) _ S0.out.k0 Try.underlying57 rfl (by rw [HSX.out]; exact size57) ?_)
  refine (GX.out _ S0.out).mono ?_
  rintro e w1 ⟨⟨r1, rfl⟩, h1⟩
  have S1 := Lib.hid (FBW.next _ _ S0.out h1)
  clear h1 S0
  cases r1
  case true =>
    go_wp2_with fail
    refine (head06_any _).mono ?_
    rintro e w9 ⟨rfl, h9⟩
    have H9 := Lib.hid (S1.out.b.trans (h9.mono S1.out.b.size))
    clear h9
    go_wp2_with fail
    go_ret
    exact ⟨rfl, H9.out⟩
  go_wp2_with (refine wpList_load_row_if (by rfl) 57 _ rfl (w.heap.size + 1) rfl 57 Y (0, 0) _ S1.out.k1 Try.underlying57 rfl (by rw [HSY.out]; exact size57) ?_)
  refine (GY.out _ S1.out).mono ?_
  rintro e w2 ⟨⟨r2, rfl⟩, h2⟩
  have S2 := Lib.hid (FBW.next _ _ S1.out h2)
  clear h2 S1
  cases r2
  case true =>
    go_wp2_with fail
    refine (head06_any _).mono ?_
    rintro e w9 ⟨rfl, h9⟩
    have H9 := Lib.hid (S2.out.b.trans (h9.mono S2.out.b.size))
    clear h9
    go_wp2_with fail
    go_ret
    exact ⟨rfl, H9.out⟩
  go_wp2_with (refine wpList_load_row rfl 57 _ rfl w.heap.size rfl 57 X (0, 0) _ S2.out.k0 Try.underlying57 rfl (by rw [HSX.out]; exact size57) ?_)
  refine (PX.out _ S2.out).mono ?_
  rintro e w3 ⟨rfl, h3⟩
  have S3 := Lib.hid (FBW.next _ _ S2.out h3)
  clear h3 S2
  go_wp2_with (refine wpList_load_row rfl 57 _ rfl (w.heap.size + 1) rfl 57 Y (0, 0) _ S3.out.k1 Try.underlying57 rfl (by rw [HSY.out]; exact size57) ?_)
  refine (PY.out _ S3.out).mono ?_
  rintro e w4 ⟨rfl, h4⟩
  have S4 := Lib.hid (FBW.next _ _ S3.out h4)
  clear h4 S3
  go_wp2_with fail
  refine wp_region_cls (FBW w X Y #[.int .u32 (x0 : Int), .int .u32 (b : Int)]) (by kernel_rfl) (by kernel_rfl) (FBW.drew S4.out) (fun hne => ?_)
  have F1 := Lib.hid (fun (W : World) (h : FBW w X Y #[.int .u32 (x0 : Int), .int .u32 (b : Int)] W) => ld57 h.k0 HSX.out)
  have F2 := Lib.hid (fun (W : World) (h : FBW w X Y #[.int .u32 (x0 : Int), .int .u32 (b : Int)] W) => ld57 h.k1 HSY.out)
  repeat (first | (go_big_quiet_want; refine quiet_load_sub 57 _ rfl ⟨w.heap.size, 0, none⟩ rfl X F1.out ?_; go_simp; go_big_quiet_on) | (go_big_quiet_want; refine quiet_load_sub 57 _ rfl ⟨w.heap.size + 1, 0, none⟩ rfl Y F2.out ?_; go_simp; go_big_quiet_on) | go_big_quiet_step ((first | (go_at_call 50; ((with_reducible refine call_cls_of _ SA.out FBW.next))) | (go_at_call 49; ((with_reducible refine call_cls_of _ SB.out FBW.next))))))
  refine wpQuiet_nil ?_
  refine sub_all fun w5 S5 => ?_
  have S5 := Lib.hid S5
  clear hne F1 F2 S4
  have hrr : (r != r) = false := by simp
  obtain ⟨hl1, hl2⟩ := HLN.out
  have hl0b : ((a.length : Int) == 0) = false := by rw [beq_eq_false_iff_ne]; omega
  have c1 := S5.out.k2.cell 1
  have c0 := S5.out.k2.cell 0
  rw [show (#[Value.int .u32 (x0 : Int), .int .u32 (b : Int)] : Array Value)[1]? = some (.int .u32 (b : Int)) from rfl] at c1
  rw [show (#[Value.int .u32 (x0 : Int), .int .u32 (b : Int)] : Array Value)[0]? = some (.int .u32 (x0 : Int)) from rfl] at c0
  by_cases hb0 : b = 0
  · have hb0b : ((b : Int) == 0) = true := by rw [beq_iff_eq]; omega
    go_wp2_with fail
    refine (head06_any _).mono ?_
    rintro e w9 ⟨rfl, h9⟩
    have H9 := Lib.hid (S5.out.b.trans (h9.mono S5.out.b.size))
    clear h9
    go_wp2_with fail
    go_ret
    exact ⟨rfl, H9.out⟩
  have hb0b : ((b : Int) == 0) = false := by rw [beq_eq_false_iff_ne]; omega
  have HB0 := Lib.hid hb0
  obtain ⟨k, hk⟩ : ∃ k, k = x0 % (8 * a.length - 31) := ⟨_, rfl⟩
  have hk8 : k < 8 * a.length - 31 := by rw [hk]; exact Nat.mod_lt _ (by omega)
  have hkI : ((x0 : Int) % (8 * (a.length : Nat) - 31)) = (k : Nat) := by
    rw [hk, Int.natCast_emod, Int.natCast_sub (by omega), Int.natCast_mul]; rfl
  clear hk hb0
  have SZ : w.heap.size + 3 ≤ w5.heap.size := by have := S5.out.k2.lt; omega
  go_wp2_with (refine wpList_bytes_new rfl 9 35 _ rfl 5 ⟨a.toArray⟩ rfl Try.underlying9 Try.underlying35 Try.underlying5 (by show a.toArray.size ≤ maxLen; unfold maxLen; simp; omega) ?_; rintro v w6 cap3 rfl hown hg; have d0 : _ = some (Value.int .u32 (x0 : Nat)) := (S5.out.k2.grown hg (by simp)).cell 0)
  have ho := hown w5.heap.size (Nat.le_refl _)
  have S6 := Lib.hid (S5.out.grown hg)
  clear hown S5 c0 c1 d0 hkI hg
  go_loopw [13] (fun i wr => ∃ j : Nat, j ≤ 32 ∧ i = .int .i64 j ∧ Tran.Own wr w5.heap.size 5 1 (.slice (some ⟨w5.heap.size, 0, none⟩) a.length cap3) a.length (bc (Crc.burst a k b j).1) ∧ FBW w X Y #[.int .u32 (x0 : Int), .int .u32 (b : Int)] wr)
      (fun i _ => 32 - (intOf i).toNat)
  case atStart => exact ⟨0, by omega, rfl, ho, S6.out⟩
  case round =>
    obtain ⟨j, hj, rfl, ho3, hS⟩ := hrel
    have H3 := Lib.hid hS
    have c1 := hS.k2.cell 1
    rw [show (#[Value.int .u32 (x0 : Int), .int .u32 (b : Int)] : Array Value)[1]? = some (.int .u32 (b : Int)) from rfl] at c1
    clear ho S6 hS
    by_cases hlt : j < 32
    · have hbl : (Crc.burst a k b j).1.length = a.length := Crc.burst_length a k b j
      have hkj : k + j < 8 * a.length := by omega
      by_cases hc1 : b / 2 ^ j % 2 = 1
      · have hst : (Crc.burst a k b (j + 1)).1 = Crc.flip (Crc.burst a k b j).1 (k + j) := by simp only [Crc.burst]; rw [if_pos ⟨hc1, hkj⟩]
        have HST := Lib.hid hst; clear hst
        have HBL := Lib.hid hbl; clear hbl
        have HC1 := Lib.hid hc1; clear hc1
        generalize (Crc.burst a k b j).1 = m at *
        have hlm : (k + j) / 8 < m.length := by have := HBL.out; omega
        have hcell : wr.cell? { block := w5.heap.size, off := (k + j) / 8 } = some (.int .u8 (m[(k + j) / 8].toNat : Int)) := ho3.cellAt (bc_get hlm)
        have hfz : wr.frozen? { block := w5.heap.size, off := (k + j) / 8 } = false := ho3.frozen _ (by omega)
        have hq : (((b : Int) / 2 ^ j).tmod 2 == 1) = true := by
          have := HC1.out
          exact shr_yes b j this
        go_wp2
        go_roundw
        case rel =>
          refine ⟨j + 1, by omega, by go_num, ?_, H3.out.set (by exact SZ) _⟩
          rw [HST.out, bc_flip m (k + j) hlm]
          exact ho3.set_ _ _
        case measure => simp [intOf]; omega
      · have hst : (Crc.burst a k b (j + 1)).1 = (Crc.burst a k b j).1 := by simp only [Crc.burst]; rw [if_neg (fun h => hc1 h.1)]
        have HST := Lib.hid hst; clear hst hbl
        have hq : (((b : Int) / 2 ^ j).tmod 2 == 1) = false := shr_no b j hc1
        clear hc1
        generalize (Crc.burst a k b j).1 = m at *
        go_wp2
        go_roundw
        case rel => exact ⟨j + 1, by omega, by go_num, by rw [HST.out]; exact ho3, H3.out⟩
        case measure => simp [intOf]; omega
    · obtain rfl : j = 32 := by omega
      have hbl : (Crc.burst a k b 32).1.length = a.length := Crc.burst_length a k b 32
      have hbad := HBU.out k (by omega) HB0.out
      have G := Lib.hid (fun W => getfr_bad W (Crc.burst a k b 32).1 (by rw [hbl]; omega) hbad)
      generalize (Crc.burst a k b 32).1 = m at *
      clear hbl hbad HBU
      go_wp2_with (refine wpList_string_of rfl 35 9 _ rfl 5 _ w5.heap.size _ _ rfl Try.underlying35 Try.underlying5 Try.underlying9 ho3 ?_)
      refine (G.out _).mono ?_
      rintro e w7 ⟨rfl, h7⟩
      have H7 := Lib.hid (H3.out.b.trans (h7.mono H3.out.b.size))
      have H8 := Lib.hid (fun o => below_setRow (H7.out.alloc H7.out.size o) H7.out.size z12)
      have KN := Lib.hid (Blk.new w7 57 z12)
      rw [z12_eq] at KN
      clear h7 H3 ho3 c1
      go_wp2_with (refine wpList_store_row rfl 57 _ _ rfl w7.heap.size z12 rfl rfl 57 _ KN.out size57 rfl fr_zero_one ?_)
      refine (head06_any _).mono ?_
      rintro e w9 ⟨rfl, h9⟩
      have H9 := Lib.hid ((H8.out _).trans (h9.mono (H8.out _).size))
      clear h9
      go_wp2_with fail
      go_ret
      exact ⟨rfl, H9.out⟩
theorem fb_any (w : World) (x y : NFrame) (ov pv : Value) (hx : x.ok) (hy : y.ok) (hO : Ops w ov x.ops) (hQ : Ops w pv y.ops) (x0 b : Nat) (hx0 : x0 < 4294967296) (hb32 : b < 4294967296) :
    Calls Try.prog 10 #[.agg (frA x ov), .agg (frA y pv), .agg #[.int .u32 (x0 : Int), .int .u32 (b : Int)]] w fun e w' => e = .returned (.bool true) ∧ Below w.heap.size w w' := by
  by_cases mf : mayF x
  · by_cases mg : mayF y
    · exact fb_yes w x y ov pv hx hy hO hQ x0 b hx0 hb32 mf mg
    · exact fb_yes1 w x y ov pv hx hy hO hQ x0 b hx0 hb32 mf mg
  · by_cases mg : mayF y
    · exact fb_no1 w x y ov pv hx hy hO hQ x0 b hx0 hb32 mf mg
    · exact fb_no w x y ov pv hx hy hO hQ x0 b hx0 hb32 mf mg
end Go.Proofs.Ytfojjklohbiffaa
