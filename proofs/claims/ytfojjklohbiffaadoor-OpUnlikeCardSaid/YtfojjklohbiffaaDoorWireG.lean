/- The document's readers of numbers. -/
import Derived.Test.YtfojjklohbiffaaDoorWireF
import Derived.Test.YtfojjklohbiffaaDoorWireS
import Derived.Test.YtfojjklohbiffaaDoorWireE
import Derived.Test.YtfojjklohbiffaaDoorRes
import Derived.RegionTactic
import Derived.StillTailTactics
namespace Go.Proofs.YtfojjklohbiffaaDoor
open Go.RowKit Tran Tran.Wire
set_option linter.unusedVariables false
/-- a row's value: what is left, or that it failed -/
def rowC : Option (List UInt8) → Array Value
  | some l => #[.string ⟨l.toArray⟩, .bool true]
  | none => #[.string ⟨#[]⟩, .bool false]
def Took (w : World) (v : Value) (st : Option (List UInt8)) (e : Ending) (w' : World) : Prop := e = .returned (.tuple #[v, .agg (rowC st)]) ∧ Below w.heap.size w w'
theorem size89 : (Tryd.prog.info? 81).map (·.size) = some 2 := by kernel_rfl
set_option maxRecDepth 100000 in
theorem tfailed_any (w : World) : Calls Tryd.prog 61 #[] w fun e w' => e = .returned (.agg (rowC none)) ∧ Below w.heap.size w w' := by
  go_enter Tryd.func61, Tryd.ntmps61
  go_wp2
  refine bodyPost_ret (results_cell_row rfl _ _ w.heap.size 81 (rowC none) (0, 0) _ rfl (Blk.new w 81 _) Tryd.underlying81 rfl size89) rfl ?_
  exact ⟨rfl, (Below.refl _ _).alloc (Nat.le_refl _) _⟩
theorem rowC_size (st : Option (List UInt8)) : (rowC st).size = 2 := by cases st <;> rfl
theorem rowC_one (st : Option (List UInt8)) : (rowC st).all (·.oneCell') = true := by cases st <;> simp [rowC, Value.oneCell']
/-- the two blocks that a reader of the document begins with -/
theorem two_blocks (w : World) (A : Array Value) (t : TypeId) : Blk ((w.alloc (.cells A t)).alloc (.cells (rowC none) 81)) w.heap.size t A ∧ Blk ((w.alloc (.cells A t)).alloc (.cells (rowC none) 81)) (w.heap.size + 1) 81 (rowC none) ∧ Below w.heap.size w ((w.alloc (.cells A t)).alloc (.cells (rowC none) 81)) := by
  refine ⟨(Blk.new w t A).alloc _, ?_, ((Below.refl w.heap.size w).alloc (Nat.le_refl _) _).alloc (by simp) _⟩
  have := Blk.new (w.alloc (.cells A t)) 81 (rowC none)
  rwa [show (w.alloc (.cells A t)).heap.size = w.heap.size + 1 by simp] at this
set_option maxRecDepth 100000 in
set_option maxHeartbeats 2000000 in
theorem tknum_none (most : Nat) (w : World) : Calls Tryd.prog 59 #[.agg #[.string ⟨#[]⟩, .bool false], .int .u64 most] w (Took w (.int .u64 0) none) := by
  obtain ⟨_, k1, b0⟩ := two_blocks w (rowC none) 81
  have hlt := k1.lt
  go_enter Tryd.func59, Tryd.ntmps59
  go_wp2_with fail
  refine (tfailed_any _).mono ?_
  rintro e w1 ⟨rfl, b1⟩
  have k2 := k1.below b1 hlt
  have b2 := b0.trans (b1.mono b0.size)
  clear k1 b1 b0 hlt
  go_wp2_with (refine wpList_store_row rfl 81 _ _ rfl (w.heap.size + 1) (rowC none) rfl rfl 81 (rowC none) k2 size89 rfl (rowC_one none) ?_)
  refine bodyPost_ret (results_tmp_row rfl _ _ (w.heap.size + 1) 81 (rowC none) (0, 0) _ _ rfl rfl (k2.row _) Tryd.underlying81 rfl size89) rfl ?_
  exact ⟨rfl, below_setRow b2 (by omega) _⟩
set_option maxRecDepth 100000 in
set_option maxHeartbeats 2000000 in
theorem tknum_nil (most : Nat) (w : World) : Calls Tryd.prog 59 #[.agg #[.string ⟨#[]⟩, .bool true], .int .u64 most] w (Took w (.int .u64 0) none) := by
  obtain ⟨_, k1, b0⟩ := two_blocks w (rowC (some [])) 81
  have hlt := k1.lt
  go_enter Tryd.func59, Tryd.ntmps59
  go_wp2_with fail
  refine (tfailed_any _).mono ?_
  rintro e w1 ⟨rfl, b1⟩
  have k2 := k1.below b1 hlt
  have b2 := b0.trans (b1.mono b0.size)
  clear k1 b1 b0 hlt
  go_wp2_with (refine wpList_store_row rfl 81 _ _ rfl (w.heap.size + 1) (rowC none) rfl rfl 81 (rowC none) k2 size89 rfl (rowC_one none) ?_)
  refine bodyPost_ret (results_tmp_row rfl _ _ (w.heap.size + 1) 81 (rowC none) (0, 0) _ _ rfl rfl (k2.row _) Tryd.underlying81 rfl size89) rfl ?_
  exact ⟨rfl, below_setRow b2 (by omega) _⟩
theorem cut_to (l : List UInt8) (k : Nat) (hk : k ≤ l.length) (W : World) : (Instr.slice 9 (.string ⟨l.toArray⟩) none (some (.int .i64 k)) none).run Tryd.prog W = .ok (.string ⟨(l.take k).toArray⟩) W := by
  have h := run_slice_string_h (P := Tryd.prog) W 9 ⟨l.toArray⟩ Tryd.underlying9 .i64 (k : Int) (by omega) (by simp [ByteArray.size]; omega)
  rw [Int.toNat_natCast, str_take] at h
  exact h
theorem cut_off (l : List UInt8) (k : Nat) (hk : k ≤ l.length) (W : World) : (Instr.slice 9 (.string ⟨l.toArray⟩) (some (.int .i64 k)) none none).run Tryd.prog W = .ok (.string ⟨(l.drop k).toArray⟩) W := by
  have h := run_slice_string_l (P := Tryd.prog) W 9 ⟨l.toArray⟩ Tryd.underlying9 .i64 (k : Int) (by omega) (by simp [ByteArray.size]; omega)
  rw [Int.toNat_natCast, str_cut, show (⟨l.toArray⟩ : ByteArray).size = l.length from rfl, List.take_length] at h
  exact h
theorem sub_all {I Q : World → Prop} (h : ∀ W, I W → Q W) : ∀ x : Sub I, Q x.w := fun x => h x.w x.h
/-- the worlds within a reader of the document: its row's box, its result's cell -/
structure TkI (w : World) (A : Array Value) (W : World) : Prop where
  b : Below w.heap.size w W
  k0 : Blk W w.heap.size 81 A
  k1 : Blk W (w.heap.size + 1) 81 (rowC none)
theorem TkI.next {w : World} {A : Array Value} (W W' : World) (h : TkI w A W) (k : Below W.heap.size W W') : TkI w A W' :=
  ⟨h.b.trans (k.mono h.b.size), h.k0.below k h.k0.lt, h.k1.below k h.k1.lt⟩
theorem TkI.drew {w W : World} {A : Array Value} (h : TkI w A W) : TkI w A W.drew := ⟨below_drew h.b, h.k0, h.k1⟩
theorem TkI.start (w : World) (A : Array Value) : TkI w A ((w.alloc (.cells A 81)).alloc (.cells (rowC none) 81)) := by
  obtain ⟨k0, k1, b0⟩ := two_blocks w A 81
  exact ⟨b0, k0, k1⟩
set_option maxRecDepth 100000 in
set_option maxHeartbeats 4000000 in
theorem tknum_lo (b : UInt8) (r : List UInt8) (hb : b.toNat < 128) (hr : r.length ≤ 140737488355328) (most : Nat) (w : World) :
    Calls Tryd.prog 59 #[.agg #[.string ⟨(b :: r).toArray⟩, .bool true], .int .u64 most] w (Took w (.int .u64 (rnumS (some (b :: r)) most).1) (rnumS (some (b :: r)) most).2) := by
  have I0 := TkI.start w #[.string ⟨(b :: r).toArray⟩, .bool true]
  have hi0 : ∀ h, (⟨(b :: r).toArray⟩ : ByteArray)[0]'h = b := fun _ => rfl
  have HS := Lib.hid (rnum_lo r most hb)
  have N := tnum_any b.toNat (by omega)
  rw [show numF b.toNat = [b] by unfold numF; rw [if_pos hb]; congr 1; apply UInt8.toNat_inj.1; rw [UInt8.toNat_ofNat']; omega] at N
  have N := Lib.hid N
  have hct : ∀ W, (Instr.slice 9 (.string ⟨(b :: r).toArray⟩) none (some (.int .i64 1)) none).run Tryd.prog W = .ok (.string ⟨[b].toArray⟩) W := fun W => cut_to (b :: r) 1 (by simp) W
  have hcd : ∀ W, (Instr.slice 9 (.string ⟨(b :: r).toArray⟩) (some (.int .i64 1)) none none).run Tryd.prog W = .ok (.string ⟨r.toArray⟩) W := fun W => cut_off (b :: r) 1 (by simp) W
  have I0 := Lib.hid I0
  by_cases hle : b.toNat ≤ most
  · have HS2 := Lib.hid (HS.out.trans (if_pos hle))
    have hmd : decide ((most : Int) < (b.toNat : Nat)) = false := decide_eq_false (by omega)
    go_enter Tryd.func59, Tryd.ntmps59
    go_wp2_with fail
    refine wp_region_cls (TkI w #[.string ⟨(b :: r).toArray⟩, .bool true]) (by kernel_rfl) (by kernel_rfl) (TkI.drew I0.out) (fun hne => ?_)
    have hx : ∀ y : Sub (TkI w #[.string ⟨(b :: r).toArray⟩, .bool true]), y.w.cell? ⟨w.heap.size, 0, none⟩ = some (.string ⟨(b :: r).toArray⟩) := fun y => y.h.k0.cell 0
    repeat (go_big_quiet_step ((go_at_call 35; ((with_reducible refine call_cls _ N.out TkI.next)))))
    refine wpQuiet_nil ?_
    refine sub_all fun w10 I9 => ?_
    have k0 := I9.k0
    have k1 := I9.k1
    have hy0 := k0.cell 0
    have hwr : IntKind.i64.wrap 1 = 1 := by kernel_rfl
    have hex : (⟨(b :: r).toArray⟩ : ByteArray).extract 1 (r.length + 1) = ⟨r.toArray⟩ := (str_cut (b :: r) 1 (r.length + 1)).trans (by simp)
    clear hx hne
    go_wp2_with fail
    go_still_tail 8, (by kernel_rfl)
    change wpList _ _ _ _ _ w10.drew
    have k2 : Blk w10.drew (w.heap.size + 1) 81 (rowC none) := k1
    have b2 : Below w.heap.size w w10.drew := below_drew I9.b
    generalize w10.drew = w11 at *
    go_wp2_with (refine wpList_store_row rfl 81 _ _ rfl (w.heap.size + 1) (rowC (some r)) rfl rfl 81 (rowC none) k2 size89 rfl (rowC_one (some r)) ?_)
    refine bodyPost_ret (results_tmp_row rfl _ _ (w.heap.size + 1) 81 (rowC (some r)) (0, 0) _ _ rfl rfl (k2.row _) Tryd.underlying81 rfl size89) rfl ?_
    rw [HS2.out]
    exact ⟨rfl, below_setRow b2 (by omega) _⟩
  · have HS2 := Lib.hid (HS.out.trans (if_neg hle))
    have hmd : decide ((most : Int) < (b.toNat : Nat)) = true := decide_eq_true (by omega)
    go_enter Tryd.func59, Tryd.ntmps59
    go_wp2_with fail
    refine wp_region_cls (TkI w #[.string ⟨(b :: r).toArray⟩, .bool true]) (by kernel_rfl) (by kernel_rfl) (TkI.drew I0.out) (fun hne => ?_)
    have hx : ∀ y : Sub (TkI w #[.string ⟨(b :: r).toArray⟩, .bool true]), y.w.cell? ⟨w.heap.size, 0, none⟩ = some (.string ⟨(b :: r).toArray⟩) := fun y => y.h.k0.cell 0
    repeat (go_big_quiet_step ((go_at_call 35; ((with_reducible refine call_cls _ N.out TkI.next)))))
    refine wpQuiet_nil ?_
    refine sub_all fun w10 I9 => ?_
    clear hx hne
    go_wp2_with fail
    refine (tfailed_any _).mono ?_
    rintro e w11 ⟨rfl, b11⟩
    have I11 := TkI.next _ _ I9 b11
    have k2 := I11.k1
    have b2 := I11.b
    clear I9 I11 b11
    go_wp2_with (refine wpList_store_row rfl 81 _ _ rfl (w.heap.size + 1) (rowC none) rfl rfl 81 (rowC none) k2 size89 rfl (rowC_one none) ?_)
    refine bodyPost_ret (results_tmp_row rfl _ _ (w.heap.size + 1) 81 (rowC none) (0, 0) _ _ rfl rfl (k2.row _) Tryd.underlying81 rfl size89) rfl ?_
    rw [HS2.out]
    exact ⟨rfl, below_setRow b2 (by omega) _⟩
set_option maxRecDepth 100000 in
set_option maxHeartbeats 4000000 in
theorem tknum_short (b : UInt8) (r : List UInt8) (hb : ¬ b.toNat < 128) (h : 8 < b.toNat - 128 ∨ r.length < b.toNat - 128) (hr : r.length ≤ 140737488355328) (most : Nat) (w : World) :
    Calls Tryd.prog 59 #[.agg #[.string ⟨(b :: r).toArray⟩, .bool true], .int .u64 most] w (Took w (.int .u64 0) none) := by
  have I0 := TkI.start w #[.string ⟨(b :: r).toArray⟩, .bool true]
  have hi0 : ∀ h, (⟨(b :: r).toArray⟩ : ByteArray)[0]'h = b := fun _ => rfl
  have I0 := Lib.hid I0
  have hbl := b.toNat_lt
  obtain ⟨k, hk⟩ : ∃ k, b.toNat = 128 + k := ⟨b.toNat - 128, by omega⟩
  have hb2 : (128 : Int) ≤ (b.toNat : Nat) := by omega
  have h' : 8 < k ∨ (k ≤ 8 ∧ r.length < k) := by omega
  clear h hb
  rcases h' with h | ⟨h8, h⟩
  · have e1 : (8 : Int) < (b.toNat : Nat) - 128 := by omega
    clear hk h
    go_enter Tryd.func59, Tryd.ntmps59
    go_wp2_with fail
    refine (tfailed_any _).mono ?_
    rintro e w11 ⟨rfl, b11⟩
    have I11 := TkI.next _ _ I0.out b11
    have k2 := I11.k1
    have b2 := I11.b
    clear I0 I11 b11
    go_wp2_with (refine wpList_store_row rfl 81 _ _ rfl (w.heap.size + 1) (rowC none) rfl rfl 81 (rowC none) k2 size89 rfl (rowC_one none) ?_)
    refine bodyPost_ret (results_tmp_row rfl _ _ (w.heap.size + 1) 81 (rowC none) (0, 0) _ _ rfl rfl (k2.row _) Tryd.underlying81 rfl size89) rfl ?_
    exact ⟨rfl, below_setRow b2 (by omega) _⟩
  · have e1 : ¬ (8 : Int) < (b.toNat : Nat) - 128 := by omega
    have e2 : ((r.length : Nat) : Int) + 1 < 1 + ((b.toNat : Nat) - 128) := by omega
    clear hk h h8
    go_enter Tryd.func59, Tryd.ntmps59
    go_wp2_with fail
    refine (tfailed_any _).mono ?_
    rintro e w11 ⟨rfl, b11⟩
    have I11 := TkI.next _ _ I0.out b11
    have k2 := I11.k1
    have b2 := I11.b
    clear I0 I11 b11
    go_wp2_with (refine wpList_store_row rfl 81 _ _ rfl (w.heap.size + 1) (rowC none) rfl rfl 81 (rowC none) k2 size89 rfl (rowC_one none) ?_)
    refine bodyPost_ret (results_tmp_row rfl _ _ (w.heap.size + 1) 81 (rowC none) (0, 0) _ _ rfl rfl (k2.row _) Tryd.underlying81 rfl size89) rfl ?_
    exact ⟨rfl, below_setRow b2 (by omega) _⟩
theorem take_val (r : List UInt8) (k : Nat) (hk : k ≤ 8) : val (r.take k) < 2 ^ 64 := by
  have h1 := val_lt (r.take k)
  have h2 : (r.take k).length ≤ 8 := by rw [List.length_take]; omega
  have h3 : 256 ^ (r.take k).length ≤ 256 ^ 8 := Nat.pow_le_pow_right (by decide) h2
  omega
set_option maxRecDepth 100000 in
set_option maxHeartbeats 8000000 in
theorem tknum_hi (b : UInt8) (r : List UInt8) (hb : ¬ b.toNat < 128) (h8 : b.toNat - 128 ≤ 8) (hkr : b.toNat - 128 ≤ r.length) (hr : r.length ≤ 140737488355328) (most : Nat) (w : World) :
    Calls Tryd.prog 59 #[.agg #[.string ⟨(b :: r).toArray⟩, .bool true], .int .u64 most] w (Took w (.int .u64 (rnumS (some (b :: r)) most).1) (rnumS (some (b :: r)) most).2) := by
  have I0 := Lib.hid (TkI.start w #[.string ⟨(b :: r).toArray⟩, .bool true])
  have hi0 : ∀ h, (⟨(b :: r).toArray⟩ : ByteArray)[0]'h = b := fun _ => rfl
  have HS := rnum_hi r most hb h8 hkr
  have hbl := b.toNat_lt
  obtain ⟨k, hk⟩ : ∃ k, b.toNat = 128 + k := ⟨b.toNat - 128, by omega⟩
  rw [show b.toNat - 128 = k by omega] at HS h8 hkr
  have hb2 : (128 : Int) ≤ (b.toNat : Nat) := by omega
  have hbk : (b.toNat : Int) - 128 = (k : Nat) := by omega
  have e1 : ¬ (8 : Int) < (k : Nat) := by omega
  have e2 : ¬ (((r.length : Nat) : Int) + 1 < 1 + (k : Nat)) := by omega
  have hv := take_val r k h8
  have N := Lib.hid (tnum_any (val (r.take k)) hv)
  have HV := Lib.hid (show val (r.take k) ≤ 18446744073709551615 by omega)
  have hct : ∀ W, (Instr.slice 9 (.string ⟨(b :: r).toArray⟩) none (some (.int .i64 (1 + (k : Nat)))) none).run Tryd.prog W = .ok (.string ⟨(b :: r.take k).toArray⟩) W := fun W => by
    have h := cut_to (b :: r) (1 + k) (by simp; omega) W
    rw [Nat.add_comm 1 k, List.take_succ_cons] at h
    rw [show (1 + (k : Int)) = ((k + 1 : Nat) : Int) by omega]
    exact h
  have hcd : ∀ W, (Instr.slice 9 (.string ⟨(b :: r).toArray⟩) (some (.int .i64 (1 + (k : Nat)))) none none).run Tryd.prog W = .ok (.string ⟨(r.drop k).toArray⟩) W := fun W => by
    have h := cut_off (b :: r) (1 + k) (by simp; omega) W
    rw [Nat.add_comm 1 k, List.drop_succ_cons] at h
    rw [show (1 + (k : Int)) = ((k + 1 : Nat) : Int) by omega]
    exact h
  replace HS := Lib.hid HS
  have HK := Lib.hid hk
  have HCT := Lib.hid hct
  have HCD := Lib.hid hcd
  clear hk hv hb hct hcd
  go_enter Tryd.func59, Tryd.ntmps59
  go_wp2_with fail
  go_loopw [7, 8] (fun n i wr => ∃ j : Nat, j ≤ k ∧ i = .int .i64 ((j : Nat) + 1) ∧ n = .int .u64 (val (r.take j) : Nat) ∧ wr = (w.alloc (.cells #[.string ⟨(b :: r).toArray⟩, .bool true] 81)).alloc (.cells #[.string ⟨#[]⟩, .bool false] 81)) (fun _ i _ => (9 - intOf i).toNat)
  case atStart => exact ⟨0, by omega, rfl, rfl, rfl⟩
  case round =>
    obtain ⟨j, hj, rfl, rfl, rfl⟩ := hrel
    by_cases hjk : j < k
    · have hx := val_lt (r.take j)
      rw [List.length_take, Nat.min_eq_left (by omega)] at hx
      have hx7 : val (r.take j) ≤ 72057594037927935 := by
        have : 256 ^ j ≤ 256 ^ 7 := Nat.pow_le_pow_right (by decide) (by omega)
        omega
      have hjr : j < r.length := by omega
      have HST := Lib.hid (show val (r.take (j + 1)) = val (r.take j) * 256 + r[j].toNat by rw [List.take_succ_eq_append_getElem hjr, val_snoc])
      have hdj := r[j].toNat_lt
      have hidx : ∀ h, (⟨(b :: r).toArray⟩ : ByteArray)[j + 1]'h = r[j] := fun _ => rfl
      clear hx
      generalize val (r.take j) = x at *
      go_wp2_with fail
      go_roundw
      case rel =>
        refine ⟨j + 1, hjk, by go_num, ?_, by trivial⟩
        rw [HST.out]
        exact congrArg (Value.int .u64) (by omega)
      case measure => simp [intOf]; omega
    · obtain rfl : j = k := by omega
      have hct := HCT.out
      have hcd := HCD.out
      have hwr : IntKind.i64.wrap (1 + (j : Int)) = 1 + (j : Int) := IntWalk.i64_in _ (by omega)
      have HV2 := HV.out
      clear HCT HCD HV
      have HQ := Lib.hid (show ∀ p, rnumS (some (b :: r)) most = p → rnumS (some (b :: r)) most = p from fun _ h => h)
      by_cases heq : numF (val (r.take j)) = b :: r.take j
      · have hne : (numF (val (r.take j)) == b :: r.take j) = true := by rw [beq_iff_eq]; exact heq
        obtain ⟨u, hu⟩ : ∃ u, u = r.drop j := ⟨_, rfl⟩
        rw [← hu] at hcd HS
        have HU := Lib.hid hu
        have hex : (⟨(b :: r).toArray⟩ : ByteArray).extract (1 + (j : Int)).toNat (r.length + 1) = ⟨u.toArray⟩ := by
          rw [show (1 + (j : Int)).toNat = j + 1 by omega, hu]
          exact (str_cut (b :: r) (j + 1) (r.length + 1)).trans (by simp)
        clear hu
        by_cases hle : val (r.take j) ≤ most
        · have HS2 := Lib.hid (HS.out.trans (if_pos ⟨heq, hle⟩))
          have hmd : decide ((most : Int) < (val (r.take j) : Nat)) = false := decide_eq_false (by omega)
          have HNE := Lib.hid heq
          clear heq HS HQ
          generalize rnumS (some (b :: r)) most = q at *
          generalize numF (val (r.take j)) = nv at *
          generalize val (r.take j) = x at *
          generalize r.take j = d at *
          go_wp2_with fail
          refine wp_region_cls (TkI w #[.string ⟨(b :: r).toArray⟩, .bool true]) (by kernel_rfl) (by kernel_rfl) (TkI.drew I0.out) (fun hne => ?_)
          have hx : ∀ y : Sub (TkI w #[.string ⟨(b :: r).toArray⟩, .bool true]), y.w.cell? ⟨w.heap.size, 0, none⟩ = some (.string ⟨(b :: r).toArray⟩) := fun y => y.h.k0.cell 0
          repeat (go_big_quiet_step ((go_at_call 35; ((with_reducible refine call_cls _ N.out TkI.next)))))
          refine wpQuiet_nil ?_
          refine sub_all fun w10 I9 => ?_
          clear hx
          have k0 := I9.k0
          have k1 := I9.k1
          have hy0 := k0.cell 0
          go_wp2_with fail
          go_still_tail 8, (by kernel_rfl)
          change wpList _ _ _ _ _ w10.drew
          have k2 : Blk w10.drew (w.heap.size + 1) 81 (rowC none) := k1
          have b2 : Below w.heap.size w w10.drew := below_drew I9.b
          generalize w10.drew = w11 at *
          go_wp2_with (refine wpList_store_row rfl 81 _ _ rfl (w.heap.size + 1) (rowC (some u)) rfl rfl 81 (rowC none) k2 size89 rfl (rowC_one (some u)) ?_)
          refine bodyPost_ret (results_tmp_row rfl _ _ (w.heap.size + 1) 81 (rowC (some u)) (0, 0) _ _ rfl rfl (k2.row _) Tryd.underlying81 rfl size89) rfl ?_
          rw [HS2.out]
          exact ⟨rfl, below_setRow b2 (by omega) _⟩
        · have HS2 := Lib.hid (HS.out.trans (if_neg fun h => hle h.2))
          have hmd : decide ((most : Int) < (val (r.take j) : Nat)) = true := decide_eq_true (by omega)
          have HNE := Lib.hid heq
          clear heq HS HQ
          generalize rnumS (some (b :: r)) most = q at *
          generalize numF (val (r.take j)) = nv at *
          generalize val (r.take j) = x at *
          generalize r.take j = d at *
          go_wp2_with fail
          refine wp_region_cls (TkI w #[.string ⟨(b :: r).toArray⟩, .bool true]) (by kernel_rfl) (by kernel_rfl) (TkI.drew I0.out) (fun hne => ?_)
          have hx : ∀ y : Sub (TkI w #[.string ⟨(b :: r).toArray⟩, .bool true]), y.w.cell? ⟨w.heap.size, 0, none⟩ = some (.string ⟨(b :: r).toArray⟩) := fun y => y.h.k0.cell 0
          repeat (go_big_quiet_step ((go_at_call 35; ((with_reducible refine call_cls _ N.out TkI.next)))))
          refine wpQuiet_nil ?_
          refine sub_all fun w10 I9 => ?_
          clear hx
          go_wp2_with fail
          refine (tfailed_any _).mono ?_
          rintro e w11 ⟨rfl, b11⟩
          have I11 := TkI.next _ _ I9 b11
          have k2 := I11.k1
          have b2 := I11.b
          clear I9 I11 b11
          go_wp2_with (refine wpList_store_row rfl 81 _ _ rfl (w.heap.size + 1) (rowC none) rfl rfl 81 (rowC none) k2 size89 rfl (rowC_one none) ?_)
          refine bodyPost_ret (results_tmp_row rfl _ _ (w.heap.size + 1) 81 (rowC none) (0, 0) _ _ rfl rfl (k2.row _) Tryd.underlying81 rfl size89) rfl ?_
          rw [HS2.out]
          exact ⟨rfl, below_setRow b2 (by omega) _⟩
      · have HS2 := Lib.hid (HS.out.trans (if_neg fun h => heq h.1))
        have hne : (numF (val (r.take j)) == b :: r.take j) = false := by rw [beq_eq_false_iff_ne]; exact heq
        have HNE := Lib.hid heq
        clear heq HS HQ
        generalize rnumS (some (b :: r)) most = q at *
        generalize numF (val (r.take j)) = nv at *
        generalize val (r.take j) = x at *
        generalize r.take j = d at *
        go_wp2_with fail
        refine wp_region_cls (TkI w #[.string ⟨(b :: r).toArray⟩, .bool true]) (by kernel_rfl) (by kernel_rfl) (TkI.drew I0.out) (fun hne => ?_)
        have hx : ∀ y : Sub (TkI w #[.string ⟨(b :: r).toArray⟩, .bool true]), y.w.cell? ⟨w.heap.size, 0, none⟩ = some (.string ⟨(b :: r).toArray⟩) := fun y => y.h.k0.cell 0
        repeat (go_big_quiet_step ((go_at_call 35; ((with_reducible refine call_cls _ N.out TkI.next)))))
        refine wpQuiet_nil ?_
        refine sub_all fun w10 I9 => ?_
        clear hx
        go_wp2_with fail
        refine (tfailed_any _).mono ?_
        rintro e w11 ⟨rfl, b11⟩
        have I11 := TkI.next _ _ I9 b11
        have k2 := I11.k1
        have b2 := I11.b
        clear I9 I11 b11
        go_wp2_with (refine wpList_store_row rfl 81 _ _ rfl (w.heap.size + 1) (rowC none) rfl rfl 81 (rowC none) k2 size89 rfl (rowC_one none) ?_)
        refine bodyPost_ret (results_tmp_row rfl _ _ (w.heap.size + 1) 81 (rowC none) (0, 0) _ _ rfl rfl (k2.row _) Tryd.underlying81 rfl size89) rfl ?_
        rw [HS2.out]
        exact ⟨rfl, below_setRow b2 (by omega) _⟩
theorem tknum_any (st : Option (List UInt8)) (hs : ∀ l, st = some l → l.length ≤ 140737488355328) (most : Nat) (w : World) :
    Calls Tryd.prog 59 #[.agg (rowC st), .int .u64 most] w (Took w (.int .u64 (rnumS st most).1) (rnumS st most).2) := by
  cases st with
  | none => exact tknum_none most w
  | some l =>
    cases l with
    | nil => exact tknum_nil most w
    | cons b r =>
      have hr : r.length ≤ 140737488355328 := by have := hs _ rfl; simp only [List.length_cons] at this; omega
      by_cases hb : b.toNat < 128
      · exact tknum_lo b r hb hr most w
      · by_cases h : 8 < b.toNat - 128 ∨ r.length < b.toNat - 128
        · have e := rnum_short r most hb h
          rw [e]; exact tknum_short b r hb h hr most w
        · exact tknum_hi b r hb (by omega) (by omega) hr most w
end Go.Proofs.YtfojjklohbiffaaDoor
