/- What the functions of the packages sum and tranterref01 return: each contract once, over this seat's translation. -/
import Derived.Test.YtfojjklohbiffaaProg
import Derived.Test.YtfojjklohbiffaaMq1
import Derived.Test.YtfojjklohbiffaaMq22
namespace Go.Proofs.Ytfojjklohbiffaa
open Go.RowKit Tran
theorem bits_fs (x : Nat) (hx : x < 4294967296) :
    bits BinOp.xor IntKind.u32 ((x : Int) / 2) (bits BinOp.and IntKind.u32 2197175160 (-bits BinOp.and IntKind.u32 (x : Int) 1 % 4294967296)) = ((Crc.fs x : Nat) : Int) := by
  have h1 : bits BinOp.and IntKind.u32 (x : Int) 1 = ((x % 2 : Nat) : Int) := by
    have := u32_and_nat x 1 hx (by omega)
    rw [nat_mask1] at this
    exact this
  rw [h1]
  have h2 : bits BinOp.and IntKind.u32 2197175160 (-((x % 2 : Nat) : Int) % 4294967296) = (((if x % 2 = 1 then Crc.poly else 0 : Nat)) : Int) := by
    rcases Nat.mod_two_eq_zero_or_one x with h | h
    · rw [h]; rfl
    · rw [h]; rfl
  rw [h2]
  have h3 : ((x : Int) / 2) = ((x / 2 : Nat) : Int) := by omega
  rw [h3]
  unfold Crc.fs
  refine u32_xor_nat _ _ (by omega) ?_
  split
  · exact Crc.poly_lt
  · omega
def tabArr : Array Value := ((List.range 256).map fun i => Value.int .u32 (Crc.tab i)).toArray
theorem tabArr_size : tabArr.size = 256 := by simp [tabArr]
theorem tabArr_get {i : Nat} (h : i < 256) : tabArr[i]? = some (.int .u32 (Crc.tab i)) := by simp [tabArr, h]
theorem tabArr_one : tabArr.all (·.oneCell') = true := by
  rw [Array.all_eq_true]
  intro i hi
  rw [tabArr_size] at hi
  have := tabArr_get hi
  rw [Array.getElem?_eq_getElem (by rw [tabArr_size]; exact hi)] at this
  injection this with this
  rw [this]; rfl
theorem zero24_size : Try.zeroCells24.size = 256 := by kernel_rfl
theorem it_step (j i : Nat) : Crc.it (j + 1) i = Crc.fs (Crc.it j i) := Crc.it_add j 1 i
theorem tabArr_of (cs : Array Value) (hs : cs.size = 256) (hc : ∀ j, j < 256 → cs[j]? = some (.int .u32 (Crc.tab j))) : cs = tabArr := by
  apply Array.ext
  · rw [hs, tabArr_size]
  · intro i h1 h2
    have a := hc i (by omega)
    have b := tabArr_get (i := i) (by omega)
    rw [Array.getElem?_eq_getElem h1] at a
    rw [Array.getElem?_eq_getElem h2] at b
    rw [← b] at a; injection a
theorem size24 : (Try.prog.info? 24).map (·.size) = some 256 := by kernel_rfl

set_option maxRecDepth 100000 in
set_option maxHeartbeats 400000 in
theorem table_any (w : World) : Calls Try.prog 23 #[] w fun e w' => e = .returned (.agg tabArr) ∧ Below w.heap.size w w' := by
  go_enter Try.func23, Try.ntmps23
  go_wp2
  go_loopw [4] (fun i wr => ∃ k : Nat, k ≤ 256 ∧ i = .int .i64 k ∧ ∃ cs zs : Array Value, cs.size = 256 ∧ zs.size = 256 ∧ (∀ j, j < k → cs[j]? = some (.int .u32 (Crc.tab j))) ∧ Blk wr (w.heap.size + 1) 24 cs ∧ Blk wr w.heap.size 24 zs ∧ Below w.heap.size w wr)
    (fun i _ => 256 - (intOf i).toNat)
  case atStart =>
    refine ⟨0, by omega, rfl, _, _, zero24_size, zero24_size, fun j hj => absurd hj (by omega), ?_, ?_, ((Below.refl _ _).alloc (Nat.le_refl _) _).alloc (by simp) _⟩
    · have := Blk.new (w.alloc (.cells Try.zeroCells24 24)) 24 Try.zeroCells24
      simpa using this
    · exact (Blk.new w 24 Try.zeroCells24).alloc _
  case round =>
    obtain ⟨k, hk, rfl, cs, zs, hs, hz, hj, hc, hc0, hb⟩ := hrel
    have HS := Lib.hid hs; clear hs
    have HZ := Lib.hid hz; clear hz
    have HJ := Lib.hid hj; clear hj
    by_cases hlt : k < 256
    · have hv := hc.cell k
      rw [Array.getElem?_eq_getElem (by rw [HS.out]; exact hlt)] at hv
      have hfz := hc.frozen k
      go_wp2
      go_loop [3, 9] (fun x i => ∃ j : Nat, j ≤ 8 ∧ i = .int .i64 j ∧ x = .int .u32 (Crc.it j k)) (fun _ i => 8 - (intOf i).toNat)
      case atStart => exact ⟨0, by omega, rfl, rfl⟩
      case round =>
        obtain ⟨j, hj, rfl, rfl⟩ := hrel
        have hlt2 : Crc.it j k < 4294967296 := Crc.it_lt j (by omega)
        by_cases hj8 : j < 8
        · go_wp2
          go_round
          case rel =>
            refine ⟨j + 1, by omega, by go_num, ?_⟩
            rw [bits_fs _ hlt2, it_step]
          case measure => simp [intOf]; omega
        · obtain rfl : j = 8 := by omega
          go_wp2
          go_roundw
          case rel =>
            refine ⟨k + 1, by omega, by go_num, _, _, ?_, HZ.out, ?_, hc.set_ k _, hc0.far (by simp) _, hb.setCell (by simp) _⟩
            · simpa using HS.out
            · intro i hi
              by_cases hik : i = k
              · subst hik; rw [Array.getElem?_setIfInBounds_self_of_lt (by rw [HS.out]; exact hlt)]; rfl
              · rw [Array.getElem?_setIfInBounds_ne (by omega)]; exact HJ.out i (by omega)
          case measure => simp [intOf]; omega
    · have hcs := tabArr_of cs HS.out (fun j hj => HJ.out j (by omega))
      subst hcs
      go_wp2_with (first
        | (refine wpList_load_row rfl 24 _ rfl (w.heap.size + 1) rfl 24 tabArr (0, 0) _ hc Try.underlying24 rfl (by rw [tabArr_size]; exact size24) ?_)
        | (refine wpList_store_row rfl 24 _ _ rfl w.heap.size tabArr rfl rfl 24 zs hc0 (by rw [tabArr_size]; exact size24) (by rw [tabArr_size]; exact HZ.out) tabArr_one ?_))

      exact bodyPost_ret (results_cell_row rfl _ _ w.heap.size 24 tabArr (0, 0) _ rfl (hc0.row _) Try.underlying24 rfl (by rw [tabArr_size]; exact size24)) rfl ⟨rfl, below_setRow hb (Nat.le_refl _) _⟩
theorem bits_not (x : Nat) (hx : x < 4294967296) : bits BinOp.xor IntKind.u32 IntKind.u32.max (x : Int) = ((Crc.turn x : Nat) : Int) := by
  have e : IntKind.u32.max = ((4294967295 : Nat) : Int) := rfl
  rw [e, u32_xor_nat _ _ (by omega) hx, Crc.turn_xor hx, Nat.xor_comm]
theorem take_snoc (s : ByteArray) (k : Nat) (h : k < s.size) : s.data.toList.take (k + 1) = s.data.toList.take k ++ [s[k]] := by
  rw [List.take_succ_eq_append_getElem (by simpa using h)]; rfl
theorem run_snoc (s : ByteArray) (k : Nat) (h : k < s.size) (r : Nat) : Crc.run r (s.data.toList.take (k + 1)) = Crc.upd (Crc.run r (s.data.toList.take k)) s[k].toNat := by
  rw [take_snoc s k h, Crc.run_append]; rfl

set_option maxRecDepth 100000 in
set_option maxHeartbeats 400000 in
theorem more_any (s0 : Nat) (h0 : s0 < 4294967296) (s : ByteArray) (hs : s.size ≤ maxLen) (w : World) :
    Calls Try.prog 29 #[.int .u32 s0, .string s] w fun e w' => e = .returned (.int .u32 (Crc.more s0 s.data.toList)) ∧ Below w.heap.size w w' := by
  unfold maxLen at hs
  go_enter Try.func29, Try.ntmps29
  go_wp2_with fail
  refine (table_any _).mono ?_
  rintro e w1 ⟨rfl, hb⟩
  have hz : w.heap.size ≤ w1.heap.size := hb.size
  go_wp2_with (refine wpList_store_row rfl 24 _ _ rfl w1.heap.size tabArr rfl rfl 24 Try.zeroCells24 (Blk.new w1 24 _) (by rw [tabArr_size]; exact size24) (by rw [tabArr_size]; exact zero24_size) tabArr_one ?_)
  have hk := (Blk.new w1 24 Try.zeroCells24).row tabArr
  have hB : Below w.heap.size w ((w1.alloc (Obj.cells Try.zeroCells24 24)).setRow w1.heap.size tabArr) := below_setRow (hb.alloc hz _) hz _
  generalize (w1.alloc (Obj.cells Try.zeroCells24 24)).setRow w1.heap.size tabArr = W at *
  have e0 : bits BinOp.xor IntKind.u32 IntKind.u32.max (s0 : Int) = ((Crc.turn s0 : Nat) : Int) := bits_not s0 h0
  go_loop [6, 13] (fun x i => ∃ k : Nat, k ≤ s.size ∧ i = .int .i64 k ∧ x = .int .u32 (Crc.run (Crc.turn s0) (s.data.toList.take k))) (fun _ i => s.size - (intOf i).toNat)
  case atStart => exact ⟨0, Nat.zero_le _, rfl, by rw [e0]; rfl⟩
  case round =>
    obtain ⟨k, hks, rfl, rfl⟩ := hrel
    have hr := Crc.run_lt (Crc.turn_lt s0) (s.data.toList.take k)
    clear e0
    have HR := Lib.hid (p := Crc.turn (Crc.run (Crc.turn s0) s.data.toList) = Crc.more s0 s.data.toList) rfl
    have HN := fun (hlt : k < s.size) => Lib.hid (run_snoc s k hlt (Crc.turn s0))
    by_cases hlt : k < s.size
    · have HS := HN hlt
      clear HN
      generalize Crc.run (Crc.turn s0) (s.data.toList.take k) = r at *
      have hbt := Crc.byte_lt s[k]
      have e1 : bits BinOp.xor IntKind.u8 ((r : Int) % 256) (s[k].toNat : Int) = ((r % 256 ^^^ s[k].toNat : Nat) : Int) := by
        rw [show ((r : Int) % 256) = ((r % 256 : Nat) : Int) by omega]; exact u8_xor_nat _ _ (by omega) hbt
      have hlt2 : r % 256 ^^^ s[k].toNat < 256 := Crc.xor_lt 8 (by omega) hbt
      have hcell : W.cell? { block := w1.heap.size, off := (bits BinOp.xor IntKind.u8 ((r : Int) % 256) (s[k].toNat : Int)).toNat } = some (.int .u32 (Crc.tab (r % 256 ^^^ s[k].toNat))) := by
        rw [e1]; exact (hk.cell _).trans (tabArr_get hlt2)
      have hi1 : 0 ≤ bits BinOp.xor IntKind.u8 ((r : Int) % 256) (s[k].toNat : Int) := by rw [e1]; omega
      have hi2 : bits BinOp.xor IntKind.u8 ((r : Int) % 256) (s[k].toNat : Int) < 256 := by rw [e1]; omega
      have E1 := Lib.hid e1; clear e1
      go_wp2
      go_round
      case rel =>
        refine ⟨k + 1, by omega, by go_num, ?_⟩
        rw [HS.out]
        have h4 : ((r : Int) / 256) = ((r / 256 : Nat) : Int) := by omega
        rw [h4, u32_xor_nat (Crc.tab (r % 256 ^^^ s[k].toNat)) (r / 256) (Crc.it_lt 8 (by omega)) (by omega)]
        rfl
      case measure => simp [intOf]; omega
    · have hkk : s.data.toList.take k = s.data.toList := List.take_of_length_le (by simpa using (by omega : s.size ≤ k))
      rw [hkk] at hr ⊢
      clear hkk HN
      generalize Crc.run (Crc.turn s0) s.data.toList = r at *
      go_wp2
      go_ret
      exact ⟨ret_int (by rw [bits_not _ hr, HR.out]), hB⟩

set_option maxHeartbeats 400000 in
theorem sum_any (s : ByteArray) (hs : s.size ≤ maxLen) (w : World) :
    Calls Try.prog 27 #[.string s] w fun e w' => e = .returned (.int .u32 (Crc.crc s.data.toList)) ∧ Below w.heap.size w w' := by
  go_enter Try.func27, Try.ntmps27
  go_wp2_with fail
  refine (more_any 0 (by omega) s hs _).mono ?_
  rintro e w1 ⟨rfl, hb⟩
  go_wp2
  go_ret
  exact ⟨rfl, hb⟩
theorem info5 : (Try.prog.info? 5).map (fun i => (i.zero, i.size, i.bytes)) = some (some (.int .u8 0), 1, 1) := by kernel_rfl

set_option maxRecDepth 100000 in
set_option maxHeartbeats 400000 in
theorem seal_any (s : ByteArray) (hs : s.size ≤ 1000000) (w : World) :
    Calls Try.prog 31 #[.string s] w fun e w' => e = .returned (.string ⟨(Crc.sealed s.data.toList).toArray⟩) ∧ Below w.heap.size w w' := by
  obtain ⟨i0, hi, hz0, hz1, hz2⟩ := info_parts info5
  go_enter Try.func31, Try.ntmps31
  go_wp2_with fail
  refine (sum_any _ (by unfold maxLen; omega) _).mono ?_
  rintro e w1 ⟨rfl, hb⟩
  have hz : w.heap.size ≤ w1.heap.size := hb.size
  have hc := Crc.crc_lt s.data.toList
  go_wp2_with (refine wpList_bytes_new rfl 9 35 _ rfl 5 s rfl Try.underlying9 Try.underlying35 Try.underlying5 (by unfold maxLen; omega) ?_; rintro v w2 cap rfl hown hg)
  have ho := hown w.heap.size hz
  clear hown
  have hb2 := hb.grown hg hz (by simp)
  have hz2' : w.heap.size ≤ w2.heap.size := hb2.size
  clear hg
  go_loopw [3, 4, 9] (fun x b i wr => ∃ j : Nat, j ≤ 4 ∧ i = .int .i64 j ∧ x = .int .u32 ((Crc.crc s.data.toList / 256 ^ j : Nat)) ∧ Own wr w.heap.size 5 1 b (s.size + j) (bc (s.data.toList ++ (Crc.tail (Crc.crc s.data.toList)).take j)) ∧ Below w.heap.size w wr)
    (fun _ _ i _ => 4 - (intOf i).toNat)
  case atStart => exact ⟨0, by omega, rfl, by simp, by simpa using ho, hb2⟩
  case round =>
    obtain ⟨j, hj, rfl, rfl, ho3, hb3⟩ := hrel
    by_cases hlt : j < 4
    · have hsz := hb3.size
      have hcj : Crc.crc s.data.toList / 256 ^ j < 4294967296 := Nat.lt_of_le_of_lt (Nat.div_le_self _ _) hc
      generalize hcc : Crc.crc s.data.toList / 256 ^ j = c at *
      have HC := Lib.hid hcc; clear hcc
      go_wp2_with (at_builtin; refine wpList_append_Own _ rfl (.tmp 11) (.tmp 14) 35 rfl w.heap.size 5 i0 _ 1 1 Try.underlying35 hi hz0 hz1 hz2 rfl (by decide) u4 _ _ rfl (ho3.alloc _) (some ⟨wr.heap.size, 0, none⟩) 1 1 [_] rfl (Rd.one wr _ 5) (by intro u hu; simp at hu; subst hu; rfl) (by unfold maxLen; omega) (by omega) (by simp; omega) ?_; intro v' w3 ho4 hg4 hat4)
      have hb4 : Below w.heap.size w w3 := (hb3.alloc hsz _).grown hg4 (by simp; omega) (fun k hk => (ho3.lt k hk).1)
      go_roundw
      case rel =>
        refine ⟨j + 1, by omega, by go_num, ?_, ?_, hb4⟩
        · rw [Nat.pow_succ, ← Nat.div_div_eq_div_mul, HC.out]; rfl
        · have e : bc (s.data.toList ++ List.take (j + 1) (Crc.tail (Crc.crc s.data.toList))) = bc (s.data.toList ++ List.take j (Crc.tail (Crc.crc s.data.toList))) ++ [Value.int IntKind.u8 ((c : Int) % 256)] := by
            rw [Crc.tail_snoc _ hlt, ← List.append_assoc, bc_append, HC.out]
            congr 1
          rw [e]; exact ho4
      case measure => simp [intOf]; omega
    · obtain rfl : j = 4 := by omega
      go_wp2_with (refine wpList_string_of rfl 35 9 _ rfl 5 _ w.heap.size _ _ rfl Try.underlying35 Try.underlying5 Try.underlying9 ho3 ?_)
      go_ret
      exact ⟨rfl, hb3⟩

theorem bits_poly (x : Nat) (hx : x < 4294967296) : bits BinOp.xor IntKind.u32 (x : Int) 2197175160 = ((x ^^^ Crc.poly : Nat) : Int) := u32_xor_nat x 2197175160 hx (by omega)
set_option maxRecDepth 100000 in
set_option maxHeartbeats 400000 in
theorem entry_any (i : Nat) (hi : i < 4294967296) (w : World) :
    Calls Try.prog 24 #[.int .u32 i] w fun e w' => e = .returned (.int .u32 (Crc.it 8 i)) ∧ w = w' := by
  go_enter Try.func24, Try.ntmps24
  go_wp2
  go_loop [3, 4] (fun x k => ∃ j : Nat, j ≤ 8 ∧ k = .int .i64 j ∧ x = .int .u32 (Crc.it j i)) (fun _ k => 8 - (intOf k).toNat)
  case atStart => exact ⟨0, by omega, rfl, rfl⟩
  case round =>
    obtain ⟨j, hj, rfl, rfl⟩ := hrel
    have hlt2 : Crc.it j i < 4294967296 := Crc.it_lt j hi
    have HS := Lib.hid (it_step j i)
    by_cases hj8 : j < 8
    · generalize Crc.it j i = x at *
      have HP := Lib.hid (bits_poly (x / 2) (by omega))
      rcases Nat.mod_two_eq_zero_or_one x with hm | hm
      · have h1 : (((x : Int) % 2) == 1) = false := by rw [beq_eq_false_iff_ne]; omega
        have HM := Lib.hid hm; clear hm
        go_wp2
        go_round
        case rel =>
          refine ⟨j + 1, by omega, by go_num, ?_⟩
          rw [HS.out]; unfold Crc.fs; rw [if_neg (by rw [HM.out]; omega), Nat.xor_zero]; rfl
        case measure => simp [intOf]; omega
      · have h1 : (((x : Int) % 2) == 1) = true := by rw [beq_iff_eq]; omega
        have HM := Lib.hid hm; clear hm
        go_wp2
        go_round
        case rel =>
          refine ⟨j + 1, by omega, by go_num, ?_⟩
          rw [HS.out]; unfold Crc.fs; rw [if_pos HM.out, ← HP.out]; rfl
        case measure => simp [intOf]; omega
    · obtain rfl : j = 8 := by omega
      go_wp2
      go_ret
      exact ⟨rfl, rfl⟩
theorem entry_int (x : Int) (h0 : 0 ≤ x) (h1 : x < 4294967296) (w : World) :
    Calls Try.prog 24 #[.int .u32 x] w fun e w' => e = .returned (.int .u32 (Crc.it 8 x.toNat)) ∧ w = w' := by
  obtain ⟨n, rfl⟩ := Int.eq_ofNat_of_zero_le h0
  exact entry_any n (by omega) w
set_option maxHeartbeats 400000 in
theorem turn_any (x : Nat) (hx : x < 4294967296) (w : World) :
    Calls Try.prog 83 #[.int .u32 x] w fun e w' => e = .returned (.int .u32 (Crc.turn x)) ∧ w = w' := by
  go_enter Try.func83, Try.ntmps83
  go_wp2
  go_ret
  exact ⟨ret_int (by unfold Crc.turn; omega), rfl⟩

set_option maxRecDepth 100000 in
set_option maxHeartbeats 400000 in
theorem refmore_any (s0 : Nat) (h0 : s0 < 4294967296) (s : ByteArray) (hs : s.size ≤ maxLen) (w : World) :
    Calls Try.prog 30 #[.int .u32 s0, .string s] w fun e w' => e = .returned (.int .u32 (Crc.more s0 s.data.toList)) ∧ w = w' := by
  unfold maxLen at hs
  go_enter Try.func30, Try.ntmps30
  go_wp2_with fail
  refine (turn_any _ h0 _).mono ?_
  rintro e w1 ⟨rfl, rfl⟩
  go_wp2
  go_loop [5, 6] (fun x i => ∃ k : Nat, k ≤ s.size ∧ i = .int .i64 k ∧ x = .int .u32 (Crc.run (Crc.turn s0) (s.data.toList.take k))) (fun _ i => s.size - (intOf i).toNat)
  case atStart => exact ⟨0, Nat.zero_le _, rfl, rfl⟩
  case round =>
    obtain ⟨k, hks, rfl, rfl⟩ := hrel
    have hr := Crc.run_lt (Crc.turn_lt s0) (s.data.toList.take k)
    have HR := Lib.hid (p := Crc.turn (Crc.run (Crc.turn s0) s.data.toList) = Crc.more s0 s.data.toList) rfl
    have HN := fun (hlt : k < s.size) => Lib.hid (run_snoc s k hlt (Crc.turn s0))
    by_cases hlt : k < s.size
    · have HS := HN hlt
      clear HN
      generalize Crc.run (Crc.turn s0) (s.data.toList.take k) = r at *
      have hbt := Crc.byte_lt s[k]
      have e1 : bits BinOp.xor IntKind.u32 (r : Int) (s[k].toNat : Int) = ((r ^^^ s[k].toNat : Nat) : Int) := u32_xor_nat _ _ hr (by omega)
      have hx0 : 0 ≤ bits BinOp.xor IntKind.u32 (r : Int) (s[k].toNat : Int) := by rw [e1]; omega
      have hx1 : bits BinOp.xor IntKind.u32 (r : Int) (s[k].toNat : Int) < 4294967296 := by rw [e1]; have := Crc.xor_lt (a := r) (b := s[k].toNat) 32 hr (by omega); omega
      have e2 : (bits BinOp.xor IntKind.u32 (r : Int) (s[k].toNat : Int) % 256).toNat = (r ^^^ s[k].toNat) % 256 := by rw [e1]; omega
      have E := Lib.hid e2; clear e1 e2
      go_wp2_with fail
      refine (entry_int _ (by omega) (by omega) _).mono ?_
      rintro e w2 ⟨rfl, rfl⟩
      rw [E.out]
      go_wp2
      go_round
      case rel =>
        refine ⟨k + 1, by omega, by go_num, ?_⟩
        rw [HS.out]
        have h4 : ((r : Int) / 256) = ((r / 256 : Nat) : Int) := by omega
        rw [h4, u32_xor_nat (Crc.it 8 ((r ^^^ s[k].toNat) % 256)) (r / 256) (Crc.it_lt 8 (by omega)) (by omega), Crc.xor_mod256, Nat.mod_eq_of_lt hbt]
        rfl
      case measure => simp [intOf]; omega
    · have hkk : s.data.toList.take k = s.data.toList := List.take_of_length_le (by simpa using (by omega : s.size ≤ k))
      rw [hkk] at hr ⊢
      clear hkk HN
      generalize Crc.run (Crc.turn s0) s.data.toList = r at *
      go_wp2_with fail
      refine (turn_any _ hr _).mono ?_
      rintro e w2 ⟨rfl, rfl⟩
      go_wp2
      go_ret
      exact ⟨ret_int (by rw [HR.out]), rfl⟩
set_option maxHeartbeats 400000 in
theorem refsum_any (s : ByteArray) (hs : s.size ≤ maxLen) (w : World) :
    Calls Try.prog 28 #[.string s] w fun e w' => e = .returned (.int .u32 (Crc.crc s.data.toList)) ∧ w = w' := by
  go_enter Try.func28, Try.ntmps28
  go_wp2_with fail
  refine (refmore_any 0 (by omega) s hs _).mono ?_
  rintro e w1 ⟨rfl, rfl⟩
  go_wp2
  go_ret
  exact ⟨rfl, rfl⟩

set_option maxRecDepth 100000 in
set_option maxHeartbeats 400000 in
theorem refseal_any (s : ByteArray) (hs : s.size ≤ 1000000) (w : World) :
    Calls Try.prog 32 #[.string s] w fun e w' => e = .returned (.string ⟨(Crc.sealed s.data.toList).toArray⟩) ∧ Below w.heap.size w w' := by
  go_enter Try.func32, Try.ntmps32
  go_wp2_with fail
  refine (refsum_any s (by unfold maxLen; omega) _).mono ?_
  rintro e w1 ⟨rfl, rfl⟩
  have hc := Crc.crc_lt s.data.toList
  have HS := Lib.hid (p := Crc.sealed s.data.toList = s.data.toList ++ Crc.tail (Crc.crc s.data.toList)) rfl
  generalize Crc.crc s.data.toList = c at *
  have hl : bc (Crc.tail c) = [Value.int IntKind.u8 ((c : Int) % 256), Value.int IntKind.u8 ((c : Int) / 256 % 256), Value.int IntKind.u8 ((c : Int) / 65536 % 256), Value.int IntKind.u8 ((c : Int) / 16777216)] := by
    simp [bc, Crc.tail, UInt8.toNat_ofNat']; omega
  have ho := Own.lit w 5 #[Value.int IntKind.u8 ((c : Int) % 256), Value.int IntKind.u8 ((c : Int) / 256 % 256), Value.int IntKind.u8 ((c : Int) / 65536 % 256), Value.int IntKind.u8 ((c : Int) / 16777216)] (by simp [maxLen]) (Nat.le_refl _)
  rw [show (#[Value.int IntKind.u8 ((c : Int) % 256), Value.int IntKind.u8 ((c : Int) / 256 % 256), Value.int IntKind.u8 ((c : Int) / 65536 % 256), Value.int IntKind.u8 ((c : Int) / 16777216)] : Array Value).toList = bc (Crc.tail c) from hl.symm] at ho
  clear hl
  have hlen : (Crc.tail c).length ≤ 4 := Nat.le_refl _
  go_wp2_with (refine wpList_string_of rfl 35 9 _ rfl 5 _ _ _ _ rfl Try.underlying35 Try.underlying5 Try.underlying9 ho ?_)
  go_ret
  refine ⟨?_, (Below.refl _ _).alloc (Nat.le_refl _) _⟩
  rw [HS.out]
  exact ret_str (str_app s _)
set_option maxRecDepth 100000 in
set_option maxHeartbeats 400000 in
theorem open_any (l : List UInt8) (hs : l.length ≤ 1000000) (w : World) :
    Calls Try.prog 25 #[.string ⟨l.toArray⟩] w fun e w' => e = .returned (.tuple #[.string ⟨(Crc.opens l).toArray⟩, .bool (Crc.opened l)]) ∧ Below w.heap.size w w' := by
  by_cases h4 : l.length < 4
  · go_enter Try.func25, Try.ntmps25
    go_wp2
    go_ret2
    exact ⟨by rw [Crc.opens, Crc.opened_short h4]; rfl, Below.refl _ _⟩
  · have hl : l.length - 4 ≤ l.length := by omega
    cases ho : Crc.opened l
    · have hb1 : (Crc.sealed (List.take (l.length - 4) l) == l) = false := Crc.opened_no ho h4
      have HO := Lib.hid ho; clear ho
      go_enter Try.func25, Try.ntmps25
      go_wp2_with fail
      refine (seal_any _ (by simp; omega) _).mono ?_
      rintro e w1 ⟨rfl, hb⟩
      go_wp2
      go_ret2
      exact ⟨by rw [Crc.opens, HO.out]; rfl, hb⟩
    · have hb1 : (Crc.sealed (List.take (l.length - 4) l) == l) = true := Crc.opened_yes ho
      have HO := Lib.hid ho; clear ho
      go_enter Try.func25, Try.ntmps25
      go_wp2_with fail
      refine (seal_any _ (by simp; omega) _).mono ?_
      rintro e w1 ⟨rfl, hb⟩
      go_wp2
      go_ret2
      exact ⟨by rw [Crc.opens, HO.out]; simp [str_take], hb⟩
set_option maxRecDepth 100000 in
set_option maxHeartbeats 400000 in
theorem refopen_any (l : List UInt8) (hs : l.length ≤ 1000000) (w : World) :
    Calls Try.prog 26 #[.string ⟨l.toArray⟩] w fun e w' => e = .returned (.tuple #[.string ⟨(Crc.opens l).toArray⟩, .bool (Crc.opened l)]) ∧ Below w.heap.size w w' := by
  by_cases h4 : l.length < 4
  · go_enter Try.func26, Try.ntmps26
    go_wp2
    go_ret2
    exact ⟨by rw [Crc.opens, Crc.opened_short h4]; rfl, Below.refl _ _⟩
  · have hl : l.length - 4 ≤ l.length := by omega
    cases ho : Crc.opened l
    · have hb1 : (Crc.sealed (List.take (l.length - 4) l) == l) = false := Crc.opened_no ho h4
      have HO := Lib.hid ho; clear ho
      go_enter Try.func26, Try.ntmps26
      go_wp2_with fail
      refine (refseal_any _ (by simp; omega) _).mono ?_
      rintro e w1 ⟨rfl, hb⟩
      go_wp2
      go_ret2
      exact ⟨by rw [Crc.opens, HO.out]; rfl, hb⟩
    · have hb1 : (Crc.sealed (List.take (l.length - 4) l) == l) = true := Crc.opened_yes ho
      have HO := Lib.hid ho; clear ho
      go_enter Try.func26, Try.ntmps26
      go_wp2_with fail
      refine (refseal_any _ (by simp; omega) _).mono ?_
      rintro e w1 ⟨rfl, hb⟩
      go_wp2
      go_ret2
      exact ⟨by rw [Crc.opens, HO.out]; simp [str_take], hb⟩
theorem more_l (s0 : Int) (h0 : 0 ≤ s0) (h1 : s0 < 4294967296) (l : List UInt8) (hl : l.length ≤ 1000000) (w : World) :
    Calls Try.prog 29 #[.int .u32 s0, .string ⟨l.toArray⟩] w fun e w' => e = .returned (.int .u32 (Crc.more s0.toNat l)) ∧ Below w.heap.size w w' := by
  obtain ⟨n, rfl⟩ := Int.eq_ofNat_of_zero_le h0
  exact more_any n (by omega) ⟨l.toArray⟩ (by show l.toArray.size ≤ maxLen; unfold maxLen; simp; omega) w
theorem refmore_l (s0 : Int) (h0 : 0 ≤ s0) (h1 : s0 < 4294967296) (l : List UInt8) (hl : l.length ≤ 1000000) (w : World) :
    Calls Try.prog 30 #[.int .u32 s0, .string ⟨l.toArray⟩] w fun e w' => e = .returned (.int .u32 (Crc.more s0.toNat l)) ∧ w = w' := by
  obtain ⟨n, rfl⟩ := Int.eq_ofNat_of_zero_le h0
  exact refmore_any n (by omega) ⟨l.toArray⟩ (by show l.toArray.size ≤ maxLen; unfold maxLen; simp; omega) w
theorem sum_l (l : List UInt8) (hl : l.length ≤ 1000000) (w : World) :
    Calls Try.prog 27 #[.string ⟨l.toArray⟩] w fun e w' => e = .returned (.int .u32 (Crc.crc l)) ∧ Below w.heap.size w w' :=
  sum_any ⟨l.toArray⟩ (by show l.toArray.size ≤ maxLen; unfold maxLen; simp; omega) w
theorem refsum_l (l : List UInt8) (hl : l.length ≤ 1000000) (w : World) :
    Calls Try.prog 28 #[.string ⟨l.toArray⟩] w fun e w' => e = .returned (.int .u32 (Crc.crc l)) ∧ w = w' :=
  refsum_any ⟨l.toArray⟩ (by show l.toArray.size ≤ maxLen; unfold maxLen; simp; omega) w
theorem seal_l (l : List UInt8) (hl : l.length ≤ 1000000) (w : World) :
    Calls Try.prog 31 #[.string ⟨l.toArray⟩] w fun e w' => e = .returned (.string ⟨(Crc.sealed l).toArray⟩) ∧ Below w.heap.size w w' :=
  seal_any ⟨l.toArray⟩ (by show l.toArray.size ≤ 1000000; simpa using hl) w
theorem refseal_l (l : List UInt8) (hl : l.length ≤ 1000000) (w : World) :
    Calls Try.prog 32 #[.string ⟨l.toArray⟩] w fun e w' => e = .returned (.string ⟨(Crc.sealed l).toArray⟩) ∧ Below w.heap.size w w' :=
  refseal_any ⟨l.toArray⟩ (by show l.toArray.size ≤ 1000000; simpa using hl) w

end Go.Proofs.Ytfojjklohbiffaa
