/- The document's bytes of numbers, texts, dots and vectors. -/
import Derived.Test.YtfojjklohbiffaaDoorWireV
import Derived.Deep.RegionWith
namespace Go.Proofs.YtfojjklohbiffaaDoor
open Go.RowKit Tran Tran.Wire
set_option linter.unusedVariables false
theorem conv1 (W : World) (g : Nat) (b : UInt8) (h : W.cell? ⟨g, 0, none⟩ = some (.int .u8 (b.toNat : Int))) : (convert 48 9 (.slice (some ⟨g, 0, none⟩) 1 1)).run Tryd.prog W = .ok (.string ⟨#[b]⟩) W :=
  run_convert_bytes_back W 48 9 5 ⟨g, 0, none⟩ 1 [b] Tryd.underlying48 Tryd.underlying5 Tryd.underlying9 (fun j hj => by
    have hj0 : j = 0 := by simpa using hj
    subst hj0
    rw [add_zero]; exact h)
theorem conv1_new (W : World) (b : UInt8) : (convert 48 9 (.slice (some ⟨W.heap.size, 0, none⟩) 1 1)).run Tryd.prog (W.alloc (.cells #[.int .u8 (b.toNat : Int)] 5)) = .ok (.string ⟨#[b]⟩) (W.alloc (.cells #[.int .u8 (b.toNat : Int)] 5)) :=
  conv1 _ _ b ((Blk.new W 5 _).cell 0)
set_option maxRecDepth 100000 in
set_option maxHeartbeats 2000000 in
theorem digits_any (n : Nat) : n < 2 ^ 64 → ∀ w, Calls Tryd.prog 48 #[.int .u64 n] w fun e w' => e = .returned (.string ⟨(dig n).toArray⟩) ∧ Below w.heap.size w w' := by
  induction n using Nat.strongRecOn with
  | _ n ih =>
    intro hn w
    by_cases h0 : n = 0
    · subst h0
      rw [dig_zero]
      go_enter Tryd.func48, Tryd.ntmps48
      go_wp2
      go_ret
      exact ⟨rfl, Below.refl _ _⟩
    · have IH := Lib.hid (ih (n / 256) (by omega) (by omega))
      clear ih
      have h0' : ((n : Int) == 0) = false := by rw [beq_eq_false_iff_ne]; omega
      go_enter Tryd.func48, Tryd.ntmps48
      go_wp2_with fail
      have hq : IntKind.u64.wrap ((n : Int) / 256) = (n : Int) / 256 := IntWalk.u64_in _ (by omega)
      have hr : IntKind.u8.wrap ((n : Int).tmod 256) = (((UInt8.ofNat n).toNat : Nat) : Int) := by
        rw [UInt8.toNat_ofNat', Int.tmod_eq_emod_of_nonneg (by omega)]
        have e : ((n % 2 ^ 8 : Nat) : Int) = (n : Int) % 256 := by omega
        rw [e]; exact IntWalk.u8_in _ (by omega)
      have hdl := dig_le (n / 256) 8 (by omega)
      obtain ⟨b, hbb⟩ : ∃ b, b = UInt8.ofNat n := ⟨_, rfl⟩
      rw [← hbb] at hr
      have HB := Lib.hid hbb
      clear hbb hn
      have hcv := fun W => conv1_new W b
      have hcv2 := fun W : World => conv1 ((W.alloc (.cells #[.int .u8 (b.toNat : Int)] 5)).drew) W.heap.size b ((Blk.new W 5 _).cell 0)
      go_region_with ((go_at_call 48; refine (IH.out _).mono ?_; rintro e w1 ⟨rfl, b1⟩; try (have hc1 : w1.cell? ⟨w.heap.size, 0, none⟩ = some (.int .u8 (b.toNat : Int)) := (by rw [b1.cell (by simp)]; exact (Blk.new w 5 _).cell 0); have hc2 := conv1 w1 w.heap.size b hc1)))
      all_goals
        go_wp2
        go_ret
        refine ⟨ret_str ?_, ?_⟩
        · rw [str_app, dig_pos h0, HB.out]
        · first
            | exact ((below_drew (Below.refl w.heap.size w)).trans b1).alloc b1.size _
            | exact (below_drew ((Below.refl w.heap.size w).alloc (Nat.le_refl _) _)).trans (b1.mono (by simp))
set_option maxRecDepth 100000 in
set_option maxHeartbeats 2000000 in
theorem tnum_any (n : Nat) (hn : n < 2 ^ 64) (w : World) : Calls Tryd.prog 35 #[.int .u64 n] w fun e w' => e = .returned (.string ⟨(numF n).toArray⟩) ∧ Below w.heap.size w w' := by
  by_cases h1 : n < 128
  · have HS := Lib.hid (p := numF n = [UInt8.ofNat n]) (by unfold numF; rw [if_pos h1])
    have hr : IntKind.u8.wrap (n : Int) = (((UInt8.ofNat n).toNat : Nat) : Int) := by
      rw [UInt8.toNat_ofNat']
      have e : ((n % 2 ^ 8 : Nat) : Int) = (n : Int) := by omega
      rw [e]; exact IntWalk.u8_in _ (by omega)
    obtain ⟨b, hbb⟩ : ∃ b, b = UInt8.ofNat n := ⟨_, rfl⟩
    rw [← hbb] at hr HS
    have hcv := fun W => conv1_new W b
    have HR := Lib.hid hr
    have hnb : (n : Int) = ((b.toNat : Nat) : Int) := by rw [← hr]; exact (IntWalk.u8_in _ (by omega)).symm
    have hcv := hcv w
    rw [← hnb] at hcv
    have hnb := Lib.hid hnb
    clear hn hbb hr
    go_enter Tryd.func35, Tryd.ntmps35
    go_wp2
    go_ret
    rw [HS.out]
    exact ⟨rfl, (Below.refl _ _).alloc (Nat.le_refl _) _⟩
  · have HD := Lib.hid (digits_any n hn)
    have hdl := dig_le n 8 (by omega)
    have HS := Lib.hid (p := numF n = UInt8.ofNat (128 + (dig n).length) :: dig n) (by unfold numF; rw [if_neg h1])
    generalize dig n = d at *
    obtain ⟨b, hbb⟩ : ∃ b, b = UInt8.ofNat (128 + d.length) := ⟨_, rfl⟩
    have hnb : (128 : Int) + (d.length : Nat) = ((b.toNat : Nat) : Int) := by
      rw [hbb, UInt8.toNat_ofNat']; omega
    have hcv := fun W => conv1_new W b
    rw [← hbb] at HS
    clear hn hbb
    go_enter Tryd.func35, Tryd.ntmps35
    go_wp2_with fail
    refine (HD.out w).mono ?_
    rintro e w1 ⟨rfl, b1⟩
    go_wp2
    go_ret
    rw [HS.out]
    exact ⟨rfl, b1.alloc b1.size _⟩
set_option maxRecDepth 100000 in
set_option maxHeartbeats 4000000 in
theorem tdot_any (r n : Nat) (hr : r < 256) (hn : n < 4294967296) (w : World) : Calls Tryd.prog 33 #[.agg #[.int .u8 r, .int .u32 n]] w fun e w' => e = .returned (.string ⟨(dotF r n).toArray⟩) ∧ Below w.heap.size w w' := by
  have N1 := Lib.hid (tnum_any r (by omega))
  have N2 := Lib.hid (tnum_any n (by omega))
  have l1 := (numF_len r (by omega)).1
  have l2 := (numF_len n (by omega)).1
  have HS := Lib.hid (p := dotF r n = numF r ++ numF n) rfl
  generalize numF r = x at *
  generalize numF n = y at *
  have w1 : IntKind.u64.wrap (r : Int) = (r : Int) := IntWalk.u64_in _ (by omega)
  have w2 : IntKind.u64.wrap (n : Int) = (n : Int) := IntWalk.u64_in _ (by omega)
  go_enter Tryd.func33, Tryd.ntmps33
  go_wp2_with fail
  go_region_with (first
    | (go_at_call 35; (with_reducible refine (N1.out _).mono ?_); rintro e w1 ⟨rfl, b1⟩; try (have hc1 : w1.cell? ⟨w.heap.size, 1, none⟩ = some (.int .u32 (n : Int)) := (by rw [b1.cell (by simp)]; exact (Blk.new w 24 _).cell 1)))
    | (go_at_call 35; (with_reducible refine (N2.out _).mono ?_); rintro e w2 ⟨rfl, b2⟩; try (have hc0 : w2.cell? ⟨w.heap.size, 0, none⟩ = some (.int .u8 (r : Int)) := (by rw [b2.cell (by simp)]; exact (Blk.new w 24 _).cell 0))))
  all_goals
    go_wp2
    go_ret
    refine ⟨ret_str (by rw [HS.out, str_app]), ?_⟩
    have B0 := below_drew ((Below.refl w.heap.size w).alloc (Nat.le_refl _) (.cells #[.int .u8 (r : Int), .int .u32 (n : Int)] 24))
    first
      | exact (B0.trans (b1.mono (by simp))).trans (b2.mono (B0.trans (b1.mono (by simp))).size)
      | exact (B0.trans (b2.mono (by simp))).trans (b1.mono (B0.trans (b2.mono (by simp))).size)
theorem vecF_succ (xs : List Nat) (k : Nat) (hk : k < xs.length) : vecF (xs.take (k + 1)) = vecF (xs.take k) ++ numF (xs.getD k 0) := by
  rw [List.take_succ_eq_append_getElem hk, vecF, List.flatMap_append]; simp [vecF, hk]
theorem vecF_len (xs : List Nat) (hn : ∀ x ∈ xs, x < 2 ^ 32) : (vecF xs).length ≤ 9 * xs.length := by
  induction xs with
  | nil => simp [vecF]
  | cons x xs ih =>
    have h1 := (numF_len x (by have := hn x (by simp); omega)).1
    have h2 := ih fun y hy => hn y (by simp [hy])
    simp only [vecF, List.flatMap_cons, List.length_append, List.length_cons] at h2 ⊢
    omega
set_option maxRecDepth 100000 in
set_option maxHeartbeats 4000000 in
theorem tvec_any (xs : List Nat) (hx : xs.length = 8) (hn : ∀ x ∈ xs, x < 2 ^ 32) (w : World) : Calls Tryd.prog 34 #[.agg (vecA xs)] w fun e w' => e = .returned (.string ⟨(vecF xs).toArray⟩) ∧ Below w.heap.size w w' := by
  have l0 := (Below.refl w.heap.size w).alloc (Nat.le_refl _) (.cells (vecA xs) 26)
  have hb0 := Blk.new w 26 (vecA xs)
  have hvs := vecA_size xs
  rw [hx] at hvs
  have hvg : ∀ k, k < 8 → (vecA xs)[k]? = some (.int .u32 ((xs.getD k 0 : Nat) : Int)) := fun k hk => by
    have hk2 : k < xs.length := by rw [hx]; exact hk
    simp [vecA, hk2]
  have HN := Lib.hid (fun k (hk : k < 8) => (by
    have hk2 : k < xs.length := by rw [hx]; exact hk
    have : xs.getD k 0 = xs[k] := by simp [hk2]
    rw [this]; exact hn _ (List.getElem_mem hk2) : xs.getD k 0 < 2 ^ 32))
  have HLL := Lib.hid (fun k (hk : k < 8) => vecF_succ xs k (by omega))
  have HVG := Lib.hid hvg
  have HF8 := Lib.hid (fun k (hk : k ≤ 8) => (by
    have h1 := vecF_len (xs.take k) (fun y hy => hn y (List.mem_of_mem_take hy))
    have h2 : (xs.take k).length ≤ 8 := by rw [List.length_take]; omega
    omega : (vecF (xs.take k)).length ≤ 72))
  have HTK := Lib.hid (List.take_of_length_le (by omega) : xs.take 8 = xs)
  clear hvg hn hx
  go_enter Tryd.func34, Tryd.ntmps34
  go_wp2_with fail
  go_loopw [3, 4] (fun s i wr => ∃ k : Nat, k ≤ 8 ∧ i = .int .i64 k ∧ s = .string ⟨(vecF (xs.take k)).toArray⟩ ∧ Blk wr w.heap.size 26 (vecA xs) ∧ Below w.heap.size w wr) (fun _ i _ => 8 - (intOf i).toNat)
  case atStart => exact ⟨0, by omega, rfl, rfl, hb0, l0⟩
  case round =>
    clear hb0 l0
    obtain ⟨k, hk, rfl, rfl, hb, b1⟩ := hrel
    by_cases hk8 : k < 8
    · have hc := (hb.cell k).trans (HVG.out k hk8)
      have hxk := HN.out k hk8
      have N := Lib.hid (tnum_any (xs.getD k 0) (by omega))
      have hnl := (numF_len (xs.getD k 0) (by omega)).1
      have hfl := HF8.out k hk
      have HLK := Lib.hid (HLL.out k hk8)
      generalize xs.getD k 0 = x at *
      generalize numF x = y at *
      generalize vecF (xs.take k) = z at *
      go_wp2_with fail
      refine (N.out _).mono ?_
      rintro e w2 ⟨rfl, d2⟩
      have hb2 := hb.below d2 hb.lt
      have b2 := b1.trans (d2.mono b1.size)
      clear hc hb d2 b1
      go_wp2
      go_roundw
      case rel => exact ⟨k + 1, hk8, by go_num, by rw [HLK.out]; exact congrArg Value.string (str_app _ _), hb2, b2⟩
      case measure => simp [intOf]; omega
    · have hkk : k = 8 := by omega
      have e : xs.take k = xs := by rw [hkk]; exact HTK.out
      rw [e]
      clear hkk
      go_wp2
      go_ret
      exact ⟨rfl, b1⟩
end Go.Proofs.YtfojjklohbiffaaDoor
