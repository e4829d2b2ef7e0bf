/- Writers: Vector. -/
import Derived.Test.YtfojjklohbiffaaDoorWireB
namespace Go.Proofs.YtfojjklohbiffaaDoor
open Go.RowKit Tran Tran.Wire
set_option linter.unusedVariables false
theorem run_index_arr (W : World) (cs : Array Value) (k : Nat) (u : Value) (h : cs[k]? = some u) (hk : k < 8) : (Instr.index 26 (.agg cs) (.int .i64 k)).run Tryd.prog W = .ok u W := by
  have hl : k < cs.size := (Array.getElem?_eq_some_iff.1 h).1
  simp [Instr.index, run_underlying Tryd.underlying26, asIntOf, part, h]
  omega
/-- a vector's value -/
def vecA (xs : List Nat) : Array Value := (xs.map fun x => Value.int .u32 (x : Nat)).toArray
theorem vecA_size (xs : List Nat) : (vecA xs).size = xs.length := by simp [vecA]
theorem size54 : (Tryd.prog.info? 26).map (·.size) = some 8 := by kernel_rfl
def vecF (xs : List Nat) : List UInt8 := xs.flatMap numF
set_option maxRecDepth 100000 in
set_option maxHeartbeats 2000000 in
theorem wvec_any {w : World} {g B : Nat} {v : Value} {l : List UInt8} (h : WrAt w g B v l) (hB : B ≤ w.heap.size) (hl : l.length ≤ 900000000) (xs : List Nat) (hx : xs.length = 8) (hn : ∀ x ∈ xs, x < 2 ^ 32) :
    Calls Tryd.prog 31 #[.pointer (some ⟨g, 0, none⟩), .agg (vecA xs)] w (Wrote w g B v (l ++ vecF xs)) := by
  have l0 := (Below.refl w.heap.size w).alloc (Nat.le_refl _) (.cells (vecA xs) 26)
  have hb0 := Blk.new w 26 (vecA xs)
  have h0 := h.below l0
  have p0 := (Put.refl h).below l0
  have hvs := vecA_size xs
  rw [hx] at hvs
  have HX := Lib.hid hx
  have hvg : ∀ k, k < 8 → (vecA xs)[k]? = some (.int .u32 ((xs.getD k 0 : Nat) : Int)) := fun k hk => by
    have hk2 : k < xs.length := by rw [hx]; exact hk
    simp [vecA, hk2]
  have HN := Lib.hid (fun k (hk : k < 8) => (by
    have hk2 : k < xs.length := by rw [hx]; exact hk
    have : xs.getD k 0 = xs[k] := by simp [hk2]
    rw [this]; exact hn _ (List.getElem_mem hk2) : xs.getD k 0 < 2 ^ 32))
  have HL : ∀ k, k < 8 → vecF (xs.take (k + 1)) = vecF (xs.take k) ++ numF (xs.getD k 0) := fun k hk => by
    have hk2 : k < xs.length := by rw [hx]; exact hk
    rw [List.take_succ_eq_append_getElem hk2, vecF, List.flatMap_append]; simp [vecF, hk2]
  have HLL := Lib.hid HL
  have HVG := Lib.hid hvg
  have hf8 : ∀ k, k ≤ 8 → (vecF (xs.take k)).length ≤ 9 * k := by
    intro k
    induction k with
    | zero => intro _; simp [vecF]
    | succ k ih =>
      intro hk
      have := ih (by omega)
      have h2 := (numF_len (xs.getD k 0) (by have := HN.out k (by omega); omega)).1
      rw [HL k (by omega), List.length_append]; omega
  have HF8 := Lib.hid hf8
  have htk : xs.take 8 = xs := List.take_of_length_le (by omega)
  have HTK := Lib.hid htk
  clear HL hvg hn hx hf8 htk
  go_enter Tryd.func31, Tryd.ntmps31
  go_wp2_with (refine wpList_load_row rfl 26 _ rfl w.heap.size rfl 26 (vecA xs) (0, 0) _ hb0 Tryd.underlying26 rfl (by rw [hvs]; exact size54) ?_)
  have hlt := h.blk.lt
  have hltv := fun k hk => (h.own.lt k hk).2
  go_loopw [5, 7] (fun u i wr => ∃ k : Nat, ∃ v1, k ≤ 8 ∧ i = .int .i64 k ∧ Put w wr g B v v1 (l ++ vecF (xs.take k))) (fun _ i _ => 8 - (intOf i).toNat)
  case atStart => exact ⟨0, v, by omega, rfl, by simpa [vecF] using p0⟩
  case round =>
    obtain ⟨k, v1, hk, rfl, p⟩ := hrel
    by_cases hk8 : k < 8
    · have hg1 : ∀ W, (Instr.index 26 (.agg (vecA xs)) (.int .i64 k)).run Tryd.prog W = .ok (.int .u32 ((xs.getD k 0 : Nat) : Int)) W := fun W => run_index_arr W _ k _ (HVG.out k hk8) hk8
      have hB1 : B ≤ wr.heap.size := Nat.le_trans hB p.ch.size
      have hfl := HF8.out k hk
      have hxk := HN.out k hk8
      have N := Lib.hid (wnum_any p.wr hB1 (by rw [List.length_append]; omega) (xs.getD k 0) (by omega))
      have HLK := Lib.hid (HLL.out k hk8)
      generalize xs.getD k 0 = x at *
      go_wp2_with fail
      refine N.out.mono ?_
      rintro e w2 ⟨v2, rfl, p2⟩
      have p3 := p.trans p2
      rw [List.append_assoc, ← HLK.out] at p3
      go_wp2
      go_roundw
      case rel => exact ⟨k + 1, v2, hk8, by go_num, p3⟩
      case measure => simp [intOf]; omega
    · have hkk : k = 8 := by omega
      have e : xs.take k = xs := by rw [hkk]; exact HTK.out
      rw [e] at p
      clear hkk
      go_wp2
      refine bodyPost_end (results_none rfl _ _ _) rfl ?_
      exact ⟨v1, rfl, p⟩
set_option maxRecDepth 100000 in
set_option maxHeartbeats 2000000 in
theorem wvec_no {w : World} {q : Option Addr} (h : NoWr w (.pointer q)) (xs : List Nat) (hx : xs.length = 8) (hn : ∀ x ∈ xs, x < 2 ^ 32) :
    Calls Tryd.prog 31 #[.pointer q, .agg (vecA xs)] w fun e w' => e = .returned (.tuple #[]) ∧ Below w.heap.size w w' := by
  have l0 := (Below.refl w.heap.size w).alloc (Nat.le_refl _) (.cells (vecA xs) 26)
  have hb0 := Blk.new w 26 (vecA xs)
  have h0 : NoWr (w.alloc (.cells (vecA xs) 26)) (.pointer q) := by
    rcases h with h | ⟨g, h, hb⟩
    · exact .inl h
    · exact .inr ⟨g, h, hb.alloc _⟩
  have hvs := vecA_size xs
  rw [hx] at hvs
  have hvg : ∀ k, k < 8 → (vecA xs)[k]? = some (.int .u32 ((xs.getD k 0 : Nat) : Int)) := fun k hk => by
    have hk2 : k < xs.length := by rw [hx]; exact hk
    simp [vecA, hk2]
  have HN := Lib.hid (fun k (hk : k < 8) => (by
    have hk2 : k < xs.length := by rw [hx]; exact hk
    have : xs.getD k 0 = xs[k] := by simp [hk2]
    rw [this]; exact hn _ (List.getElem_mem hk2) : xs.getD k 0 < 2 ^ 32))
  have HVG := Lib.hid hvg
  clear hvg hn hx
  have HW := Lib.hid (fun n => wnum_no h0 n)
  go_enter Tryd.func31, Tryd.ntmps31
  go_wp2_with (refine wpList_load_row rfl 26 _ rfl w.heap.size rfl 26 (vecA xs) (0, 0) _ hb0 Tryd.underlying26 rfl (by rw [hvs]; exact size54) ?_)
  go_loopw [5, 7] (fun u i wr => ∃ k : Nat, k ≤ 8 ∧ i = .int .i64 k ∧ wr = w.alloc (.cells (vecA xs) 26)) (fun _ i _ => 8 - (intOf i).toNat)
  case atStart => exact ⟨0, by omega, rfl, rfl⟩
  case round =>
    obtain ⟨k, hk, rfl, rfl⟩ := hrel
    by_cases hk8 : k < 8
    · have hg1 : ∀ W, (Instr.index 26 (.agg (vecA xs)) (.int .i64 k)).run Tryd.prog W = .ok (.int .u32 ((xs.getD k 0 : Nat) : Int)) W := fun W => run_index_arr W _ k _ (HVG.out k hk8) hk8
      have hxk := HN.out k hk8
      generalize xs.getD k 0 = x at *
      go_wp2_with fail
      refine (HW.out x).mono ?_
      rintro e w2 ⟨rfl, rfl⟩
      go_wp2
      go_roundw
      case rel => exact ⟨k + 1, hk8, by go_num, by trivial⟩
      case measure => simp [intOf]; omega
    · go_wp2
      refine bodyPost_end (results_none rfl _ _ _) rfl ?_
      exact ⟨rfl, l0⟩
end Go.Proofs.YtfojjklohbiffaaDoor
