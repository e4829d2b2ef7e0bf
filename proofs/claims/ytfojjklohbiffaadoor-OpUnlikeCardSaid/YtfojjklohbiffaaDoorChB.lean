/- Operations' forms: what a kind has: the walks of Has, in, and of right's closure. -/
import Derived.Test.YtfojjklohbiffaaDoorChA
namespace Go.Proofs.YtfojjklohbiffaaDoor
open Go.RowKit Tran Tran.Wire
set_option linter.unusedVariables false
set_option linter.unusedSimpArgs false
/-- the letters of a kind -/
def hasF : Nat → List UInt8
  | 1 => [99, 116, 114, 100, 112]
  | 2 => [99, 97]
  | 3 => [99, 105, 113, 101]
  | 4 => [99, 97, 113]
  | 5 => [99, 97]
  | 6 => [99, 97, 118]
  | 7 => [99, 97, 118]
  | 8 => [99, 108]
  | _ => []
theorem ixs (l : List UInt8) (k : Nat) (u : UInt8) (h : l[k]? = some u) (W : World) : (Instr.index 9 (.string ⟨l.toArray⟩) (.int .i64 (k : Int))).run Tryd.prog W = .ok (.int .u8 (u.toNat : Int)) W := by
  have hk : k < l.length := (List.getElem?_eq_some_iff.1 h).1
  have h1 : (0 : Int) ≤ (k : Int) := by omega
  have h2 : (k : Int) < (l.length : Int) := by omega
  have h3 : l[k] = u := (List.getElem?_eq_some_iff.1 h).2
  go_simp
  rw [← h3]
  rfl
set_option maxRecDepth 100000 in
set_option maxHeartbeats 4000000 in
theorem in_any (w : World) (s : List UInt8) (c : UInt8) (hs : s.length ≤ 1000) : Calls Tryd.prog 23 #[.string ⟨s.toArray⟩, .int .u8 (c.toNat : Int)] w fun e w' => e = .returned (.bool (s.contains c)) ∧ Below w.heap.size w w' := by
  have HS := Lib.hid hs
  have HC : Hid (s.contains c = true ↔ ∃ j, j < s.length ∧ s.getD j 0 = c) := Lib.hid (by
    rw [List.contains_iff_mem, List.mem_iff_getElem]
    constructor
    · rintro ⟨j, hj, h⟩
      exact ⟨j, hj, by simp [hj, h]⟩
    · rintro ⟨j, hj, h⟩
      exact ⟨j, hj, by simpa [hj] using h⟩)
  generalize s.contains c = r at *
  clear hs
  go_enter Tryd.func23, Tryd.ntmps23
  go_wp2_with fail
  go_loopw [5] (fun i wr => ∃ k : Nat, k ≤ s.length ∧ i = .int .i64 (k : Int) ∧ (∀ j, j < k → s.getD j 0 ≠ c) ∧ Below w.heap.size w wr) (fun i _ => s.length - (intOf i).toNat)
  case atStart => exact ⟨0, by omega, rfl, by intro j hj; omega, Below.refl _ _⟩
  case round =>
    obtain ⟨k, hk, rfl, hno, hb⟩ := hrel
    have HNO := Lib.hid hno
    have HB := Lib.hid hb
    clear hno hb
    by_cases hlt : k < s.length
    · have hd : decide ((k : Int) < (s.length : Int)) = true := decide_eq_true (by omega)
      have hd2 : decide (k < s.length) = true := decide_eq_true hlt
      have HWR := Lib.hid (show wrap64 ((k : Int) + 1) = ((k + 1 : Nat) : Int) by rw [IntWalk.wrap64_in _ (by have := HS.out; omega)]; omega)
      have IX : ∀ W, (Instr.index 9 (.string ⟨s.toArray⟩) (.int .i64 (k : Int))).run Tryd.prog W = .ok (.int .u8 ((s.getD k 0).toNat : Int)) W := fun W => ixs s k _ (by simp [hlt]) W
      by_cases he : s.getD k 0 = c
      · have h3 : (((s.getD k 0).toNat : Int) == (c.toNat : Int)) = true := by rw [he]; exact beq_self_eq_true _
        have HE := Lib.hid (HC.out.2 ⟨k, hlt, he⟩)
        generalize s.getD k 0 = u at *
        clear he
        go_wp2_with fail
        go_ret
        exact ⟨by rw [HE.out]; rfl, HB.out⟩
      · have h3 : (((s.getD k 0).toNat : Int) == (c.toNat : Int)) = false := by
          rw [beq_eq_false_iff_ne]
          intro h
          exact he (UInt8.toNat_inj.1 (by omega))
        have HE := Lib.hid he
        generalize hu : s.getD k 0 = u at *
        have HU := Lib.hid hu
        clear he hu
        go_wp2_with fail
        go_roundw
        case rel =>
          refine ⟨k + 1, by omega, by rw [HWR.out], fun j hj => ?_, HB.out⟩
          by_cases hjk : j = k
          · rw [hjk, HU.out]; exact HE.out
          · exact HNO.out j (by omega)
        case measure => rw [HWR.out]; simp [intOf]; omega
    · have hd : decide ((k : Int) < (s.length : Int)) = false := decide_eq_false (by omega)
      have hd2 : decide (k < s.length) = false := decide_eq_false hlt
      have HE := Lib.hid (show r = false by
        cases hr : r with
        | false => rfl
        | true =>
          obtain ⟨j, hj, h⟩ := HC.out.1 hr
          exact absurd h (HNO.out j (by omega)))
      go_wp2_with fail
      go_ret
      exact ⟨by rw [HE.out]; rfl, HB.out⟩
set_option maxRecDepth 100000 in
set_option maxHeartbeats 4000000 in
theorem has_any (w : World) (k : Nat) (hk : k ≤ 8) : Calls Tryd.prog 22 #[.int .u8 (k : Int)] w fun e w' => e = .returned (.string ⟨(hasF k).toArray⟩) ∧ Below w.heap.size w w' := by
  obtain rfl | rfl | rfl | rfl | rfl | rfl | rfl | rfl | rfl : k = 0 ∨ k = 1 ∨ k = 2 ∨ k = 3 ∨ k = 4 ∨ k = 5 ∨ k = 6 ∨ k = 7 ∨ k = 8 := by omega
  all_goals
    go_enter Tryd.func22, Tryd.ntmps22
    go_wp2_with fail
    go_ret
    exact ⟨rfl, (Below.refl _ _).alloc (Nat.le_refl _) _⟩
set_option maxRecDepth 100000 in
set_option maxHeartbeats 4000000 in
theorem rhas_any (w : World) (g : Nat) (h what : Int) (is : Bool) (k : Blk w g 5 #[.int .u8 h]) :
    Calls Tryd.prog 46 #[.int .u8 what, .bool is, .pointer (some ⟨g, 0, none⟩)] w fun e w' => e = .returned (.bool ((bits .and .u8 h what == 0) || is)) ∧ Below w.heap.size w w' := by
  have c0 : _ = some (Value.int .u8 h) := k.cell 0
  clear k
  cases hm : bits .and .u8 h what == 0 with
  | true =>
    go_enter Tryd.func46, Tryd.ntmps46
    go_wp2_with fail
    go_ret
    exact ⟨by simp, Below.refl _ _⟩
  | false =>
    go_enter Tryd.func46, Tryd.ntmps46
    go_wp2_with fail
    go_ret
    exact ⟨by simp, Below.refl _ _⟩
end Go.Proofs.YtfojjklohbiffaaDoor
