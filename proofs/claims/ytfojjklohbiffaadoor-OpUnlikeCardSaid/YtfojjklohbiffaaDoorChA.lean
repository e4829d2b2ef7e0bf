/- Operations' forms: what a dot is covered by; the walks of Covers, and of the document's. -/
import Derived.Test.YtfojjklohbiffaaDoorOpF
import Derived.Test.YtfojjklohbiffaaDoorSameC
namespace Go.Proofs.YtfojjklohbiffaaDoor
open Go.RowKit Tran Tran.Wire
set_option linter.unusedVariables false
set_option linter.unusedSimpArgs false
/-- is a dot covered by what an operation's replica knew? -/
def cov (x : NOp) (r n : Nat) : Prop := r < 8 ∧ 1 ≤ n ∧ n ≤ x.dep.getD r 0
instance (x : NOp) (r n : Nat) : Decidable (cov x r n) := by unfold cov; infer_instance
theorem dep_at {x : NOp} (lv : Value) (h8 : x.dep.length = 8) {r : Nat} (hr : r < 8) : (opA x lv)[2 + r]? = some (.int .u32 ((x.dep.getD r 0 : Nat) : Int)) := by
  cases x
  obtain ⟨_, _, _, _, _, _, _, _, rfl⟩ := dep8 h8
  rcases r with _ | _ | _ | _ | _ | _ | _ | _ | r <;> first | rfl | omega
theorem ix26 {g o r : Nat} (hr : r < 8) (W : World) : (Instr.indexAt 26 (.pointer (some ⟨g, o, none⟩)) (.int .u8 (r : Int))).run Tryd.prog W = .ok (.pointer (some ⟨g, o + r, none⟩)) W := by
  have h1 : (0 : Int) ≤ (r : Int) := by omega
  have h2 : (r : Int) < 8 := by omega
  go_simp
/-- the worlds of a walk that begins with two boxes -/
theorem two_new (w : World) (A B : Array Value) (t u : TypeId) : Blk ((w.alloc (.cells A t)).alloc (.cells B u)) w.heap.size t A ∧ Blk ((w.alloc (.cells A t)).alloc (.cells B u)) (w.heap.size + 1) u B ∧ Below w.heap.size w ((w.alloc (.cells A t)).alloc (.cells B u)) := by
  refine ⟨(Blk.new w t A).alloc _, ?_, ((Below.refl w.heap.size w).alloc (Nat.le_refl _) _).alloc (by simp) _⟩
  have := Blk.new (w.alloc (.cells A t)) u B
  rwa [show (w.alloc (.cells A t)).heap.size = w.heap.size + 1 by simp] at this
set_option maxRecDepth 100000 in
set_option maxHeartbeats 8000000 in
theorem cov_any (w : World) (x : NOp) (lv : Value) (r n : Nat) (hx : x.ok) (hr : r < 256) (hn : n < 4294967296) : Calls Tryd.prog 9 #[.agg (opA x lv), .agg #[.int .u8 (r : Int), .int .u32 (n : Int)]] w fun e w' => e = .returned (.bool (decide (cov x r n))) ∧ Below w.heap.size w w' := by
  obtain ⟨k0, k1, hb⟩ := two_new w (opA x lv) #[.int .u8 (r : Int), .int .u32 (n : Int)] 30 24
  have cr : _ = some (Value.int .u8 (r : Int)) := k1.cell 0
  have cn : _ = some (Value.int .u32 (n : Int)) := k1.cell 1
  have cd := fun (h : r < 8) => (k0.cell (2 + r)).trans (dep_at lv hx.dep8 h)
  have HB := Lib.hid hb
  have HC : Hid (cov x r n ↔ (r < 8 ∧ 1 ≤ n ∧ n ≤ x.dep.getD r 0)) := Lib.hid Iff.rfl
  generalize x.dep.getD r 0 = d at *
  generalize opA x lv = X at *
  clear k0 k1 hb hx
  by_cases h1 : r < 8
  · have e1 : decide ((r : Int) < 8) = true := decide_eq_true (by omega)
    have cd := cd h1
    have IX := fun W => ix26 (g := w.heap.size) (o := 2) h1 W
    by_cases h2 : 1 ≤ n
    · have e2 : decide ((0 : Int) < (n : Int)) = true := decide_eq_true (by omega)
      have f2 : decide (0 < n) = true := decide_eq_true (by omega)
      by_cases h3 : n ≤ d
      · have e3 : decide ((n : Int) ≤ (d : Int)) = true := decide_eq_true (by omega)
        have f3 : decide (n ≤ d) = true := decide_eq_true (by omega)
        rw [decide_eq_true (HC.out.2 ⟨h1, h2, h3⟩)]
        clear h1 h2 h3 HC
        go_enter Tryd.func9, Tryd.ntmps9
        go_wp2_with fail
        go_quiet (fail)
        go_wp2_with fail
        go_ret
        exact ⟨rfl, below_drewN HB.out _⟩
      · have e3 : decide ((n : Int) ≤ (d : Int)) = false := decide_eq_false (by omega)
        have f3 : decide (n ≤ d) = false := decide_eq_false (by omega)
        rw [decide_eq_false (fun h => h3 (HC.out.1 h).2.2)]
        clear h1 h2 h3 HC
        go_enter Tryd.func9, Tryd.ntmps9
        go_wp2_with fail
        go_quiet (fail)
        go_wp2_with fail
        go_ret
        exact ⟨rfl, below_drewN HB.out _⟩
    · have e2 : decide ((0 : Int) < (n : Int)) = false := decide_eq_false (by omega)
      have f2 : decide (0 < n) = false := decide_eq_false (by omega)
      rw [decide_eq_false (fun h => h2 (HC.out.1 h).2.1)]
      clear h1 h2 HC
      go_enter Tryd.func9, Tryd.ntmps9
      go_wp2_with fail
      go_quiet (fail)
      go_wp2_with fail
      go_ret
      exact ⟨rfl, below_drewN HB.out _⟩
  · have e1 : decide ((r : Int) < 8) = false := decide_eq_false (by omega)
    rw [decide_eq_false (fun h => h1 (HC.out.1 h).1)]
    clear h1 HC
    go_enter Tryd.func9, Tryd.ntmps9
    go_wp2_with fail
    go_quiet (fail)
    go_wp2_with fail
    go_ret
    exact ⟨rfl, below_drewN HB.out _⟩
set_option maxRecDepth 100000 in
set_option maxHeartbeats 8000000 in
theorem tcov_any (w : World) (x : NOp) (lv : Value) (r n : Nat) (hx : x.ok) (hr : r < 256) (hn : n < 4294967296) : Calls Tryd.prog 10 #[.agg (opA x lv), .agg #[.int .u8 (r : Int), .int .u32 (n : Int)]] w fun e w' => e = .returned (.bool (decide (cov x r n))) ∧ Below w.heap.size w w' := by
  obtain ⟨k0, k1, hb⟩ := two_new w (opA x lv) #[.int .u8 (r : Int), .int .u32 (n : Int)] 30 24
  have cr : _ = some (Value.int .u8 (r : Int)) := k1.cell 0
  have cn : _ = some (Value.int .u32 (n : Int)) := k1.cell 1
  have cd := fun (h : r < 8) => (k0.cell (2 + r)).trans (dep_at lv hx.dep8 h)
  have HB := Lib.hid hb
  have HC : Hid (cov x r n ↔ (r < 8 ∧ 1 ≤ n ∧ n ≤ x.dep.getD r 0)) := Lib.hid Iff.rfl
  generalize x.dep.getD r 0 = d at *
  generalize opA x lv = X at *
  clear k0 k1 hb hx
  by_cases h1 : r < 8
  · have e1 : decide ((r : Int) < 8) = true := decide_eq_true (by omega)
    have cd := cd h1
    have IX := fun W => ix26 (g := w.heap.size) (o := 2) h1 W
    by_cases h2 : 1 ≤ n
    · have e2 : decide ((1 : Int) ≤ (n : Int)) = true := decide_eq_true (by omega)
      have f2 : decide (1 ≤ n) = true := decide_eq_true (by omega)
      have g2 : decide (0 < n) = true := decide_eq_true (by omega)
      by_cases h3 : n ≤ d
      · have e3 : decide ((n : Int) ≤ (d : Int)) = true := decide_eq_true (by omega)
        have f3 : decide (n ≤ d) = true := decide_eq_true (by omega)
        rw [decide_eq_true (HC.out.2 ⟨h1, h2, h3⟩)]
        clear h1 h2 h3 HC
        go_enter Tryd.func10, Tryd.ntmps10
        go_wp2_with fail
        go_quiet (fail)
        go_wp2_with fail
        go_ret
        exact ⟨rfl, below_drewN HB.out _⟩
      · have e3 : decide ((n : Int) ≤ (d : Int)) = false := decide_eq_false (by omega)
        have f3 : decide (n ≤ d) = false := decide_eq_false (by omega)
        rw [decide_eq_false (fun h => h3 (HC.out.1 h).2.2)]
        clear h1 h2 h3 HC
        go_enter Tryd.func10, Tryd.ntmps10
        go_wp2_with fail
        go_quiet (fail)
        go_wp2_with fail
        go_ret
        exact ⟨rfl, below_drewN HB.out _⟩
    · have e2 : decide ((1 : Int) ≤ (n : Int)) = false := decide_eq_false (by omega)
      have f2 : decide (1 ≤ n) = false := decide_eq_false (by omega)
      have g2 : decide (0 < n) = false := decide_eq_false (by omega)
      rw [decide_eq_false (fun h => h2 (HC.out.1 h).2.1)]
      clear h1 h2 HC
      go_enter Tryd.func10, Tryd.ntmps10
      go_wp2_with fail
      go_quiet (fail)
      go_wp2_with fail
      go_ret
      exact ⟨rfl, below_drewN HB.out _⟩
  · have e1 : decide ((r : Int) < 8) = false := decide_eq_false (by omega)
    rw [decide_eq_false (fun h => h1 (HC.out.1 h).1)]
    clear h1 HC
    go_enter Tryd.func10, Tryd.ntmps10
    go_wp2_with fail
    go_quiet (fail)
    go_wp2_with fail
    go_ret
    exact ⟨rfl, below_drewN HB.out _⟩
end Go.Proofs.YtfojjklohbiffaaDoor
