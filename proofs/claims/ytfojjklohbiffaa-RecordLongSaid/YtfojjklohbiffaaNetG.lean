/- What is done to nets: the list of acts, and whether it is great. -/
import Derived.Test.YtfojjklohbiffaaNetF
namespace Go.Proofs.Ytfojjklohbiffaa
open Go.RowKit Tran
/-- what is done -/
structure NAct where
  what : Int
  s : List UInt8
  place : Int
def NAct.ok (x : NAct) : Prop := 0 ≤ x.what ∧ x.what < 256
def actCells (l : List NAct) : List Value := l.flatMap fun x => [.int .u8 x.what, .string ⟨x.s.toArray⟩, .int .i64 x.place]
theorem flat3_get {α : Type} (f g h : α → Value) : ∀ (l : List α) (i : Nat) (hi : i < l.length),
    (l.flatMap fun x => [f x, g x, h x])[i * 3]? = some (f l[i]) ∧ (l.flatMap fun x => [f x, g x, h x])[i * 3 + 1]? = some (g l[i]) ∧ (l.flatMap fun x => [f x, g x, h x])[i * 3 + 2]? = some (h l[i])
  | [], i, hi => by simp at hi
  | x :: l, 0, _ => by simp
  | x :: l, i + 1, hi => by
    have ih := flat3_get f g h l i (by simpa using hi)
    simp only [List.flatMap_cons, List.getElem_cons_succ]
    rw [show (i + 1) * 3 = i * 3 + 3 by omega]
    simp only [List.cons_append, List.nil_append, Nat.add_assoc]
    exact ih
theorem actCells_length (l : List NAct) : (actCells l).length = l.length * 3 := by
  unfold actCells; induction l with
  | nil => rfl
  | cons x l ih => simp only [List.flatMap_cons, List.length_append, ih, List.length_cons, List.length_nil]; omega
theorem add_field (ad : Addr) (i j : Nat) (hj : j ≠ 0) : ad.add (i + j) = ⟨(ad.add i).block, (ad.add i).off + j, none⟩ := by
  unfold Addr.add
  by_cases hi : i = 0 <;> simp [hi, hj, Nat.add_assoc]
def total (l : List NAct) : Nat := (l.map fun x => x.s.length).sum
theorem act_cells {w : World} {A : Option Addr} {l : List NAct} (h : Rd w A l.length 3 (actCells l)) {i : Nat} (hi : i < l.length) :
    ∃ ad, A = some ad ∧ w.cell? (ad.add (i * 3)) = some (.int .u8 l[i].what) ∧ w.cell? ⟨(ad.add (i * 3)).block, (ad.add (i * 3)).off + 1, none⟩ = some (.string ⟨l[i].s.toArray⟩) ∧ w.cell? ⟨(ad.add (i * 3)).block, (ad.add (i * 3)).off + 2, none⟩ = some (.int .i64 l[i].place) := by
  obtain ⟨ad, rfl, hc⟩ := h.2 (by omega)
  obtain ⟨h1, h2, h3⟩ := flat3_get (fun x : NAct => Value.int .u8 x.what) (fun x => .string ⟨x.s.toArray⟩) (fun x => .int .i64 x.place) l i hi
  exact ⟨ad, rfl, hc _ _ h1, by rw [← add_field ad (i * 3) 1 (by omega)]; exact hc _ _ h2, by rw [← add_field ad (i * 3) 2 (by omega)]; exact hc _ _ h3⟩
def greatF (l : List NAct) : Bool := decide (100 < l.length) || decide (2000 < total l)
set_option maxRecDepth 100000 in
set_option maxHeartbeats 1000000 in
theorem great_any {w : World} {A : Option Addr} {cap : Nat} {l : List NAct} (h : Rd w A l.length 3 (actCells l)) (hl : l.length ≤ maxLen) (hs : ∀ x ∈ l, x.s.length ≤ 140737488355328) :
    Calls Try.prog 33 #[.slice A l.length cap] w fun e w' => e = .returned (.bool (greatF l)) ∧ w = w' := by
  unfold maxLen at hl
  by_cases hb : 100 < l.length
  · have HR := Lib.hid h; clear h hs
    have HG := Lib.hid (p := greatF l = true) (by unfold greatF; simp [hb])
    go_enter Try.func33, Try.ntmps33
    go_wp2
    go_loop [3, 4] (fun n i => ∃ k : Nat, ∃ x : Int, k ≤ l.length ∧ i = .int .i64 k ∧ n = .int .i64 x) (fun _ i => l.length - (intOf i).toNat)
    case atStart => exact ⟨0, 0, by omega, rfl, rfl⟩
    case round =>
      obtain ⟨k, x, hk, rfl, rfl⟩ := hrel
      by_cases hlt : k < l.length
      · obtain ⟨ad, rfl, h1, h2, h3⟩ := act_cells HR.out hlt
        clear h1 h3
        go_wp2
        go_round
        case rel => exact ⟨k + 1, _, by omega, by go_num, rfl⟩
        case measure => simp [intOf]; omega
      · go_wp2
        go_ret
        exact ⟨by rw [HG.out]; rfl, rfl⟩
  · have HR := Lib.hid h; clear h
    have hsm : ∀ k, k ≤ l.length → total (l.take k) ≤ k * 140737488355328 := by
      intro k
      induction k with
      | zero => intro _; simp [total]
      | succ k ih =>
        intro hk
        have := ih (by omega)
        have h2 := hs l[k] (List.getElem_mem (by omega))
        unfold total at this ⊢
        rw [List.take_succ_eq_append_getElem (by omega), List.map_append, List.sum_append]
        simp only [List.map_cons, List.map_nil, List.sum_cons, List.sum_nil]
        omega
    have hst : ∀ k (hk : k < l.length), total (l.take (k + 1)) = total (l.take k) + l[k].s.length := by
      intro k hk
      unfold total
      rw [List.take_succ_eq_append_getElem hk, List.map_append, List.sum_append]
      simp
    have HSM := Lib.hid hsm; have HST := Lib.hid hst; clear hsm hst hs
    go_enter Try.func33, Try.ntmps33
    go_wp2
    go_loop [3, 4] (fun n i => ∃ k : Nat, k ≤ l.length ∧ i = .int .i64 k ∧ n = .int .i64 (total (l.take k) : Nat)) (fun _ i => l.length - (intOf i).toNat)
    case atStart => exact ⟨0, by omega, rfl, rfl⟩
    case round =>
      obtain ⟨k, hk, rfl, rfl⟩ := hrel
      have hb1 := HSM.out k hk
      by_cases hlt : k < l.length
      · have hb2 := HSM.out (k + 1) hlt
        have hst2 := HST.out k hlt
        obtain ⟨ad, rfl, h1, h2, h3⟩ := act_cells HR.out hlt
        clear h1 h3
        have hb3 : total (l.take k) + l[k].s.length ≤ 9223372036854775807 := by omega
        have HS2 := Lib.hid hst2; clear hst2 hb2
        generalize total (l.take k) = x at *
        have hb4 : x ≤ 14073748835532800 := by omega
        clear hb1
        go_wp2
        go_round
        case rel =>
          refine ⟨k + 1, hlt, by go_num, ?_⟩
          rw [HS2.out]
          exact congrArg (Value.int .i64) (Int.natCast_add _ _).symm
        case measure => simp [intOf]; omega
      · have hkk : l.take k = l := List.take_of_length_le (by omega)
        rw [hkk] at hb1 ⊢
        clear hkk
        have HG := Lib.hid (p := greatF l = decide (2000 < total l)) (by unfold greatF; rw [decide_eq_false hb, Bool.false_or])
        generalize total l = x at *
        by_cases h2 : 2000 < x
        · go_wp2
          go_ret
          exact ⟨by rw [HG.out, decide_eq_true h2]; simp; omega, rfl⟩
        · go_wp2
          go_ret
          exact ⟨by rw [HG.out, decide_eq_false h2]; simp; omega, rfl⟩
end Go.Proofs.Ytfojjklohbiffaa
