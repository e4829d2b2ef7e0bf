/- Nets in memory: at a place, Drop, Double. -/
import Derived.Test.YtfojjklohbiffaaNetA
namespace Go.Proofs.Ytfojjklohbiffaa
open Go.RowKit Tran
def okPlace (l : List (List UInt8)) (p : Int) : Bool := decide (0 ≤ p) && decide (p < l.length)
/-- what is done at a place leaves the net with the frames l', and answers k -/
def Done (w : World) (g B : Nat) (v : Value) (k : Nat) (l' : List (List UInt8)) (e : Ending) (w' : World) : Prop :=
  ∃ v', e = .returned (.int .i64 (k : Nat)) ∧ NetAt w' g B v' l' ∧ Moved w v v' ∧ Chg (fun k => k = g ∨ blkOf v = some k) w w'
set_option maxRecDepth 100000 in
set_option maxHeartbeats 1000000 in
theorem at_no {w : World} {g B : Nat} {v : Value} {l : List (List UInt8)} (h : NetAt w g B v l) (p : Int) (hp : p < 0 ∨ (l.length : Int) ≤ p) (f : Value) :
    Calls Try.prog 86 #[.pointer (some ⟨g, 0, none⟩), .int .i64 p, f] w fun e w' => e = .returned (.int .i64 7) ∧ w = w' := by
  have hc : w.cell? ⟨g, 0, none⟩ = some v := h.blk.cell 0
  obtain ⟨A, cap, rfl, hncap, hcm, hrd⟩ := h.own.slice
  unfold maxLen at hcm
  have HN := Lib.hid (none_any h)
  by_cases h0 : p < 0
  · clear hp
    go_enter Try.func86, Try.ntmps86
    go_wp2_with fail
    refine HN.out.mono ?_
    rintro e w1 ⟨rfl, rfl⟩
    go_wp2
    go_ret
    exact ⟨rfl, rfl⟩
  · have h1 : (l.length : Int) ≤ p := by omega
    clear hp
    go_enter Try.func86, Try.ntmps86
    go_wp2_with fail
    refine HN.out.mono ?_
    rintro e w1 ⟨rfl, rfl⟩
    go_wp2
    go_ret
    exact ⟨rfl, rfl⟩
set_option maxRecDepth 100000 in
set_option maxHeartbeats 1000000 in
theorem at_gone {w : World} {g B : Nat} {v : Value} {l : List (List UInt8)} (h : NetAt w g B v l) (hB : B ≤ w.heap.size) (hl : l.length ≤ 5000) (p : Nat) (hp : p < l.length) :
    Calls Try.prog 86 #[.pointer (some ⟨g, 0, none⟩), .int .i64 p, .func (.func 88) #[.pointer (some ⟨g, 0, none⟩)] #[]] w (Done w g B v 0 (cutF l p)) := by
  have hc : w.cell? ⟨g, 0, none⟩ = some v := h.blk.cell 0
  have HG := Lib.hid (gone_any h hB p hp hl)
  obtain ⟨A, cap, rfl, hncap, hcm, hrd⟩ := h.own.slice
  unfold maxLen at hcm
  have HN := Lib.hid (none_any h)
  go_enter Try.func86, Try.ntmps86
  go_wp2_with fail
  refine HN.out.mono ?_
  rintro e w1 ⟨rfl, rfl⟩
  go_wp2_with fail
  refine HG.out.mono ?_
  rintro e w1 ⟨v', rfl, h1, h2, h3⟩
  go_wp2
  go_ret
  exact ⟨v', rfl, h1, h2, h3⟩

set_option maxRecDepth 100000 in
set_option maxHeartbeats 1000000 in
theorem again_any {w : World} {g B : Nat} {v : Value} {l : List (List UInt8)} (h : NetAt w g B v l) (hB : B ≤ w.heap.size) (p : Nat) (hp : p < l.length) :
    Calls Try.prog 89 #[.pointer (some ⟨g, 0, none⟩), .int .i64 p] w (Done w g B v (sendF l l[p]).2 (sendF l l[p]).1) := by
  have hc : w.cell? ⟨g, 0, none⟩ = some v := h.blk.cell 0
  have HS := Lib.hid (send_any h hB l[p])
  have ho := h.own
  obtain ⟨q, cap, rfl, hcap, hbg, hqlt⟩ := ho.form (by omega)
  have hcp : w.cell? ⟨q, p, none⟩ = some (.string ⟨l[p].toArray⟩) := ho.cellAt (strs_get hp)
  go_enter Try.func89, Try.ntmps89
  go_wp2_with fail
  refine HS.out.mono ?_
  rintro e w1 ⟨v', rfl, h1, h2, h3⟩
  go_wp2
  go_ret
  exact ⟨v', rfl, h1, h2, h3⟩
set_option maxRecDepth 100000 in
set_option maxHeartbeats 1000000 in
theorem at_again {w : World} {g B : Nat} {v : Value} {l : List (List UInt8)} (h : NetAt w g B v l) (hB : B ≤ w.heap.size) (p : Nat) (hp : p < l.length) :
    Calls Try.prog 86 #[.pointer (some ⟨g, 0, none⟩), .int .i64 p, .func (.func 89) #[.pointer (some ⟨g, 0, none⟩)] #[]] w (Done w g B v (sendF l l[p]).2 (sendF l l[p]).1) := by
  have hc : w.cell? ⟨g, 0, none⟩ = some v := h.blk.cell 0
  have HG := Lib.hid (again_any h hB p hp)
  obtain ⟨A, cap, rfl, hncap, hcm, hrd⟩ := h.own.slice
  unfold maxLen at hcm
  have HN := Lib.hid (none_any h)
  go_enter Try.func86, Try.ntmps86
  go_wp2_with fail
  refine HN.out.mono ?_
  rintro e w1 ⟨rfl, rfl⟩
  go_wp2_with fail
  refine HG.out.mono ?_
  rintro e w1 ⟨v', rfl, h1, h2, h3⟩
  go_wp2
  go_ret
  exact ⟨v', rfl, h1, h2, h3⟩
/-- what Drop and Double leave -/
def dropF (l : List (List UInt8)) (p : Int) : List (List UInt8) × Nat := if okPlace l p then (cutF l p.toNat, 0) else (l, 7)
def doubleF (l : List (List UInt8)) (p : Int) : List (List UInt8) × Nat := if okPlace l p then sendF l (l.getD p.toNat []) else (l, 7)
set_option maxRecDepth 100000 in
set_option maxHeartbeats 1000000 in
theorem drop_any {w : World} {g B : Nat} {v : Value} {l : List (List UInt8)} (h : NetAt w g B v l) (hB : B ≤ w.heap.size) (hl : l.length ≤ 5000) (p : Int) :
    Calls Try.prog 39 #[.pointer (some ⟨g, 0, none⟩), .int .i64 p] w (Done w g B v (dropF l p).2 (dropF l p).1) := by
  by_cases hp : 0 ≤ p ∧ p < l.length
  · have e : dropF l p = (cutF l p.toNat, 0) := by unfold dropF okPlace; rw [if_pos (by simp; exact hp)]
    obtain ⟨n, rfl⟩ := Int.eq_ofNat_of_zero_le hp.1
    rw [e]
    have HG := Lib.hid (at_gone h hB hl n (by omega))
    clear e hp
    go_enter Try.func39, Try.ntmps39
    go_wp2_with fail
    refine HG.out.mono ?_
    rintro e w1 ⟨v', rfl, h1, h2, h3⟩
    go_wp2
    go_ret
    exact ⟨v', rfl, h1, h2, h3⟩
  · have e : dropF l p = (l, 7) := by unfold dropF okPlace; rw [if_neg (by simpa using hp)]
    rw [e]
    have HG := Lib.hid (at_no h p (by omega) (.func (.func 88) #[.pointer (some ⟨g, 0, none⟩)] #[]))
    clear e hp
    go_enter Try.func39, Try.ntmps39
    go_wp2_with fail
    refine HG.out.mono ?_
    rintro e w1 ⟨rfl, rfl⟩
    go_wp2
    go_ret
    exact ⟨v, rfl, h, .refl _ _, .refl _ _⟩
set_option maxRecDepth 100000 in
set_option maxHeartbeats 1000000 in
theorem double_any {w : World} {g B : Nat} {v : Value} {l : List (List UInt8)} (h : NetAt w g B v l) (hB : B ≤ w.heap.size) (p : Int) :
    Calls Try.prog 40 #[.pointer (some ⟨g, 0, none⟩), .int .i64 p] w (Done w g B v (doubleF l p).2 (doubleF l p).1) := by
  by_cases hp : 0 ≤ p ∧ p < l.length
  · obtain ⟨n, rfl⟩ := Int.eq_ofNat_of_zero_le hp.1
    have hn : n < l.length := by omega
    have e : doubleF l n = sendF l l[n] := by unfold doubleF okPlace; rw [if_pos (by simp; exact hn)]; simp [hn]
    rw [e]
    have HG := Lib.hid (at_again h hB n hn)
    clear e hp
    go_enter Try.func40, Try.ntmps40
    go_wp2_with fail
    refine HG.out.mono ?_
    rintro e w1 ⟨v', rfl, h1, h2, h3⟩
    go_wp2
    go_ret
    exact ⟨v', rfl, h1, h2, h3⟩
  · have e : doubleF l p = (l, 7) := by unfold doubleF okPlace; rw [if_neg (by simpa using hp)]
    rw [e]
    have HG := Lib.hid (at_no h p (by omega) (.func (.func 89) #[.pointer (some ⟨g, 0, none⟩)] #[]))
    clear e hp
    go_enter Try.func40, Try.ntmps40
    go_wp2_with fail
    refine HG.out.mono ?_
    rintro e w1 ⟨rfl, rfl⟩
    go_wp2
    go_ret
    exact ⟨v, rfl, h, .refl _ _, .refl _ _⟩
end Go.Proofs.Ytfojjklohbiffaa
