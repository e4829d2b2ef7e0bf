/- Records' laws: texts opened; whether they are great; what is scanned; the law's head. -/
import Derived.Test.YtfojjklohbiffaaRecT
import Derived.Test.YtfojjklohbiffaaCells
import Derived.Test.YtfojjklohbiffaaNetJ
namespace Go.Proofs.Ytfojjklohbiffaa
open Go.RowKit Go.ChangeShapes Go.WideShapes Go.Deep Tran Tran.Wire
set_option linter.unusedVariables false
theorem cellsOf9 : Try.prog.cellsOf 9 = 1 := by kernel_rfl
theorem bytesOf9 : Try.prog.bytesOf 9 = 16 := by kernel_rfl
theorem strs_flat (l : List (List UInt8)) : (l.flatMap fun s => [Value.string ⟨s.toArray⟩]) = strs l := by
  induction l with
  | nil => rfl
  | cons s l ih => rw [List.flatMap_cons, ih]; rfl
theorem texts_of {H : Type} {enc : TypeId × Value → H} {w : World} {base fuel : Nat} {v : Value} {x : DataW H × List MemPlace} (h : DataW.trod enc Try.prog w base (fun _ => true) true fuel 43 [v] = some x)
    (hz : ∀ n ∈ x.1.weights Try.prog 43, n ≤ reachBytes) :
    ∃ (A : Option Addr) (cap : Nat) (l : List (List UInt8)), v = .slice A l.length cap ∧ Txt w (.slice A l.length cap) l ∧ l.length ≤ 8796093022208 ∧ (∀ a ∈ l, a.length ≤ 140737488355328) := by
  obtain ⟨A, cap, l, h1, h2, h3, h4, h5⟩ := rows_of (α := List UInt8) [] (fun s => [.string ⟨s.toArray⟩]) 1 Try.underlying43 cellsOf9 (fun a => a.length ≤ 140737488355328) (fun _ _ => rfl)
    (fun n cs y hy _ hk => by
      obtain ⟨s, e, hd⟩ := trod_str Try.underlying9 hy
      refine ⟨s, e, ?_⟩
      have hs : s.length ∈ y.1.weights Try.prog 9 := by rw [hd]; simp [DataW.weights]
      have := hk _ hs
      unfold reachBytes at this
      omega) h hz
  have hc : l.length ≤ cap ∧ cap ≤ maxLen := by
    rcases open_slice Try.underlying43 h with ⟨hcs, _⟩ | ⟨a, len, cap', m', n, D, Pl, hcs, hb, hl, hcm, _⟩
    · rw [h1] at hcs
      injection hcs with hcs
      injection hcs with e1 e2 e3
      subst e3
      exact ⟨by omega, by unfold maxLen; omega⟩
    · rw [h1] at hcs
      injection hcs with hcs
      injection hcs with e1 e2 e3
      subst e3
      exact ⟨by omega, hcm⟩
  rw [bytesOf9] at h4
  unfold reachBytes at h4
  exact ⟨A, cap, l, h1, ⟨A, cap, rfl, hc.1, hc.2, by rw [← strs_flat]; exact h2⟩, by omega, h5⟩
def totalR (l : List (List UInt8)) : Nat := (l.map fun s => s.length).sum
def greatR (l : List (List UInt8)) : Bool := decide (60 < l.length) || decide (2500 < totalR l)
theorem small_row {l : List (List UInt8)} (h : greatR l = false) : l.length ≤ 60 ∧ totalR l ≤ 2500 := by
  unfold greatR at h
  simp only [Bool.or_eq_false_iff, decide_eq_false_iff_not] at h
  omega
theorem total_mem {l : List (List UInt8)} {s : List UInt8} (h : s ∈ l) : s.length ≤ totalR l := by
  induction l with
  | nil => cases h
  | cons t l ih =>
    unfold totalR
    simp only [List.map_cons, List.sum_cons]
    rcases List.mem_cons.1 h with rfl | h
    · omega
    · have := ih h; unfold totalR at this; omega
theorem row_len {l : List (List UInt8)} (h : ∀ s ∈ l, s.length ≤ 100000000) : (l.flatMap recF).length ≤ totalR l + 13 * l.length := by
  induction l with
  | nil => simp
  | cons t l ih =>
    have h1 := ih fun s hs => h s (List.mem_cons_of_mem _ hs)
    have h2 := (recF_len t (h t List.mem_cons_self)).2
    unfold totalR at h1 ⊢
    simp only [List.flatMap_cons, List.length_append, List.map_cons, List.sum_cons, List.length_cons]
    omega
set_option maxRecDepth 100000 in
set_option maxHeartbeats 1000000 in
theorem great08_any {w : World} {A : Option Addr} {cap : Nat} {l : List (List UInt8)} (h : Rd w A l.length 1 (strs l)) (hl : l.length ≤ 8796093022208) (hs : ∀ s ∈ l, s.length ≤ 140737488355328) :
    Calls Try.prog 74 #[.slice A l.length cap] w fun e w' => e = .returned (.bool (greatR l)) ∧ w = w' := by
  by_cases hb : 60 < l.length
  · have HR := Lib.hid (fun i (hi : i < l.length) => str_at h hi); clear h hs
    have HG := Lib.hid (p := greatR l = true) (by unfold greatR; simp [hb])
    go_enter Try.func74, Try.ntmps74
    go_wp2
    go_loop [3, 4] (fun n i => ∃ k : Nat, ∃ x : Int, k ≤ l.length ∧ i = .int .i64 k ∧ n = .int .i64 x) (fun _ i => l.length - (intOf i).toNat)
    case atStart => exact ⟨0, 0, by omega, rfl, rfl⟩
    case round =>
      obtain ⟨k, x, hk, rfl, rfl⟩ := hrel
      by_cases hlt : k < l.length
      · obtain ⟨ad, rfl, h1⟩ := HR.out k hlt
        go_wp2
        go_round
        case rel => exact ⟨k + 1, _, by omega, by go_num, rfl⟩
        case measure => simp [intOf]; omega
      · go_wp2
        go_ret
        exact ⟨by rw [HG.out]; rfl, rfl⟩
  · have HR := Lib.hid (fun i (hi : i < l.length) => str_at h hi); clear h
    have hsm : ∀ k, k ≤ l.length → totalR (l.take k) ≤ k * 140737488355328 := by
      intro k
      induction k with
      | zero => intro _; simp [totalR]
      | succ k ih =>
        intro hk
        have := ih (by omega)
        have h2 := hs l[k] (List.getElem_mem (by omega))
        unfold totalR at this ⊢
        rw [List.take_succ_eq_append_getElem (by omega), List.map_append, List.sum_append]
        simp only [List.map_cons, List.map_nil, List.sum_cons, List.sum_nil]
        omega
    have hst : ∀ k (hk : k < l.length), totalR (l.take (k + 1)) = totalR (l.take k) + l[k].length := by
      intro k hk
      unfold totalR
      rw [List.take_succ_eq_append_getElem hk, List.map_append, List.sum_append]
      simp
    have HSM := Lib.hid hsm; have HST := Lib.hid hst; clear hsm hst hs
    go_enter Try.func74, Try.ntmps74
    go_wp2
    go_loop [3, 4] (fun n i => ∃ k : Nat, k ≤ l.length ∧ i = .int .i64 k ∧ n = .int .i64 (totalR (l.take k) : Nat)) (fun _ i => l.length - (intOf i).toNat)
    case atStart => exact ⟨0, by omega, rfl, rfl⟩
    case round =>
      obtain ⟨k, hk, rfl, rfl⟩ := hrel
      have hb1 := HSM.out k hk
      by_cases hlt : k < l.length
      · have hb2 := HSM.out (k + 1) hlt
        have hst2 := HST.out k hlt
        obtain ⟨ad, rfl, h1⟩ := HR.out k hlt
        have hb3 : totalR (l.take k) + l[k].length ≤ 9223372036854775807 := by omega
        have HS2 := Lib.hid hst2; clear hst2 hb2
        generalize totalR (l.take k) = x at *
        have hb4 : x ≤ 14073748835532800 := by omega
        clear hb1
        go_wp2
        go_round
        case rel =>
          refine ⟨k + 1, hlt, by go_num, ?_⟩
          rw [HS2.out]
          exact congrArg (Value.int .i64) (Int.natCast_add _ _).symm
        case measure => simp [intOf]; omega
      · have hkk : l.take k = l := List.take_of_length_le (by omega)
        rw [hkk] at hb1 ⊢
        clear hkk
        have HG := Lib.hid (p := greatR l = decide (2500 < totalR l)) (by unfold greatR; rw [decide_eq_false hb, Bool.false_or])
        generalize totalR l = x at *
        by_cases h2 : 2500 < x
        · go_wp2
          go_ret
          rw [HG.out]
          exact ⟨by simp [h2]; omega, rfl⟩
        · go_wp2
          go_ret
          rw [HG.out]
          exact ⟨by simp [h2]; omega, rfl⟩
/-- bytes that are scanned as just this -/
structure Reads (x : ByteArray) (l : List (List UInt8)) (tk : Int) (st : Int) : Prop where
  len : x.data.toList.length ≤ 1000000
  texts : (scanF x.data.toList).1.map (·.1) = l
  took : ((taken (scanF x.data.toList).1 : Nat) : Int) = tk
  state : (((scanF x.data.toList).2 : Nat) : Int) = st
set_option maxRecDepth 100000 in
set_option maxHeartbeats 1000000 in
theorem scans_yes {x : ByteArray} {l : List (List UInt8)} {tk st : Int} (h : Reads x l tk st) {w : World} {v : Value} (hv : Txt w v l) (hl : l.length ≤ 100000) :
    Calls Try.prog 78 #[.string x, v, .int .i64 tk, .int .u8 st] w fun e w' => e = .returned (.bool true) ∧ Below w.heap.size w w' := by
  obtain ⟨h1, h2, h3, h4⟩ := h
  have C := scan_any x.data.toList h1 w
  rw [← str_mk] at C
  unfold Scanned at C
  rw [h2, h3, h4] at C
  have hn : (scanF x.data.toList).1.length = l.length := by rw [← h2]; simp
  rw [hn] at C
  replace C := Lib.hid C
  have HV := Lib.hid hv
  clear h1 h2 h3 h4 hn hv
  go_enter Try.func78, Try.ntmps78
  go_wp2_with fail
  refine C.out.mono ?_
  rintro e w1 ⟨u, rfl, ho, b1⟩
  have S := Lib.hid (same_self (Txt.of ho) (HV.out.later b1) hl)
  clear ho
  go_wp2_with fail
  refine S.out.mono ?_
  rintro e w2 ⟨rfl, d2⟩
  have b2 := b1.trans (d2.mono b1.size)
  clear b1 d2
  go_wp2_with fail
  go_ret
  exact ⟨rfl, b2⟩
end Go.Proofs.Ytfojjklohbiffaa
