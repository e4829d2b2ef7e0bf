/- An argument '[]Item' opened. -/
import Derived.Test.YtfojjklohbiffaaProg
import Derived.Test.YtfojjklohbiffaaCells
namespace Go.Proofs.Ytfojjklohbiffaa
open Go.RowKit Go.ChangeShapes Go.WideShapes Go.Deep Tran
set_option linter.unusedSimpArgs false
/-- an item -/
structure NItem where
  kind : Nat
  n : Nat
  s : List UInt8
  r : Nat
  dn : Nat
  xs : List Nat
  most : Nat
def NItem.ok (x : NItem) : Prop := x.kind < 256 ∧ x.n < 2 ^ 64 ∧ x.s.length ≤ 140737488355328 ∧ x.r < 256 ∧ x.dn < 4294967296 ∧ x.xs.length = 8 ∧ (∀ y ∈ x.xs, y < 2 ^ 32) ∧ x.most < 2 ^ 64
def itemF (x : NItem) : List Value := [.int .u8 (x.kind : Int), .int .u64 (x.n : Int), .string ⟨x.s.toArray⟩, .int .u8 (x.r : Int), .int .u32 (x.dn : Int)] ++ x.xs.map (fun y => Value.int .u32 (y : Nat)) ++ [.int .u64 (x.most : Int)]
theorem itemF_len (x : NItem) (h : x.ok) : (itemF x).length = 14 := by simp [itemF, h.2.2.2.2.2.1]
theorem cells84 : Try.prog.cellsOf 84 = 14 := by kernel_rfl
theorem cells82 : Try.prog.cellsOf 82 = 2 := by kernel_rfl
theorem cells54 : Try.prog.cellsOf 54 = 8 := by kernel_rfl
theorem cells5 : Try.prog.cellsOf 5 = 1 := by kernel_rfl
theorem cells80 : Try.prog.cellsOf 80 = 1 := by kernel_rfl
theorem cells22 : Try.prog.cellsOf 22 = 1 := by kernel_rfl
theorem cells9 : Try.prog.cellsOf 9 = 1 := by kernel_rfl
section
variable {H : Type} {enc : TypeId × Value → H} {w : World} {base : Nat} {spare : Nat → Bool} {held : Bool} {fuel : Nat} {cs : List Value} {x : DataW H × List MemPlace}
set_option maxRecDepth 100000 in
theorem dot_of (h : DataW.trod enc Try.prog w base spare held fuel 82 cs = some x) : ∃ r n : Nat, cs = [.int .u8 (r : Int), .int .u32 (n : Int)] ∧ r < 256 ∧ n < 4294967296 := by
  obtain ⟨ys, m, _, _, hl, hyl, hf⟩ := DataW.trod_struct Try.underlying82 h
  rw [cells82] at hl
  match cs, hl with
  | [c0, c1], _ =>
    match ys, hyl with
    | [y0, y1], _ =>
      have h0 := hf 0 _ rfl
      have h1 := hf 1 _ rfl
      simp only [cells5, cells22, List.drop_zero, List.drop_succ_cons, List.take_succ_cons, List.take_zero, List.getElem?_cons_zero, List.getElem?_cons_succ] at h0 h1
      obtain ⟨r, e0, hr⟩ := trod_u8 Try.underlying5 h0
      obtain ⟨n, e1, hn⟩ := trod_u32 Try.underlying22 h1
      injection e0 with e0
      injection e1 with e1
      subst e0 e1
      exact ⟨r, n, rfl, hr, hn⟩
set_option maxRecDepth 100000 in
theorem item_of (h : DataW.trod enc Try.prog w base spare held fuel 84 cs = some x) (hz : ∀ k ∈ x.1.weights Try.prog 84, k ≤ reachBytes) : ∃ a : NItem, cs = itemF a ∧ a.ok := by
  obtain ⟨ys, m, _, hx, hl, hyl, hf⟩ := DataW.trod_struct Try.underlying84 h
  rw [cells84] at hl
  match cs, hl with
  | [c0, c1, c2, c3, c4, c5, c6, c7, c8, c9, c10, c11, c12, c13], _ =>
    match ys, hyl with
    | [y0, y1, y2, y3, y4, y5], _ =>
      have h0 := hf 0 _ rfl
      have h1 := hf 1 _ rfl
      have h2 := hf 2 _ rfl
      have h3 := hf 3 _ rfl
      have h4 := hf 4 _ rfl
      have h5 := hf 5 _ rfl
      simp only [cells5, cells22, cells80, cells9, cells82, cells54, List.drop_zero, List.drop_succ_cons, List.take_succ_cons, List.take_zero, List.getElem?_cons_zero, List.getElem?_cons_succ] at h0 h1 h2 h3 h4 h5
      obtain ⟨kind, e0, b0⟩ := trod_u8 Try.underlying5 h0
      obtain ⟨n, e1, b1⟩ := trod_u64 Try.underlying80 h1
      obtain ⟨s, e2, hd2⟩ := trod_str Try.underlying9 h2
      obtain ⟨r, dn, e3, b3, b4⟩ := dot_of h3
      obtain ⟨xs, hxl, e4, b5⟩ := trod_u32s Try.underlying54 Try.underlying22 cells22 cells54 h4
      obtain ⟨most, e5, b6⟩ := trod_u64 Try.underlying80 h5
      refine ⟨⟨kind, n, s, r, dn, xs, most⟩, ?_, b0, b1, ?_, b3, b4, hxl, b5, b6⟩
      · simp only [itemF, ← e4]
        injection e0 with e0
        injection e1 with e1
        injection e2 with e2
        injection e3 with e3 e3'
        injection e3' with e3'
        injection e5 with e5
        subst e0 e1 e2 e3 e3' e5
        rfl
      · have hs : s.length ∈ x.1.weights Try.prog 84 := by
          subst hx
          simp only [DataW.weights, Try.underlying84]
          refine weightsEach_in (i := 2) (t := 9) (d := y2.1) rfl rfl _ ?_
          rw [hd2]
          simp [DataW.weights]
        have := hz _ hs
        unfold reachBytes at this
        show s.length ≤ _
        omega
end
theorem items_of {H : Type} {enc : TypeId × Value → H} {w : World} {base fuel : Nat} {v : Value} {x : DataW H × List MemPlace} (h : DataW.trod enc Try.prog w base (fun _ => true) true fuel 75 [v] = some x)
    (hz : ∀ n ∈ x.1.weights Try.prog 75, n ≤ reachBytes) :
    ∃ (A : Option Addr) (cap : Nat) (l : List NItem), v = .slice A l.length cap ∧ Rd w A l.length 14 (l.flatMap itemF) ∧ l.length ≤ maxLen ∧ (∀ a ∈ l, a.ok) := by
  obtain ⟨A, cap, l, h1, h2, h3, _, h4⟩ := rows_of (α := NItem) ⟨0, 0, [], 0, 0, [], 0⟩ itemF 14 Try.underlying75 cells84 NItem.ok itemF_len (fun n cs y hy _ hk => item_of hy hk) h hz
  exact ⟨A, cap, l, h1, h2, h3, h4⟩
end Go.Proofs.Ytfojjklohbiffaa
