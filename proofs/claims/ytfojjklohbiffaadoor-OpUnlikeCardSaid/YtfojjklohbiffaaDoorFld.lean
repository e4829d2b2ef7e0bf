/- Fields' addresses, loads and stores of single cells, of dots, of vectors. -/
import Derived.Test.YtfojjklohbiffaaDoorOpG
import Derived.Test.YtfojjklohbiffaaDoorFrA
namespace Go.Proofs.YtfojjklohbiffaaDoor
open Go.RowKit Tran Tran.Wire
set_option linter.unusedVariables false
set_option linter.unusedSimpArgs false
section
variable {W : World} {g o : Nat} {u v : Value}
theorem fa0 : (Instr.fieldAt 30 (.pointer (some ⟨g, 0, none⟩)) 0).run Tryd.prog W = .ok (.pointer (some ⟨g, 0, none⟩)) W := by go_simp
theorem fa1 : (Instr.fieldAt 30 (.pointer (some ⟨g, 0, none⟩)) 1).run Tryd.prog W = .ok (.pointer (some ⟨g, 2, none⟩)) W := by go_simp
theorem fa2 : (Instr.fieldAt 30 (.pointer (some ⟨g, 0, none⟩)) 2).run Tryd.prog W = .ok (.pointer (some ⟨g, 10, none⟩)) W := by go_simp
theorem fa3 : (Instr.fieldAt 30 (.pointer (some ⟨g, 0, none⟩)) 3).run Tryd.prog W = .ok (.pointer (some ⟨g, 11, none⟩)) W := by go_simp
theorem fa4 : (Instr.fieldAt 30 (.pointer (some ⟨g, 0, none⟩)) 4).run Tryd.prog W = .ok (.pointer (some ⟨g, 12, none⟩)) W := by go_simp
theorem fa5 : (Instr.fieldAt 30 (.pointer (some ⟨g, 0, none⟩)) 5).run Tryd.prog W = .ok (.pointer (some ⟨g, 14, none⟩)) W := by go_simp
theorem fa6 : (Instr.fieldAt 30 (.pointer (some ⟨g, 0, none⟩)) 6).run Tryd.prog W = .ok (.pointer (some ⟨g, 15, none⟩)) W := by go_simp
theorem fa7 : (Instr.fieldAt 30 (.pointer (some ⟨g, 0, none⟩)) 7).run Tryd.prog W = .ok (.pointer (some ⟨g, 17, none⟩)) W := by go_simp
theorem fa8 : (Instr.fieldAt 30 (.pointer (some ⟨g, 0, none⟩)) 8).run Tryd.prog W = .ok (.pointer (some ⟨g, 18, none⟩)) W := by go_simp
theorem fa9 : (Instr.fieldAt 30 (.pointer (some ⟨g, 0, none⟩)) 9).run Tryd.prog W = .ok (.pointer (some ⟨g, 19, none⟩)) W := by go_simp
theorem fa10 : (Instr.fieldAt 30 (.pointer (some ⟨g, 0, none⟩)) 10).run Tryd.prog W = .ok (.pointer (some ⟨g, 20, none⟩)) W := by go_simp
theorem fa11 : (Instr.fieldAt 30 (.pointer (some ⟨g, 0, none⟩)) 11).run Tryd.prog W = .ok (.pointer (some ⟨g, 21, none⟩)) W := by go_simp
theorem fa12 : (Instr.fieldAt 30 (.pointer (some ⟨g, 0, none⟩)) 12).run Tryd.prog W = .ok (.pointer (some ⟨g, 23, none⟩)) W := by go_simp
theorem fa13 : (Instr.fieldAt 30 (.pointer (some ⟨g, 0, none⟩)) 13).run Tryd.prog W = .ok (.pointer (some ⟨g, 25, none⟩)) W := by go_simp
theorem fa14 : (Instr.fieldAt 30 (.pointer (some ⟨g, 0, none⟩)) 14).run Tryd.prog W = .ok (.pointer (some ⟨g, 26, none⟩)) W := by go_simp
theorem fa15 : (Instr.fieldAt 30 (.pointer (some ⟨g, 0, none⟩)) 15).run Tryd.prog W = .ok (.pointer (some ⟨g, 27, none⟩)) W := by go_simp
theorem fa16 : (Instr.fieldAt 30 (.pointer (some ⟨g, 0, none⟩)) 16).run Tryd.prog W = .ok (.pointer (some ⟨g, 28, none⟩)) W := by go_simp
theorem ld5 {ad : Addr} (h : W.cell? ad = some v) : (loadVar 5 ad).run Tryd.prog W = .ok v W := by go_simp
theorem st5 {ad : Addr} {k : IntKind} {n : Int} (h : W.cell? ad = some u) (hf : W.frozen? ad = false) : (storeVar 5 ad (.int k n)).run Tryd.prog W = .ok () (W.setCell ad (.int k n)) := by go_simp
theorem ld22 {ad : Addr} (h : W.cell? ad = some v) : (loadVar 22 ad).run Tryd.prog W = .ok v W := by go_simp
theorem st22 {ad : Addr} {k : IntKind} {n : Int} (h : W.cell? ad = some u) (hf : W.frozen? ad = false) : (storeVar 22 ad (.int k n)).run Tryd.prog W = .ok () (W.setCell ad (.int k n)) := by go_simp
theorem ld80 {ad : Addr} (h : W.cell? ad = some v) : (loadVar 27 ad).run Tryd.prog W = .ok v W := by go_simp
theorem st80 {ad : Addr} {k : IntKind} {n : Int} (h : W.cell? ad = some u) (hf : W.frozen? ad = false) : (storeVar 27 ad (.int k n)).run Tryd.prog W = .ok () (W.setCell ad (.int k n)) := by go_simp
theorem ld86 {ad : Addr} (h : W.cell? ad = some v) : (loadVar 68 ad).run Tryd.prog W = .ok v W := by go_simp
theorem ld120 {ad : Addr} (h : W.cell? ad = some v) : (loadVar 28 ad).run Tryd.prog W = .ok v W := by go_simp
theorem st120 {ad : Addr} {A : Option Addr} {l c : Nat} (h : W.cell? ad = some u) (hf : W.frozen? ad = false) : (storeVar 28 ad (.slice A l c)).run Tryd.prog W = .ok () (W.setCell ad (.slice A l c)) := by go_simp
theorem ld82 (h0 : W.cell? ⟨g, o, none⟩ = some u) (h1 : W.cell? ⟨g, o + 1, none⟩ = some v) : (loadVar 24 ⟨g, o, none⟩).run Tryd.prog W = .ok (.agg #[u, v]) W := by
  refine run_load_cells W ⟨g, o, none⟩ 24 #[u, v] _ (fun j x hj => ?_) Tryd.underlying24 rfl size82
  rw [lit_add]
  match j, hj with
  | 0, hj => simp at hj; subst hj; exact h0
  | 1, hj => simp at hj; subst hj; exact h1
theorem ld54 (xs : List Nat) (h8 : xs.length = 8) (h : ∀ j u, (xs.map fun y => Value.int .u32 (y : Nat))[j]? = some u → W.cell? ⟨g, o + j, none⟩ = some u) : (loadVar 26 ⟨g, o, none⟩).run Tryd.prog W = .ok (.agg (vecA xs)) W :=
  run_load_cells W ⟨g, o, none⟩ 26 (vecA xs) _ (fun j x hj => by rw [lit_add]; exact h j x (by simpa [vecA] using hj)) Tryd.underlying26 rfl (by rw [vecA_size, h8]; exact size54)
theorem ld122 {cs : Array Value} (k : Blk W g 30 cs) (h : cs.size = 29) : (loadVar 30 ⟨g, 0, none⟩).run Tryd.prog W = .ok (.agg cs) W :=
  run_load_cells W ⟨g, 0, none⟩ 30 cs _ (fun j x hj => by rw [lit_add, Nat.zero_add]; exact (k.cell j).trans hj) Tryd.underlying30 rfl (by rw [h]; exact size122)
end
end Go.Proofs.YtfojjklohbiffaaDoor
