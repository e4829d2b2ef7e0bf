/- Nets: pointers to none; a row of zeros. -/
import Derived.Test.YtfojjklohbiffaaNetK
namespace Go.Proofs.Ytfojjklohbiffaa
open Go.RowKit Tran
theorem info5' : (Try.prog.info? 5).map (fun i => (i.zero, i.size, i.bytes)) = some (some (.int .u8 0), 1, 1) := by kernel_rfl
theorem made_zero' (n : Nat) : (madeCells (Value.int .u8 0).cells (n * 1)).toList = bc (List.replicate n 0) := by
  apply List.ext_getElem
  · simp [madeCells, bc]
  · intro i h1 h2
    simp [madeCells, bc, Value.cells, Nat.mod_one]
theorem zeros (n : Nat) : ∃ Z : List UInt8, Z.length = n ∧ (madeCells (Value.int .u8 0).cells (n * 1)).toList = bc Z := ⟨List.replicate n 0, List.length_replicate, made_zero' n⟩
/-- two pointers, to no net each -/
def Two (w : World) (ad : Addr) : Prop := ∀ j, j < 2 → ∃ q, w.cell? (ad.add j) = some (.pointer q) ∧ NoNet w (.pointer q)
theorem NoNet.below {w w' : World} {p : Value} (h : NoNet w p) (hb : Below w.heap.size w w') : NoNet w' p := by
  rcases h with rfl | ⟨g, rfl, hc⟩
  · exact .inl rfl
  · exact .inr ⟨g, rfl, by rw [hb.cell (World.block_lt_of_cell? w _ hc)]; exact hc⟩
theorem Two.below {w w' : World} {ad : Addr} (h : Two w ad) (hb : Below w.heap.size w w') : Two w' ad := fun j hj => by
  obtain ⟨q, h1, h2⟩ := h j hj
  exact ⟨q, by rw [hb.cell (World.block_lt_of_cell? w _ h1)]; exact h1, h2.below hb⟩
theorem two_new (w : World) : Two ((w.alloc (.cells #[.slice none 0 0, .bool false] 72)).alloc (.cells #[.pointer none, .pointer (some ⟨w.heap.size, 0, none⟩)] 41)) ⟨w.heap.size + 1, 0, none⟩ := by
  have h1 := (Blk.new w 72 #[.slice none 0 0, .bool false]).alloc (.cells #[.pointer none, .pointer (some ⟨w.heap.size, 0, none⟩)] 41)
  have h2 := Blk.new (w.alloc (.cells #[.slice none 0 0, .bool false] 72)) 41 #[.pointer none, .pointer (some ⟨w.heap.size, 0, none⟩)]
  have e : (w.alloc (.cells #[.slice none 0 0, .bool false] 72)).heap.size = w.heap.size + 1 := by simp
  rw [e] at h2
  intro j hj
  have hj2 : j = 0 ∨ j = 1 := by omega
  rcases hj2 with rfl | rfl
  · exact ⟨none, by rw [add_zero]; exact h2.cell 0, .inl rfl⟩
  · exact ⟨_, by rw [add_zero]; exact h2.cell 1, .inr ⟨_, rfl, h1.cell 1⟩⟩
end Go.Proofs.Ytfojjklohbiffaa
