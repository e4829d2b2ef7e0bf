/- Arguments opened: arrays of two numbers. -/
import Derived.Test.YtfojjklohbiffaaProg
import Derived.Test.YtfojjklohbiffaaCells
namespace Tran
open Go Go.RowKit Go.ChangeShapes Go.WideShapes Go.Deep
theorem okWide_array {P : Program} {w : World} {r : Reach} {base : Nat} {t : TypeId} {v : Value} {n : Nat} {e : TypeId} (ht : P.underlying t = some (.array n e)) (h : Value.okWide P w r base t v) : ∃ cs, v = .agg cs ∧ cs.size = P.cellsOf t := by
  simp only [Value.okWide, ht] at h
  obtain ⟨cs, h1, h2, _⟩ := h
  exact ⟨cs, h1, h2⟩
section
variable {H : Type} {enc : TypeId × Value → H} {P : Program} {w : World} {base : Nat} {spare : Nat → Bool} {held : Bool}
/-- an array of two numbers: its elements, each read as one -/
theorem arr2_of {Q : Value → Prop} {t e : TypeId} {r : Reach} {b0 : Nat} {v : Value} {d : DataW H} {p : List MemPlace} (ht : P.underlying t = some (.array 2 e)) (hc : P.cellsOf e = 1) (hct : P.cellsOf t = 2)
    (hq : ∀ m cs x, DataW.trod enc P w base spare held m e cs = some x → ∃ u, cs = [u] ∧ Q u)
    (hv : Value.okWide P w r b0 t v) (h : DataW.Trod enc P w base spare held t v d p) : ∃ a b : Value, v = .agg #[a, b] ∧ Q a ∧ Q b := by
  obtain ⟨cs, rfl, hsz⟩ := okWide_array ht hv
  obtain ⟨l⟩ := cs
  match l, hsz.trans hct with
  | [c0, c1], _ =>
    obtain ⟨fuel, hf⟩ := h
    obtain ⟨ys, m, _, _, hl, hyl, hg⟩ := DataW.trod_array ht hf
    match ys, hyl with
    | [y0, y1], _ =>
      have g0 := hg 0 (by omega)
      have g1 := hg 1 (by omega)
      simp only [hc, Value.cells, List.drop_zero, List.drop_succ_cons, List.take_succ_cons, List.take_zero, List.getElem?_cons_zero, List.getElem?_cons_succ, Nat.zero_mul, Nat.one_mul, List.toList_toArray] at g0 g1
      obtain ⟨u, e0, q0⟩ := hq _ _ _ g0
      obtain ⟨u', e1, q1⟩ := hq _ _ _ g1
      injection e0 with e0
      injection e1 with e1
      subst e0 e1
      exact ⟨_, _, rfl, q0, q1⟩
end
end Tran
namespace Go.Proofs.Ytfojjklohbiffaa
open Go.RowKit Go.ChangeShapes Go.WideShapes Go.Deep Tran
theorem cells33 : Try.prog.cellsOf 33 = 1 := by kernel_rfl
theorem cells22_ : Try.prog.cellsOf 22 = 1 := by kernel_rfl
theorem cells113 : Try.prog.cellsOf 113 = 2 := by kernel_rfl
theorem cells69 : Try.prog.cellsOf 69 = 2 := by kernel_rfl
set_option maxRecDepth 100000 in
theorem two16 {H : Type} {enc : TypeId × Value → H} {w : World} {base : Nat} {spare : Nat → Bool} {held : Bool} {r : Reach} {b0 : Nat} {v : Value} {d : DataW H} {p : List MemPlace}
    (hv : Value.okWide Try.prog w r b0 113 v) (h : DataW.Trod enc Try.prog w base spare held 113 v d p) : ∃ a b : Nat, v = .agg #[.int .u16 (a : Nat), .int .u16 (b : Nat)] ∧ a < 65536 ∧ b < 65536 := by
  obtain ⟨a, b, rfl, ⟨m, rfl, hm⟩, ⟨k, rfl, hk⟩⟩ := arr2_of (Q := fun u => ∃ m : Nat, u = .int .u16 (m : Int) ∧ m < 65536) Try.underlying113 cells33 cells113 (fun m cs x hx => by
    obtain ⟨n, rfl, hn⟩ := trod_u16 Try.underlying33 hx
    exact ⟨_, rfl, n, rfl, hn⟩) hv h
  exact ⟨m, k, rfl, hm, hk⟩
set_option maxRecDepth 100000 in
theorem two32 {H : Type} {enc : TypeId × Value → H} {w : World} {base : Nat} {spare : Nat → Bool} {held : Bool} {r : Reach} {b0 : Nat} {v : Value} {d : DataW H} {p : List MemPlace}
    (hv : Value.okWide Try.prog w r b0 69 v) (h : DataW.Trod enc Try.prog w base spare held 69 v d p) : ∃ a b : Nat, v = .agg #[.int .u32 (a : Nat), .int .u32 (b : Nat)] ∧ a < 4294967296 ∧ b < 4294967296 := by
  obtain ⟨a, b, rfl, ⟨m, rfl, hm⟩, ⟨k, rfl, hk⟩⟩ := arr2_of (Q := fun u => ∃ m : Nat, u = .int .u32 (m : Int) ∧ m < 4294967296) Try.underlying69 cells22_ cells69 (fun m cs x hx => by
    obtain ⟨n, rfl, hn⟩ := trod_u32 Try.underlying22 hx
    exact ⟨_, rfl, n, rfl, hn⟩) hv h
  exact ⟨m, k, rfl, hm, hk⟩
end Go.Proofs.Ytfojjklohbiffaa
