/- An argument that is a frame, opened. -/
import Derived.Test.YtfojjklohbiffaaFrA
namespace Go.Proofs.Ytfojjklohbiffaa
open Go.RowKit Go.ChangeShapes Go.WideShapes Go.Deep Tran
theorem okWide_struct {P : Program} {w : World} {r : Reach} {base : Nat} {t : TypeId} {v : Value} {fs : Array Field} (ht : P.underlying t = some (.struct fs)) (h : Value.okWide P w r base t v) : ∃ cs, v = .agg cs ∧ cs.size = P.cellsOf t := by
  simp only [Value.okWide, ht] at h
  obtain ⟨cs, h1, h2, _⟩ := h
  exact ⟨cs, h1, h2⟩
set_option maxRecDepth 100000 in
theorem frame_of {H : Type} {enc : TypeId × Value → H} {w : World} {base : Nat} {r : Reach} {b0 : Nat} {v : Value} {d : DataW H} {p : List MemPlace}
    (hv : Value.okWide Try.prog w r b0 57 v) (h : DataW.Trod enc Try.prog w base (fun _ => true) true 57 v d p) (hz : ∀ n ∈ d.weights Try.prog 57, n ≤ reachBytes) :
    ∃ (x : NFrame) (ov : Value), v = .agg (frA x ov) ∧ Ops w ov x.ops ∧ x.ok := by
  obtain ⟨cs, rfl, hsz⟩ := okWide_struct Try.underlying57 hv
  obtain ⟨fuel, hf⟩ := h
  obtain ⟨x, ov, e, hO, hx⟩ := fr_of (x := (d, p)) hf hz
  refine ⟨x, ov, ?_, hO, hx⟩
  obtain ⟨l⟩ := cs
  have e2 : l = frF x ov := e
  rw [e2]
  rfl
end Go.Proofs.Ytfojjklohbiffaa
