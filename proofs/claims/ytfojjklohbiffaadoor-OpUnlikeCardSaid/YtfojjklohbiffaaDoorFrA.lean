/- A frame as data; its cells; an argument opened. -/
import Derived.Test.YtfojjklohbiffaaDoorOpA
namespace Go.Proofs.YtfojjklohbiffaaDoor
open Go.RowKit Go.ChangeShapes Go.WideShapes Go.Deep Tran
set_option linter.unusedSimpArgs false
set_option linter.unusedVariables false
/-- an operation and the value that holds its lines -/
abbrev POp := NOp × Value
def pF (p : POp) : List Value := opF p.1 p.2
def POp.good (w : World) (p : POp) : Prop := Lns w p.2 p.1.lines ∧ p.1.ok
theorem pF_len {w : World} (p : POp) (h : p.good w) : (pF p).length = 29 := opF_len _ _ h.2.dep8
/-- a value that reads as these operations -/
def Ops (w : World) (ov : Value) (ps : List POp) : Prop := ∃ A cap, ov = .slice A ps.length cap ∧ Rd w A ps.length 29 (ps.flatMap pF) ∧ ps.length ≤ 8796093022208 ∧ ∀ p ∈ ps, p.good w
theorem Ops.later {w w' : World} {ov : Value} {ps : List POp} (h : Ops w ov ps) (hb : Below w.heap.size w w') : Ops w' ov ps := by
  obtain ⟨A, cap, h1, h2, h3, h4⟩ := h
  exact ⟨A, cap, h1, h2.later hb, h3, fun p hp => ⟨(h4 p hp).1.later hb, (h4 p hp).2⟩⟩
theorem Ops.nil (w : World) : Ops w (.slice none 0 0) [] := ⟨none, 0, rfl, ⟨rfl, fun h => absurd h (by simp)⟩, by simp, by simp⟩
/-- a frame -/
structure NFrame where
  kind : Nat
  src : Nat
  dst : Nat
  have_ : List Nat
  ops : List POp
structure NFrame.ok (x : NFrame) : Prop where
  kind : x.kind < 256
  src : x.src < 256
  dst : x.dst < 256
  have8 : x.have_.length = 8
  have_ : ∀ y ∈ x.have_, y < 4294967296
def frF (x : NFrame) (ov : Value) : List Value := [.int .u8 (x.kind : Int), .int .u8 (x.src : Int), .int .u8 (x.dst : Int)] ++ (x.have_.map (fun y => Value.int .u32 (y : Nat)) ++ [ov])
def frA (x : NFrame) (ov : Value) : Array Value := (frF x ov).toArray
theorem frF_len (x : NFrame) (ov : Value) (h : x.have_.length = 8) : (frF x ov).length = 12 := by simp [frF, h]
theorem frA_size (x : NFrame) (ov : Value) (h : x.have_.length = 8) : (frA x ov).size = 12 := by simp [frA, frF_len x ov h]
theorem fr_c0 (x : NFrame) (ov : Value) : (frA x ov)[0]? = some (.int .u8 (x.kind : Int)) := by simp [frA, frF]
theorem fr_c1 (x : NFrame) (ov : Value) : (frA x ov)[1]? = some (.int .u8 (x.src : Int)) := by simp [frA, frF]
theorem fr_c2 (x : NFrame) (ov : Value) : (frA x ov)[2]? = some (.int .u8 (x.dst : Int)) := by simp [frA, frF]
theorem fr_c3 (x : NFrame) (ov : Value) (j : Nat) (u : Value) (h : (x.have_.map fun y => Value.int .u32 (y : Nat))[j]? = some u) : (frA x ov)[3 + j]? = some u := by
  have hj : j < (x.have_.map fun y => Value.int .u32 (y : Nat)).length := (List.getElem?_eq_some_iff.1 h).1
  simp only [frA, frF, List.getElem?_toArray]
  rw [List.getElem?_append_right (by simp), List.getElem?_append_left (by simpa using hj)]
  simpa using h
theorem fr_c11 (x : NFrame) (ov : Value) (h : x.have_.length = 8) : (frA x ov)[11]? = some ov := by
  simp only [frA, frF, List.getElem?_toArray]
  rw [List.getElem?_append_right (by simp), List.getElem?_append_right (by simp [h])]
  simp [h]
theorem bytes122 : 16 ≤ Tryd.prog.bytesOf 30 := by decide +kernel
section
variable {H : Type} {enc : TypeId × Value → H} {w : World} {base : Nat} {fuel : Nat} {cs : List Value} {x : DataW H × List MemPlace}
/-- a frame's cells, wherever they lie -/
def FrIn (w : World) (cs : List Value) (x : NFrame) : Prop := ∃ ov, cs = frF x ov ∧ Ops w ov x.ops ∧ x.ok
end
end Go.Proofs.YtfojjklohbiffaaDoor
