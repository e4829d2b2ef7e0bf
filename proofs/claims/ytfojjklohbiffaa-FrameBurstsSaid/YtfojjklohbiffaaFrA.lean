/- A frame as data; its cells; an argument opened. -/
import Derived.Test.YtfojjklohbiffaaOpA
namespace Go.Proofs.Ytfojjklohbiffaa
open Go.RowKit Go.ChangeShapes Go.WideShapes Go.Deep Tran
set_option linter.unusedSimpArgs false
set_option linter.unusedVariables false
/-- an operation and the value that holds its lines -/
abbrev POp := NOp × Value
def pF (p : POp) : List Value := opF p.1 p.2
def POp.good (w : World) (p : POp) : Prop := Lns w p.2 p.1.lines ∧ p.1.ok
theorem pF_len {w : World} (p : POp) (h : p.good w) : (pF p).length = 29 := opF_len _ _ h.2.dep8
/-- a value that reads as these operations -/
def Ops (w : World) (ov : Value) (ps : List POp) : Prop := ∃ A cap, ov = .slice A ps.length cap ∧ Rd w A ps.length 29 (ps.flatMap pF) ∧ ps.length ≤ 8796093022208 ∧ ∀ p ∈ ps, p.good w
theorem Ops.later {w w' : World} {ov : Value} {ps : List POp} (h : Ops w ov ps) (hb : Below w.heap.size w w') : Ops w' ov ps := by
  obtain ⟨A, cap, h1, h2, h3, h4⟩ := h
  exact ⟨A, cap, h1, h2.later hb, h3, fun p hp => ⟨(h4 p hp).1.later hb, (h4 p hp).2⟩⟩
theorem Ops.nil (w : World) : Ops w (.slice none 0 0) [] := ⟨none, 0, rfl, ⟨rfl, fun h => absurd h (by simp)⟩, by simp, by simp⟩
/-- a frame -/
structure NFrame where
  kind : Nat
  src : Nat
  dst : Nat
  have_ : List Nat
  ops : List POp
structure NFrame.ok (x : NFrame) : Prop where
  kind : x.kind < 256
  src : x.src < 256
  dst : x.dst < 256
  have8 : x.have_.length = 8
  have_ : ∀ y ∈ x.have_, y < 4294967296
def frF (x : NFrame) (ov : Value) : List Value := [.int .u8 (x.kind : Int), .int .u8 (x.src : Int), .int .u8 (x.dst : Int)] ++ (x.have_.map (fun y => Value.int .u32 (y : Nat)) ++ [ov])
def frA (x : NFrame) (ov : Value) : Array Value := (frF x ov).toArray
theorem frF_len (x : NFrame) (ov : Value) (h : x.have_.length = 8) : (frF x ov).length = 12 := by simp [frF, h]
theorem frA_size (x : NFrame) (ov : Value) (h : x.have_.length = 8) : (frA x ov).size = 12 := by simp [frA, frF_len x ov h]
theorem fr_c0 (x : NFrame) (ov : Value) : (frA x ov)[0]? = some (.int .u8 (x.kind : Int)) := by simp [frA, frF]
theorem fr_c1 (x : NFrame) (ov : Value) : (frA x ov)[1]? = some (.int .u8 (x.src : Int)) := by simp [frA, frF]
theorem fr_c2 (x : NFrame) (ov : Value) : (frA x ov)[2]? = some (.int .u8 (x.dst : Int)) := by simp [frA, frF]
theorem fr_c3 (x : NFrame) (ov : Value) (j : Nat) (u : Value) (h : (x.have_.map fun y => Value.int .u32 (y : Nat))[j]? = some u) : (frA x ov)[3 + j]? = some u := by
  have hj : j < (x.have_.map fun y => Value.int .u32 (y : Nat)).length := (List.getElem?_eq_some_iff.1 h).1
  simp only [frA, frF, List.getElem?_toArray]
  rw [List.getElem?_append_right (by simp), List.getElem?_append_left (by simpa using hj)]
  simpa using h
theorem fr_c11 (x : NFrame) (ov : Value) (h : x.have_.length = 8) : (frA x ov)[11]? = some ov := by
  simp only [frA, frF, List.getElem?_toArray]
  rw [List.getElem?_append_right (by simp), List.getElem?_append_right (by simp [h])]
  simp [h]
theorem cells55 : Try.prog.cellsOf 55 = 1 := by kernel_rfl
theorem bytes122 : 16 ≤ Try.prog.bytesOf 122 := by decide +kernel
theorem size57 : (Try.prog.info? 57).map (·.size) = some 12 := by kernel_rfl
section
variable {H : Type} {enc : TypeId × Value → H} {w : World} {base : Nat} {fuel : Nat} {cs : List Value} {x : DataW H × List MemPlace}
theorem ops_of {v : Value} (h : DataW.trod enc Try.prog w base (fun _ => true) true fuel 55 [v] = some x) (hz : ∀ n ∈ x.1.weights Try.prog 55, n ≤ reachBytes) :
    ∃ ps : List POp, Ops w v ps := by
  obtain ⟨A, cap, l, h1, h2, h3, h4, h5⟩ := rows_of (α := POp) (⟨0, 0, [], 0, 0, 0, 0, 0, 0, 0, 0, 0, 0, 0, 0, 0, 0, 0, 0, 0, 0, []⟩, .slice none 0 0) pF 29 Try.underlying55 cells122 (POp.good w) (fun p hp => pF_len p hp)
    (fun n cs y hy _ hk => by
      obtain ⟨a, lv, e, hL, ho⟩ := op_of hy hk
      exact ⟨(a, lv), e, hL, ho⟩) h hz
  have h6 := Nat.le_trans (Nat.mul_le_mul_left l.length bytes122) h4
  unfold reachBytes at h6
  exact ⟨l, A, cap, h1, h2, by omega, h5⟩
/-- a frame's cells, wherever they lie -/
def FrIn (w : World) (cs : List Value) (x : NFrame) : Prop := ∃ ov, cs = frF x ov ∧ Ops w ov x.ops ∧ x.ok
set_option maxRecDepth 100000 in
set_option maxHeartbeats 2000000 in
theorem fr_of (h : DataW.trod enc Try.prog w base (fun _ => true) true fuel 57 cs = some x) (hz : ∀ k ∈ x.1.weights Try.prog 57, k ≤ reachBytes) : ∃ a : NFrame, FrIn w cs a := by
  obtain ⟨ys, m, _, hx, hl, hyl, hf⟩ := DataW.trod_struct Try.underlying57 h
  rw [cells57] at hl
  match cs, hl with
  | [c0, c1, c2, c3, c4, c5, c6, c7, c8, c9, c10, c11], _ =>
    match ys, hyl with
    | [y0, y1, y2, y3, y4], _ =>
      have h0 := hf 0 _ rfl
      have h1 := hf 1 _ rfl
      have h2 := hf 2 _ rfl
      have h3 := hf 3 _ rfl
      have h4 := hf 4 _ rfl
      simp only [opcells5, opcells54, cells55, List.drop_zero, List.drop_succ_cons, List.take_succ_cons, List.take_zero, List.getElem?_cons_zero, List.getElem?_cons_succ] at h0 h1 h2 h3 h4
      obtain ⟨kind, e0, b0⟩ := trod_u8 Try.underlying5 h0
      obtain ⟨src, e1, b1⟩ := trod_u8 Try.underlying5 h1
      obtain ⟨dst, e2, b2⟩ := trod_u8 Try.underlying5 h2
      obtain ⟨hv, hd8, e3, b3⟩ := trod_u32s Try.underlying54 Try.underlying22 opcells22 opcells54 h3
      obtain ⟨ps, hP⟩ := ops_of h4 (fun n hn => hz n (by
        subst hx
        simp only [DataW.weights, Try.underlying57]
        exact weightsEach_in (i := 4) (t := 55) (d := y4.1) rfl rfl _ hn))
      injection e0 with e0
      injection e1 with e1
      injection e2 with e2
      subst e0 e1 e2
      refine ⟨⟨kind, src, dst, hv, ps⟩, c11, ?_, hP, b0, b1, b2, hd8, b3⟩
      simp only [frF]
      rw [← e3]
      rfl
end
end Go.Proofs.Ytfojjklohbiffaa
