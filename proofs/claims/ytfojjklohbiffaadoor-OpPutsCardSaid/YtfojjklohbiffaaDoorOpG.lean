/- Fields of an operation put into its cells. -/
import Derived.Test.YtfojjklohbiffaaDoorOpE
namespace Go.Proofs.YtfojjklohbiffaaDoor
open Go.RowKit Tran Tran.Wire
set_option linter.unusedVariables false
theorem dep8 {l : List Nat} (h : l.length = 8) : ∃ a b c d e f g i, l = [a, b, c, d, e, f, g, i] := by
  match l, h with
  | [a, b, c, d, e, f, g, i], _ => exact ⟨a, b, c, d, e, f, g, i, rfl⟩
theorem op_put2 (x : NOp) (lv : Value) (h : x.dep.length = 8) (xs : List Nat) (hx : xs.length = 8) : putAt (opA x lv) 2 (vecA xs).toList = opA { x with dep := xs } lv := by
  cases x
  obtain ⟨_, _, _, _, _, _, _, _, rfl⟩ := dep8 h
  obtain ⟨_, _, _, _, _, _, _, _, rfl⟩ := dep8 hx
  simp [vecA, putAt, opA, opF]
theorem op_put0 (x : NOp) (lv : Value) (h : x.dep.length = 8) (a b : Nat) : putAt (opA x lv) 0 [.int .u8 (a : Nat), .int .u32 (b : Nat)] = opA { x with dr := a, dn := b } lv := by
  cases x
  obtain ⟨_, _, _, _, _, _, _, _, rfl⟩ := dep8 h
  rfl
theorem op_put12 (x : NOp) (lv : Value) (h : x.dep.length = 8) (a b : Nat) : putAt (opA x lv) 12 [.int .u8 (a : Nat), .int .u32 (b : Nat)] = opA { x with cr := a, cn := b } lv := by
  cases x
  obtain ⟨_, _, _, _, _, _, _, _, rfl⟩ := dep8 h
  rfl
theorem op_put15 (x : NOp) (lv : Value) (h : x.dep.length = 8) (a b : Nat) : putAt (opA x lv) 15 [.int .u8 (a : Nat), .int .u32 (b : Nat)] = opA { x with er := a, en := b } lv := by
  cases x
  obtain ⟨_, _, _, _, _, _, _, _, rfl⟩ := dep8 h
  rfl
theorem op_put21 (x : NOp) (lv : Value) (h : x.dep.length = 8) (a b : Nat) : putAt (opA x lv) 21 [.int .u8 (a : Nat), .int .u32 (b : Nat)] = opA { x with ar := a, an := b } lv := by
  cases x
  obtain ⟨_, _, _, _, _, _, _, _, rfl⟩ := dep8 h
  rfl
theorem op_put23 (x : NOp) (lv : Value) (h : x.dep.length = 8) (a b : Nat) : putAt (opA x lv) 23 [.int .u8 (a : Nat), .int .u32 (b : Nat)] = opA { x with vr := a, vn := b } lv := by
  cases x
  obtain ⟨_, _, _, _, _, _, _, _, rfl⟩ := dep8 h
  rfl
theorem op_put10 (x : NOp) (lv : Value) (h : x.dep.length = 8) (a : Nat) : putAt (opA x lv) 10 [.int .u64 (a : Nat)] = opA { x with time := a } lv := by
  cases x
  obtain ⟨_, _, _, _, _, _, _, _, rfl⟩ := dep8 h
  rfl
theorem op_put11 (x : NOp) (lv : Value) (h : x.dep.length = 8) (a : Nat) : putAt (opA x lv) 11 [.int .u32 (a : Nat)] = opA { x with who := a } lv := by
  cases x
  obtain ⟨_, _, _, _, _, _, _, _, rfl⟩ := dep8 h
  rfl
theorem op_put14 (x : NOp) (lv : Value) (h : x.dep.length = 8) (a : Nat) : putAt (opA x lv) 14 [.int .u8 (a : Nat)] = opA { x with kind := a } lv := by
  cases x
  obtain ⟨_, _, _, _, _, _, _, _, rfl⟩ := dep8 h
  rfl
theorem op_put17 (x : NOp) (lv : Value) (h : x.dep.length = 8) (a : Nat) : putAt (opA x lv) 17 [.int .u32 (a : Nat)] = opA { x with dest := a } lv := by
  cases x
  obtain ⟨_, _, _, _, _, _, _, _, rfl⟩ := dep8 h
  rfl
theorem op_put18 (x : NOp) (lv : Value) (h : x.dep.length = 8) (a : Nat) : putAt (opA x lv) 18 [.int .u8 (a : Nat)] = opA { x with roles := a } lv := by
  cases x
  obtain ⟨_, _, _, _, _, _, _, _, rfl⟩ := dep8 h
  rfl
theorem op_put19 (x : NOp) (lv : Value) (h : x.dep.length = 8) (a : Nat) : putAt (opA x lv) 19 [.int .u8 (a : Nat)] = opA { x with depth := a } lv := by
  cases x
  obtain ⟨_, _, _, _, _, _, _, _, rfl⟩ := dep8 h
  rfl
theorem op_put20 (x : NOp) (lv : Value) (h : x.dep.length = 8) (a : Nat) : putAt (opA x lv) 20 [.int .u64 (a : Nat)] = opA { x with cap := a } lv := by
  cases x
  obtain ⟨_, _, _, _, _, _, _, _, rfl⟩ := dep8 h
  rfl
theorem op_put25 (x : NOp) (lv : Value) (h : x.dep.length = 8) (a : Nat) : putAt (opA x lv) 25 [.int .u32 (a : Nat)] = opA { x with item := a } lv := by
  cases x
  obtain ⟨_, _, _, _, _, _, _, _, rfl⟩ := dep8 h
  rfl
theorem op_put26 (x : NOp) (lv : Value) (h : x.dep.length = 8) (a : Nat) : putAt (opA x lv) 26 [.int .u32 (a : Nat)] = opA { x with qty := a } lv := by
  cases x
  obtain ⟨_, _, _, _, _, _, _, _, rfl⟩ := dep8 h
  rfl
theorem op_put27 (x : NOp) (lv : Value) (h : x.dep.length = 8) (a : Nat) : putAt (opA x lv) 27 [.int .u32 (a : Nat)] = opA { x with price := a } lv := by
  cases x
  obtain ⟨_, _, _, _, _, _, _, _, rfl⟩ := dep8 h
  rfl
theorem op_put28 (x : NOp) (lv lv2 : Value) (h : x.dep.length = 8) : putAt (opA x lv) 28 [lv2] = opA x lv2 := by
  cases x
  obtain ⟨_, _, _, _, _, _, _, _, rfl⟩ := dep8 h
  rfl
theorem opA_lines (x : NOp) (lv : Value) (ls : List NClaim) : opA { x with lines := ls } lv = opA x lv := by cases x; rfl
end Go.Proofs.YtfojjklohbiffaaDoor
