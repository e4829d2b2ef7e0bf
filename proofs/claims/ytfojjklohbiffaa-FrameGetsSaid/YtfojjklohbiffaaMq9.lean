/- Operations read: what the reader tells, plain; the closures short and word. -/
import Derived.Test.YtfojjklohbiffaaMq1
import Derived.Test.YtfojjklohbiffaaMq5
import Derived.Test.YtfojjklohbiffaaMq6
import Derived.Test.YtfojjklohbiffaaMq8
namespace Go.Proofs.Ytfojjklohbiffaa
open Go.RowKit Tran Tran.Wire
set_option linter.unusedVariables false
theorem rnum_small (st : Option (List UInt8)) (m : Nat) : (rnumS st m).1 ≤ m := rnumS_le st m
def dotZ (st : Option (List UInt8)) : Nat × Nat := if (rdotS st).2.isSome = true then (rdotS st).1 else (0, 0)
theorem dotV_eq (st : Option (List UInt8)) : dotV st = .agg #[.int .u8 ((dotZ st).1 : Nat), .int .u32 ((dotZ st).2 : Nat)] := by
  unfold dotV dotZ pickS
  cases (rdotS st).2 <;> simp
theorem dotZ_lt (st : Option (List UInt8)) : (dotZ st).1 < 256 ∧ (dotZ st).2 < 4294967296 := by
  have h1 := rnumS_le st 255
  have h2 := rnumS_le (rnumS st 255).2 4294967295
  unfold dotZ
  split
  · simp only [rdotS]; omega
  · simp
def vecZ (st : Option (List UInt8)) : List Nat := if (rvecS st 8).2.isSome = true then (rvecS st 8).1 else zer8
theorem vecV_eq (st : Option (List UInt8)) : vecV st = .agg (vecA (vecZ st)) := by
  unfold vecV vecZ pickS
  cases (rvecS st 8).2 <;> simp
theorem vecZ_len (st : Option (List UInt8)) : (vecZ st).length = 8 := by
  unfold vecZ
  split
  · exact rvecS_len st 8
  · rfl
theorem rvecS_lt (st : Option (List UInt8)) : ∀ k, ∀ y ∈ (rvecS st k).1, y < 4294967296
  | 0, y, h => by simp [rvecS] at h
  | k + 1, y, h => by
    simp only [rvecS, List.mem_append, List.mem_singleton] at h
    rcases h with h | rfl
    · exact rvecS_lt st k y h
    · have := rnumS_le (rvecS st k).2 4294967295; omega
theorem vecZ_lt (st : Option (List UInt8)) : ∀ y ∈ vecZ st, y < 4294967296 := by
  unfold vecZ
  split
  · exact rvecS_lt st 8
  · intro y hy; simp [zer8] at hy; omega
/-- a line read -/
def rdClaim (st : Option (List UInt8)) : NClaim := ⟨(dotZ st).1, (dotZ st).2, (dotZ (rdotS st).2).1, (dotZ (rdotS st).2).2⟩
def rdClaimS (st : Option (List UInt8)) : Option (List UInt8) := (rdotS (rdotS st).2).2
theorem rdClaim_ok (st : Option (List UInt8)) : (rdClaim st).ok := ⟨(dotZ_lt st).1, (dotZ_lt st).2, (dotZ_lt _).1, (dotZ_lt _).2⟩
def rdLines (st : Option (List UInt8)) : Nat → List NClaim × Option (List UInt8)
  | 0 => ([], st)
  | k + 1 => ((rdLines st k).1 ++ [rdClaim (rdLines st k).2], rdClaimS (rdLines st k).2)
theorem rdLines_len (st : Option (List UInt8)) : ∀ k, (rdLines st k).1.length = k
  | 0 => rfl
  | k + 1 => by simp [rdLines, rdLines_len st k]
theorem rdLines_ok (st : Option (List UInt8)) : ∀ k, ∀ c ∈ (rdLines st k).1, c.ok
  | 0, c, h => by simp [rdLines] at h
  | k + 1, c, h => by
    simp only [rdLines, List.mem_append, List.mem_singleton] at h
    rcases h with h | rfl
    · exact rdLines_ok st k c h
    · exact rdClaim_ok _
/-- an operation read -/
def rdO (st : Option (List UInt8)) : NOp × Option (List UInt8) :=
  let s1 := (rdotS st).2
  let s2 := (rvecS s1 8).2
  let n3 := rnumS s2 18446744073709551615
  let n4 := rnumS n3.2 4294967295
  let s5 := (rdotS n4.2).2
  let n6 := rnumS s5 255
  let s7 := (rdotS n6.2).2
  let n8 := rnumS s7 4294967295
  let n9 := rnumS n8.2 255
  let n10 := rnumS n9.2 255
  let n11 := rnumS n10.2 18446744073709551615
  let s12 := (rdotS n11.2).2
  let s13 := (rdotS s12).2
  let n14 := rnumS s13 4294967295
  let n15 := rnumS n14.2 4294967295
  let n16 := rnumS n15.2 4294967295
  let n17 := rnumS n16.2 16
  ({ dr := (dotZ st).1, dn := (dotZ st).2, dep := vecZ s1, time := n3.1, who := n4.1, cr := (dotZ n4.2).1, cn := (dotZ n4.2).2, kind := n6.1, er := (dotZ n6.2).1, en := (dotZ n6.2).2, to := n8.1, roles := n9.1, depth := n10.1, cap := n11.1, ar := (dotZ n11.2).1, an := (dotZ n11.2).2, vr := (dotZ s12).1, vn := (dotZ s12).2, item := n14.1, qty := n15.1, price := n16.1, lines := (rdLines n17.2 n17.1).1 }, (rdLines n17.2 n17.1).2)
def zeroO : NOp := { dr := 0, dn := 0, dep := zer8, time := 0, who := 0, cr := 0, cn := 0, kind := 0, er := 0, en := 0, to := 0, roles := 0, depth := 0, cap := 0, ar := 0, an := 0, vr := 0, vn := 0, item := 0, qty := 0, price := 0, lines := [] }
theorem zeroO_ok : zeroO.ok := by
  constructor <;> simp [zeroO, zer8]
set_option maxRecDepth 100000 in
theorem rdO_ok (st : Option (List UInt8)) : (rdO st).1.ok := by
  constructor
  case dr => exact (dotZ_lt _).1
  case dn => exact (dotZ_lt _).2
  case dep8 => exact vecZ_len _
  case dep => exact vecZ_lt _
  case time => exact Nat.lt_of_le_of_lt (rnumS_le _ _) (by decide)
  case who => exact Nat.lt_of_le_of_lt (rnumS_le _ _) (by decide)
  case cr => exact (dotZ_lt _).1
  case cn => exact (dotZ_lt _).2
  case kind => exact Nat.lt_of_le_of_lt (rnumS_le _ _) (by decide)
  case er => exact (dotZ_lt _).1
  case en => exact (dotZ_lt _).2
  case to => exact Nat.lt_of_le_of_lt (rnumS_le _ _) (by decide)
  case roles => exact Nat.lt_of_le_of_lt (rnumS_le _ _) (by decide)
  case depth => exact Nat.lt_of_le_of_lt (rnumS_le _ _) (by decide)
  case cap => exact Nat.lt_of_le_of_lt (rnumS_le _ _) (by decide)
  case ar => exact (dotZ_lt _).1
  case an => exact (dotZ_lt _).2
  case vr => exact (dotZ_lt _).1
  case vn => exact (dotZ_lt _).2
  case item => exact Nat.lt_of_le_of_lt (rnumS_le _ _) (by decide)
  case qty => exact Nat.lt_of_le_of_lt (rnumS_le _ _) (by decide)
  case price => exact Nat.lt_of_le_of_lt (rnumS_le _ _) (by decide)
  case lines => exact rdLines_ok _ _
set_option maxRecDepth 100000 in
theorem rdO_lines (st : Option (List UInt8)) : (rdO st).1.lines.length ≤ 16 := by
  unfold rdO
  simp only [rdLines_len]
  exact rnumS_le _ _
set_option maxRecDepth 100000 in
set_option maxHeartbeats 4000000 in
theorem short_any {w : World} {g bx : Nat} {st : Option (List UInt8)} (h : RdP w (some ⟨g, 0, none⟩) st) (kb : Blk w bx 86 #[.pointer (some ⟨g, 0, none⟩)]) :
    Calls Try.prog 130 #[.pointer (some ⟨bx, 0, none⟩)] w fun e w' => e = .returned (.int .u8 ((rnumS st 255).1 : Nat)) ∧ Rdd w w' (some ⟨g, 0, none⟩) (rnumS st 255).2 := by
  have bx0 : _ = some (Value.pointer (some ⟨g, 0, none⟩)) := kb.cell 0
  have R := rnum_r h 255
  rw [show ((255 : Nat) : Int) = 255 from rfl] at R
  have hl := rnumS_le st 255
  generalize rnumS st 255 = q at *
  obtain ⟨n, s2⟩ := q
  simp only at hl R ⊢
  have hw : IntKind.u8.wrap (n : Int) = n := IntWalk.u8_in _ (by omega)
  have R := Lib.hid R
  clear h kb
  go_enter Try.func130, Try.ntmps130
  go_wp2_with fail
  refine R.out.mono ?_
  rintro e w1 ⟨rfl, hr⟩
  go_wp2
  go_ret
  first | exact ⟨rfl, hr⟩ | exact ⟨by rw [hw], hr⟩
set_option maxRecDepth 100000 in
set_option maxHeartbeats 4000000 in
theorem word_any {w : World} {g bx : Nat} {st : Option (List UInt8)} (h : RdP w (some ⟨g, 0, none⟩) st) (kb : Blk w bx 86 #[.pointer (some ⟨g, 0, none⟩)]) :
    Calls Try.prog 131 #[.pointer (some ⟨bx, 0, none⟩)] w fun e w' => e = .returned (.int .u32 ((rnumS st 4294967295).1 : Nat)) ∧ Rdd w w' (some ⟨g, 0, none⟩) (rnumS st 4294967295).2 := by
  have bx0 : _ = some (Value.pointer (some ⟨g, 0, none⟩)) := kb.cell 0
  have R := rnum_r h 4294967295
  rw [show ((4294967295 : Nat) : Int) = 4294967295 from rfl] at R
  have hl := rnumS_le st 4294967295
  generalize rnumS st 4294967295 = q at *
  obtain ⟨n, s2⟩ := q
  simp only at hl R ⊢
  have hw : IntKind.u32.wrap (n : Int) = n := IntWalk.u32_in _ (by omega)
  have R := Lib.hid R
  clear h kb
  go_enter Try.func131, Try.ntmps131
  go_wp2_with fail
  refine R.out.mono ?_
  rintro e w1 ⟨rfl, hr⟩
  go_wp2
  go_ret
  first | exact ⟨rfl, hr⟩ | exact ⟨by rw [hw], hr⟩
end Go.Proofs.Ytfojjklohbiffaa
/- Fields of an operation put into its cells. -/
namespace Go.Proofs.Ytfojjklohbiffaa
open Go.RowKit Tran Tran.Wire
set_option linter.unusedVariables false
theorem dep8 {l : List Nat} (h : l.length = 8) : ∃ a b c d e f g i, l = [a, b, c, d, e, f, g, i] := by
  match l, h with
  | [a, b, c, d, e, f, g, i], _ => exact ⟨a, b, c, d, e, f, g, i, rfl⟩
theorem op_put2 (x : NOp) (lv : Value) (h : x.dep.length = 8) (xs : List Nat) (hx : xs.length = 8) : putAt (opA x lv) 2 (vecA xs).toList = opA { x with dep := xs } lv := by
  cases x
  obtain ⟨_, _, _, _, _, _, _, _, rfl⟩ := dep8 h
  obtain ⟨_, _, _, _, _, _, _, _, rfl⟩ := dep8 hx
  simp [vecA, putAt, opA, opF]
theorem op_put0 (x : NOp) (lv : Value) (h : x.dep.length = 8) (a b : Nat) : putAt (opA x lv) 0 [.int .u8 (a : Nat), .int .u32 (b : Nat)] = opA { x with dr := a, dn := b } lv := by
  cases x
  obtain ⟨_, _, _, _, _, _, _, _, rfl⟩ := dep8 h
  rfl
theorem op_put12 (x : NOp) (lv : Value) (h : x.dep.length = 8) (a b : Nat) : putAt (opA x lv) 12 [.int .u8 (a : Nat), .int .u32 (b : Nat)] = opA { x with cr := a, cn := b } lv := by
  cases x
  obtain ⟨_, _, _, _, _, _, _, _, rfl⟩ := dep8 h
  rfl
theorem op_put15 (x : NOp) (lv : Value) (h : x.dep.length = 8) (a b : Nat) : putAt (opA x lv) 15 [.int .u8 (a : Nat), .int .u32 (b : Nat)] = opA { x with er := a, en := b } lv := by
  cases x
  obtain ⟨_, _, _, _, _, _, _, _, rfl⟩ := dep8 h
  rfl
theorem op_put21 (x : NOp) (lv : Value) (h : x.dep.length = 8) (a b : Nat) : putAt (opA x lv) 21 [.int .u8 (a : Nat), .int .u32 (b : Nat)] = opA { x with ar := a, an := b } lv := by
  cases x
  obtain ⟨_, _, _, _, _, _, _, _, rfl⟩ := dep8 h
  rfl
theorem op_put23 (x : NOp) (lv : Value) (h : x.dep.length = 8) (a b : Nat) : putAt (opA x lv) 23 [.int .u8 (a : Nat), .int .u32 (b : Nat)] = opA { x with vr := a, vn := b } lv := by
  cases x
  obtain ⟨_, _, _, _, _, _, _, _, rfl⟩ := dep8 h
  rfl
theorem op_put10 (x : NOp) (lv : Value) (h : x.dep.length = 8) (a : Nat) : putAt (opA x lv) 10 [.int .u64 (a : Nat)] = opA { x with time := a } lv := by
  cases x
  obtain ⟨_, _, _, _, _, _, _, _, rfl⟩ := dep8 h
  rfl
theorem op_put11 (x : NOp) (lv : Value) (h : x.dep.length = 8) (a : Nat) : putAt (opA x lv) 11 [.int .u32 (a : Nat)] = opA { x with who := a } lv := by
  cases x
  obtain ⟨_, _, _, _, _, _, _, _, rfl⟩ := dep8 h
  rfl
theorem op_put14 (x : NOp) (lv : Value) (h : x.dep.length = 8) (a : Nat) : putAt (opA x lv) 14 [.int .u8 (a : Nat)] = opA { x with kind := a } lv := by
  cases x
  obtain ⟨_, _, _, _, _, _, _, _, rfl⟩ := dep8 h
  rfl
theorem op_put17 (x : NOp) (lv : Value) (h : x.dep.length = 8) (a : Nat) : putAt (opA x lv) 17 [.int .u32 (a : Nat)] = opA { x with to := a } lv := by
  cases x
  obtain ⟨_, _, _, _, _, _, _, _, rfl⟩ := dep8 h
  rfl
theorem op_put18 (x : NOp) (lv : Value) (h : x.dep.length = 8) (a : Nat) : putAt (opA x lv) 18 [.int .u8 (a : Nat)] = opA { x with roles := a } lv := by
  cases x
  obtain ⟨_, _, _, _, _, _, _, _, rfl⟩ := dep8 h
  rfl
theorem op_put19 (x : NOp) (lv : Value) (h : x.dep.length = 8) (a : Nat) : putAt (opA x lv) 19 [.int .u8 (a : Nat)] = opA { x with depth := a } lv := by
  cases x
  obtain ⟨_, _, _, _, _, _, _, _, rfl⟩ := dep8 h
  rfl
theorem op_put20 (x : NOp) (lv : Value) (h : x.dep.length = 8) (a : Nat) : putAt (opA x lv) 20 [.int .u64 (a : Nat)] = opA { x with cap := a } lv := by
  cases x
  obtain ⟨_, _, _, _, _, _, _, _, rfl⟩ := dep8 h
  rfl
theorem op_put25 (x : NOp) (lv : Value) (h : x.dep.length = 8) (a : Nat) : putAt (opA x lv) 25 [.int .u32 (a : Nat)] = opA { x with item := a } lv := by
  cases x
  obtain ⟨_, _, _, _, _, _, _, _, rfl⟩ := dep8 h
  rfl
theorem op_put26 (x : NOp) (lv : Value) (h : x.dep.length = 8) (a : Nat) : putAt (opA x lv) 26 [.int .u32 (a : Nat)] = opA { x with qty := a } lv := by
  cases x
  obtain ⟨_, _, _, _, _, _, _, _, rfl⟩ := dep8 h
  rfl
theorem op_put27 (x : NOp) (lv : Value) (h : x.dep.length = 8) (a : Nat) : putAt (opA x lv) 27 [.int .u32 (a : Nat)] = opA { x with price := a } lv := by
  cases x
  obtain ⟨_, _, _, _, _, _, _, _, rfl⟩ := dep8 h
  rfl
theorem op_put28 (x : NOp) (lv lv2 : Value) (h : x.dep.length = 8) : putAt (opA x lv) 28 [lv2] = opA x lv2 := by
  cases x
  obtain ⟨_, _, _, _, _, _, _, _, rfl⟩ := dep8 h
  rfl
theorem opA_lines (x : NOp) (lv : Value) (ls : List NClaim) : opA { x with lines := ls } lv = opA x lv := by cases x; rfl
end Go.Proofs.Ytfojjklohbiffaa
/- A frame as data; its cells; an argument opened. -/
namespace Go.Proofs.Ytfojjklohbiffaa
open Go.RowKit Go.ChangeShapes Go.WideShapes Go.Deep Tran
set_option linter.unusedSimpArgs false
set_option linter.unusedVariables false
/-- an operation and the value that holds its lines -/
abbrev POp := NOp × Value
def pF (p : POp) : List Value := opF p.1 p.2
def POp.good (w : World) (p : POp) : Prop := Lns w p.2 p.1.lines ∧ p.1.ok
theorem pF_len {w : World} (p : POp) (h : p.good w) : (pF p).length = 29 := opF_len _ _ h.2.dep8
/-- a value that reads as these operations -/
def Ops (w : World) (ov : Value) (ps : List POp) : Prop := ∃ A cap, ov = .slice A ps.length cap ∧ Rd w A ps.length 29 (ps.flatMap pF) ∧ ps.length ≤ 8796093022208 ∧ ∀ p ∈ ps, p.good w
theorem Ops.later {w w' : World} {ov : Value} {ps : List POp} (h : Ops w ov ps) (hb : Below w.heap.size w w') : Ops w' ov ps := by
  obtain ⟨A, cap, h1, h2, h3, h4⟩ := h
  exact ⟨A, cap, h1, h2.later hb, h3, fun p hp => ⟨(h4 p hp).1.later hb, (h4 p hp).2⟩⟩
theorem Ops.nil (w : World) : Ops w (.slice none 0 0) [] := ⟨none, 0, rfl, ⟨rfl, fun h => absurd h (by simp)⟩, by simp, by simp⟩
/-- a frame -/
structure NFrame where
  kind : Nat
  src : Nat
  dst : Nat
  have_ : List Nat
  ops : List POp
structure NFrame.ok (x : NFrame) : Prop where
  kind : x.kind < 256
  src : x.src < 256
  dst : x.dst < 256
  have8 : x.have_.length = 8
  have_ : ∀ y ∈ x.have_, y < 4294967296
def frF (x : NFrame) (ov : Value) : List Value := [.int .u8 (x.kind : Int), .int .u8 (x.src : Int), .int .u8 (x.dst : Int)] ++ (x.have_.map (fun y => Value.int .u32 (y : Nat)) ++ [ov])
def frA (x : NFrame) (ov : Value) : Array Value := (frF x ov).toArray
theorem frF_len (x : NFrame) (ov : Value) (h : x.have_.length = 8) : (frF x ov).length = 12 := by simp [frF, h]
theorem frA_size (x : NFrame) (ov : Value) (h : x.have_.length = 8) : (frA x ov).size = 12 := by simp [frA, frF_len x ov h]
theorem fr_c0 (x : NFrame) (ov : Value) : (frA x ov)[0]? = some (.int .u8 (x.kind : Int)) := by simp [frA, frF]
theorem fr_c1 (x : NFrame) (ov : Value) : (frA x ov)[1]? = some (.int .u8 (x.src : Int)) := by simp [frA, frF]
theorem fr_c2 (x : NFrame) (ov : Value) : (frA x ov)[2]? = some (.int .u8 (x.dst : Int)) := by simp [frA, frF]
theorem fr_c3 (x : NFrame) (ov : Value) (j : Nat) (u : Value) (h : (x.have_.map fun y => Value.int .u32 (y : Nat))[j]? = some u) : (frA x ov)[3 + j]? = some u := by
  have hj : j < (x.have_.map fun y => Value.int .u32 (y : Nat)).length := (List.getElem?_eq_some_iff.1 h).1
  simp only [frA, frF, List.getElem?_toArray]
  rw [List.getElem?_append_right (by simp), List.getElem?_append_left (by simpa using hj)]
  simpa using h
theorem fr_c11 (x : NFrame) (ov : Value) (h : x.have_.length = 8) : (frA x ov)[11]? = some ov := by
  simp only [frA, frF, List.getElem?_toArray]
  rw [List.getElem?_append_right (by simp), List.getElem?_append_right (by simp [h])]
  simp [h]
theorem cells55 : Try.prog.cellsOf 55 = 1 := by kernel_rfl
theorem bytes122 : 16 ≤ Try.prog.bytesOf 122 := by decide +kernel
theorem size57 : (Try.prog.info? 57).map (·.size) = some 12 := by kernel_rfl
section
variable {H : Type} {enc : TypeId × Value → H} {w : World} {base : Nat} {fuel : Nat} {cs : List Value} {x : DataW H × List MemPlace}
theorem ops_of {v : Value} (h : DataW.trod enc Try.prog w base (fun _ => true) true fuel 55 [v] = some x) (hz : ∀ n ∈ x.1.weights Try.prog 55, n ≤ reachBytes) :
    ∃ ps : List POp, Ops w v ps := by
  obtain ⟨A, cap, l, h1, h2, h3, h4, h5⟩ := rows_of (α := POp) (⟨0, 0, [], 0, 0, 0, 0, 0, 0, 0, 0, 0, 0, 0, 0, 0, 0, 0, 0, 0, 0, []⟩, .slice none 0 0) pF 29 Try.underlying55 cells122 (POp.good w) (fun p hp => pF_len p hp)
    (fun n cs y hy _ hk => by
      obtain ⟨a, lv, e, hL, ho⟩ := op_of hy hk
      exact ⟨(a, lv), e, hL, ho⟩) h hz
  have h6 := Nat.le_trans (Nat.mul_le_mul_left l.length bytes122) h4
  unfold reachBytes at h6
  exact ⟨l, A, cap, h1, h2, by omega, h5⟩
/-- a frame's cells, wherever they lie -/
def FrIn (w : World) (cs : List Value) (x : NFrame) : Prop := ∃ ov, cs = frF x ov ∧ Ops w ov x.ops ∧ x.ok
set_option maxRecDepth 100000 in
set_option maxHeartbeats 2000000 in
theorem fr_of (h : DataW.trod enc Try.prog w base (fun _ => true) true fuel 57 cs = some x) (hz : ∀ k ∈ x.1.weights Try.prog 57, k ≤ reachBytes) : ∃ a : NFrame, FrIn w cs a := by
  obtain ⟨ys, m, _, hx, hl, hyl, hf⟩ := DataW.trod_struct Try.underlying57 h
  rw [cells57] at hl
  match cs, hl with
  | [c0, c1, c2, c3, c4, c5, c6, c7, c8, c9, c10, c11], _ =>
    match ys, hyl with
    | [y0, y1, y2, y3, y4], _ =>
      have h0 := hf 0 _ rfl
      have h1 := hf 1 _ rfl
      have h2 := hf 2 _ rfl
      have h3 := hf 3 _ rfl
      have h4 := hf 4 _ rfl
      simp only [opcells5, opcells54, cells55, List.drop_zero, List.drop_succ_cons, List.take_succ_cons, List.take_zero, List.getElem?_cons_zero, List.getElem?_cons_succ] at h0 h1 h2 h3 h4
      obtain ⟨kind, e0, b0⟩ := trod_u8 Try.underlying5 h0
      obtain ⟨src, e1, b1⟩ := trod_u8 Try.underlying5 h1
      obtain ⟨dst, e2, b2⟩ := trod_u8 Try.underlying5 h2
      obtain ⟨hv, hd8, e3, b3⟩ := trod_u32s Try.underlying54 Try.underlying22 opcells22 opcells54 h3
      obtain ⟨ps, hP⟩ := ops_of h4 (fun n hn => hz n (by
        subst hx
        simp only [DataW.weights, Try.underlying57]
        exact weightsEach_in (i := 4) (t := 55) (d := y4.1) rfl rfl _ hn))
      injection e0 with e0
      injection e1 with e1
      injection e2 with e2
      subst e0 e1 e2
      refine ⟨⟨kind, src, dst, hv, ps⟩, c11, ?_, hP, b0, b1, b2, hd8, b3⟩
      simp only [frF]
      rw [← e3]
      rfl
end
end Go.Proofs.Ytfojjklohbiffaa
/- Fields' addresses, loads and stores of single cells, of dots, of vectors. -/
namespace Go.Proofs.Ytfojjklohbiffaa
open Go.RowKit Tran Tran.Wire
set_option linter.unusedVariables false
set_option linter.unusedSimpArgs false
section
variable {W : World} {g o : Nat} {u v : Value}
theorem fa0 : (Instr.fieldAt 122 (.pointer (some ⟨g, 0, none⟩)) 0).run Try.prog W = .ok (.pointer (some ⟨g, 0, none⟩)) W := by go_simp
theorem fa1 : (Instr.fieldAt 122 (.pointer (some ⟨g, 0, none⟩)) 1).run Try.prog W = .ok (.pointer (some ⟨g, 2, none⟩)) W := by go_simp
theorem fa2 : (Instr.fieldAt 122 (.pointer (some ⟨g, 0, none⟩)) 2).run Try.prog W = .ok (.pointer (some ⟨g, 10, none⟩)) W := by go_simp
theorem fa3 : (Instr.fieldAt 122 (.pointer (some ⟨g, 0, none⟩)) 3).run Try.prog W = .ok (.pointer (some ⟨g, 11, none⟩)) W := by go_simp
theorem fa4 : (Instr.fieldAt 122 (.pointer (some ⟨g, 0, none⟩)) 4).run Try.prog W = .ok (.pointer (some ⟨g, 12, none⟩)) W := by go_simp
theorem fa5 : (Instr.fieldAt 122 (.pointer (some ⟨g, 0, none⟩)) 5).run Try.prog W = .ok (.pointer (some ⟨g, 14, none⟩)) W := by go_simp
theorem fa6 : (Instr.fieldAt 122 (.pointer (some ⟨g, 0, none⟩)) 6).run Try.prog W = .ok (.pointer (some ⟨g, 15, none⟩)) W := by go_simp
theorem fa7 : (Instr.fieldAt 122 (.pointer (some ⟨g, 0, none⟩)) 7).run Try.prog W = .ok (.pointer (some ⟨g, 17, none⟩)) W := by go_simp
theorem fa8 : (Instr.fieldAt 122 (.pointer (some ⟨g, 0, none⟩)) 8).run Try.prog W = .ok (.pointer (some ⟨g, 18, none⟩)) W := by go_simp
theorem fa9 : (Instr.fieldAt 122 (.pointer (some ⟨g, 0, none⟩)) 9).run Try.prog W = .ok (.pointer (some ⟨g, 19, none⟩)) W := by go_simp
theorem fa10 : (Instr.fieldAt 122 (.pointer (some ⟨g, 0, none⟩)) 10).run Try.prog W = .ok (.pointer (some ⟨g, 20, none⟩)) W := by go_simp
theorem fa11 : (Instr.fieldAt 122 (.pointer (some ⟨g, 0, none⟩)) 11).run Try.prog W = .ok (.pointer (some ⟨g, 21, none⟩)) W := by go_simp
theorem fa12 : (Instr.fieldAt 122 (.pointer (some ⟨g, 0, none⟩)) 12).run Try.prog W = .ok (.pointer (some ⟨g, 23, none⟩)) W := by go_simp
theorem fa13 : (Instr.fieldAt 122 (.pointer (some ⟨g, 0, none⟩)) 13).run Try.prog W = .ok (.pointer (some ⟨g, 25, none⟩)) W := by go_simp
theorem fa14 : (Instr.fieldAt 122 (.pointer (some ⟨g, 0, none⟩)) 14).run Try.prog W = .ok (.pointer (some ⟨g, 26, none⟩)) W := by go_simp
theorem fa15 : (Instr.fieldAt 122 (.pointer (some ⟨g, 0, none⟩)) 15).run Try.prog W = .ok (.pointer (some ⟨g, 27, none⟩)) W := by go_simp
theorem fa16 : (Instr.fieldAt 122 (.pointer (some ⟨g, 0, none⟩)) 16).run Try.prog W = .ok (.pointer (some ⟨g, 28, none⟩)) W := by go_simp
theorem fb0 : (Instr.fieldAt 57 (.pointer (some ⟨g, 0, none⟩)) 0).run Try.prog W = .ok (.pointer (some ⟨g, 0, none⟩)) W := by go_simp
theorem fb1 : (Instr.fieldAt 57 (.pointer (some ⟨g, 0, none⟩)) 1).run Try.prog W = .ok (.pointer (some ⟨g, 1, none⟩)) W := by go_simp
theorem fb2 : (Instr.fieldAt 57 (.pointer (some ⟨g, 0, none⟩)) 2).run Try.prog W = .ok (.pointer (some ⟨g, 2, none⟩)) W := by go_simp
theorem fb3 : (Instr.fieldAt 57 (.pointer (some ⟨g, 0, none⟩)) 3).run Try.prog W = .ok (.pointer (some ⟨g, 3, none⟩)) W := by go_simp
theorem fb4 : (Instr.fieldAt 57 (.pointer (some ⟨g, 0, none⟩)) 4).run Try.prog W = .ok (.pointer (some ⟨g, 11, none⟩)) W := by go_simp
theorem ld5 {ad : Addr} (h : W.cell? ad = some v) : (loadVar 5 ad).run Try.prog W = .ok v W := by go_simp
theorem st5 {ad : Addr} {k : IntKind} {n : Int} (h : W.cell? ad = some u) (hf : W.frozen? ad = false) : (storeVar 5 ad (.int k n)).run Try.prog W = .ok () (W.setCell ad (.int k n)) := by go_simp
theorem ld22 {ad : Addr} (h : W.cell? ad = some v) : (loadVar 22 ad).run Try.prog W = .ok v W := by go_simp
theorem st22 {ad : Addr} {k : IntKind} {n : Int} (h : W.cell? ad = some u) (hf : W.frozen? ad = false) : (storeVar 22 ad (.int k n)).run Try.prog W = .ok () (W.setCell ad (.int k n)) := by go_simp
theorem ld80 {ad : Addr} (h : W.cell? ad = some v) : (loadVar 80 ad).run Try.prog W = .ok v W := by go_simp
theorem st80 {ad : Addr} {k : IntKind} {n : Int} (h : W.cell? ad = some u) (hf : W.frozen? ad = false) : (storeVar 80 ad (.int k n)).run Try.prog W = .ok () (W.setCell ad (.int k n)) := by go_simp
theorem ld86 {ad : Addr} (h : W.cell? ad = some v) : (loadVar 86 ad).run Try.prog W = .ok v W := by go_simp
theorem ld120 {ad : Addr} (h : W.cell? ad = some v) : (loadVar 120 ad).run Try.prog W = .ok v W := by go_simp
theorem st120 {ad : Addr} {A : Option Addr} {l c : Nat} (h : W.cell? ad = some u) (hf : W.frozen? ad = false) : (storeVar 120 ad (.slice A l c)).run Try.prog W = .ok () (W.setCell ad (.slice A l c)) := by go_simp
theorem ld55 {ad : Addr} (h : W.cell? ad = some v) : (loadVar 55 ad).run Try.prog W = .ok v W := by go_simp
theorem st55 {ad : Addr} {A : Option Addr} {l c : Nat} (h : W.cell? ad = some u) (hf : W.frozen? ad = false) : (storeVar 55 ad (.slice A l c)).run Try.prog W = .ok () (W.setCell ad (.slice A l c)) := by go_simp
theorem ld82 (h0 : W.cell? ⟨g, o, none⟩ = some u) (h1 : W.cell? ⟨g, o + 1, none⟩ = some v) : (loadVar 82 ⟨g, o, none⟩).run Try.prog W = .ok (.agg #[u, v]) W := by
  refine run_load_cells W ⟨g, o, none⟩ 82 #[u, v] _ (fun j x hj => ?_) Try.underlying82 rfl size82
  rw [lit_add]
  match j, hj with
  | 0, hj => simp at hj; subst hj; exact h0
  | 1, hj => simp at hj; subst hj; exact h1
theorem ld54 (xs : List Nat) (h8 : xs.length = 8) (h : ∀ j u, (xs.map fun y => Value.int .u32 (y : Nat))[j]? = some u → W.cell? ⟨g, o + j, none⟩ = some u) : (loadVar 54 ⟨g, o, none⟩).run Try.prog W = .ok (.agg (vecA xs)) W :=
  run_load_cells W ⟨g, o, none⟩ 54 (vecA xs) _ (fun j x hj => by rw [lit_add]; exact h j x (by simpa [vecA] using hj)) Try.underlying54 rfl (by rw [vecA_size, h8]; exact size54)
theorem ld122 {cs : Array Value} (k : Blk W g 122 cs) (h : cs.size = 29) : (loadVar 122 ⟨g, 0, none⟩).run Try.prog W = .ok (.agg cs) W :=
  run_load_cells W ⟨g, 0, none⟩ 122 cs _ (fun j x hj => by rw [lit_add, Nat.zero_add]; exact (k.cell j).trans hj) Try.underlying122 rfl (by rw [h]; exact size122)
end
end Go.Proofs.Ytfojjklohbiffaa
/- What is written reads back; order. -/
namespace Go.Proofs.Ytfojjklohbiffaa
open Tran Tran.Wire
theorem dig_head {n : Nat} : n ≠ 0 → 0 < ((dig n).headD 0).toNat := by
  induction n using Nat.strongRecOn with
  | _ n ih =>
    intro h
    rw [dig_pos h]
    by_cases h0 : n / 256 = 0
    · rw [h0, dig_zero]
      simp only [List.nil_append, List.headD_cons]
      rw [UInt8.toNat_ofNat']; omega
    · have hl : dig (n / 256) ≠ [] := by rw [dig_pos h0]; simp
      obtain ⟨c, t, hc⟩ := List.exists_cons_of_ne_nil hl
      have := ih (n / 256) (by omega) h0
      rw [hc] at this ⊢
      simpa using this
theorem numS_numF (n : Nat) (hn : n < 2 ^ 64) (r : List UInt8) : numS (some (numF n ++ r)) = (n, true, some r) := by
  unfold numF
  split
  · rename_i h
    simp only [List.cons_append, List.nil_append, numS]
    have e : (UInt8.ofNat n).toNat = n := by rw [UInt8.toNat_ofNat']; omega
    rw [e, if_pos h]
  · rename_i h
    have hl := dig_le n 8 (by omega)
    have hl1 : 1 ≤ (dig n).length := by rw [dig_pos (by omega)]; simp
    have e : (UInt8.ofNat (128 + (dig n).length)).toNat = 128 + (dig n).length := by rw [UInt8.toNat_ofNat']; omega
    have ht : takeS (some (dig n ++ r)) (dig n).length = (dig n, some r) := by
      unfold takeS
      simp
    simp only [List.cons_append, numS]
    rw [e, if_neg (by omega), if_neg (by omega), show 128 + (dig n).length - 128 = (dig n).length by omega, ht, val_dig]
    simp only [Prod.mk.injEq, and_true, true_and, Bool.and_eq_true, decide_eq_true_eq]
    exact ⟨dig_head (by omega), by omega⟩
theorem numF_prefix {a b : Nat} (ha : a < 2 ^ 64) (hb : b < 2 ^ 64) {r : List UInt8} (h : numF b = numF a ++ r) : a = b := by
  have h1 := numS_numF b hb []
  rw [List.append_nil, h, numS_numF a ha r] at h1
  exact (Prod.mk.inj h1).1
theorem numF_take {a b : Nat} (ha : a < 2 ^ 64) (hb : b < 2 ^ 64) (hne : a ≠ b) : (numF b).take (numF a).length ≠ numF a := by
  intro h
  have e : numF b = numF a ++ (numF b).drop (numF a).length := by
    conv => lhs; rw [← List.take_append_drop (numF a).length (numF b)]
    rw [h]
  exact hne (numF_prefix ha hb e)
theorem dig_mono : ∀ {a b : Nat}, a ≤ b → (dig a).length ≤ (dig b).length := by
  intro a
  induction a using Nat.strongRecOn with
  | _ a ih =>
    intro b hab
    by_cases h0 : a = 0
    · rw [h0, dig_zero]; simp
    · rw [dig_pos h0, dig_pos (by omega : b ≠ 0), List.length_append, List.length_append]
      have := ih (a / 256) (by omega) (Nat.div_le_div_right (c := 256) hab)
      simp only [List.length_singleton]; omega
theorem numF_mono {a b : Nat} (h : a ≤ b) : (numF a).length ≤ (numF b).length := by
  have := dig_mono h
  unfold numF
  split <;> split
  · simp
  · simp
  · omega
  · simp; omega
end Go.Proofs.Ytfojjklohbiffaa
