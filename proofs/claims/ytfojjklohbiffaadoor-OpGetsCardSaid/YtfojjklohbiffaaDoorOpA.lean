/- An operation as data; its cells; an argument opened. -/
import Derived.Test.YtfojjklohbiffaaDoorProg
import Derived.Test.YtfojjklohbiffaaDoorCells
namespace Go.Proofs.YtfojjklohbiffaaDoor
open Go.RowKit Go.ChangeShapes Go.WideShapes Go.Deep Tran
set_option linter.unusedSimpArgs false
set_option linter.unusedVariables false
/-- a line that is meant -/
structure NClaim where
  lr : Nat
  ln : Nat
  vr : Nat
  vn : Nat
def NClaim.ok (c : NClaim) : Prop := c.lr < 256 ∧ c.ln < 4294967296 ∧ c.vr < 256 ∧ c.vn < 4294967296
def claimF (c : NClaim) : List Value := [.int .u8 (c.lr : Int), .int .u32 (c.ln : Int), .int .u8 (c.vr : Int), .int .u32 (c.vn : Int)]
def claimA (c : NClaim) : Array Value := #[.int .u8 (c.lr : Int), .int .u32 (c.ln : Int), .int .u8 (c.vr : Int), .int .u32 (c.vn : Int)]
theorem claimF_len (c : NClaim) : (claimF c).length = 4 := rfl
theorem claimA_list (c : NClaim) : (claimA c).toList = claimF c := rfl
/-- an operation, its lines apart -/
structure NOp where
  dr : Nat
  dn : Nat
  dep : List Nat
  time : Nat
  who : Nat
  cr : Nat
  cn : Nat
  kind : Nat
  er : Nat
  en : Nat
  dest : Nat
  roles : Nat
  depth : Nat
  cap : Nat
  ar : Nat
  an : Nat
  vr : Nat
  vn : Nat
  item : Nat
  qty : Nat
  price : Nat
  lines : List NClaim
structure NOp.ok (x : NOp) : Prop where
  dr : x.dr < 256
  dn : x.dn < 4294967296
  dep8 : x.dep.length = 8
  dep : ∀ y ∈ x.dep, y < 4294967296
  time : x.time < 18446744073709551616
  who : x.who < 4294967296
  cr : x.cr < 256
  cn : x.cn < 4294967296
  kind : x.kind < 256
  er : x.er < 256
  en : x.en < 4294967296
  dest : x.dest < 4294967296
  roles : x.roles < 256
  depth : x.depth < 256
  cap : x.cap < 18446744073709551616
  ar : x.ar < 256
  an : x.an < 4294967296
  vr : x.vr < 256
  vn : x.vn < 4294967296
  item : x.item < 4294967296
  qty : x.qty < 4294967296
  price : x.price < 4294967296
  lines : ∀ c ∈ x.lines, c.ok
def opF (x : NOp) (lv : Value) : List Value := [.int .u8 (x.dr : Int), .int .u32 (x.dn : Int)] ++ (x.dep.map (fun y => Value.int .u32 (y : Nat)) ++ [.int .u64 (x.time : Int), .int .u32 (x.who : Int), .int .u8 (x.cr : Int), .int .u32 (x.cn : Int), .int .u8 (x.kind : Int), .int .u8 (x.er : Int), .int .u32 (x.en : Int), .int .u32 (x.dest : Int), .int .u8 (x.roles : Int), .int .u8 (x.depth : Int), .int .u64 (x.cap : Int), .int .u8 (x.ar : Int), .int .u32 (x.an : Int), .int .u8 (x.vr : Int), .int .u32 (x.vn : Int), .int .u32 (x.item : Int), .int .u32 (x.qty : Int), .int .u32 (x.price : Int), lv])
def opA (x : NOp) (lv : Value) : Array Value := (opF x lv).toArray
theorem opF_len (x : NOp) (lv : Value) (h : x.dep.length = 8) : (opF x lv).length = 29 := by simp [opF, h]
theorem opA_size (x : NOp) (lv : Value) (h : x.dep.length = 8) : (opA x lv).size = 29 := by simp [opA, opF_len x lv h]
theorem op_c0 (x : NOp) (lv : Value) : (opA x lv)[0]? = some (.int .u8 (x.dr : Int)) := by simp [opA, opF]
theorem op_c1 (x : NOp) (lv : Value) : (opA x lv)[1]? = some (.int .u32 (x.dn : Int)) := by simp [opA, opF]
theorem op_c2 (x : NOp) (lv : Value) (j : Nat) (u : Value) (h : (x.dep.map fun y => Value.int .u32 (y : Nat))[j]? = some u) : (opA x lv)[2 + j]? = some u := by
  have hj : j < (x.dep.map fun y => Value.int .u32 (y : Nat)).length := (List.getElem?_eq_some_iff.1 h).1
  unfold opA opF
  rw [List.getElem?_toArray, List.getElem?_append_right (by simp), List.getElem?_append_left (by simp only [List.length_cons, List.length_nil]; omega)]
  simpa using h
theorem op_tail (x : NOp) (lv : Value) (h : x.dep.length = 8) (i : Nat) : (opA x lv)[10 + i]? = ([.int .u64 (x.time : Int), .int .u32 (x.who : Int), .int .u8 (x.cr : Int), .int .u32 (x.cn : Int), .int .u8 (x.kind : Int), .int .u8 (x.er : Int), .int .u32 (x.en : Int), .int .u32 (x.dest : Int), .int .u8 (x.roles : Int), .int .u8 (x.depth : Int), .int .u64 (x.cap : Int), .int .u8 (x.ar : Int), .int .u32 (x.an : Int), .int .u8 (x.vr : Int), .int .u32 (x.vn : Int), .int .u32 (x.item : Int), .int .u32 (x.qty : Int), .int .u32 (x.price : Int), lv] : List Value)[i]? := by
  unfold opA opF
  rw [List.getElem?_toArray, List.getElem?_append_right (by simp; omega), List.getElem?_append_right (by simp [h]; omega)]
  congr 1
  simp [h]; omega
theorem op_c10 (x : NOp) (lv : Value) (h : x.dep.length = 8) : (opA x lv)[10]? = some (.int .u64 (x.time : Int)) := op_tail x lv h 0
theorem op_c11 (x : NOp) (lv : Value) (h : x.dep.length = 8) : (opA x lv)[11]? = some (.int .u32 (x.who : Int)) := op_tail x lv h 1
theorem op_c12 (x : NOp) (lv : Value) (h : x.dep.length = 8) : (opA x lv)[12]? = some (.int .u8 (x.cr : Int)) := op_tail x lv h 2
theorem op_c13 (x : NOp) (lv : Value) (h : x.dep.length = 8) : (opA x lv)[13]? = some (.int .u32 (x.cn : Int)) := op_tail x lv h 3
theorem op_c14 (x : NOp) (lv : Value) (h : x.dep.length = 8) : (opA x lv)[14]? = some (.int .u8 (x.kind : Int)) := op_tail x lv h 4
theorem op_c15 (x : NOp) (lv : Value) (h : x.dep.length = 8) : (opA x lv)[15]? = some (.int .u8 (x.er : Int)) := op_tail x lv h 5
theorem op_c16 (x : NOp) (lv : Value) (h : x.dep.length = 8) : (opA x lv)[16]? = some (.int .u32 (x.en : Int)) := op_tail x lv h 6
theorem op_c17 (x : NOp) (lv : Value) (h : x.dep.length = 8) : (opA x lv)[17]? = some (.int .u32 (x.dest : Int)) := op_tail x lv h 7
theorem op_c18 (x : NOp) (lv : Value) (h : x.dep.length = 8) : (opA x lv)[18]? = some (.int .u8 (x.roles : Int)) := op_tail x lv h 8
theorem op_c19 (x : NOp) (lv : Value) (h : x.dep.length = 8) : (opA x lv)[19]? = some (.int .u8 (x.depth : Int)) := op_tail x lv h 9
theorem op_c20 (x : NOp) (lv : Value) (h : x.dep.length = 8) : (opA x lv)[20]? = some (.int .u64 (x.cap : Int)) := op_tail x lv h 10
theorem op_c21 (x : NOp) (lv : Value) (h : x.dep.length = 8) : (opA x lv)[21]? = some (.int .u8 (x.ar : Int)) := op_tail x lv h 11
theorem op_c22 (x : NOp) (lv : Value) (h : x.dep.length = 8) : (opA x lv)[22]? = some (.int .u32 (x.an : Int)) := op_tail x lv h 12
theorem op_c23 (x : NOp) (lv : Value) (h : x.dep.length = 8) : (opA x lv)[23]? = some (.int .u8 (x.vr : Int)) := op_tail x lv h 13
theorem op_c24 (x : NOp) (lv : Value) (h : x.dep.length = 8) : (opA x lv)[24]? = some (.int .u32 (x.vn : Int)) := op_tail x lv h 14
theorem op_c25 (x : NOp) (lv : Value) (h : x.dep.length = 8) : (opA x lv)[25]? = some (.int .u32 (x.item : Int)) := op_tail x lv h 15
theorem op_c26 (x : NOp) (lv : Value) (h : x.dep.length = 8) : (opA x lv)[26]? = some (.int .u32 (x.qty : Int)) := op_tail x lv h 16
theorem op_c27 (x : NOp) (lv : Value) (h : x.dep.length = 8) : (opA x lv)[27]? = some (.int .u32 (x.price : Int)) := op_tail x lv h 17
theorem op_c28 (x : NOp) (lv : Value) (h : x.dep.length = 8) : (opA x lv)[28]? = some lv := op_tail x lv h 18
theorem cells177 : Tryd.prog.cellsOf 63 = 4 := by kernel_rfl
theorem cells122 : Tryd.prog.cellsOf 30 = 29 := by kernel_rfl
theorem cells120 : Tryd.prog.cellsOf 28 = 1 := by kernel_rfl
theorem opcells5 : Tryd.prog.cellsOf 5 = 1 := by kernel_rfl
theorem opcells22 : Tryd.prog.cellsOf 22 = 1 := by kernel_rfl
theorem opcells80 : Tryd.prog.cellsOf 27 = 1 := by kernel_rfl
theorem opcells82 : Tryd.prog.cellsOf 24 = 2 := by kernel_rfl
theorem opcells54 : Tryd.prog.cellsOf 26 = 8 := by kernel_rfl
theorem bytes177 : Tryd.prog.bytesOf 63 = 16 := by kernel_rfl
theorem size177 : (Tryd.prog.info? 63).map (·.size) = some 4 := by kernel_rfl
theorem size122 : (Tryd.prog.info? 30).map (·.size) = some 29 := by kernel_rfl
/-- a value that reads as these lines -/
def Lns (w : World) (lv : Value) (ls : List NClaim) : Prop := ∃ A cap, lv = .slice A ls.length cap ∧ Rd w A ls.length 4 (ls.flatMap claimF) ∧ ls.length ≤ 8796093022208
theorem Lns.later {w w' : World} {lv : Value} {ls : List NClaim} (h : Lns w lv ls) (hb : Below w.heap.size w w') : Lns w' lv ls := by
  obtain ⟨A, cap, h1, h2, h3⟩ := h
  exact ⟨A, cap, h1, h2.later hb, h3⟩
theorem Lns.nil (w : World) : Lns w (.slice none 0 0) [] := ⟨none, 0, rfl, ⟨rfl, fun h => absurd h (by simp)⟩, by simp⟩
section
variable {H : Type} {enc : TypeId × Value → H} {w : World} {base : Nat} {held : Bool} {fuel : Nat} {cs : List Value} {x : DataW H × List MemPlace}
set_option maxRecDepth 100000 in
theorem opdot_of (h : DataW.trod enc Tryd.prog w base (fun _ => true) held fuel 24 cs = some x) : ∃ r n : Nat, cs = [.int .u8 (r : Int), .int .u32 (n : Int)] ∧ r < 256 ∧ n < 4294967296 := by
  obtain ⟨ys, m, _, _, hl, hyl, hf⟩ := DataW.trod_struct Tryd.underlying24 h
  rw [opcells82] at hl
  match cs, hl with
  | [c0, c1], _ =>
    match ys, hyl with
    | [y0, y1], _ =>
      have h0 := hf 0 _ rfl
      have h1 := hf 1 _ rfl
      simp only [opcells5, opcells22, List.drop_zero, List.drop_succ_cons, List.take_succ_cons, List.take_zero, List.getElem?_cons_zero, List.getElem?_cons_succ] at h0 h1
      obtain ⟨r, e0, hr⟩ := trod_u8 Tryd.underlying5 h0
      obtain ⟨n, e1, hn⟩ := trod_u32 Tryd.underlying22 h1
      injection e0 with e0
      injection e1 with e1
      subst e0 e1
      exact ⟨r, n, rfl, hr, hn⟩
set_option maxRecDepth 100000 in
theorem claim_of (h : DataW.trod enc Tryd.prog w base (fun _ => true) held fuel 63 cs = some x) : ∃ a : NClaim, cs = claimF a ∧ a.ok := by
  obtain ⟨ys, m, _, hx, hl, hyl, hf⟩ := DataW.trod_struct Tryd.underlying63 h
  rw [cells177] at hl
  match cs, hl with
  | [c0, c1, c2, c3], _ =>
    match ys, hyl with
    | [y0, y1], _ =>
      have h0 := hf 0 _ rfl
      have h1 := hf 1 _ rfl
      simp only [opcells82, List.drop_zero, List.drop_succ_cons, List.take_succ_cons, List.take_zero, List.getElem?_cons_zero, List.getElem?_cons_succ] at h0 h1
      obtain ⟨a, b, e0, b0, b1⟩ := opdot_of h0
      obtain ⟨c, d, e1, b2, b3⟩ := opdot_of h1
      injection e0 with e0 e0'
      injection e0' with e0'
      injection e1 with e1 e1'
      injection e1' with e1'
      subst e0 e0' e1 e1'
      exact ⟨⟨a, b, c, d⟩, rfl, b0, b1, b2, b3⟩
theorem lines_of {v : Value} (h : DataW.trod enc Tryd.prog w base (fun _ => true) held fuel 28 [v] = some x) (hz : ∀ n ∈ x.1.weights Tryd.prog 28, n ≤ reachBytes) :
    ∃ ls : List NClaim, Lns w v ls ∧ ∀ c ∈ ls, c.ok := by
  obtain ⟨A, cap, l, h1, h2, h3, h4, h5⟩ := rows_of (α := NClaim) ⟨0, 0, 0, 0⟩ claimF 4 Tryd.underlying28 cells177 NClaim.ok (fun a _ => claimF_len a) (fun n cs y hy _ hk => claim_of hy) h hz
  rw [bytes177] at h4
  unfold reachBytes at h4
  exact ⟨l, ⟨A, cap, h1, h2, by omega⟩, h5⟩
/-- an operation's cells, wherever they lie -/
def OpIn (w : World) (cs : List Value) (x : NOp) : Prop := ∃ lv, cs = opF x lv ∧ Lns w lv x.lines ∧ x.ok
set_option maxRecDepth 100000 in
set_option maxHeartbeats 2000000 in
theorem op_of (h : DataW.trod enc Tryd.prog w base (fun _ => true) held fuel 30 cs = some x) (hz : ∀ k ∈ x.1.weights Tryd.prog 30, k ≤ reachBytes) : ∃ a : NOp, OpIn w cs a := by
  obtain ⟨ys, m, _, hx, hl, hyl, hf⟩ := DataW.trod_struct Tryd.underlying30 h
  rw [cells122] at hl
  match cs, hl with
  | [c0, c1, c2, c3, c4, c5, c6, c7, c8, c9, c10, c11, c12, c13, c14, c15, c16, c17, c18, c19, c20, c21, c22, c23, c24, c25, c26, c27, c28], _ =>
    match ys, hyl with
    | [y0, y1, y2, y3, y4, y5, y6, y7, y8, y9, y10, y11, y12, y13, y14, y15, y16], _ =>
      have h0 := hf 0 _ rfl
      have h1 := hf 1 _ rfl
      have h2 := hf 2 _ rfl
      have h3 := hf 3 _ rfl
      have h4 := hf 4 _ rfl
      have h5 := hf 5 _ rfl
      have h6 := hf 6 _ rfl
      have h7 := hf 7 _ rfl
      have h8 := hf 8 _ rfl
      have h9 := hf 9 _ rfl
      have h10 := hf 10 _ rfl
      have h11 := hf 11 _ rfl
      have h12 := hf 12 _ rfl
      have h13 := hf 13 _ rfl
      have h14 := hf 14 _ rfl
      have h15 := hf 15 _ rfl
      have h16 := hf 16 _ rfl
      simp only [opcells82, opcells54, opcells80, opcells22, opcells5, cells120, List.drop_zero, List.drop_succ_cons, List.take_succ_cons, List.take_zero, List.getElem?_cons_zero, List.getElem?_cons_succ] at h0 h1 h2 h3 h4 h5 h6 h7 h8 h9 h10 h11 h12 h13 h14 h15 h16
      obtain ⟨dr, dn, e0, b0, b0'⟩ := opdot_of h0
      obtain ⟨dep, hd8, e1, b1⟩ := trod_u32s Tryd.underlying26 Tryd.underlying22 opcells22 opcells54 h1
      obtain ⟨time, e2, b2⟩ := trod_u64 Tryd.underlying27 h2
      obtain ⟨who, e3, b3⟩ := trod_u32 Tryd.underlying22 h3
      obtain ⟨cr, cn, e4, b4, b4'⟩ := opdot_of h4
      obtain ⟨kind, e5, b5⟩ := trod_u8 Tryd.underlying5 h5
      obtain ⟨er, en, e6, b6, b6'⟩ := opdot_of h6
      obtain ⟨dest, e7, b7⟩ := trod_u32 Tryd.underlying22 h7
      obtain ⟨roles, e8, b8⟩ := trod_u8 Tryd.underlying5 h8
      obtain ⟨depth, e9, b9⟩ := trod_u8 Tryd.underlying5 h9
      obtain ⟨cap, e10, b10⟩ := trod_u64 Tryd.underlying27 h10
      obtain ⟨ar, an, e11, b11, b11'⟩ := opdot_of h11
      obtain ⟨vr, vn, e12, b12, b12'⟩ := opdot_of h12
      obtain ⟨item, e13, b13⟩ := trod_u32 Tryd.underlying22 h13
      obtain ⟨qty, e14, b14⟩ := trod_u32 Tryd.underlying22 h14
      obtain ⟨price, e15, b15⟩ := trod_u32 Tryd.underlying22 h15
      obtain ⟨lines, hL, b16⟩ := lines_of h16 (fun n hn => hz n (by
        subst hx
        simp only [DataW.weights, Tryd.underlying30]
        exact weightsEach_in (i := 16) (t := 28) (d := y16.1) rfl rfl _ hn))
      injection e0 with e0 e0'
      injection e0' with e0'
      injection e2 with e2
      injection e3 with e3
      injection e4 with e4 e4'
      injection e4' with e4'
      injection e5 with e5
      injection e6 with e6 e6'
      injection e6' with e6'
      injection e7 with e7
      injection e8 with e8
      injection e9 with e9
      injection e10 with e10
      injection e11 with e11 e11'
      injection e11' with e11'
      injection e12 with e12 e12'
      injection e12' with e12'
      injection e13 with e13
      injection e14 with e14
      injection e15 with e15
      subst e0 e0' e2 e3 e4 e4' e5 e6 e6' e7 e8 e9 e10 e11 e11' e12 e12' e13 e14 e15
      refine ⟨⟨dr, dn, dep, time, who, cr, cn, kind, er, en, dest, roles, depth, cap, ar, an, vr, vn, item, qty, price, lines⟩, c28, ?_, hL, ⟨b0, b0', hd8, b1, b2, b3, b4, b4', b5, b6, b6', b7, b8, b9, b10, b11, b11', b12, b12', b13, b14, b15, b16⟩⟩
      simp only [opF, ← e1]
      rfl
end
end Go.Proofs.YtfojjklohbiffaaDoor
