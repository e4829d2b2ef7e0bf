/- An operation as data; its cells; an argument opened. -/
import Derived.Test.YtfojjklohbiffaaProg
import Derived.Laws.Rows
import Derived.Test.YtfojjklohbiffaaMp1
import Derived.Test.YtfojjklohbiffaaMp2
namespace Go.Proofs.Ytfojjklohbiffaa
open Go.RowKit Go.ChangeShapes Go.WideShapes Go.Deep Tran
set_option linter.unusedSimpArgs false
set_option linter.unusedVariables false
/-- a line that is meant -/
structure NClaim where
  lr : Nat
  ln : Nat
  vr : Nat
  vn : Nat
def NClaim.ok (c : NClaim) : Prop := c.lr < 256 ∧ c.ln < 4294967296 ∧ c.vr < 256 ∧ c.vn < 4294967296
def claimF (c : NClaim) : List Value := [.int .u8 (c.lr : Int), .int .u32 (c.ln : Int), .int .u8 (c.vr : Int), .int .u32 (c.vn : Int)]
def claimA (c : NClaim) : Array Value := #[.int .u8 (c.lr : Int), .int .u32 (c.ln : Int), .int .u8 (c.vr : Int), .int .u32 (c.vn : Int)]
theorem claimF_len (c : NClaim) : (claimF c).length = 4 := rfl
theorem claimA_list (c : NClaim) : (claimA c).toList = claimF c := rfl
/-- an operation, its lines apart -/
structure NOp where
  dr : Nat
  dn : Nat
  dep : List Nat
  time : Nat
  who : Nat
  cr : Nat
  cn : Nat
  kind : Nat
  er : Nat
  en : Nat
  to : Nat
  roles : Nat
  depth : Nat
  cap : Nat
  ar : Nat
  an : Nat
  vr : Nat
  vn : Nat
  item : Nat
  qty : Nat
  price : Nat
  lines : List NClaim
structure NOp.ok (x : NOp) : Prop where
  dr : x.dr < 256
  dn : x.dn < 4294967296
  dep8 : x.dep.length = 8
  dep : ∀ y ∈ x.dep, y < 4294967296
  time : x.time < 18446744073709551616
  who : x.who < 4294967296
  cr : x.cr < 256
  cn : x.cn < 4294967296
  kind : x.kind < 256
  er : x.er < 256
  en : x.en < 4294967296
  to : x.to < 4294967296
  roles : x.roles < 256
  depth : x.depth < 256
  cap : x.cap < 18446744073709551616
  ar : x.ar < 256
  an : x.an < 4294967296
  vr : x.vr < 256
  vn : x.vn < 4294967296
  item : x.item < 4294967296
  qty : x.qty < 4294967296
  price : x.price < 4294967296
  lines : ∀ c ∈ x.lines, c.ok
def opF (x : NOp) (lv : Value) : List Value := [.int .u8 (x.dr : Int), .int .u32 (x.dn : Int)] ++ (x.dep.map (fun y => Value.int .u32 (y : Nat)) ++ [.int .u64 (x.time : Int), .int .u32 (x.who : Int), .int .u8 (x.cr : Int), .int .u32 (x.cn : Int), .int .u8 (x.kind : Int), .int .u8 (x.er : Int), .int .u32 (x.en : Int), .int .u32 (x.to : Int), .int .u8 (x.roles : Int), .int .u8 (x.depth : Int), .int .u64 (x.cap : Int), .int .u8 (x.ar : Int), .int .u32 (x.an : Int), .int .u8 (x.vr : Int), .int .u32 (x.vn : Int), .int .u32 (x.item : Int), .int .u32 (x.qty : Int), .int .u32 (x.price : Int), lv])
def opA (x : NOp) (lv : Value) : Array Value := (opF x lv).toArray
theorem opF_len (x : NOp) (lv : Value) (h : x.dep.length = 8) : (opF x lv).length = 29 := by simp [opF, h]
theorem opA_size (x : NOp) (lv : Value) (h : x.dep.length = 8) : (opA x lv).size = 29 := by simp [opA, opF_len x lv h]
theorem op_c0 (x : NOp) (lv : Value) : (opA x lv)[0]? = some (.int .u8 (x.dr : Int)) := by simp [opA, opF]
theorem op_c1 (x : NOp) (lv : Value) : (opA x lv)[1]? = some (.int .u32 (x.dn : Int)) := by simp [opA, opF]
theorem op_c2 (x : NOp) (lv : Value) (j : Nat) (u : Value) (h : (x.dep.map fun y => Value.int .u32 (y : Nat))[j]? = some u) : (opA x lv)[2 + j]? = some u := by
  have hj : j < (x.dep.map fun y => Value.int .u32 (y : Nat)).length := (List.getElem?_eq_some_iff.1 h).1
  unfold opA opF
  rw [List.getElem?_toArray, List.getElem?_append_right (by simp), List.getElem?_append_left (by simp only [List.length_cons, List.length_nil]; omega)]
  simpa using h
theorem op_tail (x : NOp) (lv : Value) (h : x.dep.length = 8) (i : Nat) : (opA x lv)[10 + i]? = ([.int .u64 (x.time : Int), .int .u32 (x.who : Int), .int .u8 (x.cr : Int), .int .u32 (x.cn : Int), .int .u8 (x.kind : Int), .int .u8 (x.er : Int), .int .u32 (x.en : Int), .int .u32 (x.to : Int), .int .u8 (x.roles : Int), .int .u8 (x.depth : Int), .int .u64 (x.cap : Int), .int .u8 (x.ar : Int), .int .u32 (x.an : Int), .int .u8 (x.vr : Int), .int .u32 (x.vn : Int), .int .u32 (x.item : Int), .int .u32 (x.qty : Int), .int .u32 (x.price : Int), lv] : List Value)[i]? := by
  unfold opA opF
  rw [List.getElem?_toArray, List.getElem?_append_right (by simp; omega), List.getElem?_append_right (by simp [h]; omega)]
  congr 1
  simp [h]; omega
theorem op_c10 (x : NOp) (lv : Value) (h : x.dep.length = 8) : (opA x lv)[10]? = some (.int .u64 (x.time : Int)) := op_tail x lv h 0
theorem op_c11 (x : NOp) (lv : Value) (h : x.dep.length = 8) : (opA x lv)[11]? = some (.int .u32 (x.who : Int)) := op_tail x lv h 1
theorem op_c12 (x : NOp) (lv : Value) (h : x.dep.length = 8) : (opA x lv)[12]? = some (.int .u8 (x.cr : Int)) := op_tail x lv h 2
theorem op_c13 (x : NOp) (lv : Value) (h : x.dep.length = 8) : (opA x lv)[13]? = some (.int .u32 (x.cn : Int)) := op_tail x lv h 3
theorem op_c14 (x : NOp) (lv : Value) (h : x.dep.length = 8) : (opA x lv)[14]? = some (.int .u8 (x.kind : Int)) := op_tail x lv h 4
theorem op_c15 (x : NOp) (lv : Value) (h : x.dep.length = 8) : (opA x lv)[15]? = some (.int .u8 (x.er : Int)) := op_tail x lv h 5
theorem op_c16 (x : NOp) (lv : Value) (h : x.dep.length = 8) : (opA x lv)[16]? = some (.int .u32 (x.en : Int)) := op_tail x lv h 6
theorem op_c17 (x : NOp) (lv : Value) (h : x.dep.length = 8) : (opA x lv)[17]? = some (.int .u32 (x.to : Int)) := op_tail x lv h 7
theorem op_c18 (x : NOp) (lv : Value) (h : x.dep.length = 8) : (opA x lv)[18]? = some (.int .u8 (x.roles : Int)) := op_tail x lv h 8
theorem op_c19 (x : NOp) (lv : Value) (h : x.dep.length = 8) : (opA x lv)[19]? = some (.int .u8 (x.depth : Int)) := op_tail x lv h 9
theorem op_c20 (x : NOp) (lv : Value) (h : x.dep.length = 8) : (opA x lv)[20]? = some (.int .u64 (x.cap : Int)) := op_tail x lv h 10
theorem op_c21 (x : NOp) (lv : Value) (h : x.dep.length = 8) : (opA x lv)[21]? = some (.int .u8 (x.ar : Int)) := op_tail x lv h 11
theorem op_c22 (x : NOp) (lv : Value) (h : x.dep.length = 8) : (opA x lv)[22]? = some (.int .u32 (x.an : Int)) := op_tail x lv h 12
theorem op_c23 (x : NOp) (lv : Value) (h : x.dep.length = 8) : (opA x lv)[23]? = some (.int .u8 (x.vr : Int)) := op_tail x lv h 13
theorem op_c24 (x : NOp) (lv : Value) (h : x.dep.length = 8) : (opA x lv)[24]? = some (.int .u32 (x.vn : Int)) := op_tail x lv h 14
theorem op_c25 (x : NOp) (lv : Value) (h : x.dep.length = 8) : (opA x lv)[25]? = some (.int .u32 (x.item : Int)) := op_tail x lv h 15
theorem op_c26 (x : NOp) (lv : Value) (h : x.dep.length = 8) : (opA x lv)[26]? = some (.int .u32 (x.qty : Int)) := op_tail x lv h 16
theorem op_c27 (x : NOp) (lv : Value) (h : x.dep.length = 8) : (opA x lv)[27]? = some (.int .u32 (x.price : Int)) := op_tail x lv h 17
theorem op_c28 (x : NOp) (lv : Value) (h : x.dep.length = 8) : (opA x lv)[28]? = some lv := op_tail x lv h 18
theorem cells177 : Try.prog.cellsOf 177 = 4 := by kernel_rfl
theorem cells122 : Try.prog.cellsOf 122 = 29 := by kernel_rfl
theorem cells57 : Try.prog.cellsOf 57 = 12 := by kernel_rfl
theorem cells120 : Try.prog.cellsOf 120 = 1 := by kernel_rfl
theorem opcells5 : Try.prog.cellsOf 5 = 1 := by kernel_rfl
theorem opcells22 : Try.prog.cellsOf 22 = 1 := by kernel_rfl
theorem opcells80 : Try.prog.cellsOf 80 = 1 := by kernel_rfl
theorem opcells82 : Try.prog.cellsOf 82 = 2 := by kernel_rfl
theorem opcells54 : Try.prog.cellsOf 54 = 8 := by kernel_rfl
theorem bytes177 : Try.prog.bytesOf 177 = 16 := by kernel_rfl
theorem size177 : (Try.prog.info? 177).map (·.size) = some 4 := by kernel_rfl
theorem size122 : (Try.prog.info? 122).map (·.size) = some 29 := by kernel_rfl
/-- a value that reads as these lines -/
def Lns (w : World) (lv : Value) (ls : List NClaim) : Prop := ∃ A cap, lv = .slice A ls.length cap ∧ Rd w A ls.length 4 (ls.flatMap claimF) ∧ ls.length ≤ 8796093022208
theorem Lns.later {w w' : World} {lv : Value} {ls : List NClaim} (h : Lns w lv ls) (hb : Below w.heap.size w w') : Lns w' lv ls := by
  obtain ⟨A, cap, h1, h2, h3⟩ := h
  exact ⟨A, cap, h1, h2.later hb, h3⟩
theorem Lns.nil (w : World) : Lns w (.slice none 0 0) [] := ⟨none, 0, rfl, ⟨rfl, fun h => absurd h (by simp)⟩, by simp⟩
section
variable {H : Type} {enc : TypeId × Value → H} {w : World} {base : Nat} {held : Bool} {fuel : Nat} {cs : List Value} {x : DataW H × List MemPlace}
set_option maxRecDepth 100000 in
theorem opdot_of (h : DataW.trod enc Try.prog w base (fun _ => true) held fuel 82 cs = some x) : ∃ r n : Nat, cs = [.int .u8 (r : Int), .int .u32 (n : Int)] ∧ r < 256 ∧ n < 4294967296 := by
  obtain ⟨ys, m, _, _, hl, hyl, hf⟩ := DataW.trod_struct Try.underlying82 h
  rw [opcells82] at hl
  match cs, hl with
  | [c0, c1], _ =>
    match ys, hyl with
    | [y0, y1], _ =>
      have h0 := hf 0 _ rfl
      have h1 := hf 1 _ rfl
      simp only [opcells5, opcells22, List.drop_zero, List.drop_succ_cons, List.take_succ_cons, List.take_zero, List.getElem?_cons_zero, List.getElem?_cons_succ] at h0 h1
      obtain ⟨r, e0, hr⟩ := trod_u8 Try.underlying5 h0
      obtain ⟨n, e1, hn⟩ := trod_u32 Try.underlying22 h1
      injection e0 with e0
      injection e1 with e1
      subst e0 e1
      exact ⟨r, n, rfl, hr, hn⟩
set_option maxRecDepth 100000 in
theorem claim_of (h : DataW.trod enc Try.prog w base (fun _ => true) held fuel 177 cs = some x) : ∃ a : NClaim, cs = claimF a ∧ a.ok := by
  obtain ⟨ys, m, _, hx, hl, hyl, hf⟩ := DataW.trod_struct Try.underlying177 h
  rw [cells177] at hl
  match cs, hl with
  | [c0, c1, c2, c3], _ =>
    match ys, hyl with
    | [y0, y1], _ =>
      have h0 := hf 0 _ rfl
      have h1 := hf 1 _ rfl
      simp only [opcells82, List.drop_zero, List.drop_succ_cons, List.take_succ_cons, List.take_zero, List.getElem?_cons_zero, List.getElem?_cons_succ] at h0 h1
      obtain ⟨a, b, e0, b0, b1⟩ := opdot_of h0
      obtain ⟨c, d, e1, b2, b3⟩ := opdot_of h1
      injection e0 with e0 e0'
      injection e0' with e0'
      injection e1 with e1 e1'
      injection e1' with e1'
      subst e0 e0' e1 e1'
      exact ⟨⟨a, b, c, d⟩, rfl, b0, b1, b2, b3⟩
theorem lines_of {v : Value} (h : DataW.trod enc Try.prog w base (fun _ => true) held fuel 120 [v] = some x) (hz : ∀ n ∈ x.1.weights Try.prog 120, n ≤ reachBytes) :
    ∃ ls : List NClaim, Lns w v ls ∧ ∀ c ∈ ls, c.ok := by
  obtain ⟨A, cap, l, h1, h2, h3, h4, h5⟩ := rows_of (α := NClaim) ⟨0, 0, 0, 0⟩ claimF 4 Try.underlying120 cells177 NClaim.ok (fun a _ => claimF_len a) (fun n cs y hy _ hk => claim_of hy) h hz
  rw [bytes177] at h4
  unfold reachBytes at h4
  exact ⟨l, ⟨A, cap, h1, h2, by omega⟩, h5⟩
/-- an operation's cells, wherever they lie -/
def OpIn (w : World) (cs : List Value) (x : NOp) : Prop := ∃ lv, cs = opF x lv ∧ Lns w lv x.lines ∧ x.ok
set_option maxRecDepth 100000 in
set_option maxHeartbeats 2000000 in
theorem op_of (h : DataW.trod enc Try.prog w base (fun _ => true) held fuel 122 cs = some x) (hz : ∀ k ∈ x.1.weights Try.prog 122, k ≤ reachBytes) : ∃ a : NOp, OpIn w cs a := by
  obtain ⟨ys, m, _, hx, hl, hyl, hf⟩ := DataW.trod_struct Try.underlying122 h
  rw [cells122] at hl
  match cs, hl with
  | [c0, c1, c2, c3, c4, c5, c6, c7, c8, c9, c10, c11, c12, c13, c14, c15, c16, c17, c18, c19, c20, c21, c22, c23, c24, c25, c26, c27, c28], _ =>
    match ys, hyl with
    | [y0, y1, y2, y3, y4, y5, y6, y7, y8, y9, y10, y11, y12, y13, y14, y15, y16], _ =>
      have h0 := hf 0 _ rfl
      have h1 := hf 1 _ rfl
      have h2 := hf 2 _ rfl
      have h3 := hf 3 _ rfl
      have h4 := hf 4 _ rfl
      have h5 := hf 5 _ rfl
      have h6 := hf 6 _ rfl
      have h7 := hf 7 _ rfl
      have h8 := hf 8 _ rfl
      have h9 := hf 9 _ rfl
      have h10 := hf 10 _ rfl
      have h11 := hf 11 _ rfl
      have h12 := hf 12 _ rfl
      have h13 := hf 13 _ rfl
      have h14 := hf 14 _ rfl
      have h15 := hf 15 _ rfl
      have h16 := hf 16 _ rfl
      simp only [opcells82, opcells54, opcells80, opcells22, opcells5, cells120, List.drop_zero, List.drop_succ_cons, List.take_succ_cons, List.take_zero, List.getElem?_cons_zero, List.getElem?_cons_succ] at h0 h1 h2 h3 h4 h5 h6 h7 h8 h9 h10 h11 h12 h13 h14 h15 h16
      obtain ⟨dr, dn, e0, b0, b0'⟩ := opdot_of h0
      obtain ⟨dep, hd8, e1, b1⟩ := trod_u32s Try.underlying54 Try.underlying22 opcells22 opcells54 h1
      obtain ⟨time, e2, b2⟩ := trod_u64 Try.underlying80 h2
      obtain ⟨who, e3, b3⟩ := trod_u32 Try.underlying22 h3
      obtain ⟨cr, cn, e4, b4, b4'⟩ := opdot_of h4
      obtain ⟨kind, e5, b5⟩ := trod_u8 Try.underlying5 h5
      obtain ⟨er, en, e6, b6, b6'⟩ := opdot_of h6
      obtain ⟨to, e7, b7⟩ := trod_u32 Try.underlying22 h7
      obtain ⟨roles, e8, b8⟩ := trod_u8 Try.underlying5 h8
      obtain ⟨depth, e9, b9⟩ := trod_u8 Try.underlying5 h9
      obtain ⟨cap, e10, b10⟩ := trod_u64 Try.underlying80 h10
      obtain ⟨ar, an, e11, b11, b11'⟩ := opdot_of h11
      obtain ⟨vr, vn, e12, b12, b12'⟩ := opdot_of h12
      obtain ⟨item, e13, b13⟩ := trod_u32 Try.underlying22 h13
      obtain ⟨qty, e14, b14⟩ := trod_u32 Try.underlying22 h14
      obtain ⟨price, e15, b15⟩ := trod_u32 Try.underlying22 h15
      obtain ⟨lines, hL, b16⟩ := lines_of h16 (fun n hn => hz n (by
        subst hx
        simp only [DataW.weights, Try.underlying122]
        exact weightsEach_in (i := 16) (t := 120) (d := y16.1) rfl rfl _ hn))
      injection e0 with e0 e0'
      injection e0' with e0'
      injection e2 with e2
      injection e3 with e3
      injection e4 with e4 e4'
      injection e4' with e4'
      injection e5 with e5
      injection e6 with e6 e6'
      injection e6' with e6'
      injection e7 with e7
      injection e8 with e8
      injection e9 with e9
      injection e10 with e10
      injection e11 with e11 e11'
      injection e11' with e11'
      injection e12 with e12 e12'
      injection e12' with e12'
      injection e13 with e13
      injection e14 with e14
      injection e15 with e15
      subst e0 e0' e2 e3 e4 e4' e5 e6 e6' e7 e8 e9 e10 e11 e11' e12 e12' e13 e14 e15
      refine ⟨⟨dr, dn, dep, time, who, cr, cn, kind, er, en, to, roles, depth, cap, ar, an, vr, vn, item, qty, price, lines⟩, c28, ?_, hL, ⟨b0, b0', hd8, b1, b2, b3, b4, b4', b5, b6, b6', b7, b8, b9, b10, b11, b11', b12, b12', b13, b14, b15, b16⟩⟩
      simp only [opF, ← e1]
      rfl
end
end Go.Proofs.Ytfojjklohbiffaa
/- Results that lie in memory: a value and a row, two rows. Nothing of the program. -/
namespace Tran
open Go Go.RowKit
section
variable {P : Program}
theorem results_tmp_row {fn : Func} {u p : Tmp} {ty : TypeId} (h : fn.results = #[.tmp u, .cell p ty]) (tmps : Array Value) (w : World) (g : Nat) (t : TypeId) (cs : Array Value) (fr : Nat × Nat) (d : TypeDesc) (v : Value) (hv : tmps.getD u undef = v)
    (hp : tmps.getD p undef = .pointer (some ⟨g, 0, none⟩)) (hg : w.heap[g]? = some (.cells cs t fr))
    (hu : P.underlying ty = some d) (hd : (match d with | .struct _ | .array _ _ => true | _ => false) = true) (hi : (P.info? ty).map (·.size) = some cs.size) :
    (results fn tmps).run P w = .ok (.tuple #[v, .agg cs]) w := by
  have hp' : tmps[p]?.getD undef = .pointer (some ⟨g, 0, none⟩) := by simpa using hp
  have hv' : tmps[u]?.getD undef = v := by simpa using hv
  simp [results, h, hp', hv', asAddr, run_loadVar_row w g t ty cs fr d hg hu hd hi]
theorem results_row_tmp {fn : Func} {u p : Tmp} {ty : TypeId} (h : fn.results = #[.cell p ty, .tmp u]) (tmps : Array Value) (w : World) (g : Nat) (t : TypeId) (cs : Array Value) (fr : Nat × Nat) (d : TypeDesc) (v : Value) (hv : tmps.getD u undef = v)
    (hp : tmps.getD p undef = .pointer (some ⟨g, 0, none⟩)) (hg : w.heap[g]? = some (.cells cs t fr))
    (hu : P.underlying ty = some d) (hd : (match d with | .struct _ | .array _ _ => true | _ => false) = true) (hi : (P.info? ty).map (·.size) = some cs.size) :
    (results fn tmps).run P w = .ok (.tuple #[.agg cs, v]) w := by
  have hp' : tmps[p]?.getD undef = .pointer (some ⟨g, 0, none⟩) := by simpa using hp
  have hv' : tmps[u]?.getD undef = v := by simpa using hv
  simp [results, h, hp', hv', asAddr, run_loadVar_row w g t ty cs fr d hg hu hd hi]
theorem results_rows {fn : Func} {p q : Tmp} {ty ty2 : TypeId} (h : fn.results = #[.cell p ty, .cell q ty2]) (tmps : Array Value) (w : World) (g : Nat) (t : TypeId) (cs : Array Value) (fr : Nat × Nat) (d : TypeDesc)
    (hp : tmps.getD p undef = .pointer (some ⟨g, 0, none⟩)) (hg : w.heap[g]? = some (.cells cs t fr))
    (hu : P.underlying ty = some d) (hd : (match d with | .struct _ | .array _ _ => true | _ => false) = true) (hi : (P.info? ty).map (·.size) = some cs.size)
    (g2 : Nat) (t2 : TypeId) (cs2 : Array Value) (fr2 : Nat × Nat) (d2 : TypeDesc)
    (hp2 : tmps.getD q undef = .pointer (some ⟨g2, 0, none⟩)) (hg2 : w.heap[g2]? = some (.cells cs2 t2 fr2))
    (hu2 : P.underlying ty2 = some d2) (hd2 : (match d2 with | .struct _ | .array _ _ => true | _ => false) = true) (hi2 : (P.info? ty2).map (·.size) = some cs2.size) :
    (results fn tmps).run P w = .ok (.tuple #[.agg cs, .agg cs2]) w := by
  have hp' : tmps[p]?.getD undef = .pointer (some ⟨g, 0, none⟩) := by simpa using hp
  have hq' : tmps[q]?.getD undef = .pointer (some ⟨g2, 0, none⟩) := by simpa using hp2
  simp [results, h, hp', hq', asAddr, run_loadVar_row w g t ty cs fr d hg hu hd hi, run_loadVar_row w g2 t2 ty2 cs2 fr2 d2 hg2 hu2 hd2 hi2]
end
end Tran
namespace Tran
open Go Go.RowKit
section
variable {P : Program}
/-- rows read and written as steps of a region that draws its order -/
theorem step_load_row {ops : Array Oper} {o : Oper} {a : Act} {w : World} {K : Act → World → Prop} {Q : Exit → Act → World → Prop} {E : Prop} (hgd : o.guard = none) (ty : TypeId) (x : Operand) (ho : o.op = .load ty x)
    (g : Nat) (hx : a.eval x = .pointer (some ⟨g, 0, none⟩)) (t : TypeId) (cs : Array Value) (fr : Nat × Nat) (d : TypeDesc) (hg : w.heap[g]? = some (.cells cs t fr))
    (hu : P.underlying ty = some d) (hd : (match d with | .struct _ | .array _ _ => true | _ => false) = true) (hi : (P.info? ty).map (·.size) = some cs.size)
    (h : K (a.put o.dst (.agg cs)) w) : if Region.wanted o (yielded ops a.tmps) = true then Oper.wp P o a w K Q else E := by
  have hw : Region.wanted o (yielded ops a.tmps) = true := by simp [Region.wanted, hgd]
  rw [if_pos hw]
  exact wp_load_row ty x ho g hx t cs fr d hg hu hd hi h
theorem step_store_row {ops : Array Oper} {o : Oper} {a : Act} {w : World} {K : Act → World → Prop} {Q : Exit → Act → World → Prop} {E : Prop} (hgd : o.guard = none) (ty : TypeId) (x y : Operand) (ho : o.op = .store ty x y)
    (g : Nat) (cells : Array Value) (hx : a.eval x = .pointer (some ⟨g, 0, none⟩)) (hy : a.eval y = .agg cells)
    (t : TypeId) (old : Array Value) (hg : w.heap[g]? = some (.cells old t (0, 0))) (hi : (P.info? ty).map (·.size) = some cells.size)
    (hold : old.size = cells.size) (h1 : cells.all (·.oneCell') = true)
    (h : K (a.put o.dst undef) (w.setRow g cells)) : if Region.wanted o (yielded ops a.tmps) = true then Oper.wp P o a w K Q else E := by
  have hw : Region.wanted o (yielded ops a.tmps) = true := by simp [Region.wanted, hgd]
  rw [if_pos hw]
  exact wp_store_row ty x y ho g cells hx hy t old hg hi hold h1 h
end
end Tran
namespace Tran
open Go Go.RowKit
section
variable {P : Program}
/-- a struct or an array read out of the middle of a block -/
theorem run_load_cells (w : World) (ad : Addr) (ty : TypeId) (cs : Array Value) (d : TypeDesc) (hc : ∀ j v, cs[j]? = some v → w.cell? (ad.add j) = some v)
    (hu : P.underlying ty = some d) (hd : (match d with | .struct _ | .array _ _ => true | _ => false) = true) (hi : (P.info? ty).map (·.size) = some cs.size) :
    (loadVar ty ad).run P w = .ok (.agg cs) w := by
  have hl : (loadCells ad cs.toList.length).run P w = .ok cs.toList.toArray w :=
    run_loadCells_list (P := P) w ad cs.toList (fun j v hv => hc j v (by simpa using hv))
  cases hq : P.info? ty with
  | none => simp [hq] at hi
  | some i =>
    have hs : i.size = cs.size := by simpa [hq] using hi
    have hagg : (isAgg ty).run P w = .ok true w := by
      unfold isAgg
      rw [Sem.run_bind, run_underlying hu w]
      cases d <;> simp_all
    simp only [Array.length_toList, Array.toArray_toList] at hl
    simp [loadVar, Sem.run_bind, hagg, Go.sizeOf, typeInfo, hq, hs, hl]
theorem wpList_load_cells {ops : Array Oper} {rest : List Oper} {o : Oper} {a : Act} {w : World} {Q : Exit → Act → World → Prop} (hgd : o.guard = none) (ty : TypeId) (x : Operand) (ho : o.op = .load ty x)
    (ad : Addr) (hx : a.eval x = .pointer (some ad)) (cs : Array Value) (d : TypeDesc) (hc : ∀ j v, cs[j]? = some v → w.cell? (ad.add j) = some v)
    (hu : P.underlying ty = some d) (hd : (match d with | .struct _ | .array _ _ => true | _ => false) = true) (hi : (P.info? ty).map (·.size) = some cs.size)
    (h : wpList P ops Q rest (a.put o.dst (.agg cs)) w) : wpList P ops Q (o :: rest) a w := by
  refine wpList_plain hgd fun K hK => ?_
  unfold Oper.wp execOp
  simp only [ho, hx, Instr.loadAt, Instr.sureAddr, Sem.run_bind, Sem.run_pure, Result.andThen_ok, run_load_cells w ad ty cs d hc hu hd hi]
  exact hK _ _ h
end
/-- the cells of element i of a slice of elements of m cells -/
theorem rd_cells {α : Type} {w : World} {A : Option Addr} {l : List α} {m : Nat} {F : α → List Value} (hF : ∀ x ∈ l, (F x).length = m) (h : Rd w A l.length m (l.flatMap F)) {i : Nat} (hi : i < l.length) :
    ∃ ad, A = some ad ∧ ∀ j v, (F l[i])[j]? = some v → w.cell? ((ad.add (i * m)).add j) = some v := by
  obtain ⟨ad, rfl, hc⟩ := h.2 (by omega)
  refine ⟨ad, rfl, fun j v hv => ?_⟩
  have hj : j < m := by
    have := (List.getElem?_eq_some_iff.1 hv).1
    rwa [hF _ (List.getElem_mem hi)] at this
  rw [Go.Deep.add_add]
  exact hc _ _ (by rw [flat_get F m l hF i j hj]; simpa [hi] using hv)
theorem add_at (ad : Addr) (i j : Nat) (hj : j ≠ 0) : (ad.add i).add j = ⟨(ad.add i).block, (ad.add i).off + j, none⟩ := by
  unfold Addr.add; by_cases hi : i = 0 <;> simp [hi, hj]
theorem lit_add (g o j : Nat) : (⟨g, o, none⟩ : Addr).add j = ⟨g, o + j, none⟩ := by unfold Addr.add; split <;> simp_all
end Tran
/- Numbers in bytes: plain Lean, no program in sight. -/
namespace Tran.Wire
/-- the digits of n to the base 256, the highest first; none for 0 -/
def dig (n : Nat) : List UInt8 := if _h : n = 0 then [] else dig (n / 256) ++ [UInt8.ofNat n]
termination_by n
decreasing_by omega
theorem dig_zero : dig 0 = [] := by rw [dig]; simp
theorem dig_pos {n : Nat} (h : n ≠ 0) : dig n = dig (n / 256) ++ [UInt8.ofNat n] := by rw [dig]; simp [h]
theorem dig_length {s : Nat} : ∀ {n : Nat}, n / 256 ^ (s + 1) = 0 → 0 < n / 256 ^ s → (dig n).length = s + 1 := by
  induction s with
  | zero =>
    intro n h1 h2
    rw [Nat.pow_zero, Nat.div_one] at h2
    rw [dig_pos (by omega), show n / 256 = 0 by simpa using h1, dig_zero]; rfl
  | succ s ih =>
    intro n h1 h2
    have e1 : n / 256 / 256 ^ (s + 1) = 0 := by rw [Nat.div_div_eq_div_mul, ← Nat.pow_succ']; exact h1
    have e2 : 0 < n / 256 / 256 ^ s := by rw [Nat.div_div_eq_div_mul, ← Nat.pow_succ']; exact h2
    have h0 : n ≠ 0 := by rintro rfl; simp at h2
    rw [dig_pos h0, List.length_append, ih e1 e2]; rfl
theorem dig_get (n : Nat) : ∀ (k : Nat) (h : k < (dig n).length), (dig n)[k] = UInt8.ofNat (n / 256 ^ ((dig n).length - 1 - k)) := by
  induction n using Nat.strongRecOn with
  | _ n ih =>
    intro k h
    by_cases h0 : n = 0
    · subst h0; rw [dig_zero] at h; simp at h
    · have e := dig_pos h0
      have hl : (dig n).length = (dig (n / 256)).length + 1 := by rw [e]; simp
      by_cases hk : k < (dig (n / 256)).length
      · have e1 : (dig n)[k] = (dig (n / 256))[k] := by simp only [e]; rw [List.getElem_append_left hk]
        rw [e1, ih (n / 256) (by omega) k hk, hl, Nat.div_div_eq_div_mul, ← Nat.pow_succ']
        congr 3; omega
      · have hk2 : k = (dig (n / 256)).length := by omega
        have e1 : (dig n)[k] = UInt8.ofNat n := by simp only [e]; rw [List.getElem_append_right (by omega)]; simp [hk2]
        rw [e1, hl, hk2]; simp
theorem dig_le (n : Nat) (s : Nat) (h : n < 256 ^ s) : (dig n).length ≤ s := by
  induction s generalizing n with
  | zero => have : n = 0 := by simpa using h
            subst this; rw [dig_zero]; simp
  | succ s ih =>
    by_cases h0 : n = 0
    · subst h0; rw [dig_zero]; simp
    · rw [dig_pos h0, List.length_append]
      have := ih (n / 256) (by rw [Nat.pow_succ] at h; omega)
      simp; omega
/-- the bytes as one number, the first byte highest -/
def val (l : List UInt8) : Nat := l.foldl (fun a b => a * 256 + b.toNat) 0
theorem val_snoc (l : List UInt8) (b : UInt8) : val (l ++ [b]) = val l * 256 + b.toNat := by simp [val, List.foldl_append]
theorem val_dig (n : Nat) : val (dig n) = n := by
  induction n using Nat.strongRecOn with
  | _ n ih =>
    by_cases h0 : n = 0
    · subst h0; rw [dig_zero]; rfl
    · rw [dig_pos h0, val_snoc, ih (n / 256) (by omega), UInt8.toNat_ofNat']; omega
/-- a number as the wire writes it -/
def numF (n : Nat) : List UInt8 := if n < 128 then [UInt8.ofNat n] else UInt8.ofNat (128 + (dig n).length) :: dig n
theorem numF_len (n : Nat) (h : n < 2 ^ 64) : (numF n).length ≤ 9 ∧ 1 ≤ (numF n).length := by
  unfold numF; split
  · simp
  · have := dig_le n 8 (by omega)
    simp; omega
end Tran.Wire
