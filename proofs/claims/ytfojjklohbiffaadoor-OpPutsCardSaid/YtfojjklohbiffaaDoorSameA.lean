/- Structs of numbers compared: dots, claims, an operation's plain part. -/
import Derived.Test.YtfojjklohbiffaaDoorOpA
import Derived.Test.YtfojjklohbiffaaDoorWireV
import Derived.Test.YtfojjklohbiffaaDoorEqs
import Derived.DeepKeys
namespace Go.Proofs.YtfojjklohbiffaaDoor
open Go.RowKit Tran
set_option linter.unusedVariables false
set_option linter.unusedSimpArgs false
theorem eql_lits {P : Program} {m : Nat} {t : TypeId} (hk : P.keyTypeAt m t = true) (hm : m ≤ 10000) {D D' : Nat} {xs ys : Array Value} {lx ly : List Lit} (fx : (Value.agg xs).formed P t = true) (fy : (Value.agg ys).formed P t = true)
    (hx : P.keyLits D t xs.toList = some lx) (hy : P.keyLits D' t ys.toList = some ly) (r : Bool) (hr : r = true ↔ lx = ly) (w : World) :
    (binOp .eql t (.agg xs) (.agg ys)).run P w = .ok (.bool r) w ∧ (binOp .neq t (.agg xs) (.agg ys)).run P w = .ok (.bool (!r)) w := by
  obtain ⟨r', h1, h2⟩ := run_equalIn_deep (P := P) (10000 - m) m t hk w D D' (.agg xs) (.agg ys) lx ly fx fy hx hy
  have e : r' = r := by rw [Bool.eq_iff_iff, h2, hr]
  rw [show 10000 - m + m = 10000 by omega, e] at h1
  exact ⟨by rw [run_eql_struct, h1]; rfl, by rw [run_neq_struct, h1]; rfl⟩
theorem wf_u8 (a : Nat) (h : a < 256) : (Lit.int .u8 (a : Int)).wf = true := by simp [Lit.wf, IntKind.min, IntKind.max, IntKind.signed, IntKind.bits]; omega
theorem wf_u32 (a : Nat) (h : a < 4294967296) : (Lit.int .u32 (a : Int)).wf = true := by simp [Lit.wf, IntKind.min, IntKind.max, IntKind.signed, IntKind.bits]; omega
theorem wf_u64 (a : Nat) (h : a < 18446744073709551616) : (Lit.int .u64 (a : Int)).wf = true := by simp [Lit.wf, IntKind.min, IntKind.max, IntKind.signed, IntKind.bits]; omega
theorem key_u8 (D a : Nat) (h : a < 256) : Tryd.prog.keyLits (D + 1) 5 [.int .u8 (a : Int)] = some [.int .u8 (a : Int)] := by simp [Program.keyLits, Tryd.underlying5, wf_u8 a h]
theorem key_u32 (D a : Nat) (h : a < 4294967296) : Tryd.prog.keyLits (D + 1) 22 [.int .u32 (a : Int)] = some [.int .u32 (a : Int)] := by simp [Program.keyLits, Tryd.underlying22, wf_u32 a h]
theorem key_u64 (D a : Nat) (h : a < 18446744073709551616) : Tryd.prog.keyLits (D + 1) 27 [.int .u64 (a : Int)] = some [.int .u64 (a : Int)] := by simp [Program.keyLits, Tryd.underlying27, wf_u64 a h]
theorem key_dot (D a b : Nat) (ha : a < 256) (hb : b < 4294967296) : Tryd.prog.keyLits (D + 2) 24 [.int .u8 (a : Int), .int .u32 (b : Int)] = some [.int .u8 (a : Int), .int .u32 (b : Int)] := by
  unfold Program.keyLits
  simp only [Tryd.underlying24]
  simp [opcells82, opcells5, opcells22, key_u8 D a ha, key_u32 D b hb]
theorem key_claim (D : Nat) (c : NClaim) (h : c.ok) : Tryd.prog.keyLits (D + 3) 63 (claimF c) = some [.int .u8 (c.lr : Int), .int .u32 (c.ln : Int), .int .u8 (c.vr : Int), .int .u32 (c.vn : Int)] := by
  obtain ⟨h1, h2, h3, h4⟩ := h
  unfold Program.keyLits
  simp only [Tryd.underlying63]
  simp [cells177, opcells82, claimF, key_dot D _ _ h1 h2, key_dot D _ _ h3 h4]
theorem key_vec (D : Nat) (xs : List Nat) (h8 : xs.length = 8) (h : ∀ y ∈ xs, y < 4294967296) : Tryd.prog.keyLits (D + 2) 26 (xs.map fun y => Value.int .u32 (y : Nat)) = some (xs.map fun y => Lit.int .u32 (y : Nat)) := by
  match xs, h8 with
  | [a, b, c, d, e, f, g, i], _ =>
    unfold Program.keyLits
    simp only [Tryd.underlying26]
    have ha := key_u32 D a (h a (by simp))
    have hb := key_u32 D b (h b (by simp))
    have hc := key_u32 D c (h c (by simp))
    have hd := key_u32 D d (h d (by simp))
    have he := key_u32 D e (h e (by simp))
    have hf := key_u32 D f (h f (by simp))
    have hg := key_u32 D g (h g (by simp))
    have hi := key_u32 D i (h i (by simp))
    simp [opcells54, opcells22, List.range_succ, ha, hb, hc, hd, he, hf, hg, hi]
theorem formed_claim (c : NClaim) : (Value.agg (claimA c)).formed Tryd.prog 63 = true := by simp [Value.formed, Tryd.underlying63, cells177, claimA]
theorem keyT177 : Tryd.prog.keyTypeAt 3 63 = true := by kernel_rfl
theorem keyT82 : Tryd.prog.keyTypeAt 2 24 = true := by kernel_rfl
/-- claims compared -/
theorem eql_claim (a b : NClaim) (ha : a.ok) (hb : b.ok) (r : Bool) (hr : r = true ↔ a = b) (w : World) :
    (binOp .eql 63 (.agg (claimA a)) (.agg (claimA b))).run Tryd.prog w = .ok (.bool r) w ∧ (binOp .neq 63 (.agg (claimA a)) (.agg (claimA b))).run Tryd.prog w = .ok (.bool (!r)) w := by
  refine eql_lits keyT177 (by omega) (formed_claim a) (formed_claim b) (key_claim 0 a ha) (key_claim 0 b hb) r (hr.trans ?_) w
  cases a; cases b
  simp
  omega
/-- dots compared -/
theorem eql_dot (a b c d : Nat) (ha : a < 256) (hb : b < 4294967296) (hc : c < 256) (hd : d < 4294967296) (r : Bool) (hr : r = true ↔ a = c ∧ b = d) (w : World) :
    (binOp .eql 24 (.agg #[.int .u8 (a : Int), .int .u32 (b : Int)]) (.agg #[.int .u8 (c : Int), .int .u32 (d : Int)])).run Tryd.prog w = .ok (.bool r) w := by
  refine (eql_lits keyT82 (by omega) (by simp [Value.formed, Tryd.underlying24, opcells82]) (by simp [Value.formed, Tryd.underlying24, opcells82]) (key_dot 0 a b ha hb) (key_dot 0 c d hc hd) r (hr.trans ?_) w).1
  simp
  omega
/-- vectors compared -/
theorem eql_vec (xs ys : List Nat) (hx : xs.length = 8) (hy : ys.length = 8) (r : Bool) (hr : r = true ↔ xs = ys) (w : World) : (binOp .eql 26 (.agg (vecA xs)) (.agg (vecA ys))).run Tryd.prog w = .ok (.bool r) w := by
  have h := run_eql_nats (P := Tryd.prog) w 26 22 .u32 8 Tryd.underlying26 Tryd.underlying22 (fun w => by go_simp) xs ys hx hy
  have e : (xs == ys) = r := by rw [Bool.eq_iff_iff, hr]; simp
  rw [e] at h
  exact h
/-- an operation without its lines -/
def NOp.head (x : NOp) : NOp := { x with lines := [] }
theorem head_iff (x y : NOp) : x = y ↔ x.head = y.head ∧ x.lines = y.lines := by
  cases x; cases y
  simp [NOp.head]
  constructor <;> intro h <;> simp [h]
def plainF (x : NOp) : List Value := [.int .u8 (x.dr : Int), .int .u32 (x.dn : Int)] ++ (x.dep.map (fun y => Value.int .u32 (y : Nat)) ++ [.int .u64 (x.time : Int), .int .u32 (x.who : Int), .int .u8 (x.cr : Int), .int .u32 (x.cn : Int), .int .u8 (x.kind : Int), .int .u8 (x.er : Int), .int .u32 (x.en : Int), .int .u32 (x.dest : Int), .int .u8 (x.roles : Int), .int .u8 (x.depth : Int), .int .u64 (x.cap : Int), .int .u8 (x.ar : Int), .int .u32 (x.an : Int), .int .u8 (x.vr : Int), .int .u32 (x.vn : Int), .int .u32 (x.item : Int), .int .u32 (x.qty : Int), .int .u32 (x.price : Int)])
def plainL (x : NOp) : List Lit := [.int .u8 (x.dr : Int), .int .u32 (x.dn : Int)] ++ (x.dep.map (fun y => Lit.int .u32 (y : Nat)) ++ [.int .u64 (x.time : Int), .int .u32 (x.who : Int), .int .u8 (x.cr : Int), .int .u32 (x.cn : Int), .int .u8 (x.kind : Int), .int .u8 (x.er : Int), .int .u32 (x.en : Int), .int .u32 (x.dest : Int), .int .u8 (x.roles : Int), .int .u8 (x.depth : Int), .int .u64 (x.cap : Int), .int .u8 (x.ar : Int), .int .u32 (x.an : Int), .int .u8 (x.vr : Int), .int .u32 (x.vn : Int), .int .u32 (x.item : Int), .int .u32 (x.qty : Int), .int .u32 (x.price : Int)])
def plainA (x : NOp) : Array Value := (plainF x).toArray
theorem cells184 : Tryd.prog.cellsOf 77 = 28 := by kernel_rfl
theorem size184 : (Tryd.prog.info? 77).map (·.size) = some 28 := by kernel_rfl
theorem plainA_size (x : NOp) (h : x.dep.length = 8) : (plainA x).size = 28 := by simp [plainA, plainF, h]
theorem plainA_one (x : NOp) : (plainA x).all (·.oneCell') = true := by
  simp [plainA, plainF, Value.oneCell']
set_option maxRecDepth 100000 in
theorem key_plain (D : Nat) (x : NOp) (h : x.ok) : Tryd.prog.keyLits (D + 3) 77 (plainF x) = some (plainL x) := by
  obtain ⟨dr, dn, dep, time, who, cr, cn, kind, er, en, dest, roles, depth, cap, ar, an, vr, vn, item, qty, price, lines⟩ := x
  obtain ⟨h1, h2, h8, h3, h4, h5, h6, h7, h9, h10, h11, h12, h13, h14, h15, h16, h17, h18, h19, h20, h21, h22, h23⟩ := h
  simp only at h1 h2 h8 h3 h4 h5 h6 h7 h9 h10 h11 h12 h13 h14 h15 h16 h17 h18 h19 h20 h21 h22 h23
  have kv := key_vec (D + 0) dep h8 h3
  match dep, h8 with
  | [a, b, c, d, e, f, g, i], _ =>
    simp only [List.map_cons, List.map_nil, Nat.add_zero] at kv
    unfold Program.keyLits
    simp only [Tryd.underlying77, plainF, plainL]
    simp [cells184, opcells82, opcells5, opcells22, opcells80, opcells54, kv, key_dot D _ _ h1 h2, key_u64 (D + 1) _ h4, key_u32 (D + 1) _ h5, key_dot D _ _ h6 h7, key_u8 (D + 1) _ h9, key_dot D _ _ h10 h11, key_u32 (D + 1) _ h12, key_u8 (D + 1) _ h13, key_u8 (D + 1) _ h14, key_u64 (D + 1) _ h15, key_dot D _ _ h16 h17, key_dot D _ _ h18 h19, key_u32 (D + 1) _ h20, key_u32 (D + 1) _ h21, key_u32 (D + 1) _ h22]
theorem keyT184 : Tryd.prog.keyTypeAt 3 77 = true := by kernel_rfl
theorem plainL_iff (x y : NOp) (hx : x.dep.length = 8) (hy : y.dep.length = 8) : x.head = y.head ↔ plainL x = plainL y := by
  obtain ⟨dr, dn, dep, time, who, cr, cn, kind, er, en, dest, roles, depth, cap, ar, an, vr, vn, item, qty, price, lines⟩ := x
  obtain ⟨dr2, dn2, dep2, time2, who2, cr2, cn2, kind2, er2, en2, to2, roles2, depth2, cap2, ar2, an2, vr2, vn2, item2, qty2, price2, lines2⟩ := y
  simp only at hx hy
  match dep, hx, dep2, hy with
  | [a, b, c, d, e, f, g, i], _, [a2, b2, c2, d2, e2, f2, g2, i2], _ =>
    simp only [NOp.head, plainL, NOp.mk.injEq, List.map_cons, List.map_nil, List.cons_append, List.nil_append, List.cons.injEq, Lit.int.injEq, true_and, and_true, Int.natCast_inj, and_assoc]
/-- operations without their lines compared -/
theorem eql_plain (x y : NOp) (hx : x.ok) (hy : y.ok) (r : Bool) (hr : r = true ↔ x.head = y.head) (w : World) : (binOp .eql 77 (.agg (plainA x)) (.agg (plainA y))).run Tryd.prog w = .ok (.bool r) w := by
  refine (eql_lits keyT184 (by omega) ?_ ?_ (key_plain 0 x hx) (key_plain 0 y hy) r (hr.trans (plainL_iff x y hx.dep8 hy.dep8)) w).1
  · simp [Value.formed, Tryd.underlying77, cells184]; exact hx.dep8
  · simp [Value.formed, Tryd.underlying77, cells184]; exact hy.dep8
end Go.Proofs.YtfojjklohbiffaaDoor
