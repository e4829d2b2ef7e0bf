/- Operations' forms: an operation without what its kind does not have: the walk of op.bare. -/
import Derived.Test.YtfojjklohbiffaaDoorChB
import Derived.Test.YtfojjklohbiffaaDoorOpG
import Derived.Test.YtfojjklohbiffaaDoorOpK
namespace Go.Proofs.YtfojjklohbiffaaDoor
open Go.RowKit Tran Tran.Wire
set_option linter.unusedVariables false
set_option linter.unusedSimpArgs false
/-- what each kind has, as bits -/
def kindsF : Nat → Nat
  | 1 => 3
  | 2 => 5
  | 3 => 49
  | 4 => 37
  | 5 => 5
  | 6 => 13
  | 7 => 13
  | 8 => 65
  | _ => 0
/-- the table stands in memory -/
def Glob (w : World) : Prop := ∀ j, j ≤ 8 → w.cell? ⟨0, j, none⟩ = some (.int .u8 (kindsF j : Int))
theorem Glob.later {w w' : World} (h : Glob w) (hb : Below w.heap.size w w') : Glob w' := fun j hj =>
  (hb.cell (World.block_lt_of_cell? w _ (h j hj))).trans (h j hj)
/-- an operation without what its kind does not have -/
def bareN (x : NOp) : NOp :=
  { x with
    er := if (hasF x.kind).contains 99 then x.er else 0
    en := if (hasF x.kind).contains 99 then x.en else 0
    dest := if (hasF x.kind).contains 116 then x.dest else 0
    roles := if (hasF x.kind).contains 116 then x.roles else 0
    depth := if (hasF x.kind).contains 116 then x.depth else 0
    cap := if (hasF x.kind).contains 116 then x.cap else 0
    ar := if (hasF x.kind).contains 97 then x.ar else 0
    an := if (hasF x.kind).contains 97 then x.an else 0
    vr := if (hasF x.kind).contains 118 then x.vr else 0
    vn := if (hasF x.kind).contains 118 then x.vn else 0
    item := if (hasF x.kind).contains 105 then x.item else 0
    qty := if (hasF x.kind).contains 113 then x.qty else 0
    price := if (hasF x.kind).contains 101 then x.price else 0
    lines := if (hasF x.kind).contains 108 then x.lines else [] }
/-- the worlds within bare -/
structure BrW (w0 : World) (X : Array Value) (W : World) : Prop where
  k : Blk W w0.heap.size 30 X
  kr : Blk W (w0.heap.size + 1) 30 (opA zeroO (.slice none 0 0))
  b : Below w0.heap.size w0 W
theorem BrW.set {w0 W : World} {X : Array Value} (h : BrW w0 X W) (i : Nat) (u : Value) : BrW w0 (putAt X i [u]) (W.setCell ⟨w0.heap.size, i, none⟩ u) :=
  ⟨h.k.set_ i u, h.kr.far (p := ⟨w0.heap.size, i, none⟩) (show w0.heap.size + 1 ≠ w0.heap.size by omega) u, h.b.setCell (p := ⟨w0.heap.size, i, none⟩) (Nat.le_refl _) u⟩
theorem BrW.sets {w0 W : World} {X : Array Value} (h : BrW w0 X W) (i : Nat) (vs : List Value) : BrW w0 (putAt X i vs) (W.setCells w0.heap.size i vs) :=
  ⟨h.k.setCells i vs, h.kr.farCells (by omega) i vs, below_setCells h.b (Nat.le_refl _) i vs⟩
theorem zdot_one : (#[Value.int .u8 0, Value.int .u32 0] : Array Value).all (·.oneCell') = true := by simp [Value.oneCell']
theorem zdot_size : (Tryd.prog.info? 24).map (·.size) = some (#[Value.int .u8 0, Value.int .u32 0] : Array Value).size := by kernel_rfl
set_option maxRecDepth 100000 in
set_option maxHeartbeats 16000000 in
theorem bare_0 (w : World) (x : NOp) (A : Option Addr) (ln cap : Nat) (hx : x.ok) (hg : Glob w) (hk : x.kind = 0) : Calls Tryd.prog 19 #[.agg (opA x (.slice A ln cap))] w fun e w' => e = .returned (.agg (opA (bareN x) (.slice none 0 0))) ∧ Below w.heap.size w w' := by
  obtain ⟨k0, k1, hb⟩ := two_new w (opA x (.slice A ln cap)) (opA zeroO (.slice none 0 0)) 30 30
  have S : Hid (BrW w (opA x (.slice A ln cap)) _) := Lib.hid ⟨k0, k1, hb⟩
  have c14 := (k0.cell 14).trans (op_c14 x _ hx.dep8)
  rw [hk] at c14
  have g0 := (Glob.later hg hb) 0 (by omega)
  rw [show ((kindsF 0 : Nat) : Int) = 0 from rfl] at g0
  have HSZ := Lib.hid (opA_size x (.slice A ln cap) hx.dep8)
  have HO1 := Lib.hid (opA_one_ x A ln cap)
  have HE : Hid ((putAt (putAt (putAt (putAt (putAt (putAt (putAt (putAt (putAt (putAt (putAt (opA x (.slice A ln cap)) 15 (#[.int .u8 0, .int .u32 0] : Array Value).toList) 17 [.int .u32 0]) 18 [.int .u8 0]) 19 [.int .u8 0]) 20 [.int .u64 0]) 21 (#[.int .u8 0, .int .u32 0] : Array Value).toList) 23 (#[.int .u8 0, .int .u32 0] : Array Value).toList) 25 [.int .u32 0]) 27 [.int .u32 0]) 26 [.int .u32 0]) 28 [.slice none 0 0]) = opA (bareN x) (.slice none 0 0)) := Lib.hid (by
    have h8 := hx.dep8
    clear S c14 g0 HSZ HO1 k0 k1 hb hg
    have e0 : (opA x (.slice A ln cap)) = opA x (.slice A ln cap) := rfl
    have e1 : (putAt (opA x (.slice A ln cap)) 15 (#[.int .u8 0, .int .u32 0] : Array Value).toList) = opA ({ x with er := 0, en := 0 } : NOp) (.slice A ln cap) := (congrArg (fun Y => putAt Y 15 (#[.int .u8 0, .int .u32 0] : Array Value).toList) e0).trans (op_put15 x (.slice A ln cap) h8 0 0)
    have e2 : (putAt (putAt (opA x (.slice A ln cap)) 15 (#[.int .u8 0, .int .u32 0] : Array Value).toList) 17 [.int .u32 0]) = opA ({ ({ x with er := 0, en := 0 } : NOp) with dest := 0 } : NOp) (.slice A ln cap) := (congrArg (fun Y => putAt Y 17 [.int .u32 0]) e1).trans (op_put17 ({ x with er := 0, en := 0 } : NOp) (.slice A ln cap) h8 0)
    have e3 : (putAt (putAt (putAt (opA x (.slice A ln cap)) 15 (#[.int .u8 0, .int .u32 0] : Array Value).toList) 17 [.int .u32 0]) 18 [.int .u8 0]) = opA ({ ({ ({ x with er := 0, en := 0 } : NOp) with dest := 0 } : NOp) with roles := 0 } : NOp) (.slice A ln cap) := (congrArg (fun Y => putAt Y 18 [.int .u8 0]) e2).trans (op_put18 ({ ({ x with er := 0, en := 0 } : NOp) with dest := 0 } : NOp) (.slice A ln cap) h8 0)
    have e4 : (putAt (putAt (putAt (putAt (opA x (.slice A ln cap)) 15 (#[.int .u8 0, .int .u32 0] : Array Value).toList) 17 [.int .u32 0]) 18 [.int .u8 0]) 19 [.int .u8 0]) = opA ({ ({ ({ ({ x with er := 0, en := 0 } : NOp) with dest := 0 } : NOp) with roles := 0 } : NOp) with depth := 0 } : NOp) (.slice A ln cap) := (congrArg (fun Y => putAt Y 19 [.int .u8 0]) e3).trans (op_put19 ({ ({ ({ x with er := 0, en := 0 } : NOp) with dest := 0 } : NOp) with roles := 0 } : NOp) (.slice A ln cap) h8 0)
    have e5 : (putAt (putAt (putAt (putAt (putAt (opA x (.slice A ln cap)) 15 (#[.int .u8 0, .int .u32 0] : Array Value).toList) 17 [.int .u32 0]) 18 [.int .u8 0]) 19 [.int .u8 0]) 20 [.int .u64 0]) = opA ({ ({ ({ ({ ({ x with er := 0, en := 0 } : NOp) with dest := 0 } : NOp) with roles := 0 } : NOp) with depth := 0 } : NOp) with cap := 0 } : NOp) (.slice A ln cap) := (congrArg (fun Y => putAt Y 20 [.int .u64 0]) e4).trans (op_put20 ({ ({ ({ ({ x with er := 0, en := 0 } : NOp) with dest := 0 } : NOp) with roles := 0 } : NOp) with depth := 0 } : NOp) (.slice A ln cap) h8 0)
    have e6 : (putAt (putAt (putAt (putAt (putAt (putAt (opA x (.slice A ln cap)) 15 (#[.int .u8 0, .int .u32 0] : Array Value).toList) 17 [.int .u32 0]) 18 [.int .u8 0]) 19 [.int .u8 0]) 20 [.int .u64 0]) 21 (#[.int .u8 0, .int .u32 0] : Array Value).toList) = opA ({ ({ ({ ({ ({ ({ x with er := 0, en := 0 } : NOp) with dest := 0 } : NOp) with roles := 0 } : NOp) with depth := 0 } : NOp) with cap := 0 } : NOp) with ar := 0, an := 0 } : NOp) (.slice A ln cap) := (congrArg (fun Y => putAt Y 21 (#[.int .u8 0, .int .u32 0] : Array Value).toList) e5).trans (op_put21 ({ ({ ({ ({ ({ x with er := 0, en := 0 } : NOp) with dest := 0 } : NOp) with roles := 0 } : NOp) with depth := 0 } : NOp) with cap := 0 } : NOp) (.slice A ln cap) h8 0 0)
    have e7 : (putAt (putAt (putAt (putAt (putAt (putAt (putAt (opA x (.slice A ln cap)) 15 (#[.int .u8 0, .int .u32 0] : Array Value).toList) 17 [.int .u32 0]) 18 [.int .u8 0]) 19 [.int .u8 0]) 20 [.int .u64 0]) 21 (#[.int .u8 0, .int .u32 0] : Array Value).toList) 23 (#[.int .u8 0, .int .u32 0] : Array Value).toList) = opA ({ ({ ({ ({ ({ ({ ({ x with er := 0, en := 0 } : NOp) with dest := 0 } : NOp) with roles := 0 } : NOp) with depth := 0 } : NOp) with cap := 0 } : NOp) with ar := 0, an := 0 } : NOp) with vr := 0, vn := 0 } : NOp) (.slice A ln cap) := (congrArg (fun Y => putAt Y 23 (#[.int .u8 0, .int .u32 0] : Array Value).toList) e6).trans (op_put23 ({ ({ ({ ({ ({ ({ x with er := 0, en := 0 } : NOp) with dest := 0 } : NOp) with roles := 0 } : NOp) with depth := 0 } : NOp) with cap := 0 } : NOp) with ar := 0, an := 0 } : NOp) (.slice A ln cap) h8 0 0)
    have e8 : (putAt (putAt (putAt (putAt (putAt (putAt (putAt (putAt (opA x (.slice A ln cap)) 15 (#[.int .u8 0, .int .u32 0] : Array Value).toList) 17 [.int .u32 0]) 18 [.int .u8 0]) 19 [.int .u8 0]) 20 [.int .u64 0]) 21 (#[.int .u8 0, .int .u32 0] : Array Value).toList) 23 (#[.int .u8 0, .int .u32 0] : Array Value).toList) 25 [.int .u32 0]) = opA ({ ({ ({ ({ ({ ({ ({ ({ x with er := 0, en := 0 } : NOp) with dest := 0 } : NOp) with roles := 0 } : NOp) with depth := 0 } : NOp) with cap := 0 } : NOp) with ar := 0, an := 0 } : NOp) with vr := 0, vn := 0 } : NOp) with item := 0 } : NOp) (.slice A ln cap) := (congrArg (fun Y => putAt Y 25 [.int .u32 0]) e7).trans (op_put25 ({ ({ ({ ({ ({ ({ ({ x with er := 0, en := 0 } : NOp) with dest := 0 } : NOp) with roles := 0 } : NOp) with depth := 0 } : NOp) with cap := 0 } : NOp) with ar := 0, an := 0 } : NOp) with vr := 0, vn := 0 } : NOp) (.slice A ln cap) h8 0)
    have e9 : (putAt (putAt (putAt (putAt (putAt (putAt (putAt (putAt (putAt (opA x (.slice A ln cap)) 15 (#[.int .u8 0, .int .u32 0] : Array Value).toList) 17 [.int .u32 0]) 18 [.int .u8 0]) 19 [.int .u8 0]) 20 [.int .u64 0]) 21 (#[.int .u8 0, .int .u32 0] : Array Value).toList) 23 (#[.int .u8 0, .int .u32 0] : Array Value).toList) 25 [.int .u32 0]) 27 [.int .u32 0]) = opA ({ ({ ({ ({ ({ ({ ({ ({ ({ x with er := 0, en := 0 } : NOp) with dest := 0 } : NOp) with roles := 0 } : NOp) with depth := 0 } : NOp) with cap := 0 } : NOp) with ar := 0, an := 0 } : NOp) with vr := 0, vn := 0 } : NOp) with item := 0 } : NOp) with price := 0 } : NOp) (.slice A ln cap) := (congrArg (fun Y => putAt Y 27 [.int .u32 0]) e8).trans (op_put27 ({ ({ ({ ({ ({ ({ ({ ({ x with er := 0, en := 0 } : NOp) with dest := 0 } : NOp) with roles := 0 } : NOp) with depth := 0 } : NOp) with cap := 0 } : NOp) with ar := 0, an := 0 } : NOp) with vr := 0, vn := 0 } : NOp) with item := 0 } : NOp) (.slice A ln cap) h8 0)
    have e10 : (putAt (putAt (putAt (putAt (putAt (putAt (putAt (putAt (putAt (putAt (opA x (.slice A ln cap)) 15 (#[.int .u8 0, .int .u32 0] : Array Value).toList) 17 [.int .u32 0]) 18 [.int .u8 0]) 19 [.int .u8 0]) 20 [.int .u64 0]) 21 (#[.int .u8 0, .int .u32 0] : Array Value).toList) 23 (#[.int .u8 0, .int .u32 0] : Array Value).toList) 25 [.int .u32 0]) 27 [.int .u32 0]) 26 [.int .u32 0]) = opA ({ ({ ({ ({ ({ ({ ({ ({ ({ ({ x with er := 0, en := 0 } : NOp) with dest := 0 } : NOp) with roles := 0 } : NOp) with depth := 0 } : NOp) with cap := 0 } : NOp) with ar := 0, an := 0 } : NOp) with vr := 0, vn := 0 } : NOp) with item := 0 } : NOp) with price := 0 } : NOp) with qty := 0 } : NOp) (.slice A ln cap) := (congrArg (fun Y => putAt Y 26 [.int .u32 0]) e9).trans (op_put26 ({ ({ ({ ({ ({ ({ ({ ({ ({ x with er := 0, en := 0 } : NOp) with dest := 0 } : NOp) with roles := 0 } : NOp) with depth := 0 } : NOp) with cap := 0 } : NOp) with ar := 0, an := 0 } : NOp) with vr := 0, vn := 0 } : NOp) with item := 0 } : NOp) with price := 0 } : NOp) (.slice A ln cap) h8 0)
    have e11 : (putAt (putAt (putAt (putAt (putAt (putAt (putAt (putAt (putAt (putAt (putAt (opA x (.slice A ln cap)) 15 (#[.int .u8 0, .int .u32 0] : Array Value).toList) 17 [.int .u32 0]) 18 [.int .u8 0]) 19 [.int .u8 0]) 20 [.int .u64 0]) 21 (#[.int .u8 0, .int .u32 0] : Array Value).toList) 23 (#[.int .u8 0, .int .u32 0] : Array Value).toList) 25 [.int .u32 0]) 27 [.int .u32 0]) 26 [.int .u32 0]) 28 [.slice none 0 0]) = opA ({ ({ ({ ({ ({ ({ ({ ({ ({ ({ x with er := 0, en := 0 } : NOp) with dest := 0 } : NOp) with roles := 0 } : NOp) with depth := 0 } : NOp) with cap := 0 } : NOp) with ar := 0, an := 0 } : NOp) with vr := 0, vn := 0 } : NOp) with item := 0 } : NOp) with price := 0 } : NOp) with qty := 0 } : NOp) (.slice none 0 0) := (congrArg (fun Y => putAt Y 28 [.slice none 0 0]) e10).trans (op_put28 ({ ({ ({ ({ ({ ({ ({ ({ ({ ({ x with er := 0, en := 0 } : NOp) with dest := 0 } : NOp) with roles := 0 } : NOp) with depth := 0 } : NOp) with cap := 0 } : NOp) with ar := 0, an := 0 } : NOp) with vr := 0, vn := 0 } : NOp) with item := 0 } : NOp) with price := 0 } : NOp) with qty := 0 } : NOp) (.slice A ln cap) (.slice none 0 0) h8)
    refine e11.trans ?_
    refine (opA_lines ({ ({ ({ ({ ({ ({ ({ ({ ({ ({ x with er := 0, en := 0 } : NOp) with dest := 0 } : NOp) with roles := 0 } : NOp) with depth := 0 } : NOp) with cap := 0 } : NOp) with ar := 0, an := 0 } : NOp) with vr := 0, vn := 0 } : NOp) with item := 0 } : NOp) with price := 0 } : NOp) with qty := 0 } : NOp) _ []).symm.trans ?_
    refine congrArg (fun z => opA z _) ?_
    clear e0 e1 e2 e3 e4 e5 e6 e7 e8 e9 e10 e11 h8
    cases x
    simp only at hk
    subst hk
    rfl)
  generalize hX : opA x (.slice A ln cap) = X0 at *
  clear hX k0 k1 hb hx hg hk
  rw [zO_eq] at S c14 g0
  have q1 : (bits BinOp.and IntKind.u8 (0 : Int) (1 : Int) == 0) = true := by kernel_rfl
  have q2 : (bits BinOp.and IntKind.u8 (0 : Int) (2 : Int) == 0) = true := by kernel_rfl
  have q4 : (bits BinOp.and IntKind.u8 (0 : Int) (4 : Int) == 0) = true := by kernel_rfl
  have q8 : (bits BinOp.and IntKind.u8 (0 : Int) (8 : Int) == 0) = true := by kernel_rfl
  have q16 : (bits BinOp.and IntKind.u8 (0 : Int) (16 : Int) == 0) = true := by kernel_rfl
  have q32 : (bits BinOp.and IntKind.u8 (0 : Int) (32 : Int) == 0) = true := by kernel_rfl
  have q64 : (bits BinOp.and IntKind.u8 (0 : Int) (64 : Int) == 0) = true := by kernel_rfl
  go_enter Tryd.func19, Tryd.ntmps19
  go_upto_region 3 with (fail)
  obtain ⟨W0, hW0⟩ : ∃ W : World, W = (w.alloc (.cells X0 30)).alloc (.cells #[.int .u8 0, .int .u32 0, .int .u32 0, .int .u32 0, .int .u32 0, .int .u32 0, .int .u32 0, .int .u32 0, .int .u32 0, .int .u32 0, .int .u64 0, .int .u32 0, .int .u8 0, .int .u32 0, .int .u8 0, .int .u8 0, .int .u32 0, .int .u32 0, .int .u8 0, .int .u8 0, .int .u64 0, .int .u8 0, .int .u32 0, .int .u8 0, .int .u32 0, .int .u32 0, .int .u32 0, .int .u32 0, .slice none 0 0] 30) := ⟨_, rfl⟩
  have S0 : Hid (BrW w X0 W0) := Lib.hid (by rw [hW0]; exact S.out)
  rw [← hW0]
  clear hW0 c14 g0 S
  have S := Lib.hid S0.out
  clear S0
  have HT := Lib.hid (S.out.k.there (o := 15) (n := 2) (by have := HSZ.out; (try simp only [putAt_size]); omega))
  have S := Lib.hid (S.out.sets 15 (#[.int .u8 0, .int .u32 0] : Array Value).toList)
  go_upto_region 4 with (refine wpList_store_mid rfl 24 _ _ rfl w.heap.size 15 #[.int .u8 0, .int .u32 0] rfl rfl HT.out zdot_size zdot_one ?_)
  clear HT
  obtain ⟨W1, hW1⟩ : ∃ W : World, W = W0.setCells w.heap.size 15 (#[.int .u8 0, .int .u32 0] : Array Value).toList := ⟨_, rfl⟩
  have S1 : Hid (BrW w (putAt X0 15 (#[.int .u8 0, .int .u32 0] : Array Value).toList) W1) := Lib.hid (by rw [hW1]; exact S.out)
  rw [← hW1]
  clear hW1 S
  have S := Lib.hid S1.out
  clear S1
  go_upto_region 5 with (fail)
  obtain ⟨v17, c17⟩ : ∃ v, W1.cell? ⟨w.heap.size, 17, none⟩ = some v := ⟨_, (S.out.k.cell 17).trans (Array.getElem?_eq_getElem (by have := HSZ.out; (try simp only [putAt_size]); omega))⟩
  have z17 := S.out.k.frozen 17
  obtain ⟨v18, c18⟩ : ∃ v, W1.cell? ⟨w.heap.size, 18, none⟩ = some v := ⟨_, (S.out.k.cell 18).trans (Array.getElem?_eq_getElem (by have := HSZ.out; (try simp only [putAt_size]); omega))⟩
  have z18 := S.out.k.frozen 18
  obtain ⟨v19, c19⟩ : ∃ v, W1.cell? ⟨w.heap.size, 19, none⟩ = some v := ⟨_, (S.out.k.cell 19).trans (Array.getElem?_eq_getElem (by have := HSZ.out; (try simp only [putAt_size]); omega))⟩
  have z19 := S.out.k.frozen 19
  obtain ⟨v20, c20⟩ : ∃ v, W1.cell? ⟨w.heap.size, 20, none⟩ = some v := ⟨_, (S.out.k.cell 20).trans (Array.getElem?_eq_getElem (by have := HSZ.out; (try simp only [putAt_size]); omega))⟩
  have z20 := S.out.k.frozen 20
  go_upto_region 6 with (fail)
  have S := Lib.hid (S.out.set 17 (.int .u32 0))
  have S := Lib.hid (S.out.set 18 (.int .u8 0))
  have S := Lib.hid (S.out.set 19 (.int .u8 0))
  have S := Lib.hid (S.out.set 20 (.int .u64 0))
  clear c17 z17
  clear c18 z18
  clear c19 z19
  clear c20 z20
  obtain ⟨W2, hW2⟩ : ∃ W : World, W = ((((W1.setCell ⟨w.heap.size, 17, none⟩ (.int .u32 0)).setCell ⟨w.heap.size, 18, none⟩ (.int .u8 0)).setCell ⟨w.heap.size, 19, none⟩ (.int .u8 0)).setCell ⟨w.heap.size, 20, none⟩ (.int .u64 0)) := ⟨_, rfl⟩
  have S2 : Hid (BrW w (putAt (putAt (putAt (putAt (putAt X0 15 (#[.int .u8 0, .int .u32 0] : Array Value).toList) 17 [.int .u32 0]) 18 [.int .u8 0]) 19 [.int .u8 0]) 20 [.int .u64 0]) W2) := Lib.hid (by rw [hW2]; exact S.out)
  rw [← hW2]
  clear hW2 S
  have S := Lib.hid S2.out
  clear S2
  go_upto_region 7 with (fail)
  have HT := Lib.hid (S.out.k.there (o := 21) (n := 2) (by have := HSZ.out; (try simp only [putAt_size]); omega))
  have S := Lib.hid (S.out.sets 21 (#[.int .u8 0, .int .u32 0] : Array Value).toList)
  go_upto_region 8 with (refine wpList_store_mid rfl 24 _ _ rfl w.heap.size 21 #[.int .u8 0, .int .u32 0] rfl rfl HT.out zdot_size zdot_one ?_)
  clear HT
  obtain ⟨W3, hW3⟩ : ∃ W : World, W = W2.setCells w.heap.size 21 (#[.int .u8 0, .int .u32 0] : Array Value).toList := ⟨_, rfl⟩
  have S3 : Hid (BrW w (putAt (putAt (putAt (putAt (putAt (putAt X0 15 (#[.int .u8 0, .int .u32 0] : Array Value).toList) 17 [.int .u32 0]) 18 [.int .u8 0]) 19 [.int .u8 0]) 20 [.int .u64 0]) 21 (#[.int .u8 0, .int .u32 0] : Array Value).toList) W3) := Lib.hid (by rw [hW3]; exact S.out)
  rw [← hW3]
  clear hW3 S
  have S := Lib.hid S3.out
  clear S3
  go_upto_region 9 with (fail)
  have HT := Lib.hid (S.out.k.there (o := 23) (n := 2) (by have := HSZ.out; (try simp only [putAt_size]); omega))
  have S := Lib.hid (S.out.sets 23 (#[.int .u8 0, .int .u32 0] : Array Value).toList)
  go_upto_region 10 with (refine wpList_store_mid rfl 24 _ _ rfl w.heap.size 23 #[.int .u8 0, .int .u32 0] rfl rfl HT.out zdot_size zdot_one ?_)
  clear HT
  obtain ⟨W4, hW4⟩ : ∃ W : World, W = W3.setCells w.heap.size 23 (#[.int .u8 0, .int .u32 0] : Array Value).toList := ⟨_, rfl⟩
  have S4 : Hid (BrW w (putAt (putAt (putAt (putAt (putAt (putAt (putAt X0 15 (#[.int .u8 0, .int .u32 0] : Array Value).toList) 17 [.int .u32 0]) 18 [.int .u8 0]) 19 [.int .u8 0]) 20 [.int .u64 0]) 21 (#[.int .u8 0, .int .u32 0] : Array Value).toList) 23 (#[.int .u8 0, .int .u32 0] : Array Value).toList) W4) := Lib.hid (by rw [hW4]; exact S.out)
  rw [← hW4]
  clear hW4 S
  have S := Lib.hid S4.out
  clear S4
  go_upto_region 11 with (fail)
  obtain ⟨v25, c25⟩ : ∃ v, W4.cell? ⟨w.heap.size, 25, none⟩ = some v := ⟨_, (S.out.k.cell 25).trans (Array.getElem?_eq_getElem (by have := HSZ.out; (try simp only [putAt_size]); omega))⟩
  have z25 := S.out.k.frozen 25
  obtain ⟨v27, c27⟩ : ∃ v, W4.cell? ⟨w.heap.size, 27, none⟩ = some v := ⟨_, (S.out.k.cell 27).trans (Array.getElem?_eq_getElem (by have := HSZ.out; (try simp only [putAt_size]); omega))⟩
  have z27 := S.out.k.frozen 27
  go_upto_region 12 with (fail)
  have S := Lib.hid (S.out.set 25 (.int .u32 0))
  have S := Lib.hid (S.out.set 27 (.int .u32 0))
  clear c25 z25
  clear c27 z27
  obtain ⟨W5, hW5⟩ : ∃ W : World, W = ((W4.setCell ⟨w.heap.size, 25, none⟩ (.int .u32 0)).setCell ⟨w.heap.size, 27, none⟩ (.int .u32 0)) := ⟨_, rfl⟩
  have S5 : Hid (BrW w (putAt (putAt (putAt (putAt (putAt (putAt (putAt (putAt (putAt X0 15 (#[.int .u8 0, .int .u32 0] : Array Value).toList) 17 [.int .u32 0]) 18 [.int .u8 0]) 19 [.int .u8 0]) 20 [.int .u64 0]) 21 (#[.int .u8 0, .int .u32 0] : Array Value).toList) 23 (#[.int .u8 0, .int .u32 0] : Array Value).toList) 25 [.int .u32 0]) 27 [.int .u32 0]) W5) := Lib.hid (by rw [hW5]; exact S.out)
  rw [← hW5]
  clear hW5 S
  have S := Lib.hid S5.out
  clear S5
  go_upto_region 13 with (fail)
  obtain ⟨v26, c26⟩ : ∃ v, W5.cell? ⟨w.heap.size, 26, none⟩ = some v := ⟨_, (S.out.k.cell 26).trans (Array.getElem?_eq_getElem (by have := HSZ.out; (try simp only [putAt_size]); omega))⟩
  have z26 := S.out.k.frozen 26
  go_upto_region 14 with (fail)
  have S := Lib.hid (S.out.set 26 (.int .u32 0))
  clear c26 z26
  obtain ⟨W6, hW6⟩ : ∃ W : World, W = (W5.setCell ⟨w.heap.size, 26, none⟩ (.int .u32 0)) := ⟨_, rfl⟩
  have S6 : Hid (BrW w (putAt (putAt (putAt (putAt (putAt (putAt (putAt (putAt (putAt (putAt X0 15 (#[.int .u8 0, .int .u32 0] : Array Value).toList) 17 [.int .u32 0]) 18 [.int .u8 0]) 19 [.int .u8 0]) 20 [.int .u64 0]) 21 (#[.int .u8 0, .int .u32 0] : Array Value).toList) 23 (#[.int .u8 0, .int .u32 0] : Array Value).toList) 25 [.int .u32 0]) 27 [.int .u32 0]) 26 [.int .u32 0]) W6) := Lib.hid (by rw [hW6]; exact S.out)
  rw [← hW6]
  clear hW6 S
  have S := Lib.hid S6.out
  clear S6
  go_upto_region 15 with (fail)
  obtain ⟨v28, c28⟩ : ∃ v, W6.cell? ⟨w.heap.size, 28, none⟩ = some v := ⟨_, (S.out.k.cell 28).trans (Array.getElem?_eq_getElem (by have := HSZ.out; (try simp only [putAt_size]); omega))⟩
  have z28 := S.out.k.frozen 28
  go_upto_region 16 with (fail)
  have S := Lib.hid (S.out.set 28 (.slice none 0 0))
  clear c28 z28
  obtain ⟨W7, hW7⟩ : ∃ W : World, W = (W6.setCell ⟨w.heap.size, 28, none⟩ (.slice none 0 0)) := ⟨_, rfl⟩
  have S7 : Hid (BrW w (putAt (putAt (putAt (putAt (putAt (putAt (putAt (putAt (putAt (putAt (putAt X0 15 (#[.int .u8 0, .int .u32 0] : Array Value).toList) 17 [.int .u32 0]) 18 [.int .u8 0]) 19 [.int .u8 0]) 20 [.int .u64 0]) 21 (#[.int .u8 0, .int .u32 0] : Array Value).toList) 23 (#[.int .u8 0, .int .u32 0] : Array Value).toList) 25 [.int .u32 0]) 27 [.int .u32 0]) 26 [.int .u32 0]) 28 [.slice none 0 0]) W7) := Lib.hid (by rw [hW7]; exact S.out)
  rw [← hW7]
  clear hW7 S
  have S := Lib.hid S7.out
  clear S7
  have HS2 := Lib.hid (show (putAt (putAt (putAt (putAt (putAt (putAt (putAt (putAt (putAt (putAt (putAt X0 15 (#[.int .u8 0, .int .u32 0] : Array Value).toList) 17 [.int .u32 0]) 18 [.int .u8 0]) 19 [.int .u8 0]) 20 [.int .u64 0]) 21 (#[.int .u8 0, .int .u32 0] : Array Value).toList) 23 (#[.int .u8 0, .int .u32 0] : Array Value).toList) 25 [.int .u32 0]) 27 [.int .u32 0]) 26 [.int .u32 0]) 28 [.slice none 0 0]).size = 29 by simp only [putAt_size]; exact HSZ.out)
  rw [HE.out] at S HS2
  have HO2 := Lib.hid (opA_one_ (bareN x) none 0 0)
  generalize hY : opA (bareN x) (.slice none 0 0) = Y at *
  have HY := Lib.hid hY
  clear hY
  go_wp2_with (first
    | (refine wpList_load_row rfl 30 _ rfl w.heap.size rfl 30 Y (0, 0) _ S.out.k Tryd.underlying30 rfl (by rw [HS2.out]; exact size122) ?_)
    | (refine wpList_store_row rfl 30 _ _ rfl (w.heap.size + 1) Y rfl rfl 30 _ S.out.kr (by rw [HS2.out]; exact size122) (by rw [HS2.out]; rfl) HO2.out ?_))
  refine bodyPost_ret (results_cell_row rfl _ _ (w.heap.size + 1) 30 Y (0, 0) _ rfl (S.out.kr.row _) Tryd.underlying30 rfl (by rw [HS2.out]; exact size122)) rfl ?_
  exact ⟨by rw [HY.out], below_setRow S.out.b (by omega) _⟩
set_option maxRecDepth 100000 in
set_option maxHeartbeats 16000000 in
theorem bare_1 (w : World) (x : NOp) (A : Option Addr) (ln cap : Nat) (hx : x.ok) (hg : Glob w) (hk : x.kind = 1) : Calls Tryd.prog 19 #[.agg (opA x (.slice A ln cap))] w fun e w' => e = .returned (.agg (opA (bareN x) (.slice none 0 0))) ∧ Below w.heap.size w w' := by
  obtain ⟨k0, k1, hb⟩ := two_new w (opA x (.slice A ln cap)) (opA zeroO (.slice none 0 0)) 30 30
  have S : Hid (BrW w (opA x (.slice A ln cap)) _) := Lib.hid ⟨k0, k1, hb⟩
  have c14 := (k0.cell 14).trans (op_c14 x _ hx.dep8)
  rw [hk] at c14
  have g0 := (Glob.later hg hb) 1 (by omega)
  rw [show ((kindsF 1 : Nat) : Int) = 3 from rfl] at g0
  have HSZ := Lib.hid (opA_size x (.slice A ln cap) hx.dep8)
  have HO1 := Lib.hid (opA_one_ x A ln cap)
  have HE : Hid ((putAt (putAt (putAt (putAt (putAt (putAt (opA x (.slice A ln cap)) 21 (#[.int .u8 0, .int .u32 0] : Array Value).toList) 23 (#[.int .u8 0, .int .u32 0] : Array Value).toList) 25 [.int .u32 0]) 27 [.int .u32 0]) 26 [.int .u32 0]) 28 [.slice none 0 0]) = opA (bareN x) (.slice none 0 0)) := Lib.hid (by
    have h8 := hx.dep8
    clear S c14 g0 HSZ HO1 k0 k1 hb hg
    have e0 : (opA x (.slice A ln cap)) = opA x (.slice A ln cap) := rfl
    have e1 : (putAt (opA x (.slice A ln cap)) 21 (#[.int .u8 0, .int .u32 0] : Array Value).toList) = opA ({ x with ar := 0, an := 0 } : NOp) (.slice A ln cap) := (congrArg (fun Y => putAt Y 21 (#[.int .u8 0, .int .u32 0] : Array Value).toList) e0).trans (op_put21 x (.slice A ln cap) h8 0 0)
    have e2 : (putAt (putAt (opA x (.slice A ln cap)) 21 (#[.int .u8 0, .int .u32 0] : Array Value).toList) 23 (#[.int .u8 0, .int .u32 0] : Array Value).toList) = opA ({ ({ x with ar := 0, an := 0 } : NOp) with vr := 0, vn := 0 } : NOp) (.slice A ln cap) := (congrArg (fun Y => putAt Y 23 (#[.int .u8 0, .int .u32 0] : Array Value).toList) e1).trans (op_put23 ({ x with ar := 0, an := 0 } : NOp) (.slice A ln cap) h8 0 0)
    have e3 : (putAt (putAt (putAt (opA x (.slice A ln cap)) 21 (#[.int .u8 0, .int .u32 0] : Array Value).toList) 23 (#[.int .u8 0, .int .u32 0] : Array Value).toList) 25 [.int .u32 0]) = opA ({ ({ ({ x with ar := 0, an := 0 } : NOp) with vr := 0, vn := 0 } : NOp) with item := 0 } : NOp) (.slice A ln cap) := (congrArg (fun Y => putAt Y 25 [.int .u32 0]) e2).trans (op_put25 ({ ({ x with ar := 0, an := 0 } : NOp) with vr := 0, vn := 0 } : NOp) (.slice A ln cap) h8 0)
    have e4 : (putAt (putAt (putAt (putAt (opA x (.slice A ln cap)) 21 (#[.int .u8 0, .int .u32 0] : Array Value).toList) 23 (#[.int .u8 0, .int .u32 0] : Array Value).toList) 25 [.int .u32 0]) 27 [.int .u32 0]) = opA ({ ({ ({ ({ x with ar := 0, an := 0 } : NOp) with vr := 0, vn := 0 } : NOp) with item := 0 } : NOp) with price := 0 } : NOp) (.slice A ln cap) := (congrArg (fun Y => putAt Y 27 [.int .u32 0]) e3).trans (op_put27 ({ ({ ({ x with ar := 0, an := 0 } : NOp) with vr := 0, vn := 0 } : NOp) with item := 0 } : NOp) (.slice A ln cap) h8 0)
    have e5 : (putAt (putAt (putAt (putAt (putAt (opA x (.slice A ln cap)) 21 (#[.int .u8 0, .int .u32 0] : Array Value).toList) 23 (#[.int .u8 0, .int .u32 0] : Array Value).toList) 25 [.int .u32 0]) 27 [.int .u32 0]) 26 [.int .u32 0]) = opA ({ ({ ({ ({ ({ x with ar := 0, an := 0 } : NOp) with vr := 0, vn := 0 } : NOp) with item := 0 } : NOp) with price := 0 } : NOp) with qty := 0 } : NOp) (.slice A ln cap) := (congrArg (fun Y => putAt Y 26 [.int .u32 0]) e4).trans (op_put26 ({ ({ ({ ({ x with ar := 0, an := 0 } : NOp) with vr := 0, vn := 0 } : NOp) with item := 0 } : NOp) with price := 0 } : NOp) (.slice A ln cap) h8 0)
    have e6 : (putAt (putAt (putAt (putAt (putAt (putAt (opA x (.slice A ln cap)) 21 (#[.int .u8 0, .int .u32 0] : Array Value).toList) 23 (#[.int .u8 0, .int .u32 0] : Array Value).toList) 25 [.int .u32 0]) 27 [.int .u32 0]) 26 [.int .u32 0]) 28 [.slice none 0 0]) = opA ({ ({ ({ ({ ({ x with ar := 0, an := 0 } : NOp) with vr := 0, vn := 0 } : NOp) with item := 0 } : NOp) with price := 0 } : NOp) with qty := 0 } : NOp) (.slice none 0 0) := (congrArg (fun Y => putAt Y 28 [.slice none 0 0]) e5).trans (op_put28 ({ ({ ({ ({ ({ x with ar := 0, an := 0 } : NOp) with vr := 0, vn := 0 } : NOp) with item := 0 } : NOp) with price := 0 } : NOp) with qty := 0 } : NOp) (.slice A ln cap) (.slice none 0 0) h8)
    refine e6.trans ?_
    refine (opA_lines ({ ({ ({ ({ ({ x with ar := 0, an := 0 } : NOp) with vr := 0, vn := 0 } : NOp) with item := 0 } : NOp) with price := 0 } : NOp) with qty := 0 } : NOp) _ []).symm.trans ?_
    refine congrArg (fun z => opA z _) ?_
    clear e0 e1 e2 e3 e4 e5 e6 h8
    cases x
    simp only at hk
    subst hk
    rfl)
  generalize hX : opA x (.slice A ln cap) = X0 at *
  clear hX k0 k1 hb hx hg hk
  rw [zO_eq] at S c14 g0
  have q1 : (bits BinOp.and IntKind.u8 (3 : Int) (1 : Int) == 0) = false := by kernel_rfl
  have q2 : (bits BinOp.and IntKind.u8 (3 : Int) (2 : Int) == 0) = false := by kernel_rfl
  have q4 : (bits BinOp.and IntKind.u8 (3 : Int) (4 : Int) == 0) = true := by kernel_rfl
  have q8 : (bits BinOp.and IntKind.u8 (3 : Int) (8 : Int) == 0) = true := by kernel_rfl
  have q16 : (bits BinOp.and IntKind.u8 (3 : Int) (16 : Int) == 0) = true := by kernel_rfl
  have q32 : (bits BinOp.and IntKind.u8 (3 : Int) (32 : Int) == 0) = true := by kernel_rfl
  have q64 : (bits BinOp.and IntKind.u8 (3 : Int) (64 : Int) == 0) = true := by kernel_rfl
  go_enter Tryd.func19, Tryd.ntmps19
  go_upto_region 7 with (fail)
  obtain ⟨W0, hW0⟩ : ∃ W : World, W = (w.alloc (.cells X0 30)).alloc (.cells #[.int .u8 0, .int .u32 0, .int .u32 0, .int .u32 0, .int .u32 0, .int .u32 0, .int .u32 0, .int .u32 0, .int .u32 0, .int .u32 0, .int .u64 0, .int .u32 0, .int .u8 0, .int .u32 0, .int .u8 0, .int .u8 0, .int .u32 0, .int .u32 0, .int .u8 0, .int .u8 0, .int .u64 0, .int .u8 0, .int .u32 0, .int .u8 0, .int .u32 0, .int .u32 0, .int .u32 0, .int .u32 0, .slice none 0 0] 30) := ⟨_, rfl⟩
  have S0 : Hid (BrW w X0 W0) := Lib.hid (by rw [hW0]; exact S.out)
  rw [← hW0]
  clear hW0 c14 g0 S
  have S := Lib.hid S0.out
  clear S0
  have HT := Lib.hid (S.out.k.there (o := 21) (n := 2) (by have := HSZ.out; (try simp only [putAt_size]); omega))
  have S := Lib.hid (S.out.sets 21 (#[.int .u8 0, .int .u32 0] : Array Value).toList)
  go_upto_region 8 with (refine wpList_store_mid rfl 24 _ _ rfl w.heap.size 21 #[.int .u8 0, .int .u32 0] rfl rfl HT.out zdot_size zdot_one ?_)
  clear HT
  obtain ⟨W1, hW1⟩ : ∃ W : World, W = W0.setCells w.heap.size 21 (#[.int .u8 0, .int .u32 0] : Array Value).toList := ⟨_, rfl⟩
  have S1 : Hid (BrW w (putAt X0 21 (#[.int .u8 0, .int .u32 0] : Array Value).toList) W1) := Lib.hid (by rw [hW1]; exact S.out)
  rw [← hW1]
  clear hW1 S
  have S := Lib.hid S1.out
  clear S1
  go_upto_region 9 with (fail)
  have HT := Lib.hid (S.out.k.there (o := 23) (n := 2) (by have := HSZ.out; (try simp only [putAt_size]); omega))
  have S := Lib.hid (S.out.sets 23 (#[.int .u8 0, .int .u32 0] : Array Value).toList)
  go_upto_region 10 with (refine wpList_store_mid rfl 24 _ _ rfl w.heap.size 23 #[.int .u8 0, .int .u32 0] rfl rfl HT.out zdot_size zdot_one ?_)
  clear HT
  obtain ⟨W2, hW2⟩ : ∃ W : World, W = W1.setCells w.heap.size 23 (#[.int .u8 0, .int .u32 0] : Array Value).toList := ⟨_, rfl⟩
  have S2 : Hid (BrW w (putAt (putAt X0 21 (#[.int .u8 0, .int .u32 0] : Array Value).toList) 23 (#[.int .u8 0, .int .u32 0] : Array Value).toList) W2) := Lib.hid (by rw [hW2]; exact S.out)
  rw [← hW2]
  clear hW2 S
  have S := Lib.hid S2.out
  clear S2
  go_upto_region 11 with (fail)
  obtain ⟨v25, c25⟩ : ∃ v, W2.cell? ⟨w.heap.size, 25, none⟩ = some v := ⟨_, (S.out.k.cell 25).trans (Array.getElem?_eq_getElem (by have := HSZ.out; (try simp only [putAt_size]); omega))⟩
  have z25 := S.out.k.frozen 25
  obtain ⟨v27, c27⟩ : ∃ v, W2.cell? ⟨w.heap.size, 27, none⟩ = some v := ⟨_, (S.out.k.cell 27).trans (Array.getElem?_eq_getElem (by have := HSZ.out; (try simp only [putAt_size]); omega))⟩
  have z27 := S.out.k.frozen 27
  go_upto_region 12 with (fail)
  have S := Lib.hid (S.out.set 25 (.int .u32 0))
  have S := Lib.hid (S.out.set 27 (.int .u32 0))
  clear c25 z25
  clear c27 z27
  obtain ⟨W3, hW3⟩ : ∃ W : World, W = ((W2.setCell ⟨w.heap.size, 25, none⟩ (.int .u32 0)).setCell ⟨w.heap.size, 27, none⟩ (.int .u32 0)) := ⟨_, rfl⟩
  have S3 : Hid (BrW w (putAt (putAt (putAt (putAt X0 21 (#[.int .u8 0, .int .u32 0] : Array Value).toList) 23 (#[.int .u8 0, .int .u32 0] : Array Value).toList) 25 [.int .u32 0]) 27 [.int .u32 0]) W3) := Lib.hid (by rw [hW3]; exact S.out)
  rw [← hW3]
  clear hW3 S
  have S := Lib.hid S3.out
  clear S3
  go_upto_region 13 with (fail)
  obtain ⟨v26, c26⟩ : ∃ v, W3.cell? ⟨w.heap.size, 26, none⟩ = some v := ⟨_, (S.out.k.cell 26).trans (Array.getElem?_eq_getElem (by have := HSZ.out; (try simp only [putAt_size]); omega))⟩
  have z26 := S.out.k.frozen 26
  go_upto_region 14 with (fail)
  have S := Lib.hid (S.out.set 26 (.int .u32 0))
  clear c26 z26
  obtain ⟨W4, hW4⟩ : ∃ W : World, W = (W3.setCell ⟨w.heap.size, 26, none⟩ (.int .u32 0)) := ⟨_, rfl⟩
  have S4 : Hid (BrW w (putAt (putAt (putAt (putAt (putAt X0 21 (#[.int .u8 0, .int .u32 0] : Array Value).toList) 23 (#[.int .u8 0, .int .u32 0] : Array Value).toList) 25 [.int .u32 0]) 27 [.int .u32 0]) 26 [.int .u32 0]) W4) := Lib.hid (by rw [hW4]; exact S.out)
  rw [← hW4]
  clear hW4 S
  have S := Lib.hid S4.out
  clear S4
  go_upto_region 15 with (fail)
  obtain ⟨v28, c28⟩ : ∃ v, W4.cell? ⟨w.heap.size, 28, none⟩ = some v := ⟨_, (S.out.k.cell 28).trans (Array.getElem?_eq_getElem (by have := HSZ.out; (try simp only [putAt_size]); omega))⟩
  have z28 := S.out.k.frozen 28
  go_upto_region 16 with (fail)
  have S := Lib.hid (S.out.set 28 (.slice none 0 0))
  clear c28 z28
  obtain ⟨W5, hW5⟩ : ∃ W : World, W = (W4.setCell ⟨w.heap.size, 28, none⟩ (.slice none 0 0)) := ⟨_, rfl⟩
  have S5 : Hid (BrW w (putAt (putAt (putAt (putAt (putAt (putAt X0 21 (#[.int .u8 0, .int .u32 0] : Array Value).toList) 23 (#[.int .u8 0, .int .u32 0] : Array Value).toList) 25 [.int .u32 0]) 27 [.int .u32 0]) 26 [.int .u32 0]) 28 [.slice none 0 0]) W5) := Lib.hid (by rw [hW5]; exact S.out)
  rw [← hW5]
  clear hW5 S
  have S := Lib.hid S5.out
  clear S5
  have HS2 := Lib.hid (show (putAt (putAt (putAt (putAt (putAt (putAt X0 21 (#[.int .u8 0, .int .u32 0] : Array Value).toList) 23 (#[.int .u8 0, .int .u32 0] : Array Value).toList) 25 [.int .u32 0]) 27 [.int .u32 0]) 26 [.int .u32 0]) 28 [.slice none 0 0]).size = 29 by simp only [putAt_size]; exact HSZ.out)
  rw [HE.out] at S HS2
  have HO2 := Lib.hid (opA_one_ (bareN x) none 0 0)
  generalize hY : opA (bareN x) (.slice none 0 0) = Y at *
  have HY := Lib.hid hY
  clear hY
  go_wp2_with (first
    | (refine wpList_load_row rfl 30 _ rfl w.heap.size rfl 30 Y (0, 0) _ S.out.k Tryd.underlying30 rfl (by rw [HS2.out]; exact size122) ?_)
    | (refine wpList_store_row rfl 30 _ _ rfl (w.heap.size + 1) Y rfl rfl 30 _ S.out.kr (by rw [HS2.out]; exact size122) (by rw [HS2.out]; rfl) HO2.out ?_))
  refine bodyPost_ret (results_cell_row rfl _ _ (w.heap.size + 1) 30 Y (0, 0) _ rfl (S.out.kr.row _) Tryd.underlying30 rfl (by rw [HS2.out]; exact size122)) rfl ?_
  exact ⟨by rw [HY.out], below_setRow S.out.b (by omega) _⟩
set_option maxRecDepth 100000 in
set_option maxHeartbeats 16000000 in
theorem bare_2 (w : World) (x : NOp) (A : Option Addr) (ln cap : Nat) (hx : x.ok) (hg : Glob w) (hk : x.kind = 2) : Calls Tryd.prog 19 #[.agg (opA x (.slice A ln cap))] w fun e w' => e = .returned (.agg (opA (bareN x) (.slice none 0 0))) ∧ Below w.heap.size w w' := by
  obtain ⟨k0, k1, hb⟩ := two_new w (opA x (.slice A ln cap)) (opA zeroO (.slice none 0 0)) 30 30
  have S : Hid (BrW w (opA x (.slice A ln cap)) _) := Lib.hid ⟨k0, k1, hb⟩
  have c14 := (k0.cell 14).trans (op_c14 x _ hx.dep8)
  rw [hk] at c14
  have g0 := (Glob.later hg hb) 2 (by omega)
  rw [show ((kindsF 2 : Nat) : Int) = 5 from rfl] at g0
  have HSZ := Lib.hid (opA_size x (.slice A ln cap) hx.dep8)
  have HO1 := Lib.hid (opA_one_ x A ln cap)
  have HE : Hid ((putAt (putAt (putAt (putAt (putAt (putAt (putAt (putAt (putAt (opA x (.slice A ln cap)) 17 [.int .u32 0]) 18 [.int .u8 0]) 19 [.int .u8 0]) 20 [.int .u64 0]) 23 (#[.int .u8 0, .int .u32 0] : Array Value).toList) 25 [.int .u32 0]) 27 [.int .u32 0]) 26 [.int .u32 0]) 28 [.slice none 0 0]) = opA (bareN x) (.slice none 0 0)) := Lib.hid (by
    have h8 := hx.dep8
    clear S c14 g0 HSZ HO1 k0 k1 hb hg
    have e0 : (opA x (.slice A ln cap)) = opA x (.slice A ln cap) := rfl
    have e1 : (putAt (opA x (.slice A ln cap)) 17 [.int .u32 0]) = opA ({ x with dest := 0 } : NOp) (.slice A ln cap) := (congrArg (fun Y => putAt Y 17 [.int .u32 0]) e0).trans (op_put17 x (.slice A ln cap) h8 0)
    have e2 : (putAt (putAt (opA x (.slice A ln cap)) 17 [.int .u32 0]) 18 [.int .u8 0]) = opA ({ ({ x with dest := 0 } : NOp) with roles := 0 } : NOp) (.slice A ln cap) := (congrArg (fun Y => putAt Y 18 [.int .u8 0]) e1).trans (op_put18 ({ x with dest := 0 } : NOp) (.slice A ln cap) h8 0)
    have e3 : (putAt (putAt (putAt (opA x (.slice A ln cap)) 17 [.int .u32 0]) 18 [.int .u8 0]) 19 [.int .u8 0]) = opA ({ ({ ({ x with dest := 0 } : NOp) with roles := 0 } : NOp) with depth := 0 } : NOp) (.slice A ln cap) := (congrArg (fun Y => putAt Y 19 [.int .u8 0]) e2).trans (op_put19 ({ ({ x with dest := 0 } : NOp) with roles := 0 } : NOp) (.slice A ln cap) h8 0)
    have e4 : (putAt (putAt (putAt (putAt (opA x (.slice A ln cap)) 17 [.int .u32 0]) 18 [.int .u8 0]) 19 [.int .u8 0]) 20 [.int .u64 0]) = opA ({ ({ ({ ({ x with dest := 0 } : NOp) with roles := 0 } : NOp) with depth := 0 } : NOp) with cap := 0 } : NOp) (.slice A ln cap) := (congrArg (fun Y => putAt Y 20 [.int .u64 0]) e3).trans (op_put20 ({ ({ ({ x with dest := 0 } : NOp) with roles := 0 } : NOp) with depth := 0 } : NOp) (.slice A ln cap) h8 0)
    have e5 : (putAt (putAt (putAt (putAt (putAt (opA x (.slice A ln cap)) 17 [.int .u32 0]) 18 [.int .u8 0]) 19 [.int .u8 0]) 20 [.int .u64 0]) 23 (#[.int .u8 0, .int .u32 0] : Array Value).toList) = opA ({ ({ ({ ({ ({ x with dest := 0 } : NOp) with roles := 0 } : NOp) with depth := 0 } : NOp) with cap := 0 } : NOp) with vr := 0, vn := 0 } : NOp) (.slice A ln cap) := (congrArg (fun Y => putAt Y 23 (#[.int .u8 0, .int .u32 0] : Array Value).toList) e4).trans (op_put23 ({ ({ ({ ({ x with dest := 0 } : NOp) with roles := 0 } : NOp) with depth := 0 } : NOp) with cap := 0 } : NOp) (.slice A ln cap) h8 0 0)
    have e6 : (putAt (putAt (putAt (putAt (putAt (putAt (opA x (.slice A ln cap)) 17 [.int .u32 0]) 18 [.int .u8 0]) 19 [.int .u8 0]) 20 [.int .u64 0]) 23 (#[.int .u8 0, .int .u32 0] : Array Value).toList) 25 [.int .u32 0]) = opA ({ ({ ({ ({ ({ ({ x with dest := 0 } : NOp) with roles := 0 } : NOp) with depth := 0 } : NOp) with cap := 0 } : NOp) with vr := 0, vn := 0 } : NOp) with item := 0 } : NOp) (.slice A ln cap) := (congrArg (fun Y => putAt Y 25 [.int .u32 0]) e5).trans (op_put25 ({ ({ ({ ({ ({ x with dest := 0 } : NOp) with roles := 0 } : NOp) with depth := 0 } : NOp) with cap := 0 } : NOp) with vr := 0, vn := 0 } : NOp) (.slice A ln cap) h8 0)
    have e7 : (putAt (putAt (putAt (putAt (putAt (putAt (putAt (opA x (.slice A ln cap)) 17 [.int .u32 0]) 18 [.int .u8 0]) 19 [.int .u8 0]) 20 [.int .u64 0]) 23 (#[.int .u8 0, .int .u32 0] : Array Value).toList) 25 [.int .u32 0]) 27 [.int .u32 0]) = opA ({ ({ ({ ({ ({ ({ ({ x with dest := 0 } : NOp) with roles := 0 } : NOp) with depth := 0 } : NOp) with cap := 0 } : NOp) with vr := 0, vn := 0 } : NOp) with item := 0 } : NOp) with price := 0 } : NOp) (.slice A ln cap) := (congrArg (fun Y => putAt Y 27 [.int .u32 0]) e6).trans (op_put27 ({ ({ ({ ({ ({ ({ x with dest := 0 } : NOp) with roles := 0 } : NOp) with depth := 0 } : NOp) with cap := 0 } : NOp) with vr := 0, vn := 0 } : NOp) with item := 0 } : NOp) (.slice A ln cap) h8 0)
    have e8 : (putAt (putAt (putAt (putAt (putAt (putAt (putAt (putAt (opA x (.slice A ln cap)) 17 [.int .u32 0]) 18 [.int .u8 0]) 19 [.int .u8 0]) 20 [.int .u64 0]) 23 (#[.int .u8 0, .int .u32 0] : Array Value).toList) 25 [.int .u32 0]) 27 [.int .u32 0]) 26 [.int .u32 0]) = opA ({ ({ ({ ({ ({ ({ ({ ({ x with dest := 0 } : NOp) with roles := 0 } : NOp) with depth := 0 } : NOp) with cap := 0 } : NOp) with vr := 0, vn := 0 } : NOp) with item := 0 } : NOp) with price := 0 } : NOp) with qty := 0 } : NOp) (.slice A ln cap) := (congrArg (fun Y => putAt Y 26 [.int .u32 0]) e7).trans (op_put26 ({ ({ ({ ({ ({ ({ ({ x with dest := 0 } : NOp) with roles := 0 } : NOp) with depth := 0 } : NOp) with cap := 0 } : NOp) with vr := 0, vn := 0 } : NOp) with item := 0 } : NOp) with price := 0 } : NOp) (.slice A ln cap) h8 0)
    have e9 : (putAt (putAt (putAt (putAt (putAt (putAt (putAt (putAt (putAt (opA x (.slice A ln cap)) 17 [.int .u32 0]) 18 [.int .u8 0]) 19 [.int .u8 0]) 20 [.int .u64 0]) 23 (#[.int .u8 0, .int .u32 0] : Array Value).toList) 25 [.int .u32 0]) 27 [.int .u32 0]) 26 [.int .u32 0]) 28 [.slice none 0 0]) = opA ({ ({ ({ ({ ({ ({ ({ ({ x with dest := 0 } : NOp) with roles := 0 } : NOp) with depth := 0 } : NOp) with cap := 0 } : NOp) with vr := 0, vn := 0 } : NOp) with item := 0 } : NOp) with price := 0 } : NOp) with qty := 0 } : NOp) (.slice none 0 0) := (congrArg (fun Y => putAt Y 28 [.slice none 0 0]) e8).trans (op_put28 ({ ({ ({ ({ ({ ({ ({ ({ x with dest := 0 } : NOp) with roles := 0 } : NOp) with depth := 0 } : NOp) with cap := 0 } : NOp) with vr := 0, vn := 0 } : NOp) with item := 0 } : NOp) with price := 0 } : NOp) with qty := 0 } : NOp) (.slice A ln cap) (.slice none 0 0) h8)
    refine e9.trans ?_
    refine (opA_lines ({ ({ ({ ({ ({ ({ ({ ({ x with dest := 0 } : NOp) with roles := 0 } : NOp) with depth := 0 } : NOp) with cap := 0 } : NOp) with vr := 0, vn := 0 } : NOp) with item := 0 } : NOp) with price := 0 } : NOp) with qty := 0 } : NOp) _ []).symm.trans ?_
    refine congrArg (fun z => opA z _) ?_
    clear e0 e1 e2 e3 e4 e5 e6 e7 e8 e9 h8
    cases x
    simp only at hk
    subst hk
    rfl)
  generalize hX : opA x (.slice A ln cap) = X0 at *
  clear hX k0 k1 hb hx hg hk
  rw [zO_eq] at S c14 g0
  have q1 : (bits BinOp.and IntKind.u8 (5 : Int) (1 : Int) == 0) = false := by kernel_rfl
  have q2 : (bits BinOp.and IntKind.u8 (5 : Int) (2 : Int) == 0) = true := by kernel_rfl
  have q4 : (bits BinOp.and IntKind.u8 (5 : Int) (4 : Int) == 0) = false := by kernel_rfl
  have q8 : (bits BinOp.and IntKind.u8 (5 : Int) (8 : Int) == 0) = true := by kernel_rfl
  have q16 : (bits BinOp.and IntKind.u8 (5 : Int) (16 : Int) == 0) = true := by kernel_rfl
  have q32 : (bits BinOp.and IntKind.u8 (5 : Int) (32 : Int) == 0) = true := by kernel_rfl
  have q64 : (bits BinOp.and IntKind.u8 (5 : Int) (64 : Int) == 0) = true := by kernel_rfl
  go_enter Tryd.func19, Tryd.ntmps19
  go_upto_region 5 with (fail)
  obtain ⟨W0, hW0⟩ : ∃ W : World, W = (w.alloc (.cells X0 30)).alloc (.cells #[.int .u8 0, .int .u32 0, .int .u32 0, .int .u32 0, .int .u32 0, .int .u32 0, .int .u32 0, .int .u32 0, .int .u32 0, .int .u32 0, .int .u64 0, .int .u32 0, .int .u8 0, .int .u32 0, .int .u8 0, .int .u8 0, .int .u32 0, .int .u32 0, .int .u8 0, .int .u8 0, .int .u64 0, .int .u8 0, .int .u32 0, .int .u8 0, .int .u32 0, .int .u32 0, .int .u32 0, .int .u32 0, .slice none 0 0] 30) := ⟨_, rfl⟩
  have S0 : Hid (BrW w X0 W0) := Lib.hid (by rw [hW0]; exact S.out)
  rw [← hW0]
  clear hW0 c14 g0 S
  have S := Lib.hid S0.out
  clear S0
  obtain ⟨v17, c17⟩ : ∃ v, W0.cell? ⟨w.heap.size, 17, none⟩ = some v := ⟨_, (S.out.k.cell 17).trans (Array.getElem?_eq_getElem (by have := HSZ.out; (try simp only [putAt_size]); omega))⟩
  have z17 := S.out.k.frozen 17
  obtain ⟨v18, c18⟩ : ∃ v, W0.cell? ⟨w.heap.size, 18, none⟩ = some v := ⟨_, (S.out.k.cell 18).trans (Array.getElem?_eq_getElem (by have := HSZ.out; (try simp only [putAt_size]); omega))⟩
  have z18 := S.out.k.frozen 18
  obtain ⟨v19, c19⟩ : ∃ v, W0.cell? ⟨w.heap.size, 19, none⟩ = some v := ⟨_, (S.out.k.cell 19).trans (Array.getElem?_eq_getElem (by have := HSZ.out; (try simp only [putAt_size]); omega))⟩
  have z19 := S.out.k.frozen 19
  obtain ⟨v20, c20⟩ : ∃ v, W0.cell? ⟨w.heap.size, 20, none⟩ = some v := ⟨_, (S.out.k.cell 20).trans (Array.getElem?_eq_getElem (by have := HSZ.out; (try simp only [putAt_size]); omega))⟩
  have z20 := S.out.k.frozen 20
  go_upto_region 6 with (fail)
  have S := Lib.hid (S.out.set 17 (.int .u32 0))
  have S := Lib.hid (S.out.set 18 (.int .u8 0))
  have S := Lib.hid (S.out.set 19 (.int .u8 0))
  have S := Lib.hid (S.out.set 20 (.int .u64 0))
  clear c17 z17
  clear c18 z18
  clear c19 z19
  clear c20 z20
  obtain ⟨W1, hW1⟩ : ∃ W : World, W = ((((W0.setCell ⟨w.heap.size, 17, none⟩ (.int .u32 0)).setCell ⟨w.heap.size, 18, none⟩ (.int .u8 0)).setCell ⟨w.heap.size, 19, none⟩ (.int .u8 0)).setCell ⟨w.heap.size, 20, none⟩ (.int .u64 0)) := ⟨_, rfl⟩
  have S1 : Hid (BrW w (putAt (putAt (putAt (putAt X0 17 [.int .u32 0]) 18 [.int .u8 0]) 19 [.int .u8 0]) 20 [.int .u64 0]) W1) := Lib.hid (by rw [hW1]; exact S.out)
  rw [← hW1]
  clear hW1 S
  have S := Lib.hid S1.out
  clear S1
  go_upto_region 9 with (fail)
  have HT := Lib.hid (S.out.k.there (o := 23) (n := 2) (by have := HSZ.out; (try simp only [putAt_size]); omega))
  have S := Lib.hid (S.out.sets 23 (#[.int .u8 0, .int .u32 0] : Array Value).toList)
  go_upto_region 10 with (refine wpList_store_mid rfl 24 _ _ rfl w.heap.size 23 #[.int .u8 0, .int .u32 0] rfl rfl HT.out zdot_size zdot_one ?_)
  clear HT
  obtain ⟨W2, hW2⟩ : ∃ W : World, W = W1.setCells w.heap.size 23 (#[.int .u8 0, .int .u32 0] : Array Value).toList := ⟨_, rfl⟩
  have S2 : Hid (BrW w (putAt (putAt (putAt (putAt (putAt X0 17 [.int .u32 0]) 18 [.int .u8 0]) 19 [.int .u8 0]) 20 [.int .u64 0]) 23 (#[.int .u8 0, .int .u32 0] : Array Value).toList) W2) := Lib.hid (by rw [hW2]; exact S.out)
  rw [← hW2]
  clear hW2 S
  have S := Lib.hid S2.out
  clear S2
  go_upto_region 11 with (fail)
  obtain ⟨v25, c25⟩ : ∃ v, W2.cell? ⟨w.heap.size, 25, none⟩ = some v := ⟨_, (S.out.k.cell 25).trans (Array.getElem?_eq_getElem (by have := HSZ.out; (try simp only [putAt_size]); omega))⟩
  have z25 := S.out.k.frozen 25
  obtain ⟨v27, c27⟩ : ∃ v, W2.cell? ⟨w.heap.size, 27, none⟩ = some v := ⟨_, (S.out.k.cell 27).trans (Array.getElem?_eq_getElem (by have := HSZ.out; (try simp only [putAt_size]); omega))⟩
  have z27 := S.out.k.frozen 27
  go_upto_region 12 with (fail)
  have S := Lib.hid (S.out.set 25 (.int .u32 0))
  have S := Lib.hid (S.out.set 27 (.int .u32 0))
  clear c25 z25
  clear c27 z27
  obtain ⟨W3, hW3⟩ : ∃ W : World, W = ((W2.setCell ⟨w.heap.size, 25, none⟩ (.int .u32 0)).setCell ⟨w.heap.size, 27, none⟩ (.int .u32 0)) := ⟨_, rfl⟩
  have S3 : Hid (BrW w (putAt (putAt (putAt (putAt (putAt (putAt (putAt X0 17 [.int .u32 0]) 18 [.int .u8 0]) 19 [.int .u8 0]) 20 [.int .u64 0]) 23 (#[.int .u8 0, .int .u32 0] : Array Value).toList) 25 [.int .u32 0]) 27 [.int .u32 0]) W3) := Lib.hid (by rw [hW3]; exact S.out)
  rw [← hW3]
  clear hW3 S
  have S := Lib.hid S3.out
  clear S3
  go_upto_region 13 with (fail)
  obtain ⟨v26, c26⟩ : ∃ v, W3.cell? ⟨w.heap.size, 26, none⟩ = some v := ⟨_, (S.out.k.cell 26).trans (Array.getElem?_eq_getElem (by have := HSZ.out; (try simp only [putAt_size]); omega))⟩
  have z26 := S.out.k.frozen 26
  go_upto_region 14 with (fail)
  have S := Lib.hid (S.out.set 26 (.int .u32 0))
  clear c26 z26
  obtain ⟨W4, hW4⟩ : ∃ W : World, W = (W3.setCell ⟨w.heap.size, 26, none⟩ (.int .u32 0)) := ⟨_, rfl⟩
  have S4 : Hid (BrW w (putAt (putAt (putAt (putAt (putAt (putAt (putAt (putAt X0 17 [.int .u32 0]) 18 [.int .u8 0]) 19 [.int .u8 0]) 20 [.int .u64 0]) 23 (#[.int .u8 0, .int .u32 0] : Array Value).toList) 25 [.int .u32 0]) 27 [.int .u32 0]) 26 [.int .u32 0]) W4) := Lib.hid (by rw [hW4]; exact S.out)
  rw [← hW4]
  clear hW4 S
  have S := Lib.hid S4.out
  clear S4
  go_upto_region 15 with (fail)
  obtain ⟨v28, c28⟩ : ∃ v, W4.cell? ⟨w.heap.size, 28, none⟩ = some v := ⟨_, (S.out.k.cell 28).trans (Array.getElem?_eq_getElem (by have := HSZ.out; (try simp only [putAt_size]); omega))⟩
  have z28 := S.out.k.frozen 28
  go_upto_region 16 with (fail)
  have S := Lib.hid (S.out.set 28 (.slice none 0 0))
  clear c28 z28
  obtain ⟨W5, hW5⟩ : ∃ W : World, W = (W4.setCell ⟨w.heap.size, 28, none⟩ (.slice none 0 0)) := ⟨_, rfl⟩
  have S5 : Hid (BrW w (putAt (putAt (putAt (putAt (putAt (putAt (putAt (putAt (putAt X0 17 [.int .u32 0]) 18 [.int .u8 0]) 19 [.int .u8 0]) 20 [.int .u64 0]) 23 (#[.int .u8 0, .int .u32 0] : Array Value).toList) 25 [.int .u32 0]) 27 [.int .u32 0]) 26 [.int .u32 0]) 28 [.slice none 0 0]) W5) := Lib.hid (by rw [hW5]; exact S.out)
  rw [← hW5]
  clear hW5 S
  have S := Lib.hid S5.out
  clear S5
  have HS2 := Lib.hid (show (putAt (putAt (putAt (putAt (putAt (putAt (putAt (putAt (putAt X0 17 [.int .u32 0]) 18 [.int .u8 0]) 19 [.int .u8 0]) 20 [.int .u64 0]) 23 (#[.int .u8 0, .int .u32 0] : Array Value).toList) 25 [.int .u32 0]) 27 [.int .u32 0]) 26 [.int .u32 0]) 28 [.slice none 0 0]).size = 29 by simp only [putAt_size]; exact HSZ.out)
  rw [HE.out] at S HS2
  have HO2 := Lib.hid (opA_one_ (bareN x) none 0 0)
  generalize hY : opA (bareN x) (.slice none 0 0) = Y at *
  have HY := Lib.hid hY
  clear hY
  go_wp2_with (first
    | (refine wpList_load_row rfl 30 _ rfl w.heap.size rfl 30 Y (0, 0) _ S.out.k Tryd.underlying30 rfl (by rw [HS2.out]; exact size122) ?_)
    | (refine wpList_store_row rfl 30 _ _ rfl (w.heap.size + 1) Y rfl rfl 30 _ S.out.kr (by rw [HS2.out]; exact size122) (by rw [HS2.out]; rfl) HO2.out ?_))
  refine bodyPost_ret (results_cell_row rfl _ _ (w.heap.size + 1) 30 Y (0, 0) _ rfl (S.out.kr.row _) Tryd.underlying30 rfl (by rw [HS2.out]; exact size122)) rfl ?_
  exact ⟨by rw [HY.out], below_setRow S.out.b (by omega) _⟩
set_option maxRecDepth 100000 in
set_option maxHeartbeats 16000000 in
theorem bare_3 (w : World) (x : NOp) (A : Option Addr) (ln cap : Nat) (hx : x.ok) (hg : Glob w) (hk : x.kind = 3) : Calls Tryd.prog 19 #[.agg (opA x (.slice A ln cap))] w fun e w' => e = .returned (.agg (opA (bareN x) (.slice none 0 0))) ∧ Below w.heap.size w w' := by
  obtain ⟨k0, k1, hb⟩ := two_new w (opA x (.slice A ln cap)) (opA zeroO (.slice none 0 0)) 30 30
  have S : Hid (BrW w (opA x (.slice A ln cap)) _) := Lib.hid ⟨k0, k1, hb⟩
  have c14 := (k0.cell 14).trans (op_c14 x _ hx.dep8)
  rw [hk] at c14
  have g0 := (Glob.later hg hb) 3 (by omega)
  rw [show ((kindsF 3 : Nat) : Int) = 49 from rfl] at g0
  have HSZ := Lib.hid (opA_size x (.slice A ln cap) hx.dep8)
  have HO1 := Lib.hid (opA_one_ x A ln cap)
  have HE : Hid ((putAt (putAt (putAt (putAt (putAt (putAt (putAt (opA x (.slice A ln cap)) 17 [.int .u32 0]) 18 [.int .u8 0]) 19 [.int .u8 0]) 20 [.int .u64 0]) 21 (#[.int .u8 0, .int .u32 0] : Array Value).toList) 23 (#[.int .u8 0, .int .u32 0] : Array Value).toList) 28 [.slice none 0 0]) = opA (bareN x) (.slice none 0 0)) := Lib.hid (by
    have h8 := hx.dep8
    clear S c14 g0 HSZ HO1 k0 k1 hb hg
    have e0 : (opA x (.slice A ln cap)) = opA x (.slice A ln cap) := rfl
    have e1 : (putAt (opA x (.slice A ln cap)) 17 [.int .u32 0]) = opA ({ x with dest := 0 } : NOp) (.slice A ln cap) := (congrArg (fun Y => putAt Y 17 [.int .u32 0]) e0).trans (op_put17 x (.slice A ln cap) h8 0)
    have e2 : (putAt (putAt (opA x (.slice A ln cap)) 17 [.int .u32 0]) 18 [.int .u8 0]) = opA ({ ({ x with dest := 0 } : NOp) with roles := 0 } : NOp) (.slice A ln cap) := (congrArg (fun Y => putAt Y 18 [.int .u8 0]) e1).trans (op_put18 ({ x with dest := 0 } : NOp) (.slice A ln cap) h8 0)
    have e3 : (putAt (putAt (putAt (opA x (.slice A ln cap)) 17 [.int .u32 0]) 18 [.int .u8 0]) 19 [.int .u8 0]) = opA ({ ({ ({ x with dest := 0 } : NOp) with roles := 0 } : NOp) with depth := 0 } : NOp) (.slice A ln cap) := (congrArg (fun Y => putAt Y 19 [.int .u8 0]) e2).trans (op_put19 ({ ({ x with dest := 0 } : NOp) with roles := 0 } : NOp) (.slice A ln cap) h8 0)
    have e4 : (putAt (putAt (putAt (putAt (opA x (.slice A ln cap)) 17 [.int .u32 0]) 18 [.int .u8 0]) 19 [.int .u8 0]) 20 [.int .u64 0]) = opA ({ ({ ({ ({ x with dest := 0 } : NOp) with roles := 0 } : NOp) with depth := 0 } : NOp) with cap := 0 } : NOp) (.slice A ln cap) := (congrArg (fun Y => putAt Y 20 [.int .u64 0]) e3).trans (op_put20 ({ ({ ({ x with dest := 0 } : NOp) with roles := 0 } : NOp) with depth := 0 } : NOp) (.slice A ln cap) h8 0)
    have e5 : (putAt (putAt (putAt (putAt (putAt (opA x (.slice A ln cap)) 17 [.int .u32 0]) 18 [.int .u8 0]) 19 [.int .u8 0]) 20 [.int .u64 0]) 21 (#[.int .u8 0, .int .u32 0] : Array Value).toList) = opA ({ ({ ({ ({ ({ x with dest := 0 } : NOp) with roles := 0 } : NOp) with depth := 0 } : NOp) with cap := 0 } : NOp) with ar := 0, an := 0 } : NOp) (.slice A ln cap) := (congrArg (fun Y => putAt Y 21 (#[.int .u8 0, .int .u32 0] : Array Value).toList) e4).trans (op_put21 ({ ({ ({ ({ x with dest := 0 } : NOp) with roles := 0 } : NOp) with depth := 0 } : NOp) with cap := 0 } : NOp) (.slice A ln cap) h8 0 0)
    have e6 : (putAt (putAt (putAt (putAt (putAt (putAt (opA x (.slice A ln cap)) 17 [.int .u32 0]) 18 [.int .u8 0]) 19 [.int .u8 0]) 20 [.int .u64 0]) 21 (#[.int .u8 0, .int .u32 0] : Array Value).toList) 23 (#[.int .u8 0, .int .u32 0] : Array Value).toList) = opA ({ ({ ({ ({ ({ ({ x with dest := 0 } : NOp) with roles := 0 } : NOp) with depth := 0 } : NOp) with cap := 0 } : NOp) with ar := 0, an := 0 } : NOp) with vr := 0, vn := 0 } : NOp) (.slice A ln cap) := (congrArg (fun Y => putAt Y 23 (#[.int .u8 0, .int .u32 0] : Array Value).toList) e5).trans (op_put23 ({ ({ ({ ({ ({ x with dest := 0 } : NOp) with roles := 0 } : NOp) with depth := 0 } : NOp) with cap := 0 } : NOp) with ar := 0, an := 0 } : NOp) (.slice A ln cap) h8 0 0)
    have e7 : (putAt (putAt (putAt (putAt (putAt (putAt (putAt (opA x (.slice A ln cap)) 17 [.int .u32 0]) 18 [.int .u8 0]) 19 [.int .u8 0]) 20 [.int .u64 0]) 21 (#[.int .u8 0, .int .u32 0] : Array Value).toList) 23 (#[.int .u8 0, .int .u32 0] : Array Value).toList) 28 [.slice none 0 0]) = opA ({ ({ ({ ({ ({ ({ x with dest := 0 } : NOp) with roles := 0 } : NOp) with depth := 0 } : NOp) with cap := 0 } : NOp) with ar := 0, an := 0 } : NOp) with vr := 0, vn := 0 } : NOp) (.slice none 0 0) := (congrArg (fun Y => putAt Y 28 [.slice none 0 0]) e6).trans (op_put28 ({ ({ ({ ({ ({ ({ x with dest := 0 } : NOp) with roles := 0 } : NOp) with depth := 0 } : NOp) with cap := 0 } : NOp) with ar := 0, an := 0 } : NOp) with vr := 0, vn := 0 } : NOp) (.slice A ln cap) (.slice none 0 0) h8)
    refine e7.trans ?_
    refine (opA_lines ({ ({ ({ ({ ({ ({ x with dest := 0 } : NOp) with roles := 0 } : NOp) with depth := 0 } : NOp) with cap := 0 } : NOp) with ar := 0, an := 0 } : NOp) with vr := 0, vn := 0 } : NOp) _ []).symm.trans ?_
    refine congrArg (fun z => opA z _) ?_
    clear e0 e1 e2 e3 e4 e5 e6 e7 h8
    cases x
    simp only at hk
    subst hk
    rfl)
  generalize hX : opA x (.slice A ln cap) = X0 at *
  clear hX k0 k1 hb hx hg hk
  rw [zO_eq] at S c14 g0
  have q1 : (bits BinOp.and IntKind.u8 (49 : Int) (1 : Int) == 0) = false := by kernel_rfl
  have q2 : (bits BinOp.and IntKind.u8 (49 : Int) (2 : Int) == 0) = true := by kernel_rfl
  have q4 : (bits BinOp.and IntKind.u8 (49 : Int) (4 : Int) == 0) = true := by kernel_rfl
  have q8 : (bits BinOp.and IntKind.u8 (49 : Int) (8 : Int) == 0) = true := by kernel_rfl
  have q16 : (bits BinOp.and IntKind.u8 (49 : Int) (16 : Int) == 0) = false := by kernel_rfl
  have q32 : (bits BinOp.and IntKind.u8 (49 : Int) (32 : Int) == 0) = false := by kernel_rfl
  have q64 : (bits BinOp.and IntKind.u8 (49 : Int) (64 : Int) == 0) = true := by kernel_rfl
  go_enter Tryd.func19, Tryd.ntmps19
  go_upto_region 5 with (fail)
  obtain ⟨W0, hW0⟩ : ∃ W : World, W = (w.alloc (.cells X0 30)).alloc (.cells #[.int .u8 0, .int .u32 0, .int .u32 0, .int .u32 0, .int .u32 0, .int .u32 0, .int .u32 0, .int .u32 0, .int .u32 0, .int .u32 0, .int .u64 0, .int .u32 0, .int .u8 0, .int .u32 0, .int .u8 0, .int .u8 0, .int .u32 0, .int .u32 0, .int .u8 0, .int .u8 0, .int .u64 0, .int .u8 0, .int .u32 0, .int .u8 0, .int .u32 0, .int .u32 0, .int .u32 0, .int .u32 0, .slice none 0 0] 30) := ⟨_, rfl⟩
  have S0 : Hid (BrW w X0 W0) := Lib.hid (by rw [hW0]; exact S.out)
  rw [← hW0]
  clear hW0 c14 g0 S
  have S := Lib.hid S0.out
  clear S0
  obtain ⟨v17, c17⟩ : ∃ v, W0.cell? ⟨w.heap.size, 17, none⟩ = some v := ⟨_, (S.out.k.cell 17).trans (Array.getElem?_eq_getElem (by have := HSZ.out; (try simp only [putAt_size]); omega))⟩
  have z17 := S.out.k.frozen 17
  obtain ⟨v18, c18⟩ : ∃ v, W0.cell? ⟨w.heap.size, 18, none⟩ = some v := ⟨_, (S.out.k.cell 18).trans (Array.getElem?_eq_getElem (by have := HSZ.out; (try simp only [putAt_size]); omega))⟩
  have z18 := S.out.k.frozen 18
  obtain ⟨v19, c19⟩ : ∃ v, W0.cell? ⟨w.heap.size, 19, none⟩ = some v := ⟨_, (S.out.k.cell 19).trans (Array.getElem?_eq_getElem (by have := HSZ.out; (try simp only [putAt_size]); omega))⟩
  have z19 := S.out.k.frozen 19
  obtain ⟨v20, c20⟩ : ∃ v, W0.cell? ⟨w.heap.size, 20, none⟩ = some v := ⟨_, (S.out.k.cell 20).trans (Array.getElem?_eq_getElem (by have := HSZ.out; (try simp only [putAt_size]); omega))⟩
  have z20 := S.out.k.frozen 20
  go_upto_region 6 with (fail)
  have S := Lib.hid (S.out.set 17 (.int .u32 0))
  have S := Lib.hid (S.out.set 18 (.int .u8 0))
  have S := Lib.hid (S.out.set 19 (.int .u8 0))
  have S := Lib.hid (S.out.set 20 (.int .u64 0))
  clear c17 z17
  clear c18 z18
  clear c19 z19
  clear c20 z20
  obtain ⟨W1, hW1⟩ : ∃ W : World, W = ((((W0.setCell ⟨w.heap.size, 17, none⟩ (.int .u32 0)).setCell ⟨w.heap.size, 18, none⟩ (.int .u8 0)).setCell ⟨w.heap.size, 19, none⟩ (.int .u8 0)).setCell ⟨w.heap.size, 20, none⟩ (.int .u64 0)) := ⟨_, rfl⟩
  have S1 : Hid (BrW w (putAt (putAt (putAt (putAt X0 17 [.int .u32 0]) 18 [.int .u8 0]) 19 [.int .u8 0]) 20 [.int .u64 0]) W1) := Lib.hid (by rw [hW1]; exact S.out)
  rw [← hW1]
  clear hW1 S
  have S := Lib.hid S1.out
  clear S1
  go_upto_region 7 with (fail)
  have HT := Lib.hid (S.out.k.there (o := 21) (n := 2) (by have := HSZ.out; (try simp only [putAt_size]); omega))
  have S := Lib.hid (S.out.sets 21 (#[.int .u8 0, .int .u32 0] : Array Value).toList)
  go_upto_region 8 with (refine wpList_store_mid rfl 24 _ _ rfl w.heap.size 21 #[.int .u8 0, .int .u32 0] rfl rfl HT.out zdot_size zdot_one ?_)
  clear HT
  obtain ⟨W2, hW2⟩ : ∃ W : World, W = W1.setCells w.heap.size 21 (#[.int .u8 0, .int .u32 0] : Array Value).toList := ⟨_, rfl⟩
  have S2 : Hid (BrW w (putAt (putAt (putAt (putAt (putAt X0 17 [.int .u32 0]) 18 [.int .u8 0]) 19 [.int .u8 0]) 20 [.int .u64 0]) 21 (#[.int .u8 0, .int .u32 0] : Array Value).toList) W2) := Lib.hid (by rw [hW2]; exact S.out)
  rw [← hW2]
  clear hW2 S
  have S := Lib.hid S2.out
  clear S2
  go_upto_region 9 with (fail)
  have HT := Lib.hid (S.out.k.there (o := 23) (n := 2) (by have := HSZ.out; (try simp only [putAt_size]); omega))
  have S := Lib.hid (S.out.sets 23 (#[.int .u8 0, .int .u32 0] : Array Value).toList)
  go_upto_region 10 with (refine wpList_store_mid rfl 24 _ _ rfl w.heap.size 23 #[.int .u8 0, .int .u32 0] rfl rfl HT.out zdot_size zdot_one ?_)
  clear HT
  obtain ⟨W3, hW3⟩ : ∃ W : World, W = W2.setCells w.heap.size 23 (#[.int .u8 0, .int .u32 0] : Array Value).toList := ⟨_, rfl⟩
  have S3 : Hid (BrW w (putAt (putAt (putAt (putAt (putAt (putAt X0 17 [.int .u32 0]) 18 [.int .u8 0]) 19 [.int .u8 0]) 20 [.int .u64 0]) 21 (#[.int .u8 0, .int .u32 0] : Array Value).toList) 23 (#[.int .u8 0, .int .u32 0] : Array Value).toList) W3) := Lib.hid (by rw [hW3]; exact S.out)
  rw [← hW3]
  clear hW3 S
  have S := Lib.hid S3.out
  clear S3
  go_upto_region 15 with (fail)
  obtain ⟨v28, c28⟩ : ∃ v, W3.cell? ⟨w.heap.size, 28, none⟩ = some v := ⟨_, (S.out.k.cell 28).trans (Array.getElem?_eq_getElem (by have := HSZ.out; (try simp only [putAt_size]); omega))⟩
  have z28 := S.out.k.frozen 28
  go_upto_region 16 with (fail)
  have S := Lib.hid (S.out.set 28 (.slice none 0 0))
  clear c28 z28
  obtain ⟨W4, hW4⟩ : ∃ W : World, W = (W3.setCell ⟨w.heap.size, 28, none⟩ (.slice none 0 0)) := ⟨_, rfl⟩
  have S4 : Hid (BrW w (putAt (putAt (putAt (putAt (putAt (putAt (putAt X0 17 [.int .u32 0]) 18 [.int .u8 0]) 19 [.int .u8 0]) 20 [.int .u64 0]) 21 (#[.int .u8 0, .int .u32 0] : Array Value).toList) 23 (#[.int .u8 0, .int .u32 0] : Array Value).toList) 28 [.slice none 0 0]) W4) := Lib.hid (by rw [hW4]; exact S.out)
  rw [← hW4]
  clear hW4 S
  have S := Lib.hid S4.out
  clear S4
  have HS2 := Lib.hid (show (putAt (putAt (putAt (putAt (putAt (putAt (putAt X0 17 [.int .u32 0]) 18 [.int .u8 0]) 19 [.int .u8 0]) 20 [.int .u64 0]) 21 (#[.int .u8 0, .int .u32 0] : Array Value).toList) 23 (#[.int .u8 0, .int .u32 0] : Array Value).toList) 28 [.slice none 0 0]).size = 29 by simp only [putAt_size]; exact HSZ.out)
  rw [HE.out] at S HS2
  have HO2 := Lib.hid (opA_one_ (bareN x) none 0 0)
  generalize hY : opA (bareN x) (.slice none 0 0) = Y at *
  have HY := Lib.hid hY
  clear hY
  go_wp2_with (first
    | (refine wpList_load_row rfl 30 _ rfl w.heap.size rfl 30 Y (0, 0) _ S.out.k Tryd.underlying30 rfl (by rw [HS2.out]; exact size122) ?_)
    | (refine wpList_store_row rfl 30 _ _ rfl (w.heap.size + 1) Y rfl rfl 30 _ S.out.kr (by rw [HS2.out]; exact size122) (by rw [HS2.out]; rfl) HO2.out ?_))
  refine bodyPost_ret (results_cell_row rfl _ _ (w.heap.size + 1) 30 Y (0, 0) _ rfl (S.out.kr.row _) Tryd.underlying30 rfl (by rw [HS2.out]; exact size122)) rfl ?_
  exact ⟨by rw [HY.out], below_setRow S.out.b (by omega) _⟩
set_option maxRecDepth 100000 in
set_option maxHeartbeats 16000000 in
theorem bare_4 (w : World) (x : NOp) (A : Option Addr) (ln cap : Nat) (hx : x.ok) (hg : Glob w) (hk : x.kind = 4) : Calls Tryd.prog 19 #[.agg (opA x (.slice A ln cap))] w fun e w' => e = .returned (.agg (opA (bareN x) (.slice none 0 0))) ∧ Below w.heap.size w w' := by
  obtain ⟨k0, k1, hb⟩ := two_new w (opA x (.slice A ln cap)) (opA zeroO (.slice none 0 0)) 30 30
  have S : Hid (BrW w (opA x (.slice A ln cap)) _) := Lib.hid ⟨k0, k1, hb⟩
  have c14 := (k0.cell 14).trans (op_c14 x _ hx.dep8)
  rw [hk] at c14
  have g0 := (Glob.later hg hb) 4 (by omega)
  rw [show ((kindsF 4 : Nat) : Int) = 37 from rfl] at g0
  have HSZ := Lib.hid (opA_size x (.slice A ln cap) hx.dep8)
  have HO1 := Lib.hid (opA_one_ x A ln cap)
  have HE : Hid ((putAt (putAt (putAt (putAt (putAt (putAt (putAt (putAt (opA x (.slice A ln cap)) 17 [.int .u32 0]) 18 [.int .u8 0]) 19 [.int .u8 0]) 20 [.int .u64 0]) 23 (#[.int .u8 0, .int .u32 0] : Array Value).toList) 25 [.int .u32 0]) 27 [.int .u32 0]) 28 [.slice none 0 0]) = opA (bareN x) (.slice none 0 0)) := Lib.hid (by
    have h8 := hx.dep8
    clear S c14 g0 HSZ HO1 k0 k1 hb hg
    have e0 : (opA x (.slice A ln cap)) = opA x (.slice A ln cap) := rfl
    have e1 : (putAt (opA x (.slice A ln cap)) 17 [.int .u32 0]) = opA ({ x with dest := 0 } : NOp) (.slice A ln cap) := (congrArg (fun Y => putAt Y 17 [.int .u32 0]) e0).trans (op_put17 x (.slice A ln cap) h8 0)
    have e2 : (putAt (putAt (opA x (.slice A ln cap)) 17 [.int .u32 0]) 18 [.int .u8 0]) = opA ({ ({ x with dest := 0 } : NOp) with roles := 0 } : NOp) (.slice A ln cap) := (congrArg (fun Y => putAt Y 18 [.int .u8 0]) e1).trans (op_put18 ({ x with dest := 0 } : NOp) (.slice A ln cap) h8 0)
    have e3 : (putAt (putAt (putAt (opA x (.slice A ln cap)) 17 [.int .u32 0]) 18 [.int .u8 0]) 19 [.int .u8 0]) = opA ({ ({ ({ x with dest := 0 } : NOp) with roles := 0 } : NOp) with depth := 0 } : NOp) (.slice A ln cap) := (congrArg (fun Y => putAt Y 19 [.int .u8 0]) e2).trans (op_put19 ({ ({ x with dest := 0 } : NOp) with roles := 0 } : NOp) (.slice A ln cap) h8 0)
    have e4 : (putAt (putAt (putAt (putAt (opA x (.slice A ln cap)) 17 [.int .u32 0]) 18 [.int .u8 0]) 19 [.int .u8 0]) 20 [.int .u64 0]) = opA ({ ({ ({ ({ x with dest := 0 } : NOp) with roles := 0 } : NOp) with depth := 0 } : NOp) with cap := 0 } : NOp) (.slice A ln cap) := (congrArg (fun Y => putAt Y 20 [.int .u64 0]) e3).trans (op_put20 ({ ({ ({ x with dest := 0 } : NOp) with roles := 0 } : NOp) with depth := 0 } : NOp) (.slice A ln cap) h8 0)
    have e5 : (putAt (putAt (putAt (putAt (putAt (opA x (.slice A ln cap)) 17 [.int .u32 0]) 18 [.int .u8 0]) 19 [.int .u8 0]) 20 [.int .u64 0]) 23 (#[.int .u8 0, .int .u32 0] : Array Value).toList) = opA ({ ({ ({ ({ ({ x with dest := 0 } : NOp) with roles := 0 } : NOp) with depth := 0 } : NOp) with cap := 0 } : NOp) with vr := 0, vn := 0 } : NOp) (.slice A ln cap) := (congrArg (fun Y => putAt Y 23 (#[.int .u8 0, .int .u32 0] : Array Value).toList) e4).trans (op_put23 ({ ({ ({ ({ x with dest := 0 } : NOp) with roles := 0 } : NOp) with depth := 0 } : NOp) with cap := 0 } : NOp) (.slice A ln cap) h8 0 0)
    have e6 : (putAt (putAt (putAt (putAt (putAt (putAt (opA x (.slice A ln cap)) 17 [.int .u32 0]) 18 [.int .u8 0]) 19 [.int .u8 0]) 20 [.int .u64 0]) 23 (#[.int .u8 0, .int .u32 0] : Array Value).toList) 25 [.int .u32 0]) = opA ({ ({ ({ ({ ({ ({ x with dest := 0 } : NOp) with roles := 0 } : NOp) with depth := 0 } : NOp) with cap := 0 } : NOp) with vr := 0, vn := 0 } : NOp) with item := 0 } : NOp) (.slice A ln cap) := (congrArg (fun Y => putAt Y 25 [.int .u32 0]) e5).trans (op_put25 ({ ({ ({ ({ ({ x with dest := 0 } : NOp) with roles := 0 } : NOp) with depth := 0 } : NOp) with cap := 0 } : NOp) with vr := 0, vn := 0 } : NOp) (.slice A ln cap) h8 0)
    have e7 : (putAt (putAt (putAt (putAt (putAt (putAt (putAt (opA x (.slice A ln cap)) 17 [.int .u32 0]) 18 [.int .u8 0]) 19 [.int .u8 0]) 20 [.int .u64 0]) 23 (#[.int .u8 0, .int .u32 0] : Array Value).toList) 25 [.int .u32 0]) 27 [.int .u32 0]) = opA ({ ({ ({ ({ ({ ({ ({ x with dest := 0 } : NOp) with roles := 0 } : NOp) with depth := 0 } : NOp) with cap := 0 } : NOp) with vr := 0, vn := 0 } : NOp) with item := 0 } : NOp) with price := 0 } : NOp) (.slice A ln cap) := (congrArg (fun Y => putAt Y 27 [.int .u32 0]) e6).trans (op_put27 ({ ({ ({ ({ ({ ({ x with dest := 0 } : NOp) with roles := 0 } : NOp) with depth := 0 } : NOp) with cap := 0 } : NOp) with vr := 0, vn := 0 } : NOp) with item := 0 } : NOp) (.slice A ln cap) h8 0)
    have e8 : (putAt (putAt (putAt (putAt (putAt (putAt (putAt (putAt (opA x (.slice A ln cap)) 17 [.int .u32 0]) 18 [.int .u8 0]) 19 [.int .u8 0]) 20 [.int .u64 0]) 23 (#[.int .u8 0, .int .u32 0] : Array Value).toList) 25 [.int .u32 0]) 27 [.int .u32 0]) 28 [.slice none 0 0]) = opA ({ ({ ({ ({ ({ ({ ({ x with dest := 0 } : NOp) with roles := 0 } : NOp) with depth := 0 } : NOp) with cap := 0 } : NOp) with vr := 0, vn := 0 } : NOp) with item := 0 } : NOp) with price := 0 } : NOp) (.slice none 0 0) := (congrArg (fun Y => putAt Y 28 [.slice none 0 0]) e7).trans (op_put28 ({ ({ ({ ({ ({ ({ ({ x with dest := 0 } : NOp) with roles := 0 } : NOp) with depth := 0 } : NOp) with cap := 0 } : NOp) with vr := 0, vn := 0 } : NOp) with item := 0 } : NOp) with price := 0 } : NOp) (.slice A ln cap) (.slice none 0 0) h8)
    refine e8.trans ?_
    refine (opA_lines ({ ({ ({ ({ ({ ({ ({ x with dest := 0 } : NOp) with roles := 0 } : NOp) with depth := 0 } : NOp) with cap := 0 } : NOp) with vr := 0, vn := 0 } : NOp) with item := 0 } : NOp) with price := 0 } : NOp) _ []).symm.trans ?_
    refine congrArg (fun z => opA z _) ?_
    clear e0 e1 e2 e3 e4 e5 e6 e7 e8 h8
    cases x
    simp only at hk
    subst hk
    rfl)
  generalize hX : opA x (.slice A ln cap) = X0 at *
  clear hX k0 k1 hb hx hg hk
  rw [zO_eq] at S c14 g0
  have q1 : (bits BinOp.and IntKind.u8 (37 : Int) (1 : Int) == 0) = false := by kernel_rfl
  have q2 : (bits BinOp.and IntKind.u8 (37 : Int) (2 : Int) == 0) = true := by kernel_rfl
  have q4 : (bits BinOp.and IntKind.u8 (37 : Int) (4 : Int) == 0) = false := by kernel_rfl
  have q8 : (bits BinOp.and IntKind.u8 (37 : Int) (8 : Int) == 0) = true := by kernel_rfl
  have q16 : (bits BinOp.and IntKind.u8 (37 : Int) (16 : Int) == 0) = true := by kernel_rfl
  have q32 : (bits BinOp.and IntKind.u8 (37 : Int) (32 : Int) == 0) = false := by kernel_rfl
  have q64 : (bits BinOp.and IntKind.u8 (37 : Int) (64 : Int) == 0) = true := by kernel_rfl
  go_enter Tryd.func19, Tryd.ntmps19
  go_upto_region 5 with (fail)
  obtain ⟨W0, hW0⟩ : ∃ W : World, W = (w.alloc (.cells X0 30)).alloc (.cells #[.int .u8 0, .int .u32 0, .int .u32 0, .int .u32 0, .int .u32 0, .int .u32 0, .int .u32 0, .int .u32 0, .int .u32 0, .int .u32 0, .int .u64 0, .int .u32 0, .int .u8 0, .int .u32 0, .int .u8 0, .int .u8 0, .int .u32 0, .int .u32 0, .int .u8 0, .int .u8 0, .int .u64 0, .int .u8 0, .int .u32 0, .int .u8 0, .int .u32 0, .int .u32 0, .int .u32 0, .int .u32 0, .slice none 0 0] 30) := ⟨_, rfl⟩
  have S0 : Hid (BrW w X0 W0) := Lib.hid (by rw [hW0]; exact S.out)
  rw [← hW0]
  clear hW0 c14 g0 S
  have S := Lib.hid S0.out
  clear S0
  obtain ⟨v17, c17⟩ : ∃ v, W0.cell? ⟨w.heap.size, 17, none⟩ = some v := ⟨_, (S.out.k.cell 17).trans (Array.getElem?_eq_getElem (by have := HSZ.out; (try simp only [putAt_size]); omega))⟩
  have z17 := S.out.k.frozen 17
  obtain ⟨v18, c18⟩ : ∃ v, W0.cell? ⟨w.heap.size, 18, none⟩ = some v := ⟨_, (S.out.k.cell 18).trans (Array.getElem?_eq_getElem (by have := HSZ.out; (try simp only [putAt_size]); omega))⟩
  have z18 := S.out.k.frozen 18
  obtain ⟨v19, c19⟩ : ∃ v, W0.cell? ⟨w.heap.size, 19, none⟩ = some v := ⟨_, (S.out.k.cell 19).trans (Array.getElem?_eq_getElem (by have := HSZ.out; (try simp only [putAt_size]); omega))⟩
  have z19 := S.out.k.frozen 19
  obtain ⟨v20, c20⟩ : ∃ v, W0.cell? ⟨w.heap.size, 20, none⟩ = some v := ⟨_, (S.out.k.cell 20).trans (Array.getElem?_eq_getElem (by have := HSZ.out; (try simp only [putAt_size]); omega))⟩
  have z20 := S.out.k.frozen 20
  go_upto_region 6 with (fail)
  have S := Lib.hid (S.out.set 17 (.int .u32 0))
  have S := Lib.hid (S.out.set 18 (.int .u8 0))
  have S := Lib.hid (S.out.set 19 (.int .u8 0))
  have S := Lib.hid (S.out.set 20 (.int .u64 0))
  clear c17 z17
  clear c18 z18
  clear c19 z19
  clear c20 z20
  obtain ⟨W1, hW1⟩ : ∃ W : World, W = ((((W0.setCell ⟨w.heap.size, 17, none⟩ (.int .u32 0)).setCell ⟨w.heap.size, 18, none⟩ (.int .u8 0)).setCell ⟨w.heap.size, 19, none⟩ (.int .u8 0)).setCell ⟨w.heap.size, 20, none⟩ (.int .u64 0)) := ⟨_, rfl⟩
  have S1 : Hid (BrW w (putAt (putAt (putAt (putAt X0 17 [.int .u32 0]) 18 [.int .u8 0]) 19 [.int .u8 0]) 20 [.int .u64 0]) W1) := Lib.hid (by rw [hW1]; exact S.out)
  rw [← hW1]
  clear hW1 S
  have S := Lib.hid S1.out
  clear S1
  go_upto_region 9 with (fail)
  have HT := Lib.hid (S.out.k.there (o := 23) (n := 2) (by have := HSZ.out; (try simp only [putAt_size]); omega))
  have S := Lib.hid (S.out.sets 23 (#[.int .u8 0, .int .u32 0] : Array Value).toList)
  go_upto_region 10 with (refine wpList_store_mid rfl 24 _ _ rfl w.heap.size 23 #[.int .u8 0, .int .u32 0] rfl rfl HT.out zdot_size zdot_one ?_)
  clear HT
  obtain ⟨W2, hW2⟩ : ∃ W : World, W = W1.setCells w.heap.size 23 (#[.int .u8 0, .int .u32 0] : Array Value).toList := ⟨_, rfl⟩
  have S2 : Hid (BrW w (putAt (putAt (putAt (putAt (putAt X0 17 [.int .u32 0]) 18 [.int .u8 0]) 19 [.int .u8 0]) 20 [.int .u64 0]) 23 (#[.int .u8 0, .int .u32 0] : Array Value).toList) W2) := Lib.hid (by rw [hW2]; exact S.out)
  rw [← hW2]
  clear hW2 S
  have S := Lib.hid S2.out
  clear S2
  go_upto_region 11 with (fail)
  obtain ⟨v25, c25⟩ : ∃ v, W2.cell? ⟨w.heap.size, 25, none⟩ = some v := ⟨_, (S.out.k.cell 25).trans (Array.getElem?_eq_getElem (by have := HSZ.out; (try simp only [putAt_size]); omega))⟩
  have z25 := S.out.k.frozen 25
  obtain ⟨v27, c27⟩ : ∃ v, W2.cell? ⟨w.heap.size, 27, none⟩ = some v := ⟨_, (S.out.k.cell 27).trans (Array.getElem?_eq_getElem (by have := HSZ.out; (try simp only [putAt_size]); omega))⟩
  have z27 := S.out.k.frozen 27
  go_upto_region 12 with (fail)
  have S := Lib.hid (S.out.set 25 (.int .u32 0))
  have S := Lib.hid (S.out.set 27 (.int .u32 0))
  clear c25 z25
  clear c27 z27
  obtain ⟨W3, hW3⟩ : ∃ W : World, W = ((W2.setCell ⟨w.heap.size, 25, none⟩ (.int .u32 0)).setCell ⟨w.heap.size, 27, none⟩ (.int .u32 0)) := ⟨_, rfl⟩
  have S3 : Hid (BrW w (putAt (putAt (putAt (putAt (putAt (putAt (putAt X0 17 [.int .u32 0]) 18 [.int .u8 0]) 19 [.int .u8 0]) 20 [.int .u64 0]) 23 (#[.int .u8 0, .int .u32 0] : Array Value).toList) 25 [.int .u32 0]) 27 [.int .u32 0]) W3) := Lib.hid (by rw [hW3]; exact S.out)
  rw [← hW3]
  clear hW3 S
  have S := Lib.hid S3.out
  clear S3
  go_upto_region 15 with (fail)
  obtain ⟨v28, c28⟩ : ∃ v, W3.cell? ⟨w.heap.size, 28, none⟩ = some v := ⟨_, (S.out.k.cell 28).trans (Array.getElem?_eq_getElem (by have := HSZ.out; (try simp only [putAt_size]); omega))⟩
  have z28 := S.out.k.frozen 28
  go_upto_region 16 with (fail)
  have S := Lib.hid (S.out.set 28 (.slice none 0 0))
  clear c28 z28
  obtain ⟨W4, hW4⟩ : ∃ W : World, W = (W3.setCell ⟨w.heap.size, 28, none⟩ (.slice none 0 0)) := ⟨_, rfl⟩
  have S4 : Hid (BrW w (putAt (putAt (putAt (putAt (putAt (putAt (putAt (putAt X0 17 [.int .u32 0]) 18 [.int .u8 0]) 19 [.int .u8 0]) 20 [.int .u64 0]) 23 (#[.int .u8 0, .int .u32 0] : Array Value).toList) 25 [.int .u32 0]) 27 [.int .u32 0]) 28 [.slice none 0 0]) W4) := Lib.hid (by rw [hW4]; exact S.out)
  rw [← hW4]
  clear hW4 S
  have S := Lib.hid S4.out
  clear S4
  have HS2 := Lib.hid (show (putAt (putAt (putAt (putAt (putAt (putAt (putAt (putAt X0 17 [.int .u32 0]) 18 [.int .u8 0]) 19 [.int .u8 0]) 20 [.int .u64 0]) 23 (#[.int .u8 0, .int .u32 0] : Array Value).toList) 25 [.int .u32 0]) 27 [.int .u32 0]) 28 [.slice none 0 0]).size = 29 by simp only [putAt_size]; exact HSZ.out)
  rw [HE.out] at S HS2
  have HO2 := Lib.hid (opA_one_ (bareN x) none 0 0)
  generalize hY : opA (bareN x) (.slice none 0 0) = Y at *
  have HY := Lib.hid hY
  clear hY
  go_wp2_with (first
    | (refine wpList_load_row rfl 30 _ rfl w.heap.size rfl 30 Y (0, 0) _ S.out.k Tryd.underlying30 rfl (by rw [HS2.out]; exact size122) ?_)
    | (refine wpList_store_row rfl 30 _ _ rfl (w.heap.size + 1) Y rfl rfl 30 _ S.out.kr (by rw [HS2.out]; exact size122) (by rw [HS2.out]; rfl) HO2.out ?_))
  refine bodyPost_ret (results_cell_row rfl _ _ (w.heap.size + 1) 30 Y (0, 0) _ rfl (S.out.kr.row _) Tryd.underlying30 rfl (by rw [HS2.out]; exact size122)) rfl ?_
  exact ⟨by rw [HY.out], below_setRow S.out.b (by omega) _⟩
set_option maxRecDepth 100000 in
set_option maxHeartbeats 16000000 in
theorem bare_5 (w : World) (x : NOp) (A : Option Addr) (ln cap : Nat) (hx : x.ok) (hg : Glob w) (hk : x.kind = 5) : Calls Tryd.prog 19 #[.agg (opA x (.slice A ln cap))] w fun e w' => e = .returned (.agg (opA (bareN x) (.slice none 0 0))) ∧ Below w.heap.size w w' := by
  obtain ⟨k0, k1, hb⟩ := two_new w (opA x (.slice A ln cap)) (opA zeroO (.slice none 0 0)) 30 30
  have S : Hid (BrW w (opA x (.slice A ln cap)) _) := Lib.hid ⟨k0, k1, hb⟩
  have c14 := (k0.cell 14).trans (op_c14 x _ hx.dep8)
  rw [hk] at c14
  have g0 := (Glob.later hg hb) 5 (by omega)
  rw [show ((kindsF 5 : Nat) : Int) = 5 from rfl] at g0
  have HSZ := Lib.hid (opA_size x (.slice A ln cap) hx.dep8)
  have HO1 := Lib.hid (opA_one_ x A ln cap)
  have HE : Hid ((putAt (putAt (putAt (putAt (putAt (putAt (putAt (putAt (putAt (opA x (.slice A ln cap)) 17 [.int .u32 0]) 18 [.int .u8 0]) 19 [.int .u8 0]) 20 [.int .u64 0]) 23 (#[.int .u8 0, .int .u32 0] : Array Value).toList) 25 [.int .u32 0]) 27 [.int .u32 0]) 26 [.int .u32 0]) 28 [.slice none 0 0]) = opA (bareN x) (.slice none 0 0)) := Lib.hid (by
    have h8 := hx.dep8
    clear S c14 g0 HSZ HO1 k0 k1 hb hg
    have e0 : (opA x (.slice A ln cap)) = opA x (.slice A ln cap) := rfl
    have e1 : (putAt (opA x (.slice A ln cap)) 17 [.int .u32 0]) = opA ({ x with dest := 0 } : NOp) (.slice A ln cap) := (congrArg (fun Y => putAt Y 17 [.int .u32 0]) e0).trans (op_put17 x (.slice A ln cap) h8 0)
    have e2 : (putAt (putAt (opA x (.slice A ln cap)) 17 [.int .u32 0]) 18 [.int .u8 0]) = opA ({ ({ x with dest := 0 } : NOp) with roles := 0 } : NOp) (.slice A ln cap) := (congrArg (fun Y => putAt Y 18 [.int .u8 0]) e1).trans (op_put18 ({ x with dest := 0 } : NOp) (.slice A ln cap) h8 0)
    have e3 : (putAt (putAt (putAt (opA x (.slice A ln cap)) 17 [.int .u32 0]) 18 [.int .u8 0]) 19 [.int .u8 0]) = opA ({ ({ ({ x with dest := 0 } : NOp) with roles := 0 } : NOp) with depth := 0 } : NOp) (.slice A ln cap) := (congrArg (fun Y => putAt Y 19 [.int .u8 0]) e2).trans (op_put19 ({ ({ x with dest := 0 } : NOp) with roles := 0 } : NOp) (.slice A ln cap) h8 0)
    have e4 : (putAt (putAt (putAt (putAt (opA x (.slice A ln cap)) 17 [.int .u32 0]) 18 [.int .u8 0]) 19 [.int .u8 0]) 20 [.int .u64 0]) = opA ({ ({ ({ ({ x with dest := 0 } : NOp) with roles := 0 } : NOp) with depth := 0 } : NOp) with cap := 0 } : NOp) (.slice A ln cap) := (congrArg (fun Y => putAt Y 20 [.int .u64 0]) e3).trans (op_put20 ({ ({ ({ x with dest := 0 } : NOp) with roles := 0 } : NOp) with depth := 0 } : NOp) (.slice A ln cap) h8 0)
    have e5 : (putAt (putAt (putAt (putAt (putAt (opA x (.slice A ln cap)) 17 [.int .u32 0]) 18 [.int .u8 0]) 19 [.int .u8 0]) 20 [.int .u64 0]) 23 (#[.int .u8 0, .int .u32 0] : Array Value).toList) = opA ({ ({ ({ ({ ({ x with dest := 0 } : NOp) with roles := 0 } : NOp) with depth := 0 } : NOp) with cap := 0 } : NOp) with vr := 0, vn := 0 } : NOp) (.slice A ln cap) := (congrArg (fun Y => putAt Y 23 (#[.int .u8 0, .int .u32 0] : Array Value).toList) e4).trans (op_put23 ({ ({ ({ ({ x with dest := 0 } : NOp) with roles := 0 } : NOp) with depth := 0 } : NOp) with cap := 0 } : NOp) (.slice A ln cap) h8 0 0)
    have e6 : (putAt (putAt (putAt (putAt (putAt (putAt (opA x (.slice A ln cap)) 17 [.int .u32 0]) 18 [.int .u8 0]) 19 [.int .u8 0]) 20 [.int .u64 0]) 23 (#[.int .u8 0, .int .u32 0] : Array Value).toList) 25 [.int .u32 0]) = opA ({ ({ ({ ({ ({ ({ x with dest := 0 } : NOp) with roles := 0 } : NOp) with depth := 0 } : NOp) with cap := 0 } : NOp) with vr := 0, vn := 0 } : NOp) with item := 0 } : NOp) (.slice A ln cap) := (congrArg (fun Y => putAt Y 25 [.int .u32 0]) e5).trans (op_put25 ({ ({ ({ ({ ({ x with dest := 0 } : NOp) with roles := 0 } : NOp) with depth := 0 } : NOp) with cap := 0 } : NOp) with vr := 0, vn := 0 } : NOp) (.slice A ln cap) h8 0)
    have e7 : (putAt (putAt (putAt (putAt (putAt (putAt (putAt (opA x (.slice A ln cap)) 17 [.int .u32 0]) 18 [.int .u8 0]) 19 [.int .u8 0]) 20 [.int .u64 0]) 23 (#[.int .u8 0, .int .u32 0] : Array Value).toList) 25 [.int .u32 0]) 27 [.int .u32 0]) = opA ({ ({ ({ ({ ({ ({ ({ x with dest := 0 } : NOp) with roles := 0 } : NOp) with depth := 0 } : NOp) with cap := 0 } : NOp) with vr := 0, vn := 0 } : NOp) with item := 0 } : NOp) with price := 0 } : NOp) (.slice A ln cap) := (congrArg (fun Y => putAt Y 27 [.int .u32 0]) e6).trans (op_put27 ({ ({ ({ ({ ({ ({ x with dest := 0 } : NOp) with roles := 0 } : NOp) with depth := 0 } : NOp) with cap := 0 } : NOp) with vr := 0, vn := 0 } : NOp) with item := 0 } : NOp) (.slice A ln cap) h8 0)
    have e8 : (putAt (putAt (putAt (putAt (putAt (putAt (putAt (putAt (opA x (.slice A ln cap)) 17 [.int .u32 0]) 18 [.int .u8 0]) 19 [.int .u8 0]) 20 [.int .u64 0]) 23 (#[.int .u8 0, .int .u32 0] : Array Value).toList) 25 [.int .u32 0]) 27 [.int .u32 0]) 26 [.int .u32 0]) = opA ({ ({ ({ ({ ({ ({ ({ ({ x with dest := 0 } : NOp) with roles := 0 } : NOp) with depth := 0 } : NOp) with cap := 0 } : NOp) with vr := 0, vn := 0 } : NOp) with item := 0 } : NOp) with price := 0 } : NOp) with qty := 0 } : NOp) (.slice A ln cap) := (congrArg (fun Y => putAt Y 26 [.int .u32 0]) e7).trans (op_put26 ({ ({ ({ ({ ({ ({ ({ x with dest := 0 } : NOp) with roles := 0 } : NOp) with depth := 0 } : NOp) with cap := 0 } : NOp) with vr := 0, vn := 0 } : NOp) with item := 0 } : NOp) with price := 0 } : NOp) (.slice A ln cap) h8 0)
    have e9 : (putAt (putAt (putAt (putAt (putAt (putAt (putAt (putAt (putAt (opA x (.slice A ln cap)) 17 [.int .u32 0]) 18 [.int .u8 0]) 19 [.int .u8 0]) 20 [.int .u64 0]) 23 (#[.int .u8 0, .int .u32 0] : Array Value).toList) 25 [.int .u32 0]) 27 [.int .u32 0]) 26 [.int .u32 0]) 28 [.slice none 0 0]) = opA ({ ({ ({ ({ ({ ({ ({ ({ x with dest := 0 } : NOp) with roles := 0 } : NOp) with depth := 0 } : NOp) with cap := 0 } : NOp) with vr := 0, vn := 0 } : NOp) with item := 0 } : NOp) with price := 0 } : NOp) with qty := 0 } : NOp) (.slice none 0 0) := (congrArg (fun Y => putAt Y 28 [.slice none 0 0]) e8).trans (op_put28 ({ ({ ({ ({ ({ ({ ({ ({ x with dest := 0 } : NOp) with roles := 0 } : NOp) with depth := 0 } : NOp) with cap := 0 } : NOp) with vr := 0, vn := 0 } : NOp) with item := 0 } : NOp) with price := 0 } : NOp) with qty := 0 } : NOp) (.slice A ln cap) (.slice none 0 0) h8)
    refine e9.trans ?_
    refine (opA_lines ({ ({ ({ ({ ({ ({ ({ ({ x with dest := 0 } : NOp) with roles := 0 } : NOp) with depth := 0 } : NOp) with cap := 0 } : NOp) with vr := 0, vn := 0 } : NOp) with item := 0 } : NOp) with price := 0 } : NOp) with qty := 0 } : NOp) _ []).symm.trans ?_
    refine congrArg (fun z => opA z _) ?_
    clear e0 e1 e2 e3 e4 e5 e6 e7 e8 e9 h8
    cases x
    simp only at hk
    subst hk
    rfl)
  generalize hX : opA x (.slice A ln cap) = X0 at *
  clear hX k0 k1 hb hx hg hk
  rw [zO_eq] at S c14 g0
  have q1 : (bits BinOp.and IntKind.u8 (5 : Int) (1 : Int) == 0) = false := by kernel_rfl
  have q2 : (bits BinOp.and IntKind.u8 (5 : Int) (2 : Int) == 0) = true := by kernel_rfl
  have q4 : (bits BinOp.and IntKind.u8 (5 : Int) (4 : Int) == 0) = false := by kernel_rfl
  have q8 : (bits BinOp.and IntKind.u8 (5 : Int) (8 : Int) == 0) = true := by kernel_rfl
  have q16 : (bits BinOp.and IntKind.u8 (5 : Int) (16 : Int) == 0) = true := by kernel_rfl
  have q32 : (bits BinOp.and IntKind.u8 (5 : Int) (32 : Int) == 0) = true := by kernel_rfl
  have q64 : (bits BinOp.and IntKind.u8 (5 : Int) (64 : Int) == 0) = true := by kernel_rfl
  go_enter Tryd.func19, Tryd.ntmps19
  go_upto_region 5 with (fail)
  obtain ⟨W0, hW0⟩ : ∃ W : World, W = (w.alloc (.cells X0 30)).alloc (.cells #[.int .u8 0, .int .u32 0, .int .u32 0, .int .u32 0, .int .u32 0, .int .u32 0, .int .u32 0, .int .u32 0, .int .u32 0, .int .u32 0, .int .u64 0, .int .u32 0, .int .u8 0, .int .u32 0, .int .u8 0, .int .u8 0, .int .u32 0, .int .u32 0, .int .u8 0, .int .u8 0, .int .u64 0, .int .u8 0, .int .u32 0, .int .u8 0, .int .u32 0, .int .u32 0, .int .u32 0, .int .u32 0, .slice none 0 0] 30) := ⟨_, rfl⟩
  have S0 : Hid (BrW w X0 W0) := Lib.hid (by rw [hW0]; exact S.out)
  rw [← hW0]
  clear hW0 c14 g0 S
  have S := Lib.hid S0.out
  clear S0
  obtain ⟨v17, c17⟩ : ∃ v, W0.cell? ⟨w.heap.size, 17, none⟩ = some v := ⟨_, (S.out.k.cell 17).trans (Array.getElem?_eq_getElem (by have := HSZ.out; (try simp only [putAt_size]); omega))⟩
  have z17 := S.out.k.frozen 17
  obtain ⟨v18, c18⟩ : ∃ v, W0.cell? ⟨w.heap.size, 18, none⟩ = some v := ⟨_, (S.out.k.cell 18).trans (Array.getElem?_eq_getElem (by have := HSZ.out; (try simp only [putAt_size]); omega))⟩
  have z18 := S.out.k.frozen 18
  obtain ⟨v19, c19⟩ : ∃ v, W0.cell? ⟨w.heap.size, 19, none⟩ = some v := ⟨_, (S.out.k.cell 19).trans (Array.getElem?_eq_getElem (by have := HSZ.out; (try simp only [putAt_size]); omega))⟩
  have z19 := S.out.k.frozen 19
  obtain ⟨v20, c20⟩ : ∃ v, W0.cell? ⟨w.heap.size, 20, none⟩ = some v := ⟨_, (S.out.k.cell 20).trans (Array.getElem?_eq_getElem (by have := HSZ.out; (try simp only [putAt_size]); omega))⟩
  have z20 := S.out.k.frozen 20
  go_upto_region 6 with (fail)
  have S := Lib.hid (S.out.set 17 (.int .u32 0))
  have S := Lib.hid (S.out.set 18 (.int .u8 0))
  have S := Lib.hid (S.out.set 19 (.int .u8 0))
  have S := Lib.hid (S.out.set 20 (.int .u64 0))
  clear c17 z17
  clear c18 z18
  clear c19 z19
  clear c20 z20
  obtain ⟨W1, hW1⟩ : ∃ W : World, W = ((((W0.setCell ⟨w.heap.size, 17, none⟩ (.int .u32 0)).setCell ⟨w.heap.size, 18, none⟩ (.int .u8 0)).setCell ⟨w.heap.size, 19, none⟩ (.int .u8 0)).setCell ⟨w.heap.size, 20, none⟩ (.int .u64 0)) := ⟨_, rfl⟩
  have S1 : Hid (BrW w (putAt (putAt (putAt (putAt X0 17 [.int .u32 0]) 18 [.int .u8 0]) 19 [.int .u8 0]) 20 [.int .u64 0]) W1) := Lib.hid (by rw [hW1]; exact S.out)
  rw [← hW1]
  clear hW1 S
  have S := Lib.hid S1.out
  clear S1
  go_upto_region 9 with (fail)
  have HT := Lib.hid (S.out.k.there (o := 23) (n := 2) (by have := HSZ.out; (try simp only [putAt_size]); omega))
  have S := Lib.hid (S.out.sets 23 (#[.int .u8 0, .int .u32 0] : Array Value).toList)
  go_upto_region 10 with (refine wpList_store_mid rfl 24 _ _ rfl w.heap.size 23 #[.int .u8 0, .int .u32 0] rfl rfl HT.out zdot_size zdot_one ?_)
  clear HT
  obtain ⟨W2, hW2⟩ : ∃ W : World, W = W1.setCells w.heap.size 23 (#[.int .u8 0, .int .u32 0] : Array Value).toList := ⟨_, rfl⟩
  have S2 : Hid (BrW w (putAt (putAt (putAt (putAt (putAt X0 17 [.int .u32 0]) 18 [.int .u8 0]) 19 [.int .u8 0]) 20 [.int .u64 0]) 23 (#[.int .u8 0, .int .u32 0] : Array Value).toList) W2) := Lib.hid (by rw [hW2]; exact S.out)
  rw [← hW2]
  clear hW2 S
  have S := Lib.hid S2.out
  clear S2
  go_upto_region 11 with (fail)
  obtain ⟨v25, c25⟩ : ∃ v, W2.cell? ⟨w.heap.size, 25, none⟩ = some v := ⟨_, (S.out.k.cell 25).trans (Array.getElem?_eq_getElem (by have := HSZ.out; (try simp only [putAt_size]); omega))⟩
  have z25 := S.out.k.frozen 25
  obtain ⟨v27, c27⟩ : ∃ v, W2.cell? ⟨w.heap.size, 27, none⟩ = some v := ⟨_, (S.out.k.cell 27).trans (Array.getElem?_eq_getElem (by have := HSZ.out; (try simp only [putAt_size]); omega))⟩
  have z27 := S.out.k.frozen 27
  go_upto_region 12 with (fail)
  have S := Lib.hid (S.out.set 25 (.int .u32 0))
  have S := Lib.hid (S.out.set 27 (.int .u32 0))
  clear c25 z25
  clear c27 z27
  obtain ⟨W3, hW3⟩ : ∃ W : World, W = ((W2.setCell ⟨w.heap.size, 25, none⟩ (.int .u32 0)).setCell ⟨w.heap.size, 27, none⟩ (.int .u32 0)) := ⟨_, rfl⟩
  have S3 : Hid (BrW w (putAt (putAt (putAt (putAt (putAt (putAt (putAt X0 17 [.int .u32 0]) 18 [.int .u8 0]) 19 [.int .u8 0]) 20 [.int .u64 0]) 23 (#[.int .u8 0, .int .u32 0] : Array Value).toList) 25 [.int .u32 0]) 27 [.int .u32 0]) W3) := Lib.hid (by rw [hW3]; exact S.out)
  rw [← hW3]
  clear hW3 S
  have S := Lib.hid S3.out
  clear S3
  go_upto_region 13 with (fail)
  obtain ⟨v26, c26⟩ : ∃ v, W3.cell? ⟨w.heap.size, 26, none⟩ = some v := ⟨_, (S.out.k.cell 26).trans (Array.getElem?_eq_getElem (by have := HSZ.out; (try simp only [putAt_size]); omega))⟩
  have z26 := S.out.k.frozen 26
  go_upto_region 14 with (fail)
  have S := Lib.hid (S.out.set 26 (.int .u32 0))
  clear c26 z26
  obtain ⟨W4, hW4⟩ : ∃ W : World, W = (W3.setCell ⟨w.heap.size, 26, none⟩ (.int .u32 0)) := ⟨_, rfl⟩
  have S4 : Hid (BrW w (putAt (putAt (putAt (putAt (putAt (putAt (putAt (putAt X0 17 [.int .u32 0]) 18 [.int .u8 0]) 19 [.int .u8 0]) 20 [.int .u64 0]) 23 (#[.int .u8 0, .int .u32 0] : Array Value).toList) 25 [.int .u32 0]) 27 [.int .u32 0]) 26 [.int .u32 0]) W4) := Lib.hid (by rw [hW4]; exact S.out)
  rw [← hW4]
  clear hW4 S
  have S := Lib.hid S4.out
  clear S4
  go_upto_region 15 with (fail)
  obtain ⟨v28, c28⟩ : ∃ v, W4.cell? ⟨w.heap.size, 28, none⟩ = some v := ⟨_, (S.out.k.cell 28).trans (Array.getElem?_eq_getElem (by have := HSZ.out; (try simp only [putAt_size]); omega))⟩
  have z28 := S.out.k.frozen 28
  go_upto_region 16 with (fail)
  have S := Lib.hid (S.out.set 28 (.slice none 0 0))
  clear c28 z28
  obtain ⟨W5, hW5⟩ : ∃ W : World, W = (W4.setCell ⟨w.heap.size, 28, none⟩ (.slice none 0 0)) := ⟨_, rfl⟩
  have S5 : Hid (BrW w (putAt (putAt (putAt (putAt (putAt (putAt (putAt (putAt (putAt X0 17 [.int .u32 0]) 18 [.int .u8 0]) 19 [.int .u8 0]) 20 [.int .u64 0]) 23 (#[.int .u8 0, .int .u32 0] : Array Value).toList) 25 [.int .u32 0]) 27 [.int .u32 0]) 26 [.int .u32 0]) 28 [.slice none 0 0]) W5) := Lib.hid (by rw [hW5]; exact S.out)
  rw [← hW5]
  clear hW5 S
  have S := Lib.hid S5.out
  clear S5
  have HS2 := Lib.hid (show (putAt (putAt (putAt (putAt (putAt (putAt (putAt (putAt (putAt X0 17 [.int .u32 0]) 18 [.int .u8 0]) 19 [.int .u8 0]) 20 [.int .u64 0]) 23 (#[.int .u8 0, .int .u32 0] : Array Value).toList) 25 [.int .u32 0]) 27 [.int .u32 0]) 26 [.int .u32 0]) 28 [.slice none 0 0]).size = 29 by simp only [putAt_size]; exact HSZ.out)
  rw [HE.out] at S HS2
  have HO2 := Lib.hid (opA_one_ (bareN x) none 0 0)
  generalize hY : opA (bareN x) (.slice none 0 0) = Y at *
  have HY := Lib.hid hY
  clear hY
  go_wp2_with (first
    | (refine wpList_load_row rfl 30 _ rfl w.heap.size rfl 30 Y (0, 0) _ S.out.k Tryd.underlying30 rfl (by rw [HS2.out]; exact size122) ?_)
    | (refine wpList_store_row rfl 30 _ _ rfl (w.heap.size + 1) Y rfl rfl 30 _ S.out.kr (by rw [HS2.out]; exact size122) (by rw [HS2.out]; rfl) HO2.out ?_))
  refine bodyPost_ret (results_cell_row rfl _ _ (w.heap.size + 1) 30 Y (0, 0) _ rfl (S.out.kr.row _) Tryd.underlying30 rfl (by rw [HS2.out]; exact size122)) rfl ?_
  exact ⟨by rw [HY.out], below_setRow S.out.b (by omega) _⟩
set_option maxRecDepth 100000 in
set_option maxHeartbeats 16000000 in
theorem bare_6 (w : World) (x : NOp) (A : Option Addr) (ln cap : Nat) (hx : x.ok) (hg : Glob w) (hk : x.kind = 6) : Calls Tryd.prog 19 #[.agg (opA x (.slice A ln cap))] w fun e w' => e = .returned (.agg (opA (bareN x) (.slice none 0 0))) ∧ Below w.heap.size w w' := by
  obtain ⟨k0, k1, hb⟩ := two_new w (opA x (.slice A ln cap)) (opA zeroO (.slice none 0 0)) 30 30
  have S : Hid (BrW w (opA x (.slice A ln cap)) _) := Lib.hid ⟨k0, k1, hb⟩
  have c14 := (k0.cell 14).trans (op_c14 x _ hx.dep8)
  rw [hk] at c14
  have g0 := (Glob.later hg hb) 6 (by omega)
  rw [show ((kindsF 6 : Nat) : Int) = 13 from rfl] at g0
  have HSZ := Lib.hid (opA_size x (.slice A ln cap) hx.dep8)
  have HO1 := Lib.hid (opA_one_ x A ln cap)
  have HE : Hid ((putAt (putAt (putAt (putAt (putAt (putAt (putAt (putAt (opA x (.slice A ln cap)) 17 [.int .u32 0]) 18 [.int .u8 0]) 19 [.int .u8 0]) 20 [.int .u64 0]) 25 [.int .u32 0]) 27 [.int .u32 0]) 26 [.int .u32 0]) 28 [.slice none 0 0]) = opA (bareN x) (.slice none 0 0)) := Lib.hid (by
    have h8 := hx.dep8
    clear S c14 g0 HSZ HO1 k0 k1 hb hg
    have e0 : (opA x (.slice A ln cap)) = opA x (.slice A ln cap) := rfl
    have e1 : (putAt (opA x (.slice A ln cap)) 17 [.int .u32 0]) = opA ({ x with dest := 0 } : NOp) (.slice A ln cap) := (congrArg (fun Y => putAt Y 17 [.int .u32 0]) e0).trans (op_put17 x (.slice A ln cap) h8 0)
    have e2 : (putAt (putAt (opA x (.slice A ln cap)) 17 [.int .u32 0]) 18 [.int .u8 0]) = opA ({ ({ x with dest := 0 } : NOp) with roles := 0 } : NOp) (.slice A ln cap) := (congrArg (fun Y => putAt Y 18 [.int .u8 0]) e1).trans (op_put18 ({ x with dest := 0 } : NOp) (.slice A ln cap) h8 0)
    have e3 : (putAt (putAt (putAt (opA x (.slice A ln cap)) 17 [.int .u32 0]) 18 [.int .u8 0]) 19 [.int .u8 0]) = opA ({ ({ ({ x with dest := 0 } : NOp) with roles := 0 } : NOp) with depth := 0 } : NOp) (.slice A ln cap) := (congrArg (fun Y => putAt Y 19 [.int .u8 0]) e2).trans (op_put19 ({ ({ x with dest := 0 } : NOp) with roles := 0 } : NOp) (.slice A ln cap) h8 0)
    have e4 : (putAt (putAt (putAt (putAt (opA x (.slice A ln cap)) 17 [.int .u32 0]) 18 [.int .u8 0]) 19 [.int .u8 0]) 20 [.int .u64 0]) = opA ({ ({ ({ ({ x with dest := 0 } : NOp) with roles := 0 } : NOp) with depth := 0 } : NOp) with cap := 0 } : NOp) (.slice A ln cap) := (congrArg (fun Y => putAt Y 20 [.int .u64 0]) e3).trans (op_put20 ({ ({ ({ x with dest := 0 } : NOp) with roles := 0 } : NOp) with depth := 0 } : NOp) (.slice A ln cap) h8 0)
    have e5 : (putAt (putAt (putAt (putAt (putAt (opA x (.slice A ln cap)) 17 [.int .u32 0]) 18 [.int .u8 0]) 19 [.int .u8 0]) 20 [.int .u64 0]) 25 [.int .u32 0]) = opA ({ ({ ({ ({ ({ x with dest := 0 } : NOp) with roles := 0 } : NOp) with depth := 0 } : NOp) with cap := 0 } : NOp) with item := 0 } : NOp) (.slice A ln cap) := (congrArg (fun Y => putAt Y 25 [.int .u32 0]) e4).trans (op_put25 ({ ({ ({ ({ x with dest := 0 } : NOp) with roles := 0 } : NOp) with depth := 0 } : NOp) with cap := 0 } : NOp) (.slice A ln cap) h8 0)
    have e6 : (putAt (putAt (putAt (putAt (putAt (putAt (opA x (.slice A ln cap)) 17 [.int .u32 0]) 18 [.int .u8 0]) 19 [.int .u8 0]) 20 [.int .u64 0]) 25 [.int .u32 0]) 27 [.int .u32 0]) = opA ({ ({ ({ ({ ({ ({ x with dest := 0 } : NOp) with roles := 0 } : NOp) with depth := 0 } : NOp) with cap := 0 } : NOp) with item := 0 } : NOp) with price := 0 } : NOp) (.slice A ln cap) := (congrArg (fun Y => putAt Y 27 [.int .u32 0]) e5).trans (op_put27 ({ ({ ({ ({ ({ x with dest := 0 } : NOp) with roles := 0 } : NOp) with depth := 0 } : NOp) with cap := 0 } : NOp) with item := 0 } : NOp) (.slice A ln cap) h8 0)
    have e7 : (putAt (putAt (putAt (putAt (putAt (putAt (putAt (opA x (.slice A ln cap)) 17 [.int .u32 0]) 18 [.int .u8 0]) 19 [.int .u8 0]) 20 [.int .u64 0]) 25 [.int .u32 0]) 27 [.int .u32 0]) 26 [.int .u32 0]) = opA ({ ({ ({ ({ ({ ({ ({ x with dest := 0 } : NOp) with roles := 0 } : NOp) with depth := 0 } : NOp) with cap := 0 } : NOp) with item := 0 } : NOp) with price := 0 } : NOp) with qty := 0 } : NOp) (.slice A ln cap) := (congrArg (fun Y => putAt Y 26 [.int .u32 0]) e6).trans (op_put26 ({ ({ ({ ({ ({ ({ x with dest := 0 } : NOp) with roles := 0 } : NOp) with depth := 0 } : NOp) with cap := 0 } : NOp) with item := 0 } : NOp) with price := 0 } : NOp) (.slice A ln cap) h8 0)
    have e8 : (putAt (putAt (putAt (putAt (putAt (putAt (putAt (putAt (opA x (.slice A ln cap)) 17 [.int .u32 0]) 18 [.int .u8 0]) 19 [.int .u8 0]) 20 [.int .u64 0]) 25 [.int .u32 0]) 27 [.int .u32 0]) 26 [.int .u32 0]) 28 [.slice none 0 0]) = opA ({ ({ ({ ({ ({ ({ ({ x with dest := 0 } : NOp) with roles := 0 } : NOp) with depth := 0 } : NOp) with cap := 0 } : NOp) with item := 0 } : NOp) with price := 0 } : NOp) with qty := 0 } : NOp) (.slice none 0 0) := (congrArg (fun Y => putAt Y 28 [.slice none 0 0]) e7).trans (op_put28 ({ ({ ({ ({ ({ ({ ({ x with dest := 0 } : NOp) with roles := 0 } : NOp) with depth := 0 } : NOp) with cap := 0 } : NOp) with item := 0 } : NOp) with price := 0 } : NOp) with qty := 0 } : NOp) (.slice A ln cap) (.slice none 0 0) h8)
    refine e8.trans ?_
    refine (opA_lines ({ ({ ({ ({ ({ ({ ({ x with dest := 0 } : NOp) with roles := 0 } : NOp) with depth := 0 } : NOp) with cap := 0 } : NOp) with item := 0 } : NOp) with price := 0 } : NOp) with qty := 0 } : NOp) _ []).symm.trans ?_
    refine congrArg (fun z => opA z _) ?_
    clear e0 e1 e2 e3 e4 e5 e6 e7 e8 h8
    cases x
    simp only at hk
    subst hk
    rfl)
  generalize hX : opA x (.slice A ln cap) = X0 at *
  clear hX k0 k1 hb hx hg hk
  rw [zO_eq] at S c14 g0
  have q1 : (bits BinOp.and IntKind.u8 (13 : Int) (1 : Int) == 0) = false := by kernel_rfl
  have q2 : (bits BinOp.and IntKind.u8 (13 : Int) (2 : Int) == 0) = true := by kernel_rfl
  have q4 : (bits BinOp.and IntKind.u8 (13 : Int) (4 : Int) == 0) = false := by kernel_rfl
  have q8 : (bits BinOp.and IntKind.u8 (13 : Int) (8 : Int) == 0) = false := by kernel_rfl
  have q16 : (bits BinOp.and IntKind.u8 (13 : Int) (16 : Int) == 0) = true := by kernel_rfl
  have q32 : (bits BinOp.and IntKind.u8 (13 : Int) (32 : Int) == 0) = true := by kernel_rfl
  have q64 : (bits BinOp.and IntKind.u8 (13 : Int) (64 : Int) == 0) = true := by kernel_rfl
  go_enter Tryd.func19, Tryd.ntmps19
  go_upto_region 5 with (fail)
  obtain ⟨W0, hW0⟩ : ∃ W : World, W = (w.alloc (.cells X0 30)).alloc (.cells #[.int .u8 0, .int .u32 0, .int .u32 0, .int .u32 0, .int .u32 0, .int .u32 0, .int .u32 0, .int .u32 0, .int .u32 0, .int .u32 0, .int .u64 0, .int .u32 0, .int .u8 0, .int .u32 0, .int .u8 0, .int .u8 0, .int .u32 0, .int .u32 0, .int .u8 0, .int .u8 0, .int .u64 0, .int .u8 0, .int .u32 0, .int .u8 0, .int .u32 0, .int .u32 0, .int .u32 0, .int .u32 0, .slice none 0 0] 30) := ⟨_, rfl⟩
  have S0 : Hid (BrW w X0 W0) := Lib.hid (by rw [hW0]; exact S.out)
  rw [← hW0]
  clear hW0 c14 g0 S
  have S := Lib.hid S0.out
  clear S0
  obtain ⟨v17, c17⟩ : ∃ v, W0.cell? ⟨w.heap.size, 17, none⟩ = some v := ⟨_, (S.out.k.cell 17).trans (Array.getElem?_eq_getElem (by have := HSZ.out; (try simp only [putAt_size]); omega))⟩
  have z17 := S.out.k.frozen 17
  obtain ⟨v18, c18⟩ : ∃ v, W0.cell? ⟨w.heap.size, 18, none⟩ = some v := ⟨_, (S.out.k.cell 18).trans (Array.getElem?_eq_getElem (by have := HSZ.out; (try simp only [putAt_size]); omega))⟩
  have z18 := S.out.k.frozen 18
  obtain ⟨v19, c19⟩ : ∃ v, W0.cell? ⟨w.heap.size, 19, none⟩ = some v := ⟨_, (S.out.k.cell 19).trans (Array.getElem?_eq_getElem (by have := HSZ.out; (try simp only [putAt_size]); omega))⟩
  have z19 := S.out.k.frozen 19
  obtain ⟨v20, c20⟩ : ∃ v, W0.cell? ⟨w.heap.size, 20, none⟩ = some v := ⟨_, (S.out.k.cell 20).trans (Array.getElem?_eq_getElem (by have := HSZ.out; (try simp only [putAt_size]); omega))⟩
  have z20 := S.out.k.frozen 20
  go_upto_region 6 with (fail)
  have S := Lib.hid (S.out.set 17 (.int .u32 0))
  have S := Lib.hid (S.out.set 18 (.int .u8 0))
  have S := Lib.hid (S.out.set 19 (.int .u8 0))
  have S := Lib.hid (S.out.set 20 (.int .u64 0))
  clear c17 z17
  clear c18 z18
  clear c19 z19
  clear c20 z20
  obtain ⟨W1, hW1⟩ : ∃ W : World, W = ((((W0.setCell ⟨w.heap.size, 17, none⟩ (.int .u32 0)).setCell ⟨w.heap.size, 18, none⟩ (.int .u8 0)).setCell ⟨w.heap.size, 19, none⟩ (.int .u8 0)).setCell ⟨w.heap.size, 20, none⟩ (.int .u64 0)) := ⟨_, rfl⟩
  have S1 : Hid (BrW w (putAt (putAt (putAt (putAt X0 17 [.int .u32 0]) 18 [.int .u8 0]) 19 [.int .u8 0]) 20 [.int .u64 0]) W1) := Lib.hid (by rw [hW1]; exact S.out)
  rw [← hW1]
  clear hW1 S
  have S := Lib.hid S1.out
  clear S1
  go_upto_region 11 with (fail)
  obtain ⟨v25, c25⟩ : ∃ v, W1.cell? ⟨w.heap.size, 25, none⟩ = some v := ⟨_, (S.out.k.cell 25).trans (Array.getElem?_eq_getElem (by have := HSZ.out; (try simp only [putAt_size]); omega))⟩
  have z25 := S.out.k.frozen 25
  obtain ⟨v27, c27⟩ : ∃ v, W1.cell? ⟨w.heap.size, 27, none⟩ = some v := ⟨_, (S.out.k.cell 27).trans (Array.getElem?_eq_getElem (by have := HSZ.out; (try simp only [putAt_size]); omega))⟩
  have z27 := S.out.k.frozen 27
  go_upto_region 12 with (fail)
  have S := Lib.hid (S.out.set 25 (.int .u32 0))
  have S := Lib.hid (S.out.set 27 (.int .u32 0))
  clear c25 z25
  clear c27 z27
  obtain ⟨W2, hW2⟩ : ∃ W : World, W = ((W1.setCell ⟨w.heap.size, 25, none⟩ (.int .u32 0)).setCell ⟨w.heap.size, 27, none⟩ (.int .u32 0)) := ⟨_, rfl⟩
  have S2 : Hid (BrW w (putAt (putAt (putAt (putAt (putAt (putAt X0 17 [.int .u32 0]) 18 [.int .u8 0]) 19 [.int .u8 0]) 20 [.int .u64 0]) 25 [.int .u32 0]) 27 [.int .u32 0]) W2) := Lib.hid (by rw [hW2]; exact S.out)
  rw [← hW2]
  clear hW2 S
  have S := Lib.hid S2.out
  clear S2
  go_upto_region 13 with (fail)
  obtain ⟨v26, c26⟩ : ∃ v, W2.cell? ⟨w.heap.size, 26, none⟩ = some v := ⟨_, (S.out.k.cell 26).trans (Array.getElem?_eq_getElem (by have := HSZ.out; (try simp only [putAt_size]); omega))⟩
  have z26 := S.out.k.frozen 26
  go_upto_region 14 with (fail)
  have S := Lib.hid (S.out.set 26 (.int .u32 0))
  clear c26 z26
  obtain ⟨W3, hW3⟩ : ∃ W : World, W = (W2.setCell ⟨w.heap.size, 26, none⟩ (.int .u32 0)) := ⟨_, rfl⟩
  have S3 : Hid (BrW w (putAt (putAt (putAt (putAt (putAt (putAt (putAt X0 17 [.int .u32 0]) 18 [.int .u8 0]) 19 [.int .u8 0]) 20 [.int .u64 0]) 25 [.int .u32 0]) 27 [.int .u32 0]) 26 [.int .u32 0]) W3) := Lib.hid (by rw [hW3]; exact S.out)
  rw [← hW3]
  clear hW3 S
  have S := Lib.hid S3.out
  clear S3
  go_upto_region 15 with (fail)
  obtain ⟨v28, c28⟩ : ∃ v, W3.cell? ⟨w.heap.size, 28, none⟩ = some v := ⟨_, (S.out.k.cell 28).trans (Array.getElem?_eq_getElem (by have := HSZ.out; (try simp only [putAt_size]); omega))⟩
  have z28 := S.out.k.frozen 28
  go_upto_region 16 with (fail)
  have S := Lib.hid (S.out.set 28 (.slice none 0 0))
  clear c28 z28
  obtain ⟨W4, hW4⟩ : ∃ W : World, W = (W3.setCell ⟨w.heap.size, 28, none⟩ (.slice none 0 0)) := ⟨_, rfl⟩
  have S4 : Hid (BrW w (putAt (putAt (putAt (putAt (putAt (putAt (putAt (putAt X0 17 [.int .u32 0]) 18 [.int .u8 0]) 19 [.int .u8 0]) 20 [.int .u64 0]) 25 [.int .u32 0]) 27 [.int .u32 0]) 26 [.int .u32 0]) 28 [.slice none 0 0]) W4) := Lib.hid (by rw [hW4]; exact S.out)
  rw [← hW4]
  clear hW4 S
  have S := Lib.hid S4.out
  clear S4
  have HS2 := Lib.hid (show (putAt (putAt (putAt (putAt (putAt (putAt (putAt (putAt X0 17 [.int .u32 0]) 18 [.int .u8 0]) 19 [.int .u8 0]) 20 [.int .u64 0]) 25 [.int .u32 0]) 27 [.int .u32 0]) 26 [.int .u32 0]) 28 [.slice none 0 0]).size = 29 by simp only [putAt_size]; exact HSZ.out)
  rw [HE.out] at S HS2
  have HO2 := Lib.hid (opA_one_ (bareN x) none 0 0)
  generalize hY : opA (bareN x) (.slice none 0 0) = Y at *
  have HY := Lib.hid hY
  clear hY
  go_wp2_with (first
    | (refine wpList_load_row rfl 30 _ rfl w.heap.size rfl 30 Y (0, 0) _ S.out.k Tryd.underlying30 rfl (by rw [HS2.out]; exact size122) ?_)
    | (refine wpList_store_row rfl 30 _ _ rfl (w.heap.size + 1) Y rfl rfl 30 _ S.out.kr (by rw [HS2.out]; exact size122) (by rw [HS2.out]; rfl) HO2.out ?_))
  refine bodyPost_ret (results_cell_row rfl _ _ (w.heap.size + 1) 30 Y (0, 0) _ rfl (S.out.kr.row _) Tryd.underlying30 rfl (by rw [HS2.out]; exact size122)) rfl ?_
  exact ⟨by rw [HY.out], below_setRow S.out.b (by omega) _⟩
set_option maxRecDepth 100000 in
set_option maxHeartbeats 16000000 in
theorem bare_7 (w : World) (x : NOp) (A : Option Addr) (ln cap : Nat) (hx : x.ok) (hg : Glob w) (hk : x.kind = 7) : Calls Tryd.prog 19 #[.agg (opA x (.slice A ln cap))] w fun e w' => e = .returned (.agg (opA (bareN x) (.slice none 0 0))) ∧ Below w.heap.size w w' := by
  obtain ⟨k0, k1, hb⟩ := two_new w (opA x (.slice A ln cap)) (opA zeroO (.slice none 0 0)) 30 30
  have S : Hid (BrW w (opA x (.slice A ln cap)) _) := Lib.hid ⟨k0, k1, hb⟩
  have c14 := (k0.cell 14).trans (op_c14 x _ hx.dep8)
  rw [hk] at c14
  have g0 := (Glob.later hg hb) 7 (by omega)
  rw [show ((kindsF 7 : Nat) : Int) = 13 from rfl] at g0
  have HSZ := Lib.hid (opA_size x (.slice A ln cap) hx.dep8)
  have HO1 := Lib.hid (opA_one_ x A ln cap)
  have HE : Hid ((putAt (putAt (putAt (putAt (putAt (putAt (putAt (putAt (opA x (.slice A ln cap)) 17 [.int .u32 0]) 18 [.int .u8 0]) 19 [.int .u8 0]) 20 [.int .u64 0]) 25 [.int .u32 0]) 27 [.int .u32 0]) 26 [.int .u32 0]) 28 [.slice none 0 0]) = opA (bareN x) (.slice none 0 0)) := Lib.hid (by
    have h8 := hx.dep8
    clear S c14 g0 HSZ HO1 k0 k1 hb hg
    have e0 : (opA x (.slice A ln cap)) = opA x (.slice A ln cap) := rfl
    have e1 : (putAt (opA x (.slice A ln cap)) 17 [.int .u32 0]) = opA ({ x with dest := 0 } : NOp) (.slice A ln cap) := (congrArg (fun Y => putAt Y 17 [.int .u32 0]) e0).trans (op_put17 x (.slice A ln cap) h8 0)
    have e2 : (putAt (putAt (opA x (.slice A ln cap)) 17 [.int .u32 0]) 18 [.int .u8 0]) = opA ({ ({ x with dest := 0 } : NOp) with roles := 0 } : NOp) (.slice A ln cap) := (congrArg (fun Y => putAt Y 18 [.int .u8 0]) e1).trans (op_put18 ({ x with dest := 0 } : NOp) (.slice A ln cap) h8 0)
    have e3 : (putAt (putAt (putAt (opA x (.slice A ln cap)) 17 [.int .u32 0]) 18 [.int .u8 0]) 19 [.int .u8 0]) = opA ({ ({ ({ x with dest := 0 } : NOp) with roles := 0 } : NOp) with depth := 0 } : NOp) (.slice A ln cap) := (congrArg (fun Y => putAt Y 19 [.int .u8 0]) e2).trans (op_put19 ({ ({ x with dest := 0 } : NOp) with roles := 0 } : NOp) (.slice A ln cap) h8 0)
    have e4 : (putAt (putAt (putAt (putAt (opA x (.slice A ln cap)) 17 [.int .u32 0]) 18 [.int .u8 0]) 19 [.int .u8 0]) 20 [.int .u64 0]) = opA ({ ({ ({ ({ x with dest := 0 } : NOp) with roles := 0 } : NOp) with depth := 0 } : NOp) with cap := 0 } : NOp) (.slice A ln cap) := (congrArg (fun Y => putAt Y 20 [.int .u64 0]) e3).trans (op_put20 ({ ({ ({ x with dest := 0 } : NOp) with roles := 0 } : NOp) with depth := 0 } : NOp) (.slice A ln cap) h8 0)
    have e5 : (putAt (putAt (putAt (putAt (putAt (opA x (.slice A ln cap)) 17 [.int .u32 0]) 18 [.int .u8 0]) 19 [.int .u8 0]) 20 [.int .u64 0]) 25 [.int .u32 0]) = opA ({ ({ ({ ({ ({ x with dest := 0 } : NOp) with roles := 0 } : NOp) with depth := 0 } : NOp) with cap := 0 } : NOp) with item := 0 } : NOp) (.slice A ln cap) := (congrArg (fun Y => putAt Y 25 [.int .u32 0]) e4).trans (op_put25 ({ ({ ({ ({ x with dest := 0 } : NOp) with roles := 0 } : NOp) with depth := 0 } : NOp) with cap := 0 } : NOp) (.slice A ln cap) h8 0)
    have e6 : (putAt (putAt (putAt (putAt (putAt (putAt (opA x (.slice A ln cap)) 17 [.int .u32 0]) 18 [.int .u8 0]) 19 [.int .u8 0]) 20 [.int .u64 0]) 25 [.int .u32 0]) 27 [.int .u32 0]) = opA ({ ({ ({ ({ ({ ({ x with dest := 0 } : NOp) with roles := 0 } : NOp) with depth := 0 } : NOp) with cap := 0 } : NOp) with item := 0 } : NOp) with price := 0 } : NOp) (.slice A ln cap) := (congrArg (fun Y => putAt Y 27 [.int .u32 0]) e5).trans (op_put27 ({ ({ ({ ({ ({ x with dest := 0 } : NOp) with roles := 0 } : NOp) with depth := 0 } : NOp) with cap := 0 } : NOp) with item := 0 } : NOp) (.slice A ln cap) h8 0)
    have e7 : (putAt (putAt (putAt (putAt (putAt (putAt (putAt (opA x (.slice A ln cap)) 17 [.int .u32 0]) 18 [.int .u8 0]) 19 [.int .u8 0]) 20 [.int .u64 0]) 25 [.int .u32 0]) 27 [.int .u32 0]) 26 [.int .u32 0]) = opA ({ ({ ({ ({ ({ ({ ({ x with dest := 0 } : NOp) with roles := 0 } : NOp) with depth := 0 } : NOp) with cap := 0 } : NOp) with item := 0 } : NOp) with price := 0 } : NOp) with qty := 0 } : NOp) (.slice A ln cap) := (congrArg (fun Y => putAt Y 26 [.int .u32 0]) e6).trans (op_put26 ({ ({ ({ ({ ({ ({ x with dest := 0 } : NOp) with roles := 0 } : NOp) with depth := 0 } : NOp) with cap := 0 } : NOp) with item := 0 } : NOp) with price := 0 } : NOp) (.slice A ln cap) h8 0)
    have e8 : (putAt (putAt (putAt (putAt (putAt (putAt (putAt (putAt (opA x (.slice A ln cap)) 17 [.int .u32 0]) 18 [.int .u8 0]) 19 [.int .u8 0]) 20 [.int .u64 0]) 25 [.int .u32 0]) 27 [.int .u32 0]) 26 [.int .u32 0]) 28 [.slice none 0 0]) = opA ({ ({ ({ ({ ({ ({ ({ x with dest := 0 } : NOp) with roles := 0 } : NOp) with depth := 0 } : NOp) with cap := 0 } : NOp) with item := 0 } : NOp) with price := 0 } : NOp) with qty := 0 } : NOp) (.slice none 0 0) := (congrArg (fun Y => putAt Y 28 [.slice none 0 0]) e7).trans (op_put28 ({ ({ ({ ({ ({ ({ ({ x with dest := 0 } : NOp) with roles := 0 } : NOp) with depth := 0 } : NOp) with cap := 0 } : NOp) with item := 0 } : NOp) with price := 0 } : NOp) with qty := 0 } : NOp) (.slice A ln cap) (.slice none 0 0) h8)
    refine e8.trans ?_
    refine (opA_lines ({ ({ ({ ({ ({ ({ ({ x with dest := 0 } : NOp) with roles := 0 } : NOp) with depth := 0 } : NOp) with cap := 0 } : NOp) with item := 0 } : NOp) with price := 0 } : NOp) with qty := 0 } : NOp) _ []).symm.trans ?_
    refine congrArg (fun z => opA z _) ?_
    clear e0 e1 e2 e3 e4 e5 e6 e7 e8 h8
    cases x
    simp only at hk
    subst hk
    rfl)
  generalize hX : opA x (.slice A ln cap) = X0 at *
  clear hX k0 k1 hb hx hg hk
  rw [zO_eq] at S c14 g0
  have q1 : (bits BinOp.and IntKind.u8 (13 : Int) (1 : Int) == 0) = false := by kernel_rfl
  have q2 : (bits BinOp.and IntKind.u8 (13 : Int) (2 : Int) == 0) = true := by kernel_rfl
  have q4 : (bits BinOp.and IntKind.u8 (13 : Int) (4 : Int) == 0) = false := by kernel_rfl
  have q8 : (bits BinOp.and IntKind.u8 (13 : Int) (8 : Int) == 0) = false := by kernel_rfl
  have q16 : (bits BinOp.and IntKind.u8 (13 : Int) (16 : Int) == 0) = true := by kernel_rfl
  have q32 : (bits BinOp.and IntKind.u8 (13 : Int) (32 : Int) == 0) = true := by kernel_rfl
  have q64 : (bits BinOp.and IntKind.u8 (13 : Int) (64 : Int) == 0) = true := by kernel_rfl
  go_enter Tryd.func19, Tryd.ntmps19
  go_upto_region 5 with (fail)
  obtain ⟨W0, hW0⟩ : ∃ W : World, W = (w.alloc (.cells X0 30)).alloc (.cells #[.int .u8 0, .int .u32 0, .int .u32 0, .int .u32 0, .int .u32 0, .int .u32 0, .int .u32 0, .int .u32 0, .int .u32 0, .int .u32 0, .int .u64 0, .int .u32 0, .int .u8 0, .int .u32 0, .int .u8 0, .int .u8 0, .int .u32 0, .int .u32 0, .int .u8 0, .int .u8 0, .int .u64 0, .int .u8 0, .int .u32 0, .int .u8 0, .int .u32 0, .int .u32 0, .int .u32 0, .int .u32 0, .slice none 0 0] 30) := ⟨_, rfl⟩
  have S0 : Hid (BrW w X0 W0) := Lib.hid (by rw [hW0]; exact S.out)
  rw [← hW0]
  clear hW0 c14 g0 S
  have S := Lib.hid S0.out
  clear S0
  obtain ⟨v17, c17⟩ : ∃ v, W0.cell? ⟨w.heap.size, 17, none⟩ = some v := ⟨_, (S.out.k.cell 17).trans (Array.getElem?_eq_getElem (by have := HSZ.out; (try simp only [putAt_size]); omega))⟩
  have z17 := S.out.k.frozen 17
  obtain ⟨v18, c18⟩ : ∃ v, W0.cell? ⟨w.heap.size, 18, none⟩ = some v := ⟨_, (S.out.k.cell 18).trans (Array.getElem?_eq_getElem (by have := HSZ.out; (try simp only [putAt_size]); omega))⟩
  have z18 := S.out.k.frozen 18
  obtain ⟨v19, c19⟩ : ∃ v, W0.cell? ⟨w.heap.size, 19, none⟩ = some v := ⟨_, (S.out.k.cell 19).trans (Array.getElem?_eq_getElem (by have := HSZ.out; (try simp only [putAt_size]); omega))⟩
  have z19 := S.out.k.frozen 19
  obtain ⟨v20, c20⟩ : ∃ v, W0.cell? ⟨w.heap.size, 20, none⟩ = some v := ⟨_, (S.out.k.cell 20).trans (Array.getElem?_eq_getElem (by have := HSZ.out; (try simp only [putAt_size]); omega))⟩
  have z20 := S.out.k.frozen 20
  go_upto_region 6 with (fail)
  have S := Lib.hid (S.out.set 17 (.int .u32 0))
  have S := Lib.hid (S.out.set 18 (.int .u8 0))
  have S := Lib.hid (S.out.set 19 (.int .u8 0))
  have S := Lib.hid (S.out.set 20 (.int .u64 0))
  clear c17 z17
  clear c18 z18
  clear c19 z19
  clear c20 z20
  obtain ⟨W1, hW1⟩ : ∃ W : World, W = ((((W0.setCell ⟨w.heap.size, 17, none⟩ (.int .u32 0)).setCell ⟨w.heap.size, 18, none⟩ (.int .u8 0)).setCell ⟨w.heap.size, 19, none⟩ (.int .u8 0)).setCell ⟨w.heap.size, 20, none⟩ (.int .u64 0)) := ⟨_, rfl⟩
  have S1 : Hid (BrW w (putAt (putAt (putAt (putAt X0 17 [.int .u32 0]) 18 [.int .u8 0]) 19 [.int .u8 0]) 20 [.int .u64 0]) W1) := Lib.hid (by rw [hW1]; exact S.out)
  rw [← hW1]
  clear hW1 S
  have S := Lib.hid S1.out
  clear S1
  go_upto_region 11 with (fail)
  obtain ⟨v25, c25⟩ : ∃ v, W1.cell? ⟨w.heap.size, 25, none⟩ = some v := ⟨_, (S.out.k.cell 25).trans (Array.getElem?_eq_getElem (by have := HSZ.out; (try simp only [putAt_size]); omega))⟩
  have z25 := S.out.k.frozen 25
  obtain ⟨v27, c27⟩ : ∃ v, W1.cell? ⟨w.heap.size, 27, none⟩ = some v := ⟨_, (S.out.k.cell 27).trans (Array.getElem?_eq_getElem (by have := HSZ.out; (try simp only [putAt_size]); omega))⟩
  have z27 := S.out.k.frozen 27
  go_upto_region 12 with (fail)
  have S := Lib.hid (S.out.set 25 (.int .u32 0))
  have S := Lib.hid (S.out.set 27 (.int .u32 0))
  clear c25 z25
  clear c27 z27
  obtain ⟨W2, hW2⟩ : ∃ W : World, W = ((W1.setCell ⟨w.heap.size, 25, none⟩ (.int .u32 0)).setCell ⟨w.heap.size, 27, none⟩ (.int .u32 0)) := ⟨_, rfl⟩
  have S2 : Hid (BrW w (putAt (putAt (putAt (putAt (putAt (putAt X0 17 [.int .u32 0]) 18 [.int .u8 0]) 19 [.int .u8 0]) 20 [.int .u64 0]) 25 [.int .u32 0]) 27 [.int .u32 0]) W2) := Lib.hid (by rw [hW2]; exact S.out)
  rw [← hW2]
  clear hW2 S
  have S := Lib.hid S2.out
  clear S2
  go_upto_region 13 with (fail)
  obtain ⟨v26, c26⟩ : ∃ v, W2.cell? ⟨w.heap.size, 26, none⟩ = some v := ⟨_, (S.out.k.cell 26).trans (Array.getElem?_eq_getElem (by have := HSZ.out; (try simp only [putAt_size]); omega))⟩
  have z26 := S.out.k.frozen 26
  go_upto_region 14 with (fail)
  have S := Lib.hid (S.out.set 26 (.int .u32 0))
  clear c26 z26
  obtain ⟨W3, hW3⟩ : ∃ W : World, W = (W2.setCell ⟨w.heap.size, 26, none⟩ (.int .u32 0)) := ⟨_, rfl⟩
  have S3 : Hid (BrW w (putAt (putAt (putAt (putAt (putAt (putAt (putAt X0 17 [.int .u32 0]) 18 [.int .u8 0]) 19 [.int .u8 0]) 20 [.int .u64 0]) 25 [.int .u32 0]) 27 [.int .u32 0]) 26 [.int .u32 0]) W3) := Lib.hid (by rw [hW3]; exact S.out)
  rw [← hW3]
  clear hW3 S
  have S := Lib.hid S3.out
  clear S3
  go_upto_region 15 with (fail)
  obtain ⟨v28, c28⟩ : ∃ v, W3.cell? ⟨w.heap.size, 28, none⟩ = some v := ⟨_, (S.out.k.cell 28).trans (Array.getElem?_eq_getElem (by have := HSZ.out; (try simp only [putAt_size]); omega))⟩
  have z28 := S.out.k.frozen 28
  go_upto_region 16 with (fail)
  have S := Lib.hid (S.out.set 28 (.slice none 0 0))
  clear c28 z28
  obtain ⟨W4, hW4⟩ : ∃ W : World, W = (W3.setCell ⟨w.heap.size, 28, none⟩ (.slice none 0 0)) := ⟨_, rfl⟩
  have S4 : Hid (BrW w (putAt (putAt (putAt (putAt (putAt (putAt (putAt (putAt X0 17 [.int .u32 0]) 18 [.int .u8 0]) 19 [.int .u8 0]) 20 [.int .u64 0]) 25 [.int .u32 0]) 27 [.int .u32 0]) 26 [.int .u32 0]) 28 [.slice none 0 0]) W4) := Lib.hid (by rw [hW4]; exact S.out)
  rw [← hW4]
  clear hW4 S
  have S := Lib.hid S4.out
  clear S4
  have HS2 := Lib.hid (show (putAt (putAt (putAt (putAt (putAt (putAt (putAt (putAt X0 17 [.int .u32 0]) 18 [.int .u8 0]) 19 [.int .u8 0]) 20 [.int .u64 0]) 25 [.int .u32 0]) 27 [.int .u32 0]) 26 [.int .u32 0]) 28 [.slice none 0 0]).size = 29 by simp only [putAt_size]; exact HSZ.out)
  rw [HE.out] at S HS2
  have HO2 := Lib.hid (opA_one_ (bareN x) none 0 0)
  generalize hY : opA (bareN x) (.slice none 0 0) = Y at *
  have HY := Lib.hid hY
  clear hY
  go_wp2_with (first
    | (refine wpList_load_row rfl 30 _ rfl w.heap.size rfl 30 Y (0, 0) _ S.out.k Tryd.underlying30 rfl (by rw [HS2.out]; exact size122) ?_)
    | (refine wpList_store_row rfl 30 _ _ rfl (w.heap.size + 1) Y rfl rfl 30 _ S.out.kr (by rw [HS2.out]; exact size122) (by rw [HS2.out]; rfl) HO2.out ?_))
  refine bodyPost_ret (results_cell_row rfl _ _ (w.heap.size + 1) 30 Y (0, 0) _ rfl (S.out.kr.row _) Tryd.underlying30 rfl (by rw [HS2.out]; exact size122)) rfl ?_
  exact ⟨by rw [HY.out], below_setRow S.out.b (by omega) _⟩
set_option maxRecDepth 100000 in
set_option maxHeartbeats 16000000 in
theorem bare_8 (w : World) (x : NOp) (A : Option Addr) (ln cap : Nat) (hx : x.ok) (hg : Glob w) (hk : x.kind = 8) : Calls Tryd.prog 19 #[.agg (opA x (.slice A ln cap))] w fun e w' => e = .returned (.agg (opA (bareN x) (.slice A ln cap))) ∧ Below w.heap.size w w' := by
  obtain ⟨k0, k1, hb⟩ := two_new w (opA x (.slice A ln cap)) (opA zeroO (.slice none 0 0)) 30 30
  have S : Hid (BrW w (opA x (.slice A ln cap)) _) := Lib.hid ⟨k0, k1, hb⟩
  have c14 := (k0.cell 14).trans (op_c14 x _ hx.dep8)
  rw [hk] at c14
  have g0 := (Glob.later hg hb) 8 (by omega)
  rw [show ((kindsF 8 : Nat) : Int) = 65 from rfl] at g0
  have HSZ := Lib.hid (opA_size x (.slice A ln cap) hx.dep8)
  have HO1 := Lib.hid (opA_one_ x A ln cap)
  have HE : Hid ((putAt (putAt (putAt (putAt (putAt (putAt (putAt (putAt (putAt (opA x (.slice A ln cap)) 17 [.int .u32 0]) 18 [.int .u8 0]) 19 [.int .u8 0]) 20 [.int .u64 0]) 21 (#[.int .u8 0, .int .u32 0] : Array Value).toList) 23 (#[.int .u8 0, .int .u32 0] : Array Value).toList) 25 [.int .u32 0]) 27 [.int .u32 0]) 26 [.int .u32 0]) = opA (bareN x) (.slice A ln cap)) := Lib.hid (by
    have h8 := hx.dep8
    clear S c14 g0 HSZ HO1 k0 k1 hb hg
    have e0 : (opA x (.slice A ln cap)) = opA x (.slice A ln cap) := rfl
    have e1 : (putAt (opA x (.slice A ln cap)) 17 [.int .u32 0]) = opA ({ x with dest := 0 } : NOp) (.slice A ln cap) := (congrArg (fun Y => putAt Y 17 [.int .u32 0]) e0).trans (op_put17 x (.slice A ln cap) h8 0)
    have e2 : (putAt (putAt (opA x (.slice A ln cap)) 17 [.int .u32 0]) 18 [.int .u8 0]) = opA ({ ({ x with dest := 0 } : NOp) with roles := 0 } : NOp) (.slice A ln cap) := (congrArg (fun Y => putAt Y 18 [.int .u8 0]) e1).trans (op_put18 ({ x with dest := 0 } : NOp) (.slice A ln cap) h8 0)
    have e3 : (putAt (putAt (putAt (opA x (.slice A ln cap)) 17 [.int .u32 0]) 18 [.int .u8 0]) 19 [.int .u8 0]) = opA ({ ({ ({ x with dest := 0 } : NOp) with roles := 0 } : NOp) with depth := 0 } : NOp) (.slice A ln cap) := (congrArg (fun Y => putAt Y 19 [.int .u8 0]) e2).trans (op_put19 ({ ({ x with dest := 0 } : NOp) with roles := 0 } : NOp) (.slice A ln cap) h8 0)
    have e4 : (putAt (putAt (putAt (putAt (opA x (.slice A ln cap)) 17 [.int .u32 0]) 18 [.int .u8 0]) 19 [.int .u8 0]) 20 [.int .u64 0]) = opA ({ ({ ({ ({ x with dest := 0 } : NOp) with roles := 0 } : NOp) with depth := 0 } : NOp) with cap := 0 } : NOp) (.slice A ln cap) := (congrArg (fun Y => putAt Y 20 [.int .u64 0]) e3).trans (op_put20 ({ ({ ({ x with dest := 0 } : NOp) with roles := 0 } : NOp) with depth := 0 } : NOp) (.slice A ln cap) h8 0)
    have e5 : (putAt (putAt (putAt (putAt (putAt (opA x (.slice A ln cap)) 17 [.int .u32 0]) 18 [.int .u8 0]) 19 [.int .u8 0]) 20 [.int .u64 0]) 21 (#[.int .u8 0, .int .u32 0] : Array Value).toList) = opA ({ ({ ({ ({ ({ x with dest := 0 } : NOp) with roles := 0 } : NOp) with depth := 0 } : NOp) with cap := 0 } : NOp) with ar := 0, an := 0 } : NOp) (.slice A ln cap) := (congrArg (fun Y => putAt Y 21 (#[.int .u8 0, .int .u32 0] : Array Value).toList) e4).trans (op_put21 ({ ({ ({ ({ x with dest := 0 } : NOp) with roles := 0 } : NOp) with depth := 0 } : NOp) with cap := 0 } : NOp) (.slice A ln cap) h8 0 0)
    have e6 : (putAt (putAt (putAt (putAt (putAt (putAt (opA x (.slice A ln cap)) 17 [.int .u32 0]) 18 [.int .u8 0]) 19 [.int .u8 0]) 20 [.int .u64 0]) 21 (#[.int .u8 0, .int .u32 0] : Array Value).toList) 23 (#[.int .u8 0, .int .u32 0] : Array Value).toList) = opA ({ ({ ({ ({ ({ ({ x with dest := 0 } : NOp) with roles := 0 } : NOp) with depth := 0 } : NOp) with cap := 0 } : NOp) with ar := 0, an := 0 } : NOp) with vr := 0, vn := 0 } : NOp) (.slice A ln cap) := (congrArg (fun Y => putAt Y 23 (#[.int .u8 0, .int .u32 0] : Array Value).toList) e5).trans (op_put23 ({ ({ ({ ({ ({ x with dest := 0 } : NOp) with roles := 0 } : NOp) with depth := 0 } : NOp) with cap := 0 } : NOp) with ar := 0, an := 0 } : NOp) (.slice A ln cap) h8 0 0)
    have e7 : (putAt (putAt (putAt (putAt (putAt (putAt (putAt (opA x (.slice A ln cap)) 17 [.int .u32 0]) 18 [.int .u8 0]) 19 [.int .u8 0]) 20 [.int .u64 0]) 21 (#[.int .u8 0, .int .u32 0] : Array Value).toList) 23 (#[.int .u8 0, .int .u32 0] : Array Value).toList) 25 [.int .u32 0]) = opA ({ ({ ({ ({ ({ ({ ({ x with dest := 0 } : NOp) with roles := 0 } : NOp) with depth := 0 } : NOp) with cap := 0 } : NOp) with ar := 0, an := 0 } : NOp) with vr := 0, vn := 0 } : NOp) with item := 0 } : NOp) (.slice A ln cap) := (congrArg (fun Y => putAt Y 25 [.int .u32 0]) e6).trans (op_put25 ({ ({ ({ ({ ({ ({ x with dest := 0 } : NOp) with roles := 0 } : NOp) with depth := 0 } : NOp) with cap := 0 } : NOp) with ar := 0, an := 0 } : NOp) with vr := 0, vn := 0 } : NOp) (.slice A ln cap) h8 0)
    have e8 : (putAt (putAt (putAt (putAt (putAt (putAt (putAt (putAt (opA x (.slice A ln cap)) 17 [.int .u32 0]) 18 [.int .u8 0]) 19 [.int .u8 0]) 20 [.int .u64 0]) 21 (#[.int .u8 0, .int .u32 0] : Array Value).toList) 23 (#[.int .u8 0, .int .u32 0] : Array Value).toList) 25 [.int .u32 0]) 27 [.int .u32 0]) = opA ({ ({ ({ ({ ({ ({ ({ ({ x with dest := 0 } : NOp) with roles := 0 } : NOp) with depth := 0 } : NOp) with cap := 0 } : NOp) with ar := 0, an := 0 } : NOp) with vr := 0, vn := 0 } : NOp) with item := 0 } : NOp) with price := 0 } : NOp) (.slice A ln cap) := (congrArg (fun Y => putAt Y 27 [.int .u32 0]) e7).trans (op_put27 ({ ({ ({ ({ ({ ({ ({ x with dest := 0 } : NOp) with roles := 0 } : NOp) with depth := 0 } : NOp) with cap := 0 } : NOp) with ar := 0, an := 0 } : NOp) with vr := 0, vn := 0 } : NOp) with item := 0 } : NOp) (.slice A ln cap) h8 0)
    have e9 : (putAt (putAt (putAt (putAt (putAt (putAt (putAt (putAt (putAt (opA x (.slice A ln cap)) 17 [.int .u32 0]) 18 [.int .u8 0]) 19 [.int .u8 0]) 20 [.int .u64 0]) 21 (#[.int .u8 0, .int .u32 0] : Array Value).toList) 23 (#[.int .u8 0, .int .u32 0] : Array Value).toList) 25 [.int .u32 0]) 27 [.int .u32 0]) 26 [.int .u32 0]) = opA ({ ({ ({ ({ ({ ({ ({ ({ ({ x with dest := 0 } : NOp) with roles := 0 } : NOp) with depth := 0 } : NOp) with cap := 0 } : NOp) with ar := 0, an := 0 } : NOp) with vr := 0, vn := 0 } : NOp) with item := 0 } : NOp) with price := 0 } : NOp) with qty := 0 } : NOp) (.slice A ln cap) := (congrArg (fun Y => putAt Y 26 [.int .u32 0]) e8).trans (op_put26 ({ ({ ({ ({ ({ ({ ({ ({ x with dest := 0 } : NOp) with roles := 0 } : NOp) with depth := 0 } : NOp) with cap := 0 } : NOp) with ar := 0, an := 0 } : NOp) with vr := 0, vn := 0 } : NOp) with item := 0 } : NOp) with price := 0 } : NOp) (.slice A ln cap) h8 0)
    refine e9.trans ?_
    refine congrArg (fun z => opA z _) ?_
    clear e0 e1 e2 e3 e4 e5 e6 e7 e8 e9 h8
    cases x
    simp only at hk
    subst hk
    rfl)
  generalize hX : opA x (.slice A ln cap) = X0 at *
  clear hX k0 k1 hb hx hg hk
  rw [zO_eq] at S c14 g0
  have q1 : (bits BinOp.and IntKind.u8 (65 : Int) (1 : Int) == 0) = false := by kernel_rfl
  have q2 : (bits BinOp.and IntKind.u8 (65 : Int) (2 : Int) == 0) = true := by kernel_rfl
  have q4 : (bits BinOp.and IntKind.u8 (65 : Int) (4 : Int) == 0) = true := by kernel_rfl
  have q8 : (bits BinOp.and IntKind.u8 (65 : Int) (8 : Int) == 0) = true := by kernel_rfl
  have q16 : (bits BinOp.and IntKind.u8 (65 : Int) (16 : Int) == 0) = true := by kernel_rfl
  have q32 : (bits BinOp.and IntKind.u8 (65 : Int) (32 : Int) == 0) = true := by kernel_rfl
  have q64 : (bits BinOp.and IntKind.u8 (65 : Int) (64 : Int) == 0) = false := by kernel_rfl
  go_enter Tryd.func19, Tryd.ntmps19
  go_upto_region 5 with (fail)
  obtain ⟨W0, hW0⟩ : ∃ W : World, W = (w.alloc (.cells X0 30)).alloc (.cells #[.int .u8 0, .int .u32 0, .int .u32 0, .int .u32 0, .int .u32 0, .int .u32 0, .int .u32 0, .int .u32 0, .int .u32 0, .int .u32 0, .int .u64 0, .int .u32 0, .int .u8 0, .int .u32 0, .int .u8 0, .int .u8 0, .int .u32 0, .int .u32 0, .int .u8 0, .int .u8 0, .int .u64 0, .int .u8 0, .int .u32 0, .int .u8 0, .int .u32 0, .int .u32 0, .int .u32 0, .int .u32 0, .slice none 0 0] 30) := ⟨_, rfl⟩
  have S0 : Hid (BrW w X0 W0) := Lib.hid (by rw [hW0]; exact S.out)
  rw [← hW0]
  clear hW0 c14 g0 S
  have S := Lib.hid S0.out
  clear S0
  obtain ⟨v17, c17⟩ : ∃ v, W0.cell? ⟨w.heap.size, 17, none⟩ = some v := ⟨_, (S.out.k.cell 17).trans (Array.getElem?_eq_getElem (by have := HSZ.out; (try simp only [putAt_size]); omega))⟩
  have z17 := S.out.k.frozen 17
  obtain ⟨v18, c18⟩ : ∃ v, W0.cell? ⟨w.heap.size, 18, none⟩ = some v := ⟨_, (S.out.k.cell 18).trans (Array.getElem?_eq_getElem (by have := HSZ.out; (try simp only [putAt_size]); omega))⟩
  have z18 := S.out.k.frozen 18
  obtain ⟨v19, c19⟩ : ∃ v, W0.cell? ⟨w.heap.size, 19, none⟩ = some v := ⟨_, (S.out.k.cell 19).trans (Array.getElem?_eq_getElem (by have := HSZ.out; (try simp only [putAt_size]); omega))⟩
  have z19 := S.out.k.frozen 19
  obtain ⟨v20, c20⟩ : ∃ v, W0.cell? ⟨w.heap.size, 20, none⟩ = some v := ⟨_, (S.out.k.cell 20).trans (Array.getElem?_eq_getElem (by have := HSZ.out; (try simp only [putAt_size]); omega))⟩
  have z20 := S.out.k.frozen 20
  go_upto_region 6 with (fail)
  have S := Lib.hid (S.out.set 17 (.int .u32 0))
  have S := Lib.hid (S.out.set 18 (.int .u8 0))
  have S := Lib.hid (S.out.set 19 (.int .u8 0))
  have S := Lib.hid (S.out.set 20 (.int .u64 0))
  clear c17 z17
  clear c18 z18
  clear c19 z19
  clear c20 z20
  obtain ⟨W1, hW1⟩ : ∃ W : World, W = ((((W0.setCell ⟨w.heap.size, 17, none⟩ (.int .u32 0)).setCell ⟨w.heap.size, 18, none⟩ (.int .u8 0)).setCell ⟨w.heap.size, 19, none⟩ (.int .u8 0)).setCell ⟨w.heap.size, 20, none⟩ (.int .u64 0)) := ⟨_, rfl⟩
  have S1 : Hid (BrW w (putAt (putAt (putAt (putAt X0 17 [.int .u32 0]) 18 [.int .u8 0]) 19 [.int .u8 0]) 20 [.int .u64 0]) W1) := Lib.hid (by rw [hW1]; exact S.out)
  rw [← hW1]
  clear hW1 S
  have S := Lib.hid S1.out
  clear S1
  go_upto_region 7 with (fail)
  have HT := Lib.hid (S.out.k.there (o := 21) (n := 2) (by have := HSZ.out; (try simp only [putAt_size]); omega))
  have S := Lib.hid (S.out.sets 21 (#[.int .u8 0, .int .u32 0] : Array Value).toList)
  go_upto_region 8 with (refine wpList_store_mid rfl 24 _ _ rfl w.heap.size 21 #[.int .u8 0, .int .u32 0] rfl rfl HT.out zdot_size zdot_one ?_)
  clear HT
  obtain ⟨W2, hW2⟩ : ∃ W : World, W = W1.setCells w.heap.size 21 (#[.int .u8 0, .int .u32 0] : Array Value).toList := ⟨_, rfl⟩
  have S2 : Hid (BrW w (putAt (putAt (putAt (putAt (putAt X0 17 [.int .u32 0]) 18 [.int .u8 0]) 19 [.int .u8 0]) 20 [.int .u64 0]) 21 (#[.int .u8 0, .int .u32 0] : Array Value).toList) W2) := Lib.hid (by rw [hW2]; exact S.out)
  rw [← hW2]
  clear hW2 S
  have S := Lib.hid S2.out
  clear S2
  go_upto_region 9 with (fail)
  have HT := Lib.hid (S.out.k.there (o := 23) (n := 2) (by have := HSZ.out; (try simp only [putAt_size]); omega))
  have S := Lib.hid (S.out.sets 23 (#[.int .u8 0, .int .u32 0] : Array Value).toList)
  go_upto_region 10 with (refine wpList_store_mid rfl 24 _ _ rfl w.heap.size 23 #[.int .u8 0, .int .u32 0] rfl rfl HT.out zdot_size zdot_one ?_)
  clear HT
  obtain ⟨W3, hW3⟩ : ∃ W : World, W = W2.setCells w.heap.size 23 (#[.int .u8 0, .int .u32 0] : Array Value).toList := ⟨_, rfl⟩
  have S3 : Hid (BrW w (putAt (putAt (putAt (putAt (putAt (putAt X0 17 [.int .u32 0]) 18 [.int .u8 0]) 19 [.int .u8 0]) 20 [.int .u64 0]) 21 (#[.int .u8 0, .int .u32 0] : Array Value).toList) 23 (#[.int .u8 0, .int .u32 0] : Array Value).toList) W3) := Lib.hid (by rw [hW3]; exact S.out)
  rw [← hW3]
  clear hW3 S
  have S := Lib.hid S3.out
  clear S3
  go_upto_region 11 with (fail)
  obtain ⟨v25, c25⟩ : ∃ v, W3.cell? ⟨w.heap.size, 25, none⟩ = some v := ⟨_, (S.out.k.cell 25).trans (Array.getElem?_eq_getElem (by have := HSZ.out; (try simp only [putAt_size]); omega))⟩
  have z25 := S.out.k.frozen 25
  obtain ⟨v27, c27⟩ : ∃ v, W3.cell? ⟨w.heap.size, 27, none⟩ = some v := ⟨_, (S.out.k.cell 27).trans (Array.getElem?_eq_getElem (by have := HSZ.out; (try simp only [putAt_size]); omega))⟩
  have z27 := S.out.k.frozen 27
  go_upto_region 12 with (fail)
  have S := Lib.hid (S.out.set 25 (.int .u32 0))
  have S := Lib.hid (S.out.set 27 (.int .u32 0))
  clear c25 z25
  clear c27 z27
  obtain ⟨W4, hW4⟩ : ∃ W : World, W = ((W3.setCell ⟨w.heap.size, 25, none⟩ (.int .u32 0)).setCell ⟨w.heap.size, 27, none⟩ (.int .u32 0)) := ⟨_, rfl⟩
  have S4 : Hid (BrW w (putAt (putAt (putAt (putAt (putAt (putAt (putAt (putAt X0 17 [.int .u32 0]) 18 [.int .u8 0]) 19 [.int .u8 0]) 20 [.int .u64 0]) 21 (#[.int .u8 0, .int .u32 0] : Array Value).toList) 23 (#[.int .u8 0, .int .u32 0] : Array Value).toList) 25 [.int .u32 0]) 27 [.int .u32 0]) W4) := Lib.hid (by rw [hW4]; exact S.out)
  rw [← hW4]
  clear hW4 S
  have S := Lib.hid S4.out
  clear S4
  go_upto_region 13 with (fail)
  obtain ⟨v26, c26⟩ : ∃ v, W4.cell? ⟨w.heap.size, 26, none⟩ = some v := ⟨_, (S.out.k.cell 26).trans (Array.getElem?_eq_getElem (by have := HSZ.out; (try simp only [putAt_size]); omega))⟩
  have z26 := S.out.k.frozen 26
  go_upto_region 14 with (fail)
  have S := Lib.hid (S.out.set 26 (.int .u32 0))
  clear c26 z26
  obtain ⟨W5, hW5⟩ : ∃ W : World, W = (W4.setCell ⟨w.heap.size, 26, none⟩ (.int .u32 0)) := ⟨_, rfl⟩
  have S5 : Hid (BrW w (putAt (putAt (putAt (putAt (putAt (putAt (putAt (putAt (putAt X0 17 [.int .u32 0]) 18 [.int .u8 0]) 19 [.int .u8 0]) 20 [.int .u64 0]) 21 (#[.int .u8 0, .int .u32 0] : Array Value).toList) 23 (#[.int .u8 0, .int .u32 0] : Array Value).toList) 25 [.int .u32 0]) 27 [.int .u32 0]) 26 [.int .u32 0]) W5) := Lib.hid (by rw [hW5]; exact S.out)
  rw [← hW5]
  clear hW5 S
  have S := Lib.hid S5.out
  clear S5
  have HS2 := Lib.hid (show (putAt (putAt (putAt (putAt (putAt (putAt (putAt (putAt (putAt X0 17 [.int .u32 0]) 18 [.int .u8 0]) 19 [.int .u8 0]) 20 [.int .u64 0]) 21 (#[.int .u8 0, .int .u32 0] : Array Value).toList) 23 (#[.int .u8 0, .int .u32 0] : Array Value).toList) 25 [.int .u32 0]) 27 [.int .u32 0]) 26 [.int .u32 0]).size = 29 by simp only [putAt_size]; exact HSZ.out)
  rw [HE.out] at S HS2
  have HO2 := Lib.hid (opA_one_ (bareN x) A ln cap)
  generalize hY : opA (bareN x) (.slice A ln cap) = Y at *
  have HY := Lib.hid hY
  clear hY
  go_wp2_with (first
    | (refine wpList_load_row rfl 30 _ rfl w.heap.size rfl 30 Y (0, 0) _ S.out.k Tryd.underlying30 rfl (by rw [HS2.out]; exact size122) ?_)
    | (refine wpList_store_row rfl 30 _ _ rfl (w.heap.size + 1) Y rfl rfl 30 _ S.out.kr (by rw [HS2.out]; exact size122) (by rw [HS2.out]; rfl) HO2.out ?_))
  refine bodyPost_ret (results_cell_row rfl _ _ (w.heap.size + 1) 30 Y (0, 0) _ rfl (S.out.kr.row _) Tryd.underlying30 rfl (by rw [HS2.out]; exact size122)) rfl ?_
  exact ⟨by rw [HY.out], below_setRow S.out.b (by omega) _⟩
theorem bare_any (w : World) (x : NOp) (A : Option Addr) (ln cap : Nat) (hx : x.ok) (hg : Glob w) (hk : x.kind ≤ 8) : Calls Tryd.prog 19 #[.agg (opA x (.slice A ln cap))] w fun e w' => e = .returned (.agg (opA (bareN x) (if x.kind = 8 then .slice A ln cap else .slice none 0 0))) ∧ Below w.heap.size w w' := by
  obtain h | h | h | h | h | h | h | h | h : x.kind = 0 ∨ x.kind = 1 ∨ x.kind = 2 ∨ x.kind = 3 ∨ x.kind = 4 ∨ x.kind = 5 ∨ x.kind = 6 ∨ x.kind = 7 ∨ x.kind = 8 := by omega
  all_goals (rw [h]; simp only [reduceIte, Nat.reduceEqDiff])
  · exact bare_0 w x A ln cap hx hg h
  · exact bare_1 w x A ln cap hx hg h
  · exact bare_2 w x A ln cap hx hg h
  · exact bare_3 w x A ln cap hx hg h
  · exact bare_4 w x A ln cap hx hg h
  · exact bare_5 w x A ln cap hx hg h
  · exact bare_6 w x A ln cap hx hg h
  · exact bare_7 w x A ln cap hx hg h
  · exact bare_8 w x A ln cap hx hg h
end Go.Proofs.YtfojjklohbiffaaDoor
