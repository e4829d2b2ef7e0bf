/- Frames: the known answers (head). -/
import Derived.Test.YtfojjklohbiffaaProg
import Derived.Test.YtfojjklohbiffaaMq1
import Derived.Test.YtfojjklohbiffaaMq22
import Derived.Test.YtfojjklohbiffaaMq27
namespace Go.Proofs.Ytfojjklohbiffaa
open Go.RowKit Tran Tran.Wire
set_option linter.unusedVariables false
set_option linter.unusedSimpArgs false
def fA : NFrame := { kind := 0, src := 1, dst := 2, have_ := [3, 0, 0, 0, 0, 0, 0, 0], ops := [] }
def fB : NFrame := { kind := 1, src := 0, dst := 1, have_ := zer8, ops := [] }
def fC : NFrame := { kind := 0, src := 1, dst := 1, have_ := zer8, ops := [] }
def fD : NFrame := { kind := 2, src := 0, dst := 1, have_ := zer8, ops := [] }
def fE : NFrame := { kind := 0, src := 0, dst := 1, have_ := zer8, ops := [(zeroO, .slice none 0 0)] }
theorem okA : fA.ok := by constructor <;> simp [fA]
theorem okB : fB.ok := by constructor <;> simp [fB, zer8]
theorem okC : fC.ok := by constructor <;> simp [fC, zer8]
theorem okD : fD.ok := by constructor <;> simp [fD, zer8]
theorem okE : fE.ok := by constructor <;> simp [fE, zer8]
theorem mayA : mayF fA := by simp [mayF, fA]
theorem mayB : mayF fB := by simp [mayF, fB]
theorem mayC : ¬ mayF fC := by simp [mayF, fC]
theorem mayD : ¬ mayF fD := by simp [mayF, fD]
theorem mayE : ¬ mayF fE := by simp [mayF, fE]
theorem bodyA : bodyF fA = [0, 1, 2, 3, 0, 0, 0, 0, 0, 0, 0, 0] := by simp [bodyF, fA, vecF, textsF, numF]
theorem bodyB : bodyF fB = [1, 0, 1, 0, 0, 0, 0, 0, 0, 0, 0, 0] := by simp [bodyF, fB, zer8, vecF, textsF, numF]
theorem pA (w : World) : Calls Try.prog 44 #[.agg #[.int .u8 0, .int .u8 1, .int .u8 2, .int .u32 3, .int .u32 0, .int .u32 0, .int .u32 0, .int .u32 0, .int .u32 0, .int .u32 0, .int .u32 0, .slice none 0 0]] w fun e w' => e = .returned (.tuple #[.string ⟨(putF fA).toArray⟩, .int .i64 0]) ∧ Below w.heap.size w w' := putfr_yes w fA (.slice none 0 0) okA (Ops.nil w) mayA
theorem pB (w : World) : Calls Try.prog 44 #[.agg #[.int .u8 1, .int .u8 0, .int .u8 1, .int .u32 0, .int .u32 0, .int .u32 0, .int .u32 0, .int .u32 0, .int .u32 0, .int .u32 0, .int .u32 0, .slice none 0 0]] w fun e w' => e = .returned (.tuple #[.string ⟨(putF fB).toArray⟩, .int .i64 0]) ∧ Below w.heap.size w w' := putfr_yes w fB (.slice none 0 0) okB (Ops.nil w) mayB
theorem pC (w : World) : Calls Try.prog 90 #[.agg #[.int .u8 0, .int .u8 1, .int .u8 1, .int .u32 0, .int .u32 0, .int .u32 0, .int .u32 0, .int .u32 0, .int .u32 0, .int .u32 0, .int .u32 0, .slice none 0 0]] w fun e w' => e = .returned (.bool true) ∧ Below w.heap.size w w' := bad06_any w fC (.slice none 0 0) okC (Ops.nil w) mayC
theorem pD (w : World) : Calls Try.prog 90 #[.agg #[.int .u8 2, .int .u8 0, .int .u8 1, .int .u32 0, .int .u32 0, .int .u32 0, .int .u32 0, .int .u32 0, .int .u32 0, .int .u32 0, .int .u32 0, .slice none 0 0]] w fun e w' => e = .returned (.bool true) ∧ Below w.heap.size w w' := bad06_any w fD (.slice none 0 0) okD (Ops.nil w) mayD
theorem oA (l : List UInt8) (h : l = putF fA) (hl : l.length ≤ 1000000) (w : World) : Calls Try.prog 26 #[.string ⟨l.toArray⟩] w fun e w' => e = .returned (.tuple #[.string ⟨#[0, 1, 2, 3, 0, 0, 0, 0, 0, 0, 0, 0]⟩, .bool true]) ∧ Below w.heap.size w w' := by
  have := refopen_any l hl w
  rw [h, putF, Crc.opened_sealed, Crc.opens_sealed, bodyA] at this
  rw [h]
  exact this
theorem oB (l : List UInt8) (h : l = putF fB) (hl : l.length ≤ 1000000) (w : World) : Calls Try.prog 26 #[.string ⟨l.toArray⟩] w fun e w' => e = .returned (.tuple #[.string ⟨#[1, 0, 1, 0, 0, 0, 0, 0, 0, 0, 0, 0]⟩, .bool true]) ∧ Below w.heap.size w w' := by
  have := refopen_any l hl w
  rw [h, putF, Crc.opened_sealed, Crc.opens_sealed, bodyB] at this
  rw [h]
  exact this
theorem lenA : (putF fA).length ≤ 1000000 := by
  rw [putF, bodyA]; decide +kernel
theorem lenB : (putF fB).length ≤ 1000000 := by
  rw [putF, bodyB]; decide +kernel
theorem mk8 (w : World) : (Instr.makeSlice 35 (.int .i64 8) (.int .i64 8)).run Try.prog w = .ok (.slice (some ⟨w.heap.size, 0, none⟩) 8 8) (w.alloc (.cells #[.int .u8 0, .int .u8 0, .int .u8 0, .int .u8 0, .int .u8 0, .int .u8 0, .int .u8 0, .int .u8 0] 5)) := by kernel_rfl
theorem cv8 (w : World) : (convert 35 9 (.slice (some ⟨w.heap.size, 0, none⟩) 8 8)).run Try.prog (w.alloc (.cells #[.int .u8 0, .int .u8 0, .int .u8 0, .int .u8 0, .int .u8 0, .int .u8 0, .int .u8 0, .int .u8 0] 5)) = .ok (.string ⟨#[0, 0, 0, 0, 0, 0, 0, 0]⟩) (w.alloc (.cells #[.int .u8 0, .int .u8 0, .int .u8 0, .int .u8 0, .int .u8 0, .int .u8 0, .int .u8 0, .int .u8 0] 5)) := by
  refine run_string_of (w.alloc (.cells #[.int .u8 0, .int .u8 0, .int .u8 0, .int .u8 0, .int .u8 0, .int .u8 0, .int .u8 0, .int .u8 0] 5)) 35 9 5 (some ⟨w.heap.size, 0, none⟩) 8 8 [0, 0, 0, 0, 0, 0, 0, 0] Try.underlying35 Try.underlying5 Try.underlying9 ⟨rfl, fun _ => ⟨_, rfl, fun j v hv => ?_⟩⟩
  rw [lit_add, Nat.zero_add]
  refine ((Blk.new w 5 _).cell j).trans ?_
  simpa [bc] using hv
theorem mk9 (w : World) : (Instr.makeSlice 35 (.int .i64 9) (.int .i64 9)).run Try.prog w = .ok (.slice (some ⟨w.heap.size, 0, none⟩) 9 9) (w.alloc (.cells #[.int .u8 0, .int .u8 0, .int .u8 0, .int .u8 0, .int .u8 0, .int .u8 0, .int .u8 0, .int .u8 0, .int .u8 0] 5)) := by kernel_rfl
theorem cv9 (w : World) : (convert 35 9 (.slice (some ⟨w.heap.size, 0, none⟩) 9 9)).run Try.prog (w.alloc (.cells #[.int .u8 0, .int .u8 0, .int .u8 0, .int .u8 0, .int .u8 0, .int .u8 0, .int .u8 0, .int .u8 0, .int .u8 0] 5)) = .ok (.string ⟨#[0, 0, 0, 0, 0, 0, 0, 0, 0]⟩) (w.alloc (.cells #[.int .u8 0, .int .u8 0, .int .u8 0, .int .u8 0, .int .u8 0, .int .u8 0, .int .u8 0, .int .u8 0, .int .u8 0] 5)) := by
  refine run_string_of (w.alloc (.cells #[.int .u8 0, .int .u8 0, .int .u8 0, .int .u8 0, .int .u8 0, .int .u8 0, .int .u8 0, .int .u8 0, .int .u8 0] 5)) 35 9 5 (some ⟨w.heap.size, 0, none⟩) 9 9 [0, 0, 0, 0, 0, 0, 0, 0, 0] Try.underlying35 Try.underlying5 Try.underlying9 ⟨rfl, fun _ => ⟨_, rfl, fun j v hv => ?_⟩⟩
  rw [lit_add, Nat.zero_add]
  refine ((Blk.new w 5 _).cell j).trans ?_
  simpa [bc] using hv
theorem mk1 (w : World) : (Instr.makeSlice 55 (.int .i64 1) (.int .i64 1)).run Try.prog w = .ok (.slice (some ⟨w.heap.size, 0, none⟩) 1 1) (w.alloc (.cells (opA zeroO (.slice none 0 0)) 122)) := by kernel_rfl
theorem opsE (w : World) : Ops (w.alloc (.cells (opA zeroO (.slice none 0 0)) 122)) (.slice (some ⟨w.heap.size, 0, none⟩) 1 1) [(zeroO, .slice none 0 0)] := by
  refine ⟨some ⟨w.heap.size, 0, none⟩, 1, rfl, ⟨rfl, fun _ => ⟨_, rfl, fun j v hv => ?_⟩⟩, by simp, fun p hp => ?_⟩
  · rw [lit_add, Nat.zero_add]
    refine ((Blk.new w 122 _).cell j).trans ?_
    simpa [opA, pF] using hv
  · simp at hp
    subst hp
    exact ⟨Lns.nil _, zeroO_ok⟩
theorem pE (w : World) : Calls Try.prog 90 #[.agg #[.int .u8 0, .int .u8 0, .int .u8 1, .int .u32 0, .int .u32 0, .int .u32 0, .int .u32 0, .int .u32 0, .int .u32 0, .int .u32 0, .int .u32 0, .slice (some ⟨w.heap.size, 0, none⟩) 1 1]] (w.alloc (.cells (opA zeroO (.slice none 0 0)) 122)) fun e w' => e = .returned (.bool true) ∧ Below (w.alloc (.cells (opA zeroO (.slice none 0 0)) 122)).heap.size (w.alloc (.cells (opA zeroO (.slice none 0 0)) 122)) w' := bad06_any _ fE (.slice (some ⟨w.heap.size, 0, none⟩) 1 1) okE (opsE w) mayE
set_option maxRecDepth 100000 in
set_option maxHeartbeats 8000000 in
theorem head06_any (w : World) : Calls Try.prog 43 #[] w fun e w' => e = .returned (.bool true) ∧ Below w.heap.size w w' := by
  obtain ⟨a, ha⟩ : ∃ a, putF fA = a := ⟨_, rfl⟩
  obtain ⟨b, hb⟩ : ∃ b, putF fB = b := ⟨_, rfl⟩
  have P1 := pA
  have P2 := pB
  have O1 := Lib.hid (oA a ha.symm (ha ▸ lenA))
  have O2 := Lib.hid (oB b hb.symm (hb ▸ lenB))
  rw [ha] at P1
  rw [hb] at P2
  have P1 := Lib.hid P1
  have P2 := Lib.hid P2
  clear ha hb
  go_enter Try.func43, Try.ntmps43
  go_wp2_with fail
  refine (P1.out _).mono ?_
  rintro e w1 ⟨rfl, h1⟩
  have H1 := Lib.hid h1
  clear h1
  go_wp2_with fail
  refine (P2.out _).mono ?_
  rintro e w2 ⟨rfl, h2⟩
  have H2 := Lib.hid (H1.out.trans (h2.mono H1.out.size))
  clear h2
  go_wp2_with fail
  refine (O1.out _).mono ?_
  rintro e w3 ⟨rfl, h3⟩
  have H3 := Lib.hid (H2.out.trans (h3.mono H2.out.size))
  clear h3
  go_wp2_with fail
  refine (O2.out _).mono ?_
  rintro e w4 ⟨rfl, h4⟩
  have H4 := Lib.hid (H3.out.trans (h4.mono H3.out.size))
  clear h4
  have m8 := mk8
  have m9 := mk9
  have v8 := cv8
  have v9 := cv9 (w4.alloc (.cells #[.int .u8 0, .int .u8 0, .int .u8 0, .int .u8 0, .int .u8 0, .int .u8 0, .int .u8 0, .int .u8 0] 5))
  simp only [World.size_alloc] at v9
  have H6 := Lib.hid (fun o o' => (H4.out.alloc H4.out.size o).alloc (by have := H4.out.size; simp; omega) o')
  have m1 := mk1
  have cat8 : (⟨#[0, 1, 2, 3]⟩ ++ ⟨#[0, 0, 0, 0, 0, 0, 0, 0]⟩ : ByteArray) = ⟨#[0, 1, 2, 3, 0, 0, 0, 0, 0, 0, 0, 0]⟩ := by decide +kernel
  have cat9 : (⟨#[1, 0, 1]⟩ ++ ⟨#[0, 0, 0, 0, 0, 0, 0, 0, 0]⟩ : ByteArray) = ⟨#[1, 0, 1, 0, 0, 0, 0, 0, 0, 0, 0, 0]⟩ := by decide +kernel
  go_wp2_with fail
  refine (pC _).mono ?_
  rintro e w5 ⟨rfl, h5⟩
  have H7 := Lib.hid ((H6.out _ _).trans (h5.mono (H6.out _ _).size))
  clear h5 H6
  go_wp2_with fail
  refine (pD _).mono ?_
  rintro e w6 ⟨rfl, h6⟩
  have H8 := Lib.hid (H7.out.trans (h6.mono H7.out.size))
  clear h6
  go_wp2_with fail
  have HB := H8.out.alloc H8.out.size (.cells (opA zeroO (.slice none 0 0)) 122)
  refine (pE _).mono ?_
  rintro e w7 ⟨rfl, h7⟩
  have H9 := Lib.hid (HB.trans (h7.mono HB.size))
  clear h7 HB
  go_wp2_with fail
  go_ret
  exact ⟨rfl, H9.out⟩
end Go.Proofs.Ytfojjklohbiffaa
/- A burst's step, in the walk's own spelling. -/
namespace Go.Proofs.Ytfojjklohbiffaa
open Go.RowKit Tran
theorem bc_flip (m : List UInt8) (p : Nat) (h : p / 8 < m.length) : bc (Crc.flip m p) = (bc m).set (p / 8) (.int .u8 (bits BinOp.xor .u8 (m[p / 8].toNat : Int) ((2 : Int) ^ (p % 8) % 256))) := by
  have h8 : 2 ^ (p % 8) < 2 ^ 8 := Nat.pow_lt_pow_right (by omega) (by omega)
  have e : ((2 : Int) ^ (p % 8) % 256) = ((2 ^ (p % 8) : Nat) : Int) := by
    rw [show ((2 : Int) ^ (p % 8)) = ((2 ^ (p % 8) : Nat) : Int) by simp]
    generalize 2 ^ (p % 8) = x at *
    omega
  rw [e, u8_xor_nat _ _ (Crc.byte_lt _) (by omega)]
  unfold Crc.flip bc
  rw [List.map_set]
  congr 2
  rw [List.getD_eq_getElem?_getD, List.getElem?_eq_getElem h, Option.getD_some, UInt8.toNat_xor, UInt8.toNat_ofNat', Nat.mod_eq_of_lt h8]
theorem shr_yes (b j : Nat) (h : b / 2 ^ j % 2 = 1) : (((b : Int) / 2 ^ j).tmod 2 == 1) = true := by
  have e : (b : Int) / 2 ^ j = ((b / 2 ^ j : Nat) : Int) := by simp
  rw [e, Int.tmod_eq_emod_of_nonneg (Int.natCast_nonneg _), beq_iff_eq]
  generalize b / 2 ^ j = x at *
  omega
theorem shr_no (b j : Nat) (h : ¬ b / 2 ^ j % 2 = 1) : (((b : Int) / 2 ^ j).tmod 2 == 1) = false := by
  have e : (b : Int) / 2 ^ j = ((b / 2 ^ j : Nat) : Int) := by simp
  rw [e, Int.tmod_eq_emod_of_nonneg (Int.natCast_nonneg _), beq_eq_false_iff_ne]
  generalize b / 2 ^ j = x at *
  omega
end Go.Proofs.Ytfojjklohbiffaa
/- Arguments opened: arrays of two numbers. -/
namespace Tran
open Go Go.RowKit Go.ChangeShapes Go.WideShapes Go.Deep
theorem okWide_array {P : Program} {w : World} {r : Reach} {base : Nat} {t : TypeId} {v : Value} {n : Nat} {e : TypeId} (ht : P.underlying t = some (.array n e)) (h : Value.okWide P w r base t v) : ∃ cs, v = .agg cs ∧ cs.size = P.cellsOf t := by
  simp only [Value.okWide, ht] at h
  obtain ⟨cs, h1, h2, _⟩ := h
  exact ⟨cs, h1, h2⟩
section
variable {H : Type} {enc : TypeId × Value → H} {P : Program} {w : World} {base : Nat} {spare : Nat → Bool} {held : Bool}
/-- an array of two numbers: its elements, each read as one -/
theorem arr2_of {Q : Value → Prop} {t e : TypeId} {r : Reach} {b0 : Nat} {v : Value} {d : DataW H} {p : List MemPlace} (ht : P.underlying t = some (.array 2 e)) (hc : P.cellsOf e = 1) (hct : P.cellsOf t = 2)
    (hq : ∀ m cs x, DataW.trod enc P w base spare held m e cs = some x → ∃ u, cs = [u] ∧ Q u)
    (hv : Value.okWide P w r b0 t v) (h : DataW.Trod enc P w base spare held t v d p) : ∃ a b : Value, v = .agg #[a, b] ∧ Q a ∧ Q b := by
  obtain ⟨cs, rfl, hsz⟩ := okWide_array ht hv
  obtain ⟨l⟩ := cs
  match l, hsz.trans hct with
  | [c0, c1], _ =>
    obtain ⟨fuel, hf⟩ := h
    obtain ⟨ys, m, _, _, hl, hyl, hg⟩ := DataW.trod_array ht hf
    match ys, hyl with
    | [y0, y1], _ =>
      have g0 := hg 0 (by omega)
      have g1 := hg 1 (by omega)
      simp only [hc, Value.cells, List.drop_zero, List.drop_succ_cons, List.take_succ_cons, List.take_zero, List.getElem?_cons_zero, List.getElem?_cons_succ, Nat.zero_mul, Nat.one_mul, List.toList_toArray] at g0 g1
      obtain ⟨u, e0, q0⟩ := hq _ _ _ g0
      obtain ⟨u', e1, q1⟩ := hq _ _ _ g1
      injection e0 with e0
      injection e1 with e1
      subst e0 e1
      exact ⟨_, _, rfl, q0, q1⟩
end
end Tran
namespace Go.Proofs.Ytfojjklohbiffaa
open Go.RowKit Go.ChangeShapes Go.WideShapes Go.Deep Tran
theorem cells33 : Try.prog.cellsOf 33 = 1 := by kernel_rfl
theorem cells22_ : Try.prog.cellsOf 22 = 1 := by kernel_rfl
theorem cells113 : Try.prog.cellsOf 113 = 2 := by kernel_rfl
theorem cells69 : Try.prog.cellsOf 69 = 2 := by kernel_rfl
set_option maxRecDepth 100000 in
theorem two16 {H : Type} {enc : TypeId × Value → H} {w : World} {base : Nat} {spare : Nat → Bool} {held : Bool} {r : Reach} {b0 : Nat} {v : Value} {d : DataW H} {p : List MemPlace}
    (hv : Value.okWide Try.prog w r b0 113 v) (h : DataW.Trod enc Try.prog w base spare held 113 v d p) : ∃ a b : Nat, v = .agg #[.int .u16 (a : Nat), .int .u16 (b : Nat)] ∧ a < 65536 ∧ b < 65536 := by
  obtain ⟨a, b, rfl, ⟨m, rfl, hm⟩, ⟨k, rfl, hk⟩⟩ := arr2_of (Q := fun u => ∃ m : Nat, u = .int .u16 (m : Int) ∧ m < 65536) Try.underlying113 cells33 cells113 (fun m cs x hx => by
    obtain ⟨n, rfl, hn⟩ := trod_u16 Try.underlying33 hx
    exact ⟨_, rfl, n, rfl, hn⟩) hv h
  exact ⟨m, k, rfl, hm, hk⟩
set_option maxRecDepth 100000 in
theorem two32 {H : Type} {enc : TypeId × Value → H} {w : World} {base : Nat} {spare : Nat → Bool} {held : Bool} {r : Reach} {b0 : Nat} {v : Value} {d : DataW H} {p : List MemPlace}
    (hv : Value.okWide Try.prog w r b0 69 v) (h : DataW.Trod enc Try.prog w base spare held 69 v d p) : ∃ a b : Nat, v = .agg #[.int .u32 (a : Nat), .int .u32 (b : Nat)] ∧ a < 4294967296 ∧ b < 4294967296 := by
  obtain ⟨a, b, rfl, ⟨m, rfl, hm⟩, ⟨k, rfl, hk⟩⟩ := arr2_of (Q := fun u => ∃ m : Nat, u = .int .u32 (m : Int) ∧ m < 4294967296) Try.underlying69 cells22_ cells69 (fun m cs x hx => by
    obtain ⟨n, rfl, hn⟩ := trod_u32 Try.underlying22 hx
    exact ⟨_, rfl, n, rfl, hn⟩) hv h
  exact ⟨m, k, rfl, hm, hk⟩
end Go.Proofs.Ytfojjklohbiffaa
