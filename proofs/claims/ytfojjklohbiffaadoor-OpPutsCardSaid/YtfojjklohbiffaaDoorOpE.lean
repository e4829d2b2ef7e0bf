/- Operations read: what the reader tells, plain; the closures short and word. -/
import Derived.Test.YtfojjklohbiffaaDoorOpC
import Derived.Test.YtfojjklohbiffaaDoorReg
import Derived.Test.YtfojjklohbiffaaDoorWireE
import Derived.Test.YtfojjklohbiffaaDoorWireI
namespace Go.Proofs.YtfojjklohbiffaaDoor
open Go.RowKit Tran Tran.Wire
set_option linter.unusedVariables false
theorem rnum_small (st : Option (List UInt8)) (m : Nat) : (rnumS st m).1 ≤ m := rnumS_le st m
def dotZ (st : Option (List UInt8)) : Nat × Nat := if (rdotS st).2.isSome = true then (rdotS st).1 else (0, 0)
theorem dotV_eq (st : Option (List UInt8)) : dotV st = .agg #[.int .u8 ((dotZ st).1 : Nat), .int .u32 ((dotZ st).2 : Nat)] := by
  unfold dotV dotZ pickS
  cases (rdotS st).2 <;> simp
theorem dotZ_lt (st : Option (List UInt8)) : (dotZ st).1 < 256 ∧ (dotZ st).2 < 4294967296 := by
  have h1 := rnumS_le st 255
  have h2 := rnumS_le (rnumS st 255).2 4294967295
  unfold dotZ
  split
  · simp only [rdotS]; omega
  · simp
def vecZ (st : Option (List UInt8)) : List Nat := if (rvecS st 8).2.isSome = true then (rvecS st 8).1 else zer8
theorem vecV_eq (st : Option (List UInt8)) : vecV st = .agg (vecA (vecZ st)) := by
  unfold vecV vecZ pickS
  cases (rvecS st 8).2 <;> simp
theorem vecZ_len (st : Option (List UInt8)) : (vecZ st).length = 8 := by
  unfold vecZ
  split
  · exact rvecS_len st 8
  · rfl
theorem rvecS_lt (st : Option (List UInt8)) : ∀ k, ∀ y ∈ (rvecS st k).1, y < 4294967296
  | 0, y, h => by simp [rvecS] at h
  | k + 1, y, h => by
    simp only [rvecS, List.mem_append, List.mem_singleton] at h
    rcases h with h | rfl
    · exact rvecS_lt st k y h
    · have := rnumS_le (rvecS st k).2 4294967295; omega
theorem vecZ_lt (st : Option (List UInt8)) : ∀ y ∈ vecZ st, y < 4294967296 := by
  unfold vecZ
  split
  · exact rvecS_lt st 8
  · intro y hy; simp [zer8] at hy; omega
/-- a line read -/
def rdClaim (st : Option (List UInt8)) : NClaim := ⟨(dotZ st).1, (dotZ st).2, (dotZ (rdotS st).2).1, (dotZ (rdotS st).2).2⟩
def rdClaimS (st : Option (List UInt8)) : Option (List UInt8) := (rdotS (rdotS st).2).2
theorem rdClaim_ok (st : Option (List UInt8)) : (rdClaim st).ok := ⟨(dotZ_lt st).1, (dotZ_lt st).2, (dotZ_lt _).1, (dotZ_lt _).2⟩
def rdLines (st : Option (List UInt8)) : Nat → List NClaim × Option (List UInt8)
  | 0 => ([], st)
  | k + 1 => ((rdLines st k).1 ++ [rdClaim (rdLines st k).2], rdClaimS (rdLines st k).2)
theorem rdLines_len (st : Option (List UInt8)) : ∀ k, (rdLines st k).1.length = k
  | 0 => rfl
  | k + 1 => by simp [rdLines, rdLines_len st k]
theorem rdLines_ok (st : Option (List UInt8)) : ∀ k, ∀ c ∈ (rdLines st k).1, c.ok
  | 0, c, h => by simp [rdLines] at h
  | k + 1, c, h => by
    simp only [rdLines, List.mem_append, List.mem_singleton] at h
    rcases h with h | rfl
    · exact rdLines_ok st k c h
    · exact rdClaim_ok _
/-- an operation read -/
def rdO (st : Option (List UInt8)) : NOp × Option (List UInt8) :=
  let s1 := (rdotS st).2
  let s2 := (rvecS s1 8).2
  let n3 := rnumS s2 18446744073709551615
  let n4 := rnumS n3.2 4294967295
  let s5 := (rdotS n4.2).2
  let n6 := rnumS s5 255
  let s7 := (rdotS n6.2).2
  let n8 := rnumS s7 4294967295
  let n9 := rnumS n8.2 255
  let n10 := rnumS n9.2 255
  let n11 := rnumS n10.2 18446744073709551615
  let s12 := (rdotS n11.2).2
  let s13 := (rdotS s12).2
  let n14 := rnumS s13 4294967295
  let n15 := rnumS n14.2 4294967295
  let n16 := rnumS n15.2 4294967295
  let n17 := rnumS n16.2 16
  ({ dr := (dotZ st).1, dn := (dotZ st).2, dep := vecZ s1, time := n3.1, who := n4.1, cr := (dotZ n4.2).1, cn := (dotZ n4.2).2, kind := n6.1, er := (dotZ n6.2).1, en := (dotZ n6.2).2, dest := n8.1, roles := n9.1, depth := n10.1, cap := n11.1, ar := (dotZ n11.2).1, an := (dotZ n11.2).2, vr := (dotZ s12).1, vn := (dotZ s12).2, item := n14.1, qty := n15.1, price := n16.1, lines := (rdLines n17.2 n17.1).1 }, (rdLines n17.2 n17.1).2)
def zeroO : NOp := { dr := 0, dn := 0, dep := zer8, time := 0, who := 0, cr := 0, cn := 0, kind := 0, er := 0, en := 0, dest := 0, roles := 0, depth := 0, cap := 0, ar := 0, an := 0, vr := 0, vn := 0, item := 0, qty := 0, price := 0, lines := [] }
theorem zeroO_ok : zeroO.ok := by
  constructor <;> simp [zeroO, zer8]
set_option maxRecDepth 100000 in
theorem rdO_ok (st : Option (List UInt8)) : (rdO st).1.ok := by
  constructor
  case dr => exact (dotZ_lt _).1
  case dn => exact (dotZ_lt _).2
  case dep8 => exact vecZ_len _
  case dep => exact vecZ_lt _
  case time => exact Nat.lt_of_le_of_lt (rnumS_le _ _) (by decide)
  case who => exact Nat.lt_of_le_of_lt (rnumS_le _ _) (by decide)
  case cr => exact (dotZ_lt _).1
  case cn => exact (dotZ_lt _).2
  case kind => exact Nat.lt_of_le_of_lt (rnumS_le _ _) (by decide)
  case er => exact (dotZ_lt _).1
  case en => exact (dotZ_lt _).2
  case dest => exact Nat.lt_of_le_of_lt (rnumS_le _ _) (by decide)
  case roles => exact Nat.lt_of_le_of_lt (rnumS_le _ _) (by decide)
  case depth => exact Nat.lt_of_le_of_lt (rnumS_le _ _) (by decide)
  case cap => exact Nat.lt_of_le_of_lt (rnumS_le _ _) (by decide)
  case ar => exact (dotZ_lt _).1
  case an => exact (dotZ_lt _).2
  case vr => exact (dotZ_lt _).1
  case vn => exact (dotZ_lt _).2
  case item => exact Nat.lt_of_le_of_lt (rnumS_le _ _) (by decide)
  case qty => exact Nat.lt_of_le_of_lt (rnumS_le _ _) (by decide)
  case price => exact Nat.lt_of_le_of_lt (rnumS_le _ _) (by decide)
  case lines => exact rdLines_ok _ _
set_option maxRecDepth 100000 in
theorem rdO_lines (st : Option (List UInt8)) : (rdO st).1.lines.length ≤ 16 := by
  unfold rdO
  simp only [rdLines_len]
  exact rnumS_le _ _
set_option maxRecDepth 100000 in
set_option maxHeartbeats 4000000 in
theorem short_any {w : World} {g bx : Nat} {st : Option (List UInt8)} (h : RdP w (some ⟨g, 0, none⟩) st) (kb : Blk w bx 68 #[.pointer (some ⟨g, 0, none⟩)]) :
    Calls Tryd.prog 37 #[.pointer (some ⟨bx, 0, none⟩)] w fun e w' => e = .returned (.int .u8 ((rnumS st 255).1 : Nat)) ∧ Rdd w w' (some ⟨g, 0, none⟩) (rnumS st 255).2 := by
  have bx0 : _ = some (Value.pointer (some ⟨g, 0, none⟩)) := kb.cell 0
  have R := rnum_r h 255
  rw [show ((255 : Nat) : Int) = 255 from rfl] at R
  have hl := rnumS_le st 255
  generalize rnumS st 255 = q at *
  obtain ⟨n, s2⟩ := q
  simp only at hl R ⊢
  have hw : IntKind.u8.wrap (n : Int) = n := IntWalk.u8_in _ (by omega)
  have R := Lib.hid R
  clear h kb
  go_enter Tryd.func37, Tryd.ntmps37
  go_wp2_with fail
  refine R.out.mono ?_
  rintro e w1 ⟨rfl, hr⟩
  go_wp2
  go_ret
  first | exact ⟨rfl, hr⟩ | exact ⟨by rw [hw], hr⟩
set_option maxRecDepth 100000 in
set_option maxHeartbeats 4000000 in
theorem word_any {w : World} {g bx : Nat} {st : Option (List UInt8)} (h : RdP w (some ⟨g, 0, none⟩) st) (kb : Blk w bx 68 #[.pointer (some ⟨g, 0, none⟩)]) :
    Calls Tryd.prog 39 #[.pointer (some ⟨bx, 0, none⟩)] w fun e w' => e = .returned (.int .u32 ((rnumS st 4294967295).1 : Nat)) ∧ Rdd w w' (some ⟨g, 0, none⟩) (rnumS st 4294967295).2 := by
  have bx0 : _ = some (Value.pointer (some ⟨g, 0, none⟩)) := kb.cell 0
  have R := rnum_r h 4294967295
  rw [show ((4294967295 : Nat) : Int) = 4294967295 from rfl] at R
  have hl := rnumS_le st 4294967295
  generalize rnumS st 4294967295 = q at *
  obtain ⟨n, s2⟩ := q
  simp only at hl R ⊢
  have hw : IntKind.u32.wrap (n : Int) = n := IntWalk.u32_in _ (by omega)
  have R := Lib.hid R
  clear h kb
  go_enter Tryd.func39, Tryd.ntmps39
  go_wp2_with fail
  refine R.out.mono ?_
  rintro e w1 ⟨rfl, hr⟩
  go_wp2
  go_ret
  first | exact ⟨rfl, hr⟩ | exact ⟨by rw [hw], hr⟩
end Go.Proofs.YtfojjklohbiffaaDoor
