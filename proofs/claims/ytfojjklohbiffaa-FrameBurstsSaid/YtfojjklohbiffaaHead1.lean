/- The known answers of layer 1 (head) hold, whatever the memory. -/
import Derived.Test.YtfojjklohbiffaaSum
namespace Go.Proofs.Ytfojjklohbiffaa
open Go.RowKit Tran
theorem tab0 : Crc.tab 0 = 0 := by decide +kernel
theorem tab128 : Crc.tab 128 = 2197175160 := by decide +kernel
theorem tab1 : Crc.tab 1 = 4067132163 := by decide +kernel
theorem crc0 : Crc.crc [] = 0 := by decide +kernel
theorem crc9 : Crc.crc [49, 50, 51, 52, 53, 54, 55, 56, 57] = 3808858755 := by decide +kernel
theorem op0 : Crc.opened [0, 0, 0, 0] = true ∧ Crc.opens [0, 0, 0, 0] = [] := by decide +kernel
theorem op3 : Crc.opened [97, 98, 99] = false ∧ Crc.opens [97, 98, 99] = [] := by decide +kernel
theorem open_at (l r : List UInt8) (b : Bool) (hl : l.length ≤ 1000000) (h : Crc.opened l = b ∧ Crc.opens l = r) (w : World) :
    Calls Try.prog 25 #[.string ⟨l.toArray⟩] w fun e w' => e = .returned (.tuple #[.string ⟨r.toArray⟩, .bool b]) ∧ Below w.heap.size w w' := by
  have := open_any l hl w
  rwa [h.1, h.2] at this
theorem sum_at (l : List UInt8) (n : Int) (hl : l.length ≤ 1000000) (h : ((Crc.crc l : Nat) : Int) = n) (w : World) :
    Calls Try.prog 27 #[.string ⟨l.toArray⟩] w fun e w' => e = .returned (.int .u32 n) ∧ Below w.heap.size w w' := by
  have := sum_any ⟨l.toArray⟩ (by show l.toArray.size ≤ maxLen; unfold maxLen; simp; omega) w
  rw [← h]; exact this
set_option maxRecDepth 100000 in
set_option maxHeartbeats 1000000 in
theorem head1_any (w : World) :
    Calls Try.prog 22 #[] w fun e w' => e = .returned (.bool true) ∧ Below w.heap.size w w' := by
  go_enter Try.func22, Try.ntmps22
  go_wp2_with fail
  refine (table_any _).mono ?_
  rintro e w1 ⟨rfl, hb1⟩
  have hz1 : w.heap.size ≤ w1.heap.size := hb1.size
  go_wp2_with (refine wpList_store_row rfl 24 _ _ rfl w1.heap.size tabArr rfl rfl 24 Try.zeroCells24 (Blk.new w1 24 _) (by rw [tabArr_size]; exact size24) (by rw [tabArr_size]; exact zero24_size) tabArr_one ?_)
  have hk2 := (Blk.new w1 24 Try.zeroCells24).row tabArr
  have hb2 : Below w.heap.size w ((w1.alloc (Obj.cells Try.zeroCells24 24)).setRow w1.heap.size tabArr) := below_setRow (hb1.alloc hz1 _) hz1 _
  have hs2 : w1.heap.size < ((w1.alloc (Obj.cells Try.zeroCells24 24)).setRow w1.heap.size tabArr).heap.size := by simp
  generalize (w1.alloc (Obj.cells Try.zeroCells24 24)).setRow w1.heap.size tabArr = w2 at *
  refine (seal_any ⟨#[97, 98]⟩ (by decide) _).mono ?_
  rintro e w3 ⟨rfl, hb3⟩
  have hk3 := hk2.below hb3 hs2
  have hb3' := hb2.trans (hb3.mono hb2.size)
  have hs3 := hk3.lt
  clear hk2 hb2 hs2 hb3
  go_wp2_with fail
  refine (open_at (Crc.sealed [97, 98]) [97, 98] true (by rw [Crc.sealed_length]; simp) ⟨Crc.opened_sealed _, Crc.opens_sealed _⟩ _).mono ?_
  rintro e w4 ⟨rfl, hb4⟩
  have hk4 := hk3.below hb4 hs3
  have hb4' := hb3'.trans (hb4.mono hb3'.size)
  have hs4 := hk4.lt
  clear hk3 hb3' hs3 hb4
  go_wp2_with fail
  refine (open_at [0, 0, 0, 0] [] true (by simp) op0 _).mono ?_
  rintro e w5 ⟨rfl, hb5⟩
  have hk5 := hk4.below hb5 hs4
  have hb5' := hb4'.trans (hb5.mono hb4'.size)
  have hs5 := hk5.lt
  clear hk4 hb4' hs4 hb5
  go_wp2_with fail
  refine (open_at [97, 98, 99] [] false (by simp) op3 _).mono ?_
  rintro e w6 ⟨rfl, hb6⟩
  have hk6 := hk5.below hb6 hs5
  have hb6' := hb5'.trans (hb6.mono hb5'.size)
  have hs6 := hk6.lt
  clear hk5 hb5' hs5 hb6
  have c0 : w6.cell? { block := w1.heap.size, off := 0 } = some (.int .u32 0) := (hk6.cell 0).trans ((tabArr_get (by omega)).trans (by rw [tab0]; rfl))
  have c128 : w6.cell? { block := w1.heap.size, off := 128 } = some (.int .u32 2197175160) := (hk6.cell 128).trans ((tabArr_get (by omega)).trans (by rw [tab128]; rfl))
  have c1 : w6.cell? { block := w1.heap.size, off := 1 } = some (.int .u32 4067132163) := (hk6.cell 1).trans ((tabArr_get (by omega)).trans (by rw [tab1]; rfl))
  go_wp2_with fail
  refine (sum_at [] 0 (by simp) (by rw [crc0]; rfl) _).mono ?_
  rintro e w7 ⟨rfl, hb7⟩
  have hb7' := hb6'.trans (hb7.mono hb6'.size)
  go_wp2_with fail
  refine (sum_at [49, 50, 51, 52, 53, 54, 55, 56, 57] 3808858755 (by simp) (by rw [crc9]; rfl) _).mono ?_
  rintro e w8 ⟨rfl, hb8⟩
  have hb8' := hb7'.trans (hb8.mono hb7'.size)
  go_wp2
  go_ret
  exact ⟨rfl, hb8'⟩
end Go.Proofs.Ytfojjklohbiffaa
