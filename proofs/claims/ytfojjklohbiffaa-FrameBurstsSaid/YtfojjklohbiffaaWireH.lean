/- Known answers of layer 2 (law02.none, head). -/
import Derived.Test.YtfojjklohbiffaaWireE
namespace Go.Proofs.Ytfojjklohbiffaa
open Go.RowKit Tran Tran.Wire
set_option linter.unusedVariables false
theorem Rdd.toBelow {w w' : World} {g : Nat} {st : Option (List UInt8)} {B : Nat} (h : Rdd w w' (some ⟨g, 0, none⟩) st) (hg : B ≤ g) (hB : B ≤ w.heap.size) : Below B w w' :=
  h.ch.toBelow hB (fun k _ hk => by injection hk with hk; injection hk with hk; omega)
set_option maxRecDepth 100000 in
set_option maxHeartbeats 4000000 in
theorem none02_any (w : World) (s : List UInt8) (hs : s.length ≤ 100) (most : Nat) (hn : rnumS (some s) most = (0, none)) :
    Calls Try.prog 108 #[.string ⟨s.toArray⟩, .int .u64 most] w fun e w' => e = .returned (.bool true) ∧ Below w.heap.size w w' := by
  have HN := Lib.hid hn
  clear hn
  go_enter Try.func108, Try.ntmps108
  go_wp2_with fail
  refine (open_r w (by omega)).mono ?_
  rintro e w1 ⟨rfl, r1, hw⟩
  have b1 : Below w.heap.size w w1 := by rw [hw]; exact (Below.refl _ _).alloc (Nat.le_refl _) _
  clear hw
  have N := rnum_r r1 most
  rw [HN.out] at N
  have N := Lib.hid N
  clear r1
  go_wp2_with fail
  refine N.out.mono ?_
  rintro e w2 ⟨rfl, r2⟩
  have b2 := b1.trans (r2.toBelow (Nat.le_refl _) b1.size)
  have F := Lib.hid (fine_r r2.rd)
  have L := Lib.hid (left_r r2.rd)
  clear N
  go_wp2_with fail
  refine F.out.mono ?_
  rintro e w3 ⟨rfl, rfl⟩
  go_wp2_with fail
  refine L.out.mono ?_
  rintro e w3 ⟨rfl, n, rfl⟩
  have E := Lib.hid (end_r (w := w2.drewN n) (p := some ⟨w.heap.size, 0, none⟩) (st := none) r2.rd (by simp [leftN]))
  clear F L
  go_wp2_with fail
  refine E.out.mono ?_
  rintro e w3 ⟨rfl, m, hm⟩
  have r3 : RdP w3 (some ⟨w.heap.size, 0, none⟩) none := by rw [hm]; exact r2.rd
  have b3 : Below w.heap.size w w3 := by rw [hm]; exact below_drewN (below_drewN b2 n) m
  have T := rtext_r r3 9 (by omega)
  rw [show rtextS none 9 = ([], none) from rfl] at T
  have T := Lib.hid T
  clear E hm r2
  go_wp2_with fail
  refine T.out.mono ?_
  rintro e w4 ⟨rfl, r4⟩
  have b4 := b3.trans (r4.toBelow (Nat.le_refl _) b3.size)
  go_wp2
  go_ret
  exact ⟨rfl, b4⟩
end Go.Proofs.Ytfojjklohbiffaa
