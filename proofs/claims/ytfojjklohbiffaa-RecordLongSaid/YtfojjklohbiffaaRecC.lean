/- Records: what stands first. -/
import Derived.Test.YtfojjklohbiffaaRecB
namespace Go.Proofs.Ytfojjklohbiffaa
open Go.RowKit Tran Tran.Wire
set_option linter.unusedVariables false
/-- the length that stands first: it, its bytes, the state -/
def lengthF (b : UInt8) (r : List UInt8) : Nat × Nat × Nat :=
  if b.toNat < 128 then (b.toNat, 1, 0)
  else if b.toNat = 128 ∨ 136 < b.toNat ∨ 65536 < lowF r (b.toNat - 128) ∨ lowF r (b.toNat - 128) < 128 ∨ r.head? = some 0 then (0, 0, 2)
  else if r.length < b.toNat - 128 then (0, 0, 1)
  else (lowF r (b.toNat - 128), b.toNat - 128 + 1, 0)
def Lens (w : World) (q : Nat × Nat × Nat) (e : Ending) (w' : World) : Prop := e = .returned (.tuple #[.int .i64 (q.1 : Nat), .int .i64 (q.2.1 : Nat), .int .u8 (q.2.2 : Nat)]) ∧ Below w.heap.size w w'
set_option maxRecDepth 100000 in
set_option maxHeartbeats 8000000 in
theorem length_any (b : UInt8) (r : List UInt8) (hl : r.length ≤ 140737488355328) (w : World) : Calls Try.prog 145 #[.string ⟨(b :: r).toArray⟩] w (Lens w (lengthF b r)) := by
  have hi0 : ∀ h, (⟨(b :: r).toArray⟩ : ByteArray)[0]'h = b := fun _ => rfl
  have hbl := b.toNat_lt
  have B0 := Lib.hid ((Below.refl w.heap.size w).alloc (Nat.le_refl _) (.cells #[.string ⟨(b :: r).toArray⟩] 9))
  by_cases h1 : b.toNat < 128
  · have HF := Lib.hid (show lengthF b r = (b.toNat, 1, 0) by unfold lengthF; rw [if_pos h1])
    go_enter Try.func145, Try.ntmps145
    go_wp2
    go_ret3
    unfold Lens
    rw [HF.out]
    exact ⟨rfl, B0.out⟩
  · have B1 := Lib.hid (((Below.refl w.heap.size w).alloc (Nat.le_refl _) (.cells #[.string ⟨(b :: r).toArray⟩] 9)).alloc (by simp) (.cells #[.int .i64 ((b.toNat : Int) - 128)] 3))
    obtain ⟨k, hk⟩ : ∃ k, b.toNat = 128 + k := ⟨b.toNat - 128, by omega⟩
    have hbk : (b.toNat : Int) - 128 = (k : Nat) := by omega
    rw [hbk] at B1
    have hb1 : ¬ (b.toNat : Int) < 128 := by omega
    have HF := Lib.hid (show lengthF b r = if b.toNat = 128 ∨ 136 < b.toNat ∨ 65536 < lowF r k ∨ lowF r k < 128 ∨ r.head? = some 0 then (0, 0, 2) else if r.length < k then (0, 0, 1) else (lowF r k, k + 1, 0) by
      unfold lengthF; rw [if_neg h1, show b.toNat - 128 = k by omega])
    have k1 := (Blk.new w 9 #[.string ⟨(b :: r).toArray⟩]).alloc (.cells #[.int .i64 (k : Nat)] 3)
    have k2 := Blk.new (w.alloc (.cells #[.string ⟨(b :: r).toArray⟩] 9)) 3 #[.int .i64 (k : Nat)]
    rw [show (w.alloc (.cells #[.string ⟨(b :: r).toArray⟩] 9)).heap.size = w.heap.size + 1 by simp] at k2
    have c1 := k1.cell 0
    have c2 := k2.cell 0
    have HK := Lib.hid hk
    have HH1 := Lib.hid h1
    have C1 := Lib.hid c1
    have C2 := Lib.hid c2
    clear k1 k2 hk h1 c1 c2
    by_cases hb : k = 0 ∨ 8 < k
    · have HF2 := Lib.hid (HF.out.trans (if_pos (by have := HK.out; omega)))
      have L := Lib.hid (least_any _ ⟨w.heap.size + 1, 0, none⟩ ⟨w.heap.size, 0, none⟩ k b r C2.out C1.out (by have := HK.out; omega) hl)
      clear HF
      rcases hb with hb | hb
      · subst hb
        have hbk : (b.toNat : Int) - 128 = 0 := hbk
        go_enter Try.func145, Try.ntmps145
        go_wp2_with fail
        refine L.out.mono ?_
        rintro e w1 ⟨x, rfl, rfl⟩
        go_wp2_with fail
        go_ret3
        unfold Lens
        rw [HF2.out]
        exact ⟨rfl, B1.out⟩
      · go_enter Try.func145, Try.ntmps145
        go_wp2_with fail
        refine L.out.mono ?_
        rintro e w1 ⟨x, rfl, rfl⟩
        go_wp2_with fail
        go_ret3
        unfold Lens
        rw [HF2.out]
        exact ⟨rfl, B1.out⟩
    · have hk1 : 1 ≤ k := by omega
      have hk8 : k ≤ 8 := by omega
      have L : Calls Try.prog 148 #[.pointer (some ⟨w.heap.size + 1, 0, none⟩), .pointer (some ⟨w.heap.size, 0, none⟩)] ((w.alloc (.cells #[.string ⟨(b :: r).toArray⟩] 9)).alloc (.cells #[.int .i64 (k : Nat)] 3)) fun e w' => e = .returned (.int .u64 (lowF r k : Nat)) ∧ ((w.alloc (.cells #[.string ⟨(b :: r).toArray⟩] 9)).alloc (.cells #[.int .i64 (k : Nat)] 3)) = w' := by
        by_cases hr : r = []
        · subst hr; exact least_nil _ _ _ k b C2.out C1.out hk8 hk1
        · exact least_some _ _ _ k b r C2.out C1.out hk8 hr hl
      replace L := Lib.hid L
      have hk0 : ¬ ((k : Int) < 1) := by omega
      have hk9 : ¬ ((8 : Int) < (k : Nat)) := by omega
      have HB := Lib.hid hb
      clear hb
      by_cases hlo : 65536 < lowF r k ∨ lowF r k < 128
      · have HF2 := Lib.hid (HF.out.trans (if_pos (by omega)))
        clear HF
        generalize lowF r k = x at *
        rcases hlo with hlo | hlo
        · go_enter Try.func145, Try.ntmps145
          go_wp2_with fail
          refine L.out.mono ?_
          rintro e w1 ⟨rfl, rfl⟩
          go_wp2_with fail
          go_ret3
          unfold Lens
          rw [HF2.out]
          exact ⟨rfl, B1.out⟩
        · go_enter Try.func145, Try.ntmps145
          go_wp2_with fail
          refine L.out.mono ?_
          rintro e w1 ⟨rfl, rfl⟩
          go_wp2_with fail
          go_ret3
          unfold Lens
          rw [HF2.out]
          exact ⟨rfl, B1.out⟩
      · have hlo1 : ¬ 65536 < lowF r k := fun h => hlo (.inl h)
        have hlo2 : ¬ lowF r k < 128 := fun h => hlo (.inr h)
        cases r with
        | nil =>
          have hkl : (1 : Int) ≤ (k : Nat) := by omega
          have HF2 := Lib.hid (HF.out.trans ((if_neg (by have := HK.out; have := HB.out; simp; omega)).trans (if_pos (show ([] : List UInt8).length < k by simp; omega))))
          clear HF hlo
          generalize lowF [] k = x at *
          go_enter Try.func145, Try.ntmps145
          go_wp2_with fail
          refine L.out.mono ?_
          rintro e w1 ⟨rfl, rfl⟩
          go_wp2_with fail
          go_ret3
          unfold Lens
          rw [HF2.out]
          exact ⟨rfl, B1.out⟩
        | cons c r =>
          have hi1 : ∀ h, (⟨(b :: c :: r).toArray⟩ : ByteArray)[1]'h = c := fun _ => rfl
          by_cases hc : c.toNat = 0
          · have hc0 : c = 0 := UInt8.toNat_inj.1 hc
            have hcz : (c.toNat : Int) = 0 := by omega
            have HF2 := Lib.hid (HF.out.trans (if_pos (by subst hc0; simp)))
            clear HF hlo hc hc0
            generalize lowF (c :: r) k = x at *
            go_enter Try.func145, Try.ntmps145
            go_wp2_with fail
            refine L.out.mono ?_
            rintro e w1 ⟨rfl, rfl⟩
            go_wp2_with fail
            go_ret3
            unfold Lens
            rw [HF2.out]
            exact ⟨rfl, B1.out⟩
          · have hc0 : c ≠ 0 := fun h => hc (by rw [h]; rfl)
            have hcz : ((c.toNat : Int) == 0) = false := by rw [beq_eq_false_iff_ne]; omega
            by_cases hsh : (c :: r).length < k
            · have HF2 := Lib.hid (HF.out.trans ((if_neg (by have := HK.out; have := HB.out; simp [hc0]; omega)).trans (if_pos hsh)))
              have hsh2 : ((r.length : Nat) : Int) + 1 + 1 ≤ (k : Nat) := by simp only [List.length_cons] at hsh; omega
              clear HF hlo hsh
              generalize lowF (c :: r) k = x at *
              go_enter Try.func145, Try.ntmps145
              go_wp2_with fail
              refine L.out.mono ?_
              rintro e w1 ⟨rfl, rfl⟩
              go_wp2_with fail
              go_ret3
              unfold Lens
              rw [HF2.out]
              exact ⟨rfl, B1.out⟩
            · have HF2 := Lib.hid (HF.out.trans ((if_neg (by have := HK.out; have := HB.out; simp [hc0]; omega)).trans (if_neg hsh)))
              have hsh2 : ¬ (((r.length : Nat) : Int) + 1 + 1 ≤ (k : Nat)) := by simp only [List.length_cons] at hsh; omega
              have hx1 : lowF (c :: r) k ≤ 65536 := by omega
              have hwx : IntKind.i64.wrap ((lowF (c :: r) k : Nat) : Int) = (lowF (c :: r) k : Nat) := IntWalk.i64_in _ (by omega)
              have hwk : IntKind.i64.wrap ((k : Nat) + 1 : Int) = (k : Nat) + 1 := IntWalk.i64_in _ (by omega)
              clear HF hlo hsh
              generalize lowF (c :: r) k = x at *
              go_enter Try.func145, Try.ntmps145
              go_wp2_with fail
              refine L.out.mono ?_
              rintro e w1 ⟨rfl, rfl⟩
              go_wp2_with fail
              have c2 := C2.out
              go_quiet (fail)
              go_wp2_with fail
              go_ret3
              unfold Lens
              rw [HF2.out]
              exact ⟨rfl, below_drewN B1.out _⟩
end Go.Proofs.Ytfojjklohbiffaa
