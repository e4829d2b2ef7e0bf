/- The known answers of layer 13 (head) hold, whatever the memory. -/
import Derived.Test.YtfojjklohbiffaaNetG
namespace Go.Proofs.Ytfojjklohbiffaa
open Go.RowKit Tran
/-- texts apart from a net's memory -/
structure Held (w : World) (g : Nat) (v u : Value) (l : List (List UInt8)) : Prop where
  txt : Txt w u l
  far : ∀ k, rdOf u = some k → k ≠ g ∧ blkOf v ≠ some k
theorem NetAt.below {w w' : World} {g B : Nat} {v : Value} {l : List (List UInt8)} (h : NetAt w g B v l) (hb : Below w.heap.size w w') : NetAt w' g B v l :=
  h.chg (Chg.of_below (S := fun _ => False) hb) (fun h => h) (fun _ _ h => h)
theorem NetAt.toBelow {w w' : World} {g B : Nat} {v : Value} {l : List (List UInt8)} (h : NetAt w g B v l) (hB : B ≤ w.heap.size) (hc : Chg (fun k => k = g ∨ blkOf v = some k) w w') : Below B w w' :=
  hc.toBelow hB (by
    rintro k _ (rfl | hk)
    · exact h.ge
    · exact (h.own.lt k hk).1)
theorem Held.step {w w' : World} {g : Nat} {v v' u : Value} {l : List (List UInt8)} (h : Held w g v u l) (hm : Moved w v v') (hc : Chg (fun k => k = g ∨ blkOf v = some k) w w') : Held w' g v' u l := by
  refine ⟨h.txt.chg hc (fun k hk => ?_), fun k hk => ⟨(h.far k hk).1, fun e => ?_⟩⟩
  · rintro (e | e)
    · exact (h.far k hk).1 e
    · exact (h.far k hk).2 e
  · rcases hm with hm | hm
    · rw [hm] at e; exact (h.far k hk).2 e
    · have := hm k e; have := h.txt.lt hk; omega
theorem Held.later {w w' : World} {g : Nat} {v u : Value} {l : List (List UInt8)} (h : Held w g v u l) (hb : Below w.heap.size w w') : Held w' g v u l := ⟨h.txt.later hb, h.far⟩
theorem Held.new {w w' : World} {g B : Nat} {v u : Value} {l l' : List (List UInt8)} (h : NetAt w g B v l) (ho : Own w' w.heap.size 9 1 u l'.length (strs l')) : Held w' g v u l' :=
  ⟨Txt.of ho, fun k hk => by
    have h1 := (ho.lt k (rd_blk ho hk)).1
    have h2 := h.lt
    exact ⟨by omega, fun e => by have := h2.2 k e; omega⟩⟩
theorem lit_own (w : World) (l : List (List UInt8)) (hl : l.length ≤ 1000) : Own (w.alloc (.cells (strs l).toArray 9)) w.heap.size 9 1 (.slice (some ⟨w.heap.size, 0, none⟩) l.length l.length) l.length (strs l) := by
  have := Own.lit w 9 (strs l).toArray (by simp [strs, maxLen]; omega) (Nat.le_refl w.heap.size)
  simpa [strs] using this
set_option maxRecDepth 100000 in
set_option maxHeartbeats 1000000 in
theorem head13_any (w : World) : Calls Try.prog 34 #[] w fun e w' => e = .returned (.bool true) ∧ Below w.heap.size w w' := by
  go_enter Try.func34, Try.ntmps34
  go_wp2_with fail
  refine (new_any w).mono ?_
  rintro e w0 ⟨rfl, hw0⟩
  have n0 : NetAt w0 w.heap.size w.heap.size (.slice none 0 0) [] := by rw [hw0]; exact new_net w (Nat.le_refl _)
  have b0 : Below w.heap.size w w0 := by rw [hw0]; exact (Below.refl _ _).alloc (Nat.le_refl _) _
  clear hw0
  have c1 := send_any n0 b0.size [97]
  rw [show sendF [] [97] = ([[97]], 0) by rfl] at c1
  have C1 := Lib.hid c1; clear c1
  go_wp2_with fail
  refine C1.out.mono ?_
  rintro e w1 ⟨v1, rfl, n1, m1, g1⟩
  have b1 := b0.trans (n0.toBelow b0.size g1)
  have c2 := send_any n1 b1.size [98]
  rw [show sendF [[97]] [98] = ([[97], [98]], 0) by rfl] at c2
  have C2 := Lib.hid c2; clear c2
  go_wp2_with fail
  refine C2.out.mono ?_
  rintro e w2 ⟨v2, rfl, n2, m2, g2⟩
  have b2 := b1.trans (n1.toBelow b1.size g2)
  have c3 := double_any n2 b2.size 0
  rw [show doubleF [[97], [98]] 0 = ([[97], [98], [97]], 0) by rfl] at c3
  have C3 := Lib.hid c3; clear c3
  go_wp2_with fail
  refine C3.out.mono ?_
  rintro e w3 ⟨v3, rfl, n3, m3, g3⟩
  have b3 := b2.trans (n2.toBelow b2.size g3)
  have C4 := Lib.hid (frames_any n3 (by simp))
  go_wp2_with fail
  refine C4.out.mono ?_
  rintro e w4 ⟨u4, rfl, o4, d4⟩
  have b4 := b3.trans (d4.mono b3.size)
  have n4 := n3.below d4
  have h4 := Held.new n3 o4
  have c5 := deliver_any n4 b4.size (by simp) 1
  rw [show takeF [[97], [98], [97]] 1 = ([[97], [97]], [98], 0) by rfl] at c5
  have C5 := Lib.hid c5; clear c5
  go_wp2_with fail
  refine C5.out.mono ?_
  rintro e w5 ⟨v5, rfl, n5, m5, g5⟩
  have b5 := b4.trans (n4.toBelow b4.size g5)
  have h5 := h4.step m5 g5
  have c6 := drop_any n5 b5.size (by simp) 0
  rw [show dropF [[97], [97]] 0 = ([[97]], 0) by rfl] at c6
  have C6 := Lib.hid c6; clear c6
  go_wp2_with fail
  refine C6.out.mono ?_
  rintro e w6 ⟨v6, rfl, n6, m6, g6⟩
  have b6 := b5.trans (n5.toBelow b5.size g6)
  have h6 := h5.step m6 g6
  have C7 := Lib.hid (frames_any n6 (by simp))
  go_wp2_with fail
  refine C7.out.mono ?_
  rintro e w7 ⟨u7, rfl, o7, d7⟩
  have b7 := b6.trans (d7.mono b6.size)
  have n7 := n6.below d7
  have h7 := h6.later d7
  have k7 := Held.new n6 o7
  have c8 := deliver_any n7 b7.size (by simp) 1
  rw [show takeF [[97]] 1 = ([[97]], [], 7) by rfl] at c8
  have C8 := Lib.hid c8; clear c8
  go_wp2_with fail
  refine C8.out.mono ?_
  rintro e w8 ⟨v8, rfl, n8, m8, g8⟩
  have b8 := b7.trans (n7.toBelow b7.size g8)
  have h8 := h7.step m8 g8
  have k8 := k7.step m8 g8
  have t9 := h8.txt
  have t10 := k8.txt
  clear C1 C2 C3 C4 C5 C6 C7 C8 n0 n1 n2 n3 n4 n5 n6 n7 n8 m1 m2 m3 m5 m6 m8 g1 g2 g3 g5 g6 g8 o4 d4 h4 h5 h6 h7 h8 k7 k8 o7 d7 b0 b1 b2 b3 b4 b5 b6 b7
  have l9 := (Below.refl w8.heap.size w8).alloc (Nat.le_refl _) (.cells #[.string ⟨#[97]⟩, .string ⟨#[98]⟩, .string ⟨#[97]⟩] 9)
  have c9 : Calls Try.prog 53 #[u4, .slice (some ⟨w8.heap.size, 0, none⟩) 3 3] (w8.alloc (.cells #[.string ⟨#[97]⟩, .string ⟨#[98]⟩, .string ⟨#[97]⟩] 9)) fun e w' => e = .returned (.bool true) ∧ Below (w8.alloc (.cells #[.string ⟨#[97]⟩, .string ⟨#[98]⟩, .string ⟨#[97]⟩] 9)).heap.size (w8.alloc (.cells #[.string ⟨#[97]⟩, .string ⟨#[98]⟩, .string ⟨#[97]⟩] 9)) w' :=
    same_any (t9.later l9) (Txt.of (lit_own w8 [[97], [98], [97]] (by simp))) (by simp)
  have C9 := Lib.hid c9; clear c9
  have b9 := b8.alloc b8.size (.cells #[.string ⟨#[97]⟩, .string ⟨#[98]⟩, .string ⟨#[97]⟩] 9)
  go_wp2_with fail
  refine C9.out.mono ?_
  rintro e w9 ⟨rfl, d9⟩
  have e9 := b9.trans (d9.mono b9.size)
  have t11 := (t10.later l9).later d9
  have l10 := (Below.refl w9.heap.size w9).alloc (Nat.le_refl _) (.cells #[.string ⟨#[97]⟩] 9)
  have c10 : Calls Try.prog 53 #[u7, .slice (some ⟨w9.heap.size, 0, none⟩) 1 1] (w9.alloc (.cells #[.string ⟨#[97]⟩] 9)) fun e w' => e = .returned (.bool true) ∧ Below (w9.alloc (.cells #[.string ⟨#[97]⟩] 9)).heap.size (w9.alloc (.cells #[.string ⟨#[97]⟩] 9)) w' :=
    same_any (t11.later l10) (Txt.of (lit_own w9 [[97]] (by simp))) (by simp)
  have C10 := Lib.hid c10; clear c10
  have b10 := e9.alloc e9.size (.cells #[.string ⟨#[97]⟩] 9)
  go_wp2_with fail
  refine C10.out.mono ?_
  rintro e w10 ⟨rfl, d10⟩
  have e10 := b10.trans (d10.mono b10.size)
  go_wp2
  go_ret
  exact ⟨rfl, e10⟩
end Go.Proofs.Ytfojjklohbiffaa
