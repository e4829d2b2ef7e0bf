/- Known answers of layer 2 hold, whatever the memory. -/
import Derived.Test.YtfojjklohbiffaaWireI
namespace Go.Proofs.Ytfojjklohbiffaa
open Go.RowKit Tran Tran.Wire
set_option linter.unusedVariables false
set_option maxRecDepth 100000 in
set_option maxHeartbeats 4000000 in
theorem head02_any (w : World) : Calls Try.prog 56 #[] w fun e w' => e = .returned (.bool true) ∧ Below w.heap.size w w' := by
  go_enter Try.func56, Try.ntmps56
  go_wp2_with fail
  refine (wnew_any w).mono ?_
  rintro e w0 ⟨rfl, hw0⟩
  have n0 : WrAt w0 w.heap.size w.heap.size (.slice none 0 0) [] := by rw [hw0]; exact new_wr w (Nat.le_refl _)
  have b0 : Below w.heap.size w w0 := by rw [hw0]; exact (Below.refl _ _).alloc (Nat.le_refl _) _
  have z0 : w0.heap.size = w.heap.size + 1 := by rw [hw0]; simp
  clear hw0
  have O := open_r (l := [2, 97, 98, 3, 130, 1, 44]) w0 (by simp)
  rw [z0] at O
  have O := Lib.hid O
  go_wp2_with fail
  refine O.out.mono ?_
  rintro e w1 ⟨rfl, r1, hw1⟩
  have d1 : Below w0.heap.size w0 w1 := by rw [hw1]; exact (Below.refl _ _).alloc (Nat.le_refl _) _
  have b1 := b0.trans (d1.mono b0.size)
  have n1 := n0.below d1
  clear hw1 O d1 n0 b0 z0
  have T := wtext_any n1 b1.size (by simp) [97, 98] (by simp)
  rw [tf_ab] at T
  have T := Lib.hid T
  go_wp2_with fail
  refine T.out.mono ?_
  rintro e w2 ⟨v2, rfl, p2⟩
  have b2 := b1.trans (p2.toBelow n1 b1.size)
  have r2 := r1.chg p2.ch (by
    intro k hk
    injection hk with hk; injection hk with hk
    rintro (e | e)
    · omega
    · subst hk; exact own_ne_rd n1.own r1 e)
  have n2 := p2.wr
  clear T p2 n1 r1 b1
  have D := wdot_any n2 b2.size (by simp) 3 300 (by omega) (by omega)
  rw [df_3] at D
  have D := Lib.hid D
  go_wp2_with fail
  refine D.out.mono ?_
  rintro e w3 ⟨v3, rfl, p3⟩
  have b3 := b2.trans (p3.toBelow n2 b2.size)
  have r3 := r2.chg p3.ch (by
    intro k hk
    injection hk with hk; injection hk with hk
    rintro (e | e)
    · omega
    · subst hk; exact own_ne_rd n2.own r2 e)
  have n3 := p3.wr
  clear D p3 n2 r2 b2
  have RT := rtext_r r3 2 (by omega)
  rw [rt_ab] at RT
  have RT := Lib.hid RT
  go_wp2_with fail
  refine RT.out.mono ?_
  rintro e w4 ⟨rfl, q4⟩
  have b4 := b3.trans (q4.toBelow (by omega) b3.size)
  have n4 := n3.chg q4.ch (fun h => by injection h with h; injection h with h; omega) (fun k hk h => by
    injection h with h; injection h with h; subst h; exact own_ne_rd n3.own r3 hk)
  have r4 := q4.rd
  clear RT q4 n3 r3 b3
  have RD := rdot_r r4
  rw [rd_3, show dotV (some [3, 130, 1, 44]) = .agg #[.int .u8 3, .int .u32 300] by unfold dotV; rw [rd_3]; rfl] at RD
  have RD := Lib.hid RD
  go_wp2_with fail
  refine RD.out.mono ?_
  rintro e w5 ⟨rfl, q5⟩
  have b5 := b4.trans (q5.toBelow (by omega) b4.size)
  have n5 := n4.chg q5.ch (fun h => by injection h with h; injection h with h; omega) (fun k hk h => by
    injection h with h; injection h with h; subst h; exact own_ne_rd n4.own r4 hk)
  have r5 := q5.rd
  clear RD q5 n4 r4 b4
  have k6 := Blk.new w5 82 #[.int .u8 3, .int .u32 300]
  have d6 := (Below.refl w5.heap.size w5).alloc (Nat.le_refl _) (.cells #[.int .u8 3, .int .u32 300] 82)
  have b6 := b5.trans (d6.mono b5.size)
  have n6 := n5.below d6
  have r6 := r5.below d6
  obtain ⟨W, hW⟩ : ∃ W, W = w5.alloc (.cells #[.int .u8 3, .int .u32 300] 82) := ⟨_, rfl⟩
  rw [← hW] at k6 b6 n6 r6
  have N := num_any W 5 (by omega)
  rw [nf5, hW] at N
  have N := Lib.hid N
  clear d6 n5 r5 b5
  go_wp2_with fail
  refine N.out.mono ?_
  rw [← hW]
  rintro e w7 ⟨rfl, d7⟩
  have b7 := b6.trans (d7.mono b6.size)
  have n7 := n6.below d7
  have r7 := r6.below d7
  have k7 := k6.below d7 k6.lt
  have N := num_any w7 127 (by omega)
  rw [nf127] at N
  have N := Lib.hid N
  go_wp2_with fail
  refine N.out.mono ?_
  rintro e w8 ⟨rfl, d8⟩
  have b8 := b7.trans (d8.mono b7.size)
  have n8 := n7.below d8
  have r8 := r7.below d8
  have k8 := k7.below d8 k7.lt
  clear N d8 n7 r7 k7 b7
  have N := num_any w8 128 (by omega)
  rw [nf128] at N
  have N := Lib.hid N
  go_wp2_with fail
  refine N.out.mono ?_
  rintro e w9 ⟨rfl, d9⟩
  have b9 := b8.trans (d9.mono b8.size)
  have n9 := n8.below d9
  have r9 := r8.below d9
  have k9 := k8.below d9 k8.lt
  clear N d9 n8 r8 k8 b8
  have N := num_any w9 256 (by omega)
  rw [nf256] at N
  have N := Lib.hid N
  go_wp2_with fail
  refine N.out.mono ?_
  rintro e w10 ⟨rfl, d10⟩
  have b10 := b9.trans (d10.mono b9.size)
  have n10 := n9.below d10
  have r10 := r9.below d10
  have k10 := k9.below d10 k9.lt
  clear N d10 n9 r9 k9 b9
  have N := num_any w10 18446744073709551615 (by omega)
  rw [nfmax] at N
  have N := Lib.hid N
  go_wp2_with fail
  refine N.out.mono ?_
  rintro e w11 ⟨rfl, d11⟩
  have b11 := b10.trans (d11.mono b10.size)
  have n11 := n10.below d11
  have r11 := r10.below d11
  have k11 := k10.below d11 k10.lt
  clear N d11 n10 r10 k10 b10
  have Y := Lib.hid (bytes_any n11)
  go_wp2_with fail
  refine Y.out.mono ?_
  rintro e w12 ⟨rfl, rfl⟩
  have hc0 := k11.cell 0
  have hc1 := k11.cell 1
  have E := end_r r11 (by simp [leftN])
  rw [show endN (some []) = 0 from rfl] at E
  have E := Lib.hid E
  clear Y
  go_wp2_with fail
  refine E.out.mono ?_
  rintro e w12 ⟨rfl, m, hm⟩
  have b12 : Below w.heap.size w w12 := by rw [hm]; exact below_drewN b11 m
  clear E hm hc0 hc1 k11 n11 r11
  have N := Lib.hid (none02_any w12 [129, 5] (by simp) 18446744073709551615 nn1)
  go_wp2_with fail
  refine N.out.mono ?_
  rintro e w13 ⟨rfl, d13⟩
  have b13 := b12.trans (d13.mono b12.size)
  clear N d13 b12
  have N := Lib.hid (none02_any w13 [130, 0, 255] (by simp) 18446744073709551615 nn2)
  go_wp2_with fail
  refine N.out.mono ?_
  rintro e w14 ⟨rfl, d14⟩
  have b14 := b13.trans (d14.mono b13.size)
  clear N d14 b13
  have N := Lib.hid (none02_any w14 [137] (by simp) 18446744073709551615 nn3)
  go_wp2_with fail
  refine N.out.mono ?_
  rintro e w15 ⟨rfl, d15⟩
  have b15 := b14.trans (d15.mono b14.size)
  clear N d15 b14
  have N := Lib.hid (none02_any w15 [128] (by simp) 18446744073709551615 nn4)
  go_wp2_with fail
  refine N.out.mono ?_
  rintro e w16 ⟨rfl, d16⟩
  have b16 := b15.trans (d16.mono b15.size)
  clear N d16 b15
  have N := Lib.hid (none02_any w16 [129] (by simp) 18446744073709551615 nn5)
  go_wp2_with fail
  refine N.out.mono ?_
  rintro e w17 ⟨rfl, d17⟩
  have b17 := b16.trans (d17.mono b16.size)
  clear N d17 b16
  have N := Lib.hid (none02_any w17 [5] (by simp) 4 nn6)
  go_wp2_with fail
  refine N.out.mono ?_
  rintro e w18 ⟨rfl, d18⟩
  have b18 := b17.trans (d18.mono b17.size)
  clear N d18 b17
  go_wp2
  go_ret
  exact ⟨rfl, b18⟩
end Go.Proofs.Ytfojjklohbiffaa
