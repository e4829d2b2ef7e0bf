/- One act on a net and on the document's. -/
import Derived.Test.YtfojjklohbiffaaNetH
namespace Go.Proofs.Ytfojjklohbiffaa
open Go.RowKit Tran
set_option linter.unusedVariables false
theorem Held.next {w w' : World} {g B : Nat} {v u u' : Value} {l l' l2 : List (List UInt8)} (h : Held w g v u l) (n : NetAt w g B v l2) (ht : Txt w' u' l') (hk : ∀ k, rdOf u' = some k → rdOf u = some k ∨ w.heap.size ≤ k) : Held w' g v u' l' :=
  ⟨ht, fun k he => by
    rcases hk k he with h1 | h1
    · exact h.far k h1
    · have h2 := n.lt
      exact ⟨by omega, fun e => by have := h2.2 k e; omega⟩⟩
def actF (l : List (List UInt8)) (what : Int) (s : List UInt8) (place : Int) : List (List UInt8) :=
  if what % 5 = 0 ∨ what % 5 = 1 then (sendF l s).1 else if what % 5 = 2 ∨ what % 5 = 3 then (takeF l place).1 else (doubleF l place).1
theorem sendF_len (l : List (List UInt8)) (s : List UInt8) : (sendF l s).1.length ≤ l.length + 1 := by
  unfold sendF; split
  · simp
  · split <;> simp
theorem actF_len (l : List (List UInt8)) (what : Int) (s : List UInt8) (place : Int) : (actF l what s place).length ≤ l.length + 1 := by
  unfold actF
  split
  · exact sendF_len l s
  · split
    · unfold takeF; split
      · simp [cutF]; omega
      · simp
    · unfold doubleF; split
      · exact sendF_len l _
      · simp
def NDid (w : World) (g B : Nat) (l' : List (List UInt8)) (e : Ending) (w' : World) : Prop :=
  ∃ v' u', e = .returned (.tuple #[u', .bool true]) ∧ NetAt w' g B v' l' ∧ Held w' g v' u' l' ∧ Below B w w'
theorem drop_take (l : List (List UInt8)) (p : Int) : (dropF l p).1 = (takeF l p).1 ∧ (dropF l p).2 = (takeF l p).2.2 := by
  unfold dropF takeF; split <;> exact ⟨rfl, rfl⟩
set_option maxRecDepth 100000 in
set_option maxHeartbeats 1000000 in
theorem does_0 {w : World} {g B : Nat} {v u : Value} {l : List (List UInt8)} (h : NetAt w g B v l) (hq : Held w g v u l) (hB : B ≤ w.heap.size) (hl : l.length ≤ 5000) (what : Int) (s : List UInt8) (place : Int) (h0 : 0 ≤ what) (hx : what % 5 = 0) :
    Calls Try.prog 52 #[.pointer (some ⟨g, 0, none⟩), u, .agg #[.int .u8 what, .string ⟨s.toArray⟩, .int .i64 place]] w (NDid w g B (sendF l s).1) := by
  have hb1 := (Below.refl w.heap.size w).alloc (Nat.le_refl _) (.cells #[.int .u8 what, .string ⟨s.toArray⟩, .int .i64 place] 46)
  have hbk := Blk.new w 46 #[.int .u8 what, .string ⟨s.toArray⟩, .int .i64 place]
  have n1 := h.below hb1
  have q1 := hq.later hb1
  have hlt := h.lt
  have hc0 := hbk.cell 0
  have hc1 := hbk.cell 1
  have hc2 := hbk.cell 2
  have S := Lib.hid (send_any n1 (by simp; omega) s)
  obtain ⟨A, cap, rfl, _, _, _⟩ := hq.txt
  have t0 : (what % 5 == 0) = true := by rw [beq_iff_eq]; omega
  clear hx
  go_enter Try.func52, Try.ntmps52
  go_wp2_with fail
  refine S.out.mono ?_
  rintro e w2 ⟨v2, rfl, n2, m2, g2⟩
  have q2 := q1.step m2 g2
  have b2 : Below B w w2 := (hb1.mono hB).trans (n1.toBelow (by simp; omega) g2)
  have hbk2 := hbk.chg g2 (by
    rintro (e | e)
    · omega
    · have := hlt.2 _ e; omega)
  have hd0 := hbk2.cell 0
  have hd1 := hbk2.cell 1
  have hd2 := hbk2.cell 2
  have R := Lib.hid (refsend_any q2.txt s)
  clear hc0 hc1 hc2 S
  go_wp2_with fail
  refine R.out.mono ?_
  rintro e w3 ⟨u3, rfl, t3, b3, k3⟩
  have n3 := n2.below b3
  have q3 := q2.next n2 t3 k3
  clear hd0 hd1 hd2 R
  go_wp2
  go_ret2
  exact ⟨v2, u3, rfl, n3, q3, b2.trans (b3.mono (Nat.le_trans hB b2.size))⟩
set_option maxRecDepth 100000 in
set_option maxHeartbeats 1000000 in
theorem does_1 {w : World} {g B : Nat} {v u : Value} {l : List (List UInt8)} (h : NetAt w g B v l) (hq : Held w g v u l) (hB : B ≤ w.heap.size) (hl : l.length ≤ 5000) (what : Int) (s : List UInt8) (place : Int) (h0 : 0 ≤ what) (hx : what % 5 = 1) :
    Calls Try.prog 52 #[.pointer (some ⟨g, 0, none⟩), u, .agg #[.int .u8 what, .string ⟨s.toArray⟩, .int .i64 place]] w (NDid w g B (sendF l s).1) := by
  have hb1 := (Below.refl w.heap.size w).alloc (Nat.le_refl _) (.cells #[.int .u8 what, .string ⟨s.toArray⟩, .int .i64 place] 46)
  have hbk := Blk.new w 46 #[.int .u8 what, .string ⟨s.toArray⟩, .int .i64 place]
  have n1 := h.below hb1
  have q1 := hq.later hb1
  have hlt := h.lt
  have hc0 := hbk.cell 0
  have hc1 := hbk.cell 1
  have hc2 := hbk.cell 2
  have S := Lib.hid (send_any n1 (by simp; omega) s)
  obtain ⟨A, cap, rfl, _, _, _⟩ := hq.txt
  have t0 : (what % 5 == 0) = false := by rw [beq_eq_false_iff_ne]; omega
  have t1 : (what % 5 == 1) = true := by rw [beq_iff_eq]; omega
  clear hx
  go_enter Try.func52, Try.ntmps52
  go_wp2_with fail
  refine S.out.mono ?_
  rintro e w2 ⟨v2, rfl, n2, m2, g2⟩
  have q2 := q1.step m2 g2
  have b2 : Below B w w2 := (hb1.mono hB).trans (n1.toBelow (by simp; omega) g2)
  have hbk2 := hbk.chg g2 (by
    rintro (e | e)
    · omega
    · have := hlt.2 _ e; omega)
  have hd0 := hbk2.cell 0
  have hd1 := hbk2.cell 1
  have hd2 := hbk2.cell 2
  have R := Lib.hid (refsend_any q2.txt s)
  clear hc0 hc1 hc2 S
  go_wp2_with fail
  refine R.out.mono ?_
  rintro e w3 ⟨u3, rfl, t3, b3, k3⟩
  have n3 := n2.below b3
  have q3 := q2.next n2 t3 k3
  clear hd0 hd1 hd2 R
  go_wp2
  go_ret2
  exact ⟨v2, u3, rfl, n3, q3, b2.trans (b3.mono (Nat.le_trans hB b2.size))⟩
set_option maxRecDepth 100000 in
set_option maxHeartbeats 1000000 in
theorem does_2 {w : World} {g B : Nat} {v u : Value} {l : List (List UInt8)} (h : NetAt w g B v l) (hq : Held w g v u l) (hB : B ≤ w.heap.size) (hl : l.length ≤ 5000) (what : Int) (s : List UInt8) (place : Int) (h0 : 0 ≤ what) (hx : what % 5 = 2) :
    Calls Try.prog 52 #[.pointer (some ⟨g, 0, none⟩), u, .agg #[.int .u8 what, .string ⟨s.toArray⟩, .int .i64 place]] w (NDid w g B (takeF l place).1) := by
  have hb1 := (Below.refl w.heap.size w).alloc (Nat.le_refl _) (.cells #[.int .u8 what, .string ⟨s.toArray⟩, .int .i64 place] 46)
  have hbk := Blk.new w 46 #[.int .u8 what, .string ⟨s.toArray⟩, .int .i64 place]
  have n1 := h.below hb1
  have q1 := hq.later hb1
  have hlt := h.lt
  have hc0 := hbk.cell 0
  have hc1 := hbk.cell 1
  have hc2 := hbk.cell 2
  have S := Lib.hid (deliver_any n1 (by simp; omega) hl place)
  obtain ⟨A, cap, rfl, _, _, _⟩ := hq.txt
  have t0 : (what % 5 == 0) = false := by rw [beq_eq_false_iff_ne]; omega
  have t1 : (what % 5 == 1) = false := by rw [beq_eq_false_iff_ne]; omega
  have t2 : (what % 5 == 2) = true := by rw [beq_iff_eq]; omega
  clear hx
  go_enter Try.func52, Try.ntmps52
  go_wp2_with fail
  refine S.out.mono ?_
  rintro e w2 ⟨v2, rfl, n2, m2, g2⟩
  have q2 := q1.step m2 g2
  have b2 : Below B w w2 := (hb1.mono hB).trans (n1.toBelow (by simp; omega) g2)
  have hbk2 := hbk.chg g2 (by
    rintro (e | e)
    · omega
    · have := hlt.2 _ e; omega)
  have hd0 := hbk2.cell 0
  have hd1 := hbk2.cell 1
  have hd2 := hbk2.cell 2
  have R := Lib.hid (reftake_any q2.txt hl place)
  clear hc0 hc1 hc2 S
  go_wp2_with fail
  refine R.out.mono ?_
  rintro e w3 ⟨u3, rfl, t3, b3, k3⟩
  have n3 := n2.below b3
  have q3 := q2.next n2 t3 k3
  clear hd0 hd1 hd2 R
  go_wp2
  go_ret2
  exact ⟨v2, u3, rfl, n3, q3, b2.trans (b3.mono (Nat.le_trans hB b2.size))⟩
set_option maxRecDepth 100000 in
set_option maxHeartbeats 1000000 in
theorem does_3 {w : World} {g B : Nat} {v u : Value} {l : List (List UInt8)} (h : NetAt w g B v l) (hq : Held w g v u l) (hB : B ≤ w.heap.size) (hl : l.length ≤ 5000) (what : Int) (s : List UInt8) (place : Int) (h0 : 0 ≤ what) (hx : what % 5 = 3) :
    Calls Try.prog 52 #[.pointer (some ⟨g, 0, none⟩), u, .agg #[.int .u8 what, .string ⟨s.toArray⟩, .int .i64 place]] w (NDid w g B (takeF l place).1) := by
  have hb1 := (Below.refl w.heap.size w).alloc (Nat.le_refl _) (.cells #[.int .u8 what, .string ⟨s.toArray⟩, .int .i64 place] 46)
  have hbk := Blk.new w 46 #[.int .u8 what, .string ⟨s.toArray⟩, .int .i64 place]
  have n1 := h.below hb1
  have q1 := hq.later hb1
  have hlt := h.lt
  have hc0 := hbk.cell 0
  have hc1 := hbk.cell 1
  have hc2 := hbk.cell 2
  have S := Lib.hid (drop_any n1 (by simp; omega) hl place)
  obtain ⟨A, cap, rfl, _, _, _⟩ := hq.txt
  have t0 : (what % 5 == 0) = false := by rw [beq_eq_false_iff_ne]; omega
  have t1 : (what % 5 == 1) = false := by rw [beq_eq_false_iff_ne]; omega
  have t2 : (what % 5 == 2) = false := by rw [beq_eq_false_iff_ne]; omega
  have t3 : (what % 5 == 3) = true := by rw [beq_iff_eq]; omega
  clear hx
  go_enter Try.func52, Try.ntmps52
  go_wp2_with fail
  refine S.out.mono ?_
  rintro e w2 ⟨v2, rfl, n2, m2, g2⟩
  have q2 := q1.step m2 g2
  have b2 : Below B w w2 := (hb1.mono hB).trans (n1.toBelow (by simp; omega) g2)
  have hbk2 := hbk.chg g2 (by
    rintro (e | e)
    · omega
    · have := hlt.2 _ e; omega)
  have hd0 := hbk2.cell 0
  have hd1 := hbk2.cell 1
  have hd2 := hbk2.cell 2
  have R := Lib.hid (reftake_any q2.txt hl place)
  clear hc0 hc1 hc2 S
  go_wp2_with fail
  refine R.out.mono ?_
  rintro e w3 ⟨u3, rfl, t3, b3, k3⟩
  have n3 := n2.below b3
  have q3 := q2.next n2 t3 k3
  have hdt := drop_take l place
  have hd : (dropF l place).2 = (takeF l place).2.2 := hdt.2
  rw [hdt.1] at n3
  clear hdt
  clear hd0 hd1 hd2 R
  go_wp2
  go_ret2
  exact ⟨v2, u3, rfl, n3, q3, b2.trans (b3.mono (Nat.le_trans hB b2.size))⟩
set_option maxRecDepth 100000 in
set_option maxHeartbeats 1000000 in
theorem does_4 {w : World} {g B : Nat} {v u : Value} {l : List (List UInt8)} (h : NetAt w g B v l) (hq : Held w g v u l) (hB : B ≤ w.heap.size) (hl : l.length ≤ 5000) (what : Int) (s : List UInt8) (place : Int) (h0 : 0 ≤ what) (hx : what % 5 = 4) :
    Calls Try.prog 52 #[.pointer (some ⟨g, 0, none⟩), u, .agg #[.int .u8 what, .string ⟨s.toArray⟩, .int .i64 place]] w (NDid w g B (doubleF l place).1) := by
  have hb1 := (Below.refl w.heap.size w).alloc (Nat.le_refl _) (.cells #[.int .u8 what, .string ⟨s.toArray⟩, .int .i64 place] 46)
  have hbk := Blk.new w 46 #[.int .u8 what, .string ⟨s.toArray⟩, .int .i64 place]
  have n1 := h.below hb1
  have q1 := hq.later hb1
  have hlt := h.lt
  have hc0 := hbk.cell 0
  have hc1 := hbk.cell 1
  have hc2 := hbk.cell 2
  have S := Lib.hid (double_any n1 (by simp; omega) place)
  obtain ⟨A, cap, rfl, _, _, _⟩ := hq.txt
  have t0 : (what % 5 == 0) = false := by rw [beq_eq_false_iff_ne]; omega
  have t1 : (what % 5 == 1) = false := by rw [beq_eq_false_iff_ne]; omega
  have t2 : (what % 5 == 2) = false := by rw [beq_eq_false_iff_ne]; omega
  have t3 : (what % 5 == 3) = false := by rw [beq_eq_false_iff_ne]; omega
  clear hx
  go_enter Try.func52, Try.ntmps52
  go_wp2_with fail
  refine S.out.mono ?_
  rintro e w2 ⟨v2, rfl, n2, m2, g2⟩
  have q2 := q1.step m2 g2
  have b2 : Below B w w2 := (hb1.mono hB).trans (n1.toBelow (by simp; omega) g2)
  have hbk2 := hbk.chg g2 (by
    rintro (e | e)
    · omega
    · have := hlt.2 _ e; omega)
  have hd0 := hbk2.cell 0
  have hd1 := hbk2.cell 1
  have hd2 := hbk2.cell 2
  have R := Lib.hid (refdouble_any q2.txt place)
  clear hc0 hc1 hc2 S
  go_wp2_with fail
  refine R.out.mono ?_
  rintro e w3 ⟨u3, rfl, t3, b3, k3⟩
  have n3 := n2.below b3
  have q3 := q2.next n2 t3 k3
  clear hd0 hd1 hd2 R
  go_wp2
  go_ret2
  exact ⟨v2, u3, rfl, n3, q3, b2.trans (b3.mono (Nat.le_trans hB b2.size))⟩
theorem does_any {w : World} {g B : Nat} {v u : Value} {l : List (List UInt8)} (h : NetAt w g B v l) (hq : Held w g v u l) (hB : B ≤ w.heap.size) (hl : l.length ≤ 5000) (what : Int) (s : List UInt8) (place : Int) (h0 : 0 ≤ what) :
    Calls Try.prog 52 #[.pointer (some ⟨g, 0, none⟩), u, .agg #[.int .u8 what, .string ⟨s.toArray⟩, .int .i64 place]] w (NDid w g B (actF l what s place)) := by
  have h5 : what % 5 = 0 ∨ what % 5 = 1 ∨ what % 5 = 2 ∨ what % 5 = 3 ∨ what % 5 = 4 := by omega
  unfold actF
  rcases h5 with hx | hx | hx | hx | hx
  · rw [if_pos (.inl hx)]; exact does_0 h hq hB hl what s place h0 hx
  · rw [if_pos (.inr hx)]; exact does_1 h hq hB hl what s place h0 hx
  · rw [if_neg (by omega), if_pos (.inl hx)]; exact does_2 h hq hB hl what s place h0 hx
  · rw [if_neg (by omega), if_pos (.inr hx)]; exact does_3 h hq hB hl what s place h0 hx
  · rw [if_neg (by omega), if_neg (by omega)]; exact does_4 h hq hB hl what s place h0 hx
end Go.Proofs.Ytfojjklohbiffaa
