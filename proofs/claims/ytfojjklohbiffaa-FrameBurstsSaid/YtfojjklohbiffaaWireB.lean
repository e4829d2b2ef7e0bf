/- Writers in memory: Text, Dot, Vector, Bytes; the numbers of law02. -/
import Derived.Test.YtfojjklohbiffaaWireA
import Derived.Test.YtfojjklohbiffaaAppS
namespace Go.Proofs.Ytfojjklohbiffaa
open Go.RowKit Tran Tran.Wire
set_option linter.unusedVariables false
set_option maxRecDepth 100000 in
set_option maxHeartbeats 2000000 in
theorem bytes_any {w : World} {g B : Nat} {v : Value} {l : List UInt8} (h : WrAt w g B v l) : Calls Try.prog 59 #[.pointer (some ⟨g, 0, none⟩)] w fun e w' => e = .returned (.string ⟨l.toArray⟩) ∧ w = w' := by
  have hc : w.cell? ⟨g, 0, none⟩ = some v := h.blk.cell 0
  obtain ⟨A, cap, rfl, hncap, hcm, hrd⟩ := h.own.slice
  have ho := h.own
  go_enter Try.func59, Try.ntmps59
  go_wp2_with (refine wpList_string_of rfl 35 9 (.tmp 8) rfl 5 _ B _ l rfl Try.underlying35 Try.underlying5 Try.underlying9 ho ?_)
  go_ret
  exact ⟨rfl, rfl⟩
set_option maxRecDepth 100000 in
set_option maxHeartbeats 2000000 in
theorem num_any (w : World) (n : Nat) (hn : n < 2 ^ 64) : Calls Try.prog 69 #[.int .u64 n] w fun e w' => e = .returned (.string ⟨(numF n).toArray⟩) ∧ Below w.heap.size w w' := by
  have N := Lib.hid (fun (W : World) (g B : Nat) (v : Value) (h : WrAt W g B v []) (hB : B ≤ W.heap.size) => wnum_any h hB (by simp) n hn)
  clear hn
  go_enter Try.func69, Try.ntmps69
  go_wp2_with fail
  refine (wnew_any w).mono ?_
  rintro e w0 ⟨rfl, hw0⟩
  have n0 : WrAt w0 w.heap.size w.heap.size (.slice none 0 0) [] := by rw [hw0]; exact new_wr w (Nat.le_refl _)
  have b0 : Below w.heap.size w w0 := by rw [hw0]; exact (Below.refl _ _).alloc (Nat.le_refl _) _
  clear hw0
  go_wp2_with fail
  refine (N.out _ _ _ _ n0 b0.size).mono ?_
  rintro e w1 ⟨v1, rfl, p1⟩
  have b1 := b0.trans (p1.toBelow n0 b0.size)
  have n1 := p1.wr
  rw [List.nil_append] at n1
  have Y := Lib.hid (bytes_any n1)
  go_wp2_with fail
  refine Y.out.mono ?_
  rintro e w2 ⟨rfl, rfl⟩
  go_wp2
  go_ret
  exact ⟨rfl, b1⟩
/-- a text as the wire writes it -/
def textF (s : List UInt8) : List UInt8 := numF s.length ++ s
set_option maxRecDepth 100000 in
set_option maxHeartbeats 2000000 in
theorem wtext_any {w : World} {g B : Nat} {v : Value} {l : List UInt8} (h : WrAt w g B v l) (hB : B ≤ w.heap.size) (hl : l.length ≤ 900000000) (s : List UInt8) (hs : s.length ≤ 100000000) :
    Calls Try.prog 71 #[.pointer (some ⟨g, 0, none⟩), .string ⟨s.toArray⟩] w (Wrote w g B v (l ++ textF s)) := by
  obtain ⟨i0, hi, hz0, hz1, hz2⟩ := info_parts info5w
  have N := Lib.hid (wnum_any h hB (by omega) s.length (by omega))
  have hnl := (numF_len s.length (by omega)).1
  go_enter Try.func71, Try.ntmps71
  go_wp2_with fail
  refine N.out.mono ?_
  rintro e w1 ⟨v1, rfl, p1⟩
  have h1 := p1.wr
  have hB1 : B ≤ w1.heap.size := Nat.le_trans hB p1.ch.size
  obtain ⟨m, hm⟩ : ∃ m, m = l ++ numF s.length := ⟨_, rfl⟩
  rw [← hm] at h1 p1
  have hml : m.length ≤ 1000000000 := by rw [hm, List.length_append]; omega
  have HM := Lib.hid hm
  clear hm hnl
  have hc := h1.blk.cell 0
  have hc1 : w1.cell? ⟨g, 1, none⟩ = some (.bool true) := h1.blk.cell 1
  have hfz := h1.blk.frozen 0
  have ho := h1.own
  have hbk := h1.blk
  obtain ⟨A, cap, rfl, _, hcm, _⟩ := h1.own.slice
  have HNE := Lib.hid (p := some g ≠ blkOf (Value.slice A m.length cap)) (fun e => ho.ne_ hbk (by decide) e.symm)
  clear N
  go_wp2_with (at_builtin; refine wpList_append_Own_str _ rfl (.tmp 21) (.tmp 22) 35 9 rfl B 5 i0 Try.underlying35 Try.underlying9 hi hz0 hz1 hz2 (.slice A m.length cap) _ _ rfl ho s rfl (by unfold maxLen; omega) (by omega) hB1 ?_; intro v' w3 ho4 hg4 hat4; obtain ⟨A2, cap2, rfl, _, _, _⟩ := ho4.slice; have hbk3 := hbk.grown hg4 HNE.out; have hc3 := hbk3.cell 0; have hf3 := hbk3.frozen 0)
  refine bodyPost_end (results_none rfl _ _ _) rfl ?_
  have ho5 : Own w3 B 5 1 (.slice A2 (m.length + s.length) cap2) (m ++ s).length (bc (m ++ s)) := by
    rw [bc_append, List.length_append]; exact ho4
  refine ⟨.slice A2 (m.length + s.length) cap2, rfl, ?_⟩
  have p2 := p1.trans (h1.put ho5 hg4 hat4)
  have e : m ++ s = l ++ textF s := by rw [HM.out, List.append_assoc]; rfl
  rw [e] at p2
  exact p2
/-- a dot as the wire writes it -/
def dotF (r n : Nat) : List UInt8 := numF r ++ numF n
set_option maxRecDepth 100000 in
set_option maxHeartbeats 2000000 in
theorem wdot_any {w : World} {g B : Nat} {v : Value} {l : List UInt8} (h : WrAt w g B v l) (hB : B ≤ w.heap.size) (hl : l.length ≤ 900000000) (r n : Nat) (hr : r < 256) (hn : n < 2 ^ 32) :
    Calls Try.prog 72 #[.pointer (some ⟨g, 0, none⟩), .agg #[.int .u8 r, .int .u32 n]] w (Wrote w g B v (l ++ dotF r n)) := by
  have l0 := (Below.refl w.heap.size w).alloc (Nat.le_refl _) (.cells #[.int .u8 r, .int .u32 n] 82)
  have hb0 := Blk.new w 82 #[.int .u8 r, .int .u32 n]
  have h0 := h.below l0
  have p0 := (Put.refl h).below l0
  have hc0 := hb0.cell 0
  have hlt := h.blk.lt
  have hltv := fun k hk => (h.own.lt k hk).2
  have N := Lib.hid (wnum_any h0 (by simp; omega) (by omega) r (by omega))
  have hn1 := (numF_len r (by omega)).1
  have hn2 : n < 2 ^ 64 := by omega
  have HN2 := Lib.hid hn2
  clear hn2
  go_enter Try.func72, Try.ntmps72
  go_wp2_with fail
  refine N.out.mono ?_
  rintro e w1 ⟨v1, rfl, p1⟩
  have hb1 := hb0.chg p1.ch (by
    rintro (e | e)
    · omega
    · have := hltv _ e; omega)
  have hc1 := hb1.cell 1
  have hB1 : B ≤ w1.heap.size := Nat.le_trans (by simp; omega) p1.ch.size
  have N2 := Lib.hid (wnum_any p1.wr hB1 (by rw [List.length_append]; omega) n HN2.out)
  clear N hc0
  go_wp2_with fail
  refine N2.out.mono ?_
  rintro e w2 ⟨v2, rfl, p2⟩
  go_wp2
  refine bodyPost_end (results_none rfl _ _ _) rfl ?_
  refine ⟨v2, rfl, ?_⟩
  have p3 := (p0.trans p1).trans p2
  rw [List.append_assoc] at p3
  exact p3
/-- a pointer to no writer -/
def NoWr (w : World) (p : Value) : Prop := p = .pointer none ∨ ∃ g, p = .pointer (some ⟨g, 0, none⟩) ∧ Blk w g 104 #[.slice none 0 0, .bool false]
set_option maxRecDepth 100000 in
set_option maxHeartbeats 2000000 in
theorem wnum_no {w : World} {p : Value} (h : NoWr w p) (n : Nat) : Calls Try.prog 70 #[p, .int .u64 n] w fun e w' => e = .returned (.tuple #[]) ∧ w = w' := by
  rcases h with rfl | ⟨g, rfl, hb⟩
  · go_enter Try.func70, Try.ntmps70
    go_step3
    go_wp2
    rw [Exit.noGoto_ret]
    refine bodyPost_ret (results_none rfl _ _ _) rfl ?_
    exact ⟨rfl, rfl⟩
  · have hc1 : w.cell? ⟨g, 1, none⟩ = some (.bool false) := hb.cell 1
    go_enter Try.func70, Try.ntmps70
    go_step3
    go_wp2
    rw [Exit.noGoto_ret]
    refine bodyPost_ret (results_none rfl _ _ _) rfl ?_
    exact ⟨rfl, rfl⟩
set_option maxRecDepth 100000 in
set_option maxHeartbeats 2000000 in
theorem wtext_no {w : World} {p : Value} (h : NoWr w p) (s : List UInt8) (hs : s.length ≤ 100000000) : Calls Try.prog 71 #[p, .string ⟨s.toArray⟩] w fun e w' => e = .returned (.tuple #[]) ∧ w = w' := by
  · have N := Lib.hid (wnum_no h s.length)
    rcases h with rfl | ⟨g, rfl, hb⟩
    · go_enter Try.func71, Try.ntmps71
      go_wp2_with fail
      refine N.out.mono ?_
      rintro e w1 ⟨rfl, rfl⟩
      go_wp2
      refine bodyPost_end (results_none rfl _ _ _) rfl ?_
      exact ⟨rfl, rfl⟩
    · have hc1 : w.cell? ⟨g, 1, none⟩ = some (.bool false) := hb.cell 1
      go_enter Try.func71, Try.ntmps71
      go_wp2_with fail
      refine N.out.mono ?_
      rintro e w1 ⟨rfl, rfl⟩
      go_wp2
      refine bodyPost_end (results_none rfl _ _ _) rfl ?_
      exact ⟨rfl, rfl⟩
set_option maxRecDepth 100000 in
set_option maxHeartbeats 2000000 in
theorem wdot_no {w : World} {p : Value} (h : NoWr w p) (r n : Nat) (hr : r < 256) (hn : n < 2 ^ 32) : Calls Try.prog 72 #[p, .agg #[.int .u8 r, .int .u32 n]] w fun e w' => e = .returned (.tuple #[]) ∧ Below w.heap.size w w' := by
  have l0 := (Below.refl w.heap.size w).alloc (Nat.le_refl _) (.cells #[.int .u8 r, .int .u32 n] 82)
  have hb0 := Blk.new w 82 #[.int .u8 r, .int .u32 n]
  have hc0 := hb0.cell 0
  have hc1 := hb0.cell 1
  have h0 : NoWr (w.alloc (.cells #[.int .u8 r, .int .u32 n] 82)) p := by
    rcases h with rfl | ⟨g, rfl, hb⟩
    · exact .inl rfl
    · exact .inr ⟨g, rfl, hb.alloc _⟩
  have N := Lib.hid (wnum_no h0 r)
  have N2 := Lib.hid (wnum_no h0 n)
  have hp : ∃ q, p = .pointer q := by
    rcases h with rfl | ⟨g, rfl, hc⟩ <;> exact ⟨_, rfl⟩
  obtain ⟨q, rfl⟩ := hp
  go_enter Try.func72, Try.ntmps72
  go_wp2_with fail
  refine N.out.mono ?_
  rintro e w1 ⟨rfl, rfl⟩
  go_wp2_with fail
  refine N2.out.mono ?_
  rintro e w1 ⟨rfl, rfl⟩
  go_wp2
  refine bodyPost_end (results_none rfl _ _ _) rfl ?_
  exact ⟨rfl, l0⟩
theorem bytes_no {w : World} {p : Value} (h : NoWr w p) : Calls Try.prog 59 #[p] w fun e w' => e = .returned (.string ⟨#[]⟩) ∧ w = w' := by
  rcases h with rfl | ⟨g, rfl, hb⟩
  · go_enter Try.func59, Try.ntmps59
    go_wp2
    go_ret
    exact ⟨rfl, rfl⟩
  · have hc : w.cell? ⟨g, 0, none⟩ = some (.slice none 0 0) := hb.cell 0
    have ho : Own w 0 5 1 (.slice none 0 0) 0 (bc []) := Own.nil _ _ _ _
    go_enter Try.func59, Try.ntmps59
    go_wp2_with (refine wpList_string_of rfl 35 9 (.tmp 8) rfl 5 _ 0 0 [] rfl Try.underlying35 Try.underlying5 Try.underlying9 ho ?_)
    go_ret
    exact ⟨rfl, rfl⟩
end Go.Proofs.Ytfojjklohbiffaa
