/- Writers in memory: Text, Dot, Vector, Bytes; the numbers of law02. -/
import Derived.Test.YtfojjklohbiffaaDoorWireA
import Derived.Test.YtfojjklohbiffaaDoorAppS
namespace Go.Proofs.YtfojjklohbiffaaDoor
open Go.RowKit Tran Tran.Wire
set_option linter.unusedVariables false
set_option maxRecDepth 100000 in
set_option maxHeartbeats 2000000 in
theorem bytes_any {w : World} {g B : Nat} {v : Value} {l : List UInt8} (h : WrAt w g B v l) : Calls Tryd.prog 32 #[.pointer (some ⟨g, 0, none⟩)] w fun e w' => e = .returned (.string ⟨l.toArray⟩) ∧ w = w' := by
  have hc : w.cell? ⟨g, 0, none⟩ = some v := h.blk.cell 0
  obtain ⟨A, cap, rfl, hncap, hcm, hrd⟩ := h.own.slice
  have ho := h.own
  go_enter Tryd.func32, Tryd.ntmps32
  go_wp2_with (refine wpList_string_of rfl 48 9 (.tmp 8) rfl 5 _ B _ l rfl Tryd.underlying48 Tryd.underlying5 Tryd.underlying9 ho ?_)
  go_ret
  exact ⟨rfl, rfl⟩
/-- a text as the wire writes it -/
def textF (s : List UInt8) : List UInt8 := numF s.length ++ s
/-- a dot as the wire writes it -/
def dotF (r n : Nat) : List UInt8 := numF r ++ numF n
set_option maxRecDepth 100000 in
set_option maxHeartbeats 2000000 in
theorem wdot_any {w : World} {g B : Nat} {v : Value} {l : List UInt8} (h : WrAt w g B v l) (hB : B ≤ w.heap.size) (hl : l.length ≤ 900000000) (r n : Nat) (hr : r < 256) (hn : n < 2 ^ 32) :
    Calls Tryd.prog 30 #[.pointer (some ⟨g, 0, none⟩), .agg #[.int .u8 r, .int .u32 n]] w (Wrote w g B v (l ++ dotF r n)) := by
  have l0 := (Below.refl w.heap.size w).alloc (Nat.le_refl _) (.cells #[.int .u8 r, .int .u32 n] 24)
  have hb0 := Blk.new w 24 #[.int .u8 r, .int .u32 n]
  have h0 := h.below l0
  have p0 := (Put.refl h).below l0
  have hc0 := hb0.cell 0
  have hlt := h.blk.lt
  have hltv := fun k hk => (h.own.lt k hk).2
  have N := Lib.hid (wnum_any h0 (by simp; omega) (by omega) r (by omega))
  have hn1 := (numF_len r (by omega)).1
  have hn2 : n < 2 ^ 64 := by omega
  have HN2 := Lib.hid hn2
  clear hn2
  go_enter Tryd.func30, Tryd.ntmps30
  go_wp2_with fail
  refine N.out.mono ?_
  rintro e w1 ⟨v1, rfl, p1⟩
  have hb1 := hb0.chg p1.ch (by
    rintro (e | e)
    · omega
    · have := hltv _ e; omega)
  have hc1 := hb1.cell 1
  have hB1 : B ≤ w1.heap.size := Nat.le_trans (by simp; omega) p1.ch.size
  have N2 := Lib.hid (wnum_any p1.wr hB1 (by rw [List.length_append]; omega) n HN2.out)
  clear N hc0
  go_wp2_with fail
  refine N2.out.mono ?_
  rintro e w2 ⟨v2, rfl, p2⟩
  go_wp2
  refine bodyPost_end (results_none rfl _ _ _) rfl ?_
  refine ⟨v2, rfl, ?_⟩
  have p3 := (p0.trans p1).trans p2
  rw [List.append_assoc] at p3
  exact p3
/-- a pointer to no writer -/
def NoWr (w : World) (p : Value) : Prop := p = .pointer none ∨ ∃ g, p = .pointer (some ⟨g, 0, none⟩) ∧ Blk w g 89 #[.slice none 0 0, .bool false]
set_option maxRecDepth 100000 in
set_option maxHeartbeats 2000000 in
theorem wnum_no {w : World} {p : Value} (h : NoWr w p) (n : Nat) : Calls Tryd.prog 29 #[p, .int .u64 n] w fun e w' => e = .returned (.tuple #[]) ∧ w = w' := by
  rcases h with rfl | ⟨g, rfl, hb⟩
  · go_enter Tryd.func29, Tryd.ntmps29
    go_step3
    go_wp2
    rw [Exit.noGoto_ret]
    refine bodyPost_ret (results_none rfl _ _ _) rfl ?_
    exact ⟨rfl, rfl⟩
  · have hc1 : w.cell? ⟨g, 1, none⟩ = some (.bool false) := hb.cell 1
    go_enter Tryd.func29, Tryd.ntmps29
    go_step3
    go_wp2
    rw [Exit.noGoto_ret]
    refine bodyPost_ret (results_none rfl _ _ _) rfl ?_
    exact ⟨rfl, rfl⟩
set_option maxRecDepth 100000 in
set_option maxHeartbeats 2000000 in
theorem wdot_no {w : World} {p : Value} (h : NoWr w p) (r n : Nat) (hr : r < 256) (hn : n < 2 ^ 32) : Calls Tryd.prog 30 #[p, .agg #[.int .u8 r, .int .u32 n]] w fun e w' => e = .returned (.tuple #[]) ∧ Below w.heap.size w w' := by
  have l0 := (Below.refl w.heap.size w).alloc (Nat.le_refl _) (.cells #[.int .u8 r, .int .u32 n] 24)
  have hb0 := Blk.new w 24 #[.int .u8 r, .int .u32 n]
  have hc0 := hb0.cell 0
  have hc1 := hb0.cell 1
  have h0 : NoWr (w.alloc (.cells #[.int .u8 r, .int .u32 n] 24)) p := by
    rcases h with rfl | ⟨g, rfl, hb⟩
    · exact .inl rfl
    · exact .inr ⟨g, rfl, hb.alloc _⟩
  have N := Lib.hid (wnum_no h0 r)
  have N2 := Lib.hid (wnum_no h0 n)
  have hp : ∃ q, p = .pointer q := by
    rcases h with rfl | ⟨g, rfl, hc⟩ <;> exact ⟨_, rfl⟩
  obtain ⟨q, rfl⟩ := hp
  go_enter Tryd.func30, Tryd.ntmps30
  go_wp2_with fail
  refine N.out.mono ?_
  rintro e w1 ⟨rfl, rfl⟩
  go_wp2_with fail
  refine N2.out.mono ?_
  rintro e w1 ⟨rfl, rfl⟩
  go_wp2
  refine bodyPost_end (results_none rfl _ _ _) rfl ?_
  exact ⟨rfl, l0⟩
theorem bytes_no {w : World} {p : Value} (h : NoWr w p) : Calls Tryd.prog 32 #[p] w fun e w' => e = .returned (.string ⟨#[]⟩) ∧ w = w' := by
  rcases h with rfl | ⟨g, rfl, hb⟩
  · go_enter Tryd.func32, Tryd.ntmps32
    go_wp2
    go_ret
    exact ⟨rfl, rfl⟩
  · have hc : w.cell? ⟨g, 0, none⟩ = some (.slice none 0 0) := hb.cell 0
    have ho : Own w 0 5 1 (.slice none 0 0) 0 (bc []) := Own.nil _ _ _ _
    go_enter Tryd.func32, Tryd.ntmps32
    go_wp2_with (refine wpList_string_of rfl 48 9 (.tmp 8) rfl 5 _ 0 0 [] rfl Tryd.underlying48 Tryd.underlying5 Tryd.underlying9 ho ?_)
    go_ret
    exact ⟨rfl, rfl⟩
end Go.Proofs.YtfojjklohbiffaaDoor
