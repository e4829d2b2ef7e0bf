/- append of a string's bytes onto a slice of the call's own; nothing of the program. -/
import Derived.Lib.AppendStr
import Derived.Test.YtfojjklohbiffaaMq1
import Derived.Test.YtfojjklohbiffaaMq2
import Derived.Test.YtfojjklohbiffaaMq3
namespace Tran
open Go Go.RowKit Go.Lib
section
variable {P : Program} (w : World)
theorem run_append_Own_str (B : Nat) (t u ty e : TypeId) (i : TypeInfo) (ht : P.underlying t = some (.slice e)) (hu : P.underlying u = some .string) (hi : P.info? e = some i) (hz : i.zero = some (.int .u8 0))
    (hsize : i.size = 1) (hby : i.bytes = 1) (v : Value) (n : Nat) (xs : List Value) (hown : Own w B e 1 v n xs) (s : ByteArray)
    (h63 : n + s.size ≤ maxLen) (hbytes : n + s.size ≤ 140737488355328) (hbase : B ≤ w.heap.size) :
    ∃ v' w', (Builtin.append_ #[t, u] ty #[v, .string s]).run P w = .ok v' w' ∧ Own w' B e 1 v' (n + s.size) (xs ++ strCells s) ∧ w.grownBy w' (blkOf v) ∧ (blkOf v' = blkOf v ∨ blkOf v' = some w.heap.size) := by
  have hsmall : n + s.size ≤ 9223372036854775807 := by simp only [maxLen] at h63; omega
  have hxl : xs.length = n := by simpa using hown.1
  have hl : (strCells s).length = s.size * 1 := by rw [strCells_length, Nat.mul_one]
  have hlen : (xs ++ strCells s).length = (n + s.size) * 1 := by rw [List.length_append, hxl, strCells_length, Nat.mul_one]
  by_cases hm : s.size = 0
  · have hn : strCells s = [] := List.eq_nil_of_length_eq_zero (by rw [strCells_length]; exact hm)
    refine ⟨v, w, ?_, by rw [hm, hn]; simpa using hown, World.grownBy.refl w _, .inl rfl⟩
    have hf := run_firstCells_string (P := P) w 1 s
    rw [hm] at hf
    rcases hown.2 with ⟨A', rfl, rfl⟩ | ⟨g, cap, cur, fz, rfl, _, _, _, hnc, _⟩
    · cases A' <;> simp [Builtin.append_, run_underlying ht, run_underlying hu, Go.sizeOf, typeInfo, hi, hsize, Builtin.lenOf, hm, hf, storeCells, hn]
    · simp [Builtin.append_, run_underlying ht, run_underlying hu, Go.sizeOf, typeInfo, hi, hsize, Builtin.lenOf, hm, hf, hnc, storeCells, hn]
  · obtain ⟨A', cap, rfl, hnc, hcm, hrd⟩ := hown.slice
    by_cases hroom : n + s.size ≤ cap
    · rcases hown.2 with ⟨_, hv, h0⟩ | ⟨g, cap', cur, fz, hv, hbg, hg, hfz, _, _, hcs, htake⟩
      · injection hv with _ _ hc0; omega
      · injection hv with hA _ hc0
        subst hA hc0
        have hfit : n * 1 + (strCells s).length ≤ cur.size := by rw [hl, ← Nat.add_mul]; exact Nat.le_trans (Nat.mul_le_mul_right _ hroom) hcs
        have hf := run_firstCells_string (P := P) w 1 s
        have hst := run_storeCells_free P g (n * 1) e fz (strCells s) 0 cur w hg hfz (by simpa using hfit) (strCells_oneCell s)
        simp only [Nat.add_zero, Nat.mul_one] at hst
        have hrun : (Builtin.append_ #[t, u] ty #[.slice (some ⟨g, 0, none⟩) n (cap' + 1), .string s]).run P w =
            .ok (.slice (some ⟨g, 0, none⟩) (n + s.size) (cap' + 1)) (w.setRow g (cur.toList.take (n * 1) ++ strCells s ++ cur.toList.drop (n * 1 + (strCells s).length)).toArray) := by
          simp [Builtin.append_, run_underlying ht, run_underlying hu, Go.sizeOf, typeInfo, hi, hsize, Builtin.lenOf, hroom, hf, Addr.add_lit, hst]
        have hsz2 : (cur.toList.take (n * 1) ++ strCells s ++ cur.toList.drop (n * 1 + (strCells s).length)).toArray.size = cur.size := by
          simp only [List.size_toArray, List.length_append, List.length_take, List.length_drop, Array.length_toList]
          omega
        refine ⟨_, _, hrun, Own.mk_ hlen hbg (setRow_heap w g cur _ e _ hg) (hfz.row hsz2) hroom hcm (by rw [hsz2]; exact hcs) ?_, ⟨rfl, rfl, rfl, by simp, fun k _ hk => setRow_other w g k _ (fun e => hk (by simp [blkOf, e]))⟩, .inl rfl⟩
        rw [htake, ← hlen]
        exact List.take_left
    · have hge := grownCap_ge w (n + s.size) cap e
      have hcm2 : grownCap w (n + s.size) cap e ≤ maxLen := grownCap_le_maxLen w (n + s.size) cap e h63
      have hgr : ∀ (o : Obj) (row : Option Nat), w.grownBy (w.drew.alloc o) row := fun o row => ⟨rfl, rfl, rfl, by simp, fun k hk _ => Below.heap_alloc w.drew _ k hk⟩
      have hown2 : Own (w.drew.alloc (.cells (xs.toArray ++ (strCells s).toArray ++ Builtin.zeroCells (Value.int .u8 0).cells (grownCap w (n + s.size) cap e - (n + s.size))) e)) B e 1 (.slice (some ⟨w.heap.size, 0, none⟩) (n + s.size) (grownCap w (n + s.size) cap e)) (n + s.size) (xs ++ strCells s) := by
        refine Own.mk_ hlen hbase (Go.heap_alloc_new w.drew _) (.inl rfl) hge hcm2 (Nat.le_of_eq ?_) ?_
        · have hz1 : (Value.int IntKind.u8 0).cells.size = 1 := rfl
          simp only [Array.size_append, List.size_toArray, size_zeroCells, hz1, hxl, strCells_length]
          omega
        · simp only [Array.toList_append, List.append_assoc]
          rw [← List.append_assoc, ← hlen]
          exact List.take_left
      have hbk : blkOf (.slice (some ⟨w.heap.size, 0, none⟩) (n + s.size) (grownCap w (n + s.size) cap e)) = some w.heap.size := by
        obtain ⟨q, hq⟩ : ∃ q, grownCap w (n + s.size) cap e = q + 1 := ⟨grownCap w (n + s.size) cap e - 1, by omega⟩
        rw [hq]; rfl
      cases A' with
      | none =>
        rcases hown.2 with ⟨_, hv, h0⟩ | ⟨g, cap', cur, fz, hv, _⟩
        · injection hv with _ _ hc0
          subst h0 hc0
          have hx : xs = [] := List.eq_nil_of_length_eq_zero hxl
          subst hx
          have hr := run_append_nil_string (P := P) w t u ty e i (.int .u8 0) ht hu hi hz s (by omega) (by omega) (by rw [hby]; omega)
          have e1 : (s.data.map fun b => Value.int .u8 b.toNat) = (strCells s).toArray := by
            apply Array.ext'
            simp [strCells]
          rw [e1] at hr
          simp only [Nat.zero_add, List.nil_append, Array.empty_append] at hown2 hbk hr ⊢
          exact ⟨_, _, hr, hown2, hgr _ _, .inr hbk⟩
        · injection hv with hA; cases hA
      | some ad =>
        have holds : ∀ j u, xs[j]? = some u → w.cell? (ad.add j) = some u := by
          intro j u hu
          rcases Nat.eq_zero_or_pos n with h0 | h0
          · have hx0 : xs = [] := List.eq_nil_of_length_eq_zero (by omega)
            rw [hx0] at hu; simp at hu
          · obtain ⟨ad', had, hcell⟩ := hrd.2 h0
            injection had with had
            subst had
            exact hcell j u hu
        have hr := run_append_grow_string (P := P) w t u ty e i (.int .u8 0) ht hu hi hz ad n cap xs (by rw [hsize]; simpa using hxl) holds s (by omega) (by omega) (by rw [hby]; exact growslice_fits (by omega) (by omega))
        exact ⟨_, _, hr, hown2, hgr _ _, .inr hbk⟩
theorem wp_append_Own_str {o : Oper} {a : Act} {K : Act → World → Prop} {Q : Exit → Act → World → Prop} (sl x : Operand) (t u : TypeId)
    (ho : o.op = .call { callee := .builtin .append, args := #[sl, x], argTypes := #[t, u] })
    (B : Nat) (e : TypeId) (i : TypeInfo) (ht : P.underlying t = some (.slice e)) (hu : P.underlying u = some .string) (hi : P.info? e = some i) (hz : i.zero = some (.int .u8 0)) (hsize : i.size = 1) (hby : i.bytes = 1)
    (v : Value) (n : Nat) (xs : List Value) (hs : a.eval sl = v) (hown : Own w B e 1 v n xs) (l : List UInt8) (hx : a.eval x = .string ⟨l.toArray⟩)
    (h63 : n + l.length ≤ maxLen) (hbytes : n + l.length ≤ 140737488355328) (hbase : B ≤ w.heap.size)
    (h : ∀ v' w', Own w' B e 1 v' (n + l.length) (xs ++ bc l) → w.grownBy w' (blkOf v) → (blkOf v' = blkOf v ∨ blkOf v' = some w.heap.size) → K (a.put o.dst v') w') : o.wp P a w K Q := by
  have hsz : (⟨l.toArray⟩ : ByteArray).size = l.length := by simp [ByteArray.size]
  obtain ⟨v', w', hr, h2, h3, h4⟩ := run_append_Own_str (P := P) w B t u o.type e i ht hu hi hz hsize hby v n xs hown ⟨l.toArray⟩ (by rw [hsz]; exact h63) (by rw [hsz]; exact hbytes) hbase
  unfold Oper.wp execOp
  simp only [ho, resolve, invoke, builtin, Sem.run_bind, Sem.run_pure, Result.andThen_ok, List.map_toArray, List.map_cons, List.map_nil, hs, hx, hr]
  have e2 : strCells ⟨l.toArray⟩ = bc l := by rw [strCells_eq]
  rw [hsz, e2] at h2
  exact h v' w' h2 h3 h4
theorem wpList_append_Own_str {ops : Array Oper} {rest : List Oper} {o : Oper} {a : Act} {Q : Exit → Act → World → Prop} (hgd : o.guard = none) (sl x : Operand) (t u : TypeId)
    (ho : o.op = .call { callee := .builtin .append, args := #[sl, x], argTypes := #[t, u] })
    (B : Nat) (e : TypeId) (i : TypeInfo) (ht : P.underlying t = some (.slice e)) (hu : P.underlying u = some .string) (hi : P.info? e = some i) (hz : i.zero = some (.int .u8 0)) (hsize : i.size = 1) (hby : i.bytes = 1)
    (v : Value) (n : Nat) (xs : List Value) (hs : a.eval sl = v) (hown : Own w B e 1 v n xs) (l : List UInt8) (hx : a.eval x = .string ⟨l.toArray⟩)
    (h63 : n + l.length ≤ maxLen) (hbytes : n + l.length ≤ 140737488355328) (hbase : B ≤ w.heap.size)
    (h : ∀ v' w', Own w' B e 1 v' (n + l.length) (xs ++ bc l) → w.grownBy w' (blkOf v) → (blkOf v' = blkOf v ∨ blkOf v' = some w.heap.size) → wpList P ops Q rest (a.put o.dst v') w') : wpList P ops Q (o :: rest) a w :=
  wpList_plain hgd fun _ hK => wp_append_Own_str w sl x t u ho B e i ht hu hi hz hsize hby v n xs hs hown l hx h63 hbytes hbase fun v' w' h2 h3 h4 => hK _ _ (h v' w' h2 h3 h4)
end
end Tran
/- Writers in memory: Text, Dot, Vector, Bytes; the numbers of law02. -/
namespace Go.Proofs.Ytfojjklohbiffaa
open Go.RowKit Tran Tran.Wire
set_option linter.unusedVariables false
set_option maxRecDepth 100000 in
set_option maxHeartbeats 2000000 in
theorem bytes_any {w : World} {g B : Nat} {v : Value} {l : List UInt8} (h : WrAt w g B v l) : Calls Try.prog 59 #[.pointer (some ⟨g, 0, none⟩)] w fun e w' => e = .returned (.string ⟨l.toArray⟩) ∧ w = w' := by
  have hc : w.cell? ⟨g, 0, none⟩ = some v := h.blk.cell 0
  obtain ⟨A, cap, rfl, hncap, hcm, hrd⟩ := h.own.slice
  have ho := h.own
  go_enter Try.func59, Try.ntmps59
  go_wp2_with (refine wpList_string_of rfl 35 9 (.tmp 8) rfl 5 _ B _ l rfl Try.underlying35 Try.underlying5 Try.underlying9 ho ?_)
  go_ret
  exact ⟨rfl, rfl⟩
set_option maxRecDepth 100000 in
set_option maxHeartbeats 2000000 in
theorem num_any (w : World) (n : Nat) (hn : n < 2 ^ 64) : Calls Try.prog 69 #[.int .u64 n] w fun e w' => e = .returned (.string ⟨(numF n).toArray⟩) ∧ Below w.heap.size w w' := by
  have N := Lib.hid (fun (W : World) (g B : Nat) (v : Value) (h : WrAt W g B v []) (hB : B ≤ W.heap.size) => wnum_any h hB (by simp) n hn)
  clear hn
  go_enter Try.func69, Try.ntmps69
  go_wp2_with fail
  refine (wnew_any w).mono ?_
  rintro e w0 ⟨rfl, hw0⟩
  have n0 : WrAt w0 w.heap.size w.heap.size (.slice none 0 0) [] := by rw [hw0]; exact new_wr w (Nat.le_refl _)
  have b0 : Below w.heap.size w w0 := by rw [hw0]; exact (Below.refl _ _).alloc (Nat.le_refl _) _
  clear hw0
  go_wp2_with fail
  refine (N.out _ _ _ _ n0 b0.size).mono ?_
  rintro e w1 ⟨v1, rfl, p1⟩
  have b1 := b0.trans (p1.toBelow n0 b0.size)
  have n1 := p1.wr
  rw [List.nil_append] at n1
  have Y := Lib.hid (bytes_any n1)
  go_wp2_with fail
  refine Y.out.mono ?_
  rintro e w2 ⟨rfl, rfl⟩
  go_wp2
  go_ret
  exact ⟨rfl, b1⟩
/-- a text as the wire writes it -/
def textF (s : List UInt8) : List UInt8 := numF s.length ++ s
set_option maxRecDepth 100000 in
set_option maxHeartbeats 2000000 in
theorem wtext_any {w : World} {g B : Nat} {v : Value} {l : List UInt8} (h : WrAt w g B v l) (hB : B ≤ w.heap.size) (hl : l.length ≤ 900000000) (s : List UInt8) (hs : s.length ≤ 100000000) :
    Calls Try.prog 71 #[.pointer (some ⟨g, 0, none⟩), .string ⟨s.toArray⟩] w (Wrote w g B v (l ++ textF s)) := by
  obtain ⟨i0, hi, hz0, hz1, hz2⟩ := info_parts info5w
  have N := Lib.hid (wnum_any h hB (by omega) s.length (by omega))
  have hnl := (numF_len s.length (by omega)).1
  go_enter Try.func71, Try.ntmps71
  go_wp2_with fail
  refine N.out.mono ?_
  rintro e w1 ⟨v1, rfl, p1⟩
  have h1 := p1.wr
  have hB1 : B ≤ w1.heap.size := Nat.le_trans hB p1.ch.size
  obtain ⟨m, hm⟩ : ∃ m, m = l ++ numF s.length := ⟨_, rfl⟩
  rw [← hm] at h1 p1
  have hml : m.length ≤ 1000000000 := by rw [hm, List.length_append]; omega
  have HM := Lib.hid hm
  clear hm hnl
  have hc := h1.blk.cell 0
  have hc1 : w1.cell? ⟨g, 1, none⟩ = some (.bool true) := h1.blk.cell 1
  have hfz := h1.blk.frozen 0
  have ho := h1.own
  have hbk := h1.blk
  obtain ⟨A, cap, rfl, _, hcm, _⟩ := h1.own.slice
  have HNE := Lib.hid (p := some g ≠ blkOf (Value.slice A m.length cap)) (fun e => ho.ne_ hbk (by decide) e.symm)
  clear N
  go_wp2_with (at_builtin; refine wpList_append_Own_str _ rfl (.tmp 21) (.tmp 22) 35 9 rfl B 5 i0 Try.underlying35 Try.underlying9 hi hz0 hz1 hz2 (.slice A m.length cap) _ _ rfl ho s rfl (by unfold maxLen; omega) (by omega) hB1 ?_; intro v' w3 ho4 hg4 hat4; obtain ⟨A2, cap2, rfl, _, _, _⟩ := ho4.slice; have hbk3 := hbk.grown hg4 HNE.out; have hc3 := hbk3.cell 0; have hf3 := hbk3.frozen 0)
  refine bodyPost_end (results_none rfl _ _ _) rfl ?_
  have ho5 : Own w3 B 5 1 (.slice A2 (m.length + s.length) cap2) (m ++ s).length (bc (m ++ s)) := by
    rw [bc_append, List.length_append]; exact ho4
  refine ⟨.slice A2 (m.length + s.length) cap2, rfl, ?_⟩
  have p2 := p1.trans (h1.put ho5 hg4 hat4)
  have e : m ++ s = l ++ textF s := by rw [HM.out, List.append_assoc]; rfl
  rw [e] at p2
  exact p2
/-- a dot as the wire writes it -/
def dotF (r n : Nat) : List UInt8 := numF r ++ numF n
set_option maxRecDepth 100000 in
set_option maxHeartbeats 2000000 in
theorem wdot_any {w : World} {g B : Nat} {v : Value} {l : List UInt8} (h : WrAt w g B v l) (hB : B ≤ w.heap.size) (hl : l.length ≤ 900000000) (r n : Nat) (hr : r < 256) (hn : n < 2 ^ 32) :
    Calls Try.prog 72 #[.pointer (some ⟨g, 0, none⟩), .agg #[.int .u8 r, .int .u32 n]] w (Wrote w g B v (l ++ dotF r n)) := by
  have l0 := (Below.refl w.heap.size w).alloc (Nat.le_refl _) (.cells #[.int .u8 r, .int .u32 n] 82)
  have hb0 := Blk.new w 82 #[.int .u8 r, .int .u32 n]
  have h0 := h.below l0
  have p0 := (Put.refl h).below l0
  have hc0 := hb0.cell 0
  have hlt := h.blk.lt
  have hltv := fun k hk => (h.own.lt k hk).2
  have N := Lib.hid (wnum_any h0 (by simp; omega) (by omega) r (by omega))
  have hn1 := (numF_len r (by omega)).1
  have hn2 : n < 2 ^ 64 := by omega
  have HN2 := Lib.hid hn2
  clear hn2
  go_enter Try.func72, Try.ntmps72
  go_wp2_with fail
  refine N.out.mono ?_
  rintro e w1 ⟨v1, rfl, p1⟩
  have hb1 := hb0.chg p1.ch (by
    rintro (e | e)
    · omega
    · have := hltv _ e; omega)
  have hc1 := hb1.cell 1
  have hB1 : B ≤ w1.heap.size := Nat.le_trans (by simp; omega) p1.ch.size
  have N2 := Lib.hid (wnum_any p1.wr hB1 (by rw [List.length_append]; omega) n HN2.out)
  clear N hc0
  go_wp2_with fail
  refine N2.out.mono ?_
  rintro e w2 ⟨v2, rfl, p2⟩
  go_wp2
  refine bodyPost_end (results_none rfl _ _ _) rfl ?_
  refine ⟨v2, rfl, ?_⟩
  have p3 := (p0.trans p1).trans p2
  rw [List.append_assoc] at p3
  exact p3
/-- a pointer to no writer -/
def NoWr (w : World) (p : Value) : Prop := p = .pointer none ∨ ∃ g, p = .pointer (some ⟨g, 0, none⟩) ∧ Blk w g 104 #[.slice none 0 0, .bool false]
set_option maxRecDepth 100000 in
set_option maxHeartbeats 2000000 in
theorem wnum_no {w : World} {p : Value} (h : NoWr w p) (n : Nat) : Calls Try.prog 70 #[p, .int .u64 n] w fun e w' => e = .returned (.tuple #[]) ∧ w = w' := by
  rcases h with rfl | ⟨g, rfl, hb⟩
  · go_enter Try.func70, Try.ntmps70
    go_step3
    go_wp2
    rw [Exit.noGoto_ret]
    refine bodyPost_ret (results_none rfl _ _ _) rfl ?_
    exact ⟨rfl, rfl⟩
  · have hc1 : w.cell? ⟨g, 1, none⟩ = some (.bool false) := hb.cell 1
    go_enter Try.func70, Try.ntmps70
    go_step3
    go_wp2
    rw [Exit.noGoto_ret]
    refine bodyPost_ret (results_none rfl _ _ _) rfl ?_
    exact ⟨rfl, rfl⟩
set_option maxRecDepth 100000 in
set_option maxHeartbeats 2000000 in
theorem wtext_no {w : World} {p : Value} (h : NoWr w p) (s : List UInt8) (hs : s.length ≤ 100000000) : Calls Try.prog 71 #[p, .string ⟨s.toArray⟩] w fun e w' => e = .returned (.tuple #[]) ∧ w = w' := by
  · have N := Lib.hid (wnum_no h s.length)
    rcases h with rfl | ⟨g, rfl, hb⟩
    · go_enter Try.func71, Try.ntmps71
      go_wp2_with fail
      refine N.out.mono ?_
      rintro e w1 ⟨rfl, rfl⟩
      go_wp2
      refine bodyPost_end (results_none rfl _ _ _) rfl ?_
      exact ⟨rfl, rfl⟩
    · have hc1 : w.cell? ⟨g, 1, none⟩ = some (.bool false) := hb.cell 1
      go_enter Try.func71, Try.ntmps71
      go_wp2_with fail
      refine N.out.mono ?_
      rintro e w1 ⟨rfl, rfl⟩
      go_wp2
      refine bodyPost_end (results_none rfl _ _ _) rfl ?_
      exact ⟨rfl, rfl⟩
set_option maxRecDepth 100000 in
set_option maxHeartbeats 2000000 in
theorem wdot_no {w : World} {p : Value} (h : NoWr w p) (r n : Nat) (hr : r < 256) (hn : n < 2 ^ 32) : Calls Try.prog 72 #[p, .agg #[.int .u8 r, .int .u32 n]] w fun e w' => e = .returned (.tuple #[]) ∧ Below w.heap.size w w' := by
  have l0 := (Below.refl w.heap.size w).alloc (Nat.le_refl _) (.cells #[.int .u8 r, .int .u32 n] 82)
  have hb0 := Blk.new w 82 #[.int .u8 r, .int .u32 n]
  have hc0 := hb0.cell 0
  have hc1 := hb0.cell 1
  have h0 : NoWr (w.alloc (.cells #[.int .u8 r, .int .u32 n] 82)) p := by
    rcases h with rfl | ⟨g, rfl, hb⟩
    · exact .inl rfl
    · exact .inr ⟨g, rfl, hb.alloc _⟩
  have N := Lib.hid (wnum_no h0 r)
  have N2 := Lib.hid (wnum_no h0 n)
  have hp : ∃ q, p = .pointer q := by
    rcases h with rfl | ⟨g, rfl, hc⟩ <;> exact ⟨_, rfl⟩
  obtain ⟨q, rfl⟩ := hp
  go_enter Try.func72, Try.ntmps72
  go_wp2_with fail
  refine N.out.mono ?_
  rintro e w1 ⟨rfl, rfl⟩
  go_wp2_with fail
  refine N2.out.mono ?_
  rintro e w1 ⟨rfl, rfl⟩
  go_wp2
  refine bodyPost_end (results_none rfl _ _ _) rfl ?_
  exact ⟨rfl, l0⟩
theorem bytes_no {w : World} {p : Value} (h : NoWr w p) : Calls Try.prog 59 #[p] w fun e w' => e = .returned (.string ⟨#[]⟩) ∧ w = w' := by
  rcases h with rfl | ⟨g, rfl, hb⟩
  · go_enter Try.func59, Try.ntmps59
    go_wp2
    go_ret
    exact ⟨rfl, rfl⟩
  · have hc : w.cell? ⟨g, 0, none⟩ = some (.slice none 0 0) := hb.cell 0
    have ho : Own w 0 5 1 (.slice none 0 0) 0 (bc []) := Own.nil _ _ _ _
    go_enter Try.func59, Try.ntmps59
    go_wp2_with (refine wpList_string_of rfl 35 9 (.tmp 8) rfl 5 _ 0 0 [] rfl Try.underlying35 Try.underlying5 Try.underlying9 ho ?_)
    go_ret
    exact ⟨rfl, rfl⟩
end Go.Proofs.Ytfojjklohbiffaa
/- Writers: Vector. -/
namespace Go.Proofs.Ytfojjklohbiffaa
open Go.RowKit Tran Tran.Wire
set_option linter.unusedVariables false
theorem run_index_arr (W : World) (cs : Array Value) (k : Nat) (u : Value) (h : cs[k]? = some u) (hk : k < 8) : (Instr.index 54 (.agg cs) (.int .i64 k)).run Try.prog W = .ok u W := by
  have hl : k < cs.size := (Array.getElem?_eq_some_iff.1 h).1
  simp [Instr.index, run_underlying Try.underlying54, asIntOf, part, h]
  omega
/-- a vector's value -/
def vecA (xs : List Nat) : Array Value := (xs.map fun x => Value.int .u32 (x : Nat)).toArray
theorem vecA_size (xs : List Nat) : (vecA xs).size = xs.length := by simp [vecA]
theorem size54 : (Try.prog.info? 54).map (·.size) = some 8 := by kernel_rfl
def vecF (xs : List Nat) : List UInt8 := xs.flatMap numF
set_option maxRecDepth 100000 in
set_option maxHeartbeats 2000000 in
theorem wvec_any {w : World} {g B : Nat} {v : Value} {l : List UInt8} (h : WrAt w g B v l) (hB : B ≤ w.heap.size) (hl : l.length ≤ 900000000) (xs : List Nat) (hx : xs.length = 8) (hn : ∀ x ∈ xs, x < 2 ^ 32) :
    Calls Try.prog 73 #[.pointer (some ⟨g, 0, none⟩), .agg (vecA xs)] w (Wrote w g B v (l ++ vecF xs)) := by
  have l0 := (Below.refl w.heap.size w).alloc (Nat.le_refl _) (.cells (vecA xs) 54)
  have hb0 := Blk.new w 54 (vecA xs)
  have h0 := h.below l0
  have p0 := (Put.refl h).below l0
  have hvs := vecA_size xs
  rw [hx] at hvs
  have HX := Lib.hid hx
  have hvg : ∀ k, k < 8 → (vecA xs)[k]? = some (.int .u32 ((xs.getD k 0 : Nat) : Int)) := fun k hk => by
    have hk2 : k < xs.length := by rw [hx]; exact hk
    simp [vecA, hk2]
  have HN := Lib.hid (fun k (hk : k < 8) => (by
    have hk2 : k < xs.length := by rw [hx]; exact hk
    have : xs.getD k 0 = xs[k] := by simp [hk2]
    rw [this]; exact hn _ (List.getElem_mem hk2) : xs.getD k 0 < 2 ^ 32))
  have HL : ∀ k, k < 8 → vecF (xs.take (k + 1)) = vecF (xs.take k) ++ numF (xs.getD k 0) := fun k hk => by
    have hk2 : k < xs.length := by rw [hx]; exact hk
    rw [List.take_succ_eq_append_getElem hk2, vecF, List.flatMap_append]; simp [vecF, hk2]
  have HLL := Lib.hid HL
  have HVG := Lib.hid hvg
  have hf8 : ∀ k, k ≤ 8 → (vecF (xs.take k)).length ≤ 9 * k := by
    intro k
    induction k with
    | zero => intro _; simp [vecF]
    | succ k ih =>
      intro hk
      have := ih (by omega)
      have h2 := (numF_len (xs.getD k 0) (by have := HN.out k (by omega); omega)).1
      rw [HL k (by omega), List.length_append]; omega
  have HF8 := Lib.hid hf8
  have htk : xs.take 8 = xs := List.take_of_length_le (by omega)
  have HTK := Lib.hid htk
  clear HL hvg hn hx hf8 htk
  go_enter Try.func73, Try.ntmps73
  go_wp2_with (refine wpList_load_row rfl 54 _ rfl w.heap.size rfl 54 (vecA xs) (0, 0) _ hb0 Try.underlying54 rfl (by rw [hvs]; exact size54) ?_)
  have hlt := h.blk.lt
  have hltv := fun k hk => (h.own.lt k hk).2
  go_loopw [5, 7] (fun u i wr => ∃ k : Nat, ∃ v1, k ≤ 8 ∧ i = .int .i64 k ∧ Put w wr g B v v1 (l ++ vecF (xs.take k))) (fun _ i _ => 8 - (intOf i).toNat)
  case atStart => exact ⟨0, v, by omega, rfl, by simpa [vecF] using p0⟩
  case round =>
    obtain ⟨k, v1, hk, rfl, p⟩ := hrel
    by_cases hk8 : k < 8
    · have hg1 : ∀ W, (Instr.index 54 (.agg (vecA xs)) (.int .i64 k)).run Try.prog W = .ok (.int .u32 ((xs.getD k 0 : Nat) : Int)) W := fun W => run_index_arr W _ k _ (HVG.out k hk8) hk8
      have hB1 : B ≤ wr.heap.size := Nat.le_trans hB p.ch.size
      have hfl := HF8.out k hk
      have hxk := HN.out k hk8
      have N := Lib.hid (wnum_any p.wr hB1 (by rw [List.length_append]; omega) (xs.getD k 0) (by omega))
      have HLK := Lib.hid (HLL.out k hk8)
      generalize xs.getD k 0 = x at *
      go_wp2_with fail
      refine N.out.mono ?_
      rintro e w2 ⟨v2, rfl, p2⟩
      have p3 := p.trans p2
      rw [List.append_assoc, ← HLK.out] at p3
      go_wp2
      go_roundw
      case rel => exact ⟨k + 1, v2, hk8, by go_num, p3⟩
      case measure => simp [intOf]; omega
    · have hkk : k = 8 := by omega
      have e : xs.take k = xs := by rw [hkk]; exact HTK.out
      rw [e] at p
      clear hkk
      go_wp2
      refine bodyPost_end (results_none rfl _ _ _) rfl ?_
      exact ⟨v1, rfl, p⟩
set_option maxRecDepth 100000 in
set_option maxHeartbeats 2000000 in
theorem wvec_no {w : World} {q : Option Addr} (h : NoWr w (.pointer q)) (xs : List Nat) (hx : xs.length = 8) (hn : ∀ x ∈ xs, x < 2 ^ 32) :
    Calls Try.prog 73 #[.pointer q, .agg (vecA xs)] w fun e w' => e = .returned (.tuple #[]) ∧ Below w.heap.size w w' := by
  have l0 := (Below.refl w.heap.size w).alloc (Nat.le_refl _) (.cells (vecA xs) 54)
  have hb0 := Blk.new w 54 (vecA xs)
  have h0 : NoWr (w.alloc (.cells (vecA xs) 54)) (.pointer q) := by
    rcases h with h | ⟨g, h, hb⟩
    · exact .inl h
    · exact .inr ⟨g, h, hb.alloc _⟩
  have hvs := vecA_size xs
  rw [hx] at hvs
  have hvg : ∀ k, k < 8 → (vecA xs)[k]? = some (.int .u32 ((xs.getD k 0 : Nat) : Int)) := fun k hk => by
    have hk2 : k < xs.length := by rw [hx]; exact hk
    simp [vecA, hk2]
  have HN := Lib.hid (fun k (hk : k < 8) => (by
    have hk2 : k < xs.length := by rw [hx]; exact hk
    have : xs.getD k 0 = xs[k] := by simp [hk2]
    rw [this]; exact hn _ (List.getElem_mem hk2) : xs.getD k 0 < 2 ^ 32))
  have HVG := Lib.hid hvg
  clear hvg hn hx
  have HW := Lib.hid (fun n => wnum_no h0 n)
  go_enter Try.func73, Try.ntmps73
  go_wp2_with (refine wpList_load_row rfl 54 _ rfl w.heap.size rfl 54 (vecA xs) (0, 0) _ hb0 Try.underlying54 rfl (by rw [hvs]; exact size54) ?_)
  go_loopw [5, 7] (fun u i wr => ∃ k : Nat, k ≤ 8 ∧ i = .int .i64 k ∧ wr = w.alloc (.cells (vecA xs) 54)) (fun _ i _ => 8 - (intOf i).toNat)
  case atStart => exact ⟨0, by omega, rfl, rfl⟩
  case round =>
    obtain ⟨k, hk, rfl, rfl⟩ := hrel
    by_cases hk8 : k < 8
    · have hg1 : ∀ W, (Instr.index 54 (.agg (vecA xs)) (.int .i64 k)).run Try.prog W = .ok (.int .u32 ((xs.getD k 0 : Nat) : Int)) W := fun W => run_index_arr W _ k _ (HVG.out k hk8) hk8
      have hxk := HN.out k hk8
      generalize xs.getD k 0 = x at *
      go_wp2_with fail
      refine (HW.out x).mono ?_
      rintro e w2 ⟨rfl, rfl⟩
      go_wp2
      go_roundw
      case rel => exact ⟨k + 1, hk8, by go_num, by trivial⟩
      case measure => simp [intOf]; omega
    · go_wp2
      refine bodyPost_end (results_none rfl _ _ _) rfl ?_
      exact ⟨rfl, l0⟩
end Go.Proofs.Ytfojjklohbiffaa
/- Operations: numbers put one after another; what op.Put keeps. -/
namespace Go.Proofs.Ytfojjklohbiffaa
open Go.RowKit Tran Tran.Wire
set_option linter.unusedVariables false
def u64s (ns : List Nat) : List Value := ns.map fun n => Value.int .u64 (n : Nat)
theorem u64s_len (ns : List Nat) : (u64s ns).length = ns.length := by simp [u64s]
theorem u64s_get {ns : List Nat} {j : Nat} (h : j < ns.length) : (u64s ns)[j]? = some (.int .u64 ((ns[j] : Nat) : Int)) := by simp [u64s, h]
theorem vecF_le (ns : List Nat) (h : ∀ n ∈ ns, n < 2 ^ 64) : (vecF ns).length ≤ 9 * ns.length := by
  induction ns with
  | nil => simp [vecF]
  | cons n ns ih =>
    have h1 := (numF_len n (h n List.mem_cons_self)).1
    have h2 := ih fun m hm => h m (List.mem_cons_of_mem _ hm)
    simp only [vecF, List.flatMap_cons, List.length_append, List.length_cons] at h2 ⊢
    omega
theorem vecF_snoc (ns : List Nat) (k : Nat) (h : k < ns.length) : vecF (ns.take (k + 1)) = vecF (ns.take k) ++ numF ns[k] := by
  rw [List.take_succ_eq_append_getElem h, vecF, List.flatMap_append]; simp [vecF]
set_option maxRecDepth 100000 in
set_option maxHeartbeats 2000000 in
theorem puts_all {w : World} {g B : Nat} {v : Value} {l : List UInt8} (h : WrAt w g B v l) (hB : B ≤ w.heap.size) (hl : l.length ≤ 800000000) (A : Option Addr) (cap : Nat) (ns : List Nat) (hr : Rd w A ns.length 1 (u64s ns))
    (hn : ∀ n ∈ ns, n < 2 ^ 64) (h8 : ns.length ≤ 1000000) (hA : ∀ ad, A = some ad → ad.block ≠ g ∧ blkOf v ≠ some ad.block) (bx : Nat) (kb : Blk w bx 77 #[.pointer (some ⟨g, 0, none⟩)]) (hbx : bx ≠ g ∧ blkOf v ≠ some bx) :
    Calls Try.prog 126 #[.slice A ns.length cap, .pointer (some ⟨bx, 0, none⟩)] w (Wrote w g B v (l ++ vecF ns)) := by
  have hle := vecF_le ns hn
  have HLE := Lib.hid (fun k => show (vecF (ns.take k)).length ≤ 9 * ns.length by
    have h1 := vecF_le (ns.take k) fun n hm => hn n (List.mem_of_mem_take hm)
    rw [List.length_take] at h1; omega)
  have HSN := Lib.hid (fun k hk => vecF_snoc ns k hk)
  have HNM := Lib.hid (fun k (hk : k < ns.length) => hn ns[k] (List.getElem_mem hk))
  have HC := Lib.hid (fun (wr : World) (hc : Chg (fun k => k = g ∨ blkOf v = some k) w wr) k (hk : k < ns.length) => show ∃ ad, A = some ad ∧ wr.cell? (ad.add k) = some (.int .u64 ((ns[k] : Nat) : Int)) by
    obtain ⟨ad, rfl, hcc⟩ := hr.2 (by omega)
    have h1 := hcc k _ (u64s_get hk)
    refine ⟨ad, rfl, ?_⟩
    have hb : (ad.add k).block = ad.block := block_of_add ad k
    rw [hc.cell (by have := World.block_lt_of_cell? w _ h1; exact this) (by rw [hb]; exact fun e => by rcases e with e | e; exact (hA ad rfl).1 e; exact (hA ad rfl).2 e)]
    exact h1)
  have HB := Lib.hid (fun (wr : World) (hc : Chg (fun k => k = g ∨ blkOf v = some k) w wr) => kb.chg hc (fun e => by rcases e with e | e; exact hbx.1 e; exact hbx.2 e))
  have P0 := Lib.hid (Put.refl h)
  clear hr kb hbx hA hn hle h
  go_enter Try.func126, Try.ntmps126
  go_wp2_with fail
  go_loopw [7] (fun i wr => ∃ k : Nat, ∃ v1, k ≤ ns.length ∧ i = .int .i64 k ∧ Put w wr g B v v1 (l ++ vecF (ns.take k))) (fun i _ => ns.length - (intOf i).toNat)
  case atStart => exact ⟨0, v, by omega, rfl, by simpa [vecF] using P0.out⟩
  case round =>
    obtain ⟨k, v1, hk, rfl, p⟩ := hrel
    have kb := HB.out wr p.ch
    have c0 : _ = some (Value.pointer (some ⟨g, 0, none⟩)) := kb.cell 0
    have hle := HLE.out k
    by_cases hlt : k < ns.length
    · obtain ⟨ad, rfl, hc⟩ := HC.out wr p.ch k hlt
      have hnk := HNM.out k hlt
      have hB1 : B ≤ wr.heap.size := Nat.le_trans hB p.ch.size
      have N := Lib.hid (wnum_any p.wr hB1 (by rw [List.length_append]; omega) ns[k] hnk)
      have HS := Lib.hid (HSN.out k hlt)
      have PP := Lib.hid p
      clear p kb hle
      generalize ns[k] = n at *
      have hn63 : n ≤ 18446744073709551615 := by omega
      clear hnk
      go_wp2_with fail
      refine N.out.mono ?_
      rintro e w2 ⟨v2, rfl, p2⟩
      have p3 := PP.out.trans p2
      rw [List.append_assoc, ← HS.out] at p3
      go_wp2
      go_roundw
      case rel => exact ⟨k + 1, v2, hlt, by go_num, p3⟩
      case measure => simp [intOf]; omega
    · have e : ns.take k = ns := List.take_of_length_le (by omega)
      rw [e] at p
      clear e kb hle
      have PP := Lib.hid p
      clear p
      go_wp2
      refine bodyPost_end (results_none rfl _ _ _) rfl ?_
      exact ⟨v1, rfl, PP.out⟩
/-- the worlds within op.Put: the operation's box, the writer, where it is kept -/
structure OpW (w0 : World) (x : NOp) (lv : Value) (W : World) (l : List UInt8) : Prop where
  k0 : Blk W w0.heap.size 122 (opA x lv)
  k2 : Blk W (w0.heap.size + 1 + 1) 77 #[.pointer (some ⟨w0.heap.size + 1, 0, none⟩)]
  b : Below w0.heap.size w0 W
  sz : w0.heap.size + 3 ≤ W.heap.size
  ex : ∃ v, WrAt W (w0.heap.size + 1) (w0.heap.size + 1) v l ∧ ∀ k, blkOf v = some k → w0.heap.size + 3 ≤ k
theorem OpW.below {w0 : World} {x : NOp} {lv : Value} {W W' : World} {l : List UInt8} (h : OpW w0 x lv W l) (hb : Below W.heap.size W W') : OpW w0 x lv W' l := by
  obtain ⟨v, hw, hv⟩ := h.ex
  exact ⟨h.k0.below hb h.k0.lt, h.k2.below hb h.k2.lt, h.b.trans (hb.mono h.b.size), Nat.le_trans h.sz hb.size, v, hw.below hb, hv⟩
/-- blocks of other types than a writer's stay as they are -/
def Keeps (W W' : World) : Prop := ∀ g t cs, Blk W g t cs → t ≠ 5 → t ≠ 104 → Blk W' g t cs
theorem OpW.call {w0 : World} {x : NOp} {lv : Value} {W : World} {l l' : List UInt8} {F : FuncId} {args : Array Value} (h : OpW w0 x lv W l)
    (H : ∀ v, WrAt W (w0.heap.size + 1) (w0.heap.size + 1) v l → (∀ k, blkOf v = some k → w0.heap.size + 3 ≤ k) → Calls Try.prog F args W (Wrote W (w0.heap.size + 1) (w0.heap.size + 1) v l')) :
    Calls Try.prog F args W fun e w' => e = .returned (.tuple #[]) ∧ OpW w0 x lv w' l' ∧ Keeps W w' := by
  obtain ⟨v, hw, hv⟩ := h.ex
  refine (H v hw hv).mono ?_
  rintro e w' ⟨v', rfl, p⟩
  have hsz := h.sz
  refine ⟨rfl, ⟨h.k0.chg p.ch ?_, h.k2.chg p.ch ?_, h.b.trans (p.ch.toBelow h.b.size ?_), Nat.le_trans h.sz p.ch.size, v', p.wr, fun k hk => ?_⟩, fun g t cs hb h5 h104 => hb.chg p.ch ?_⟩
  · rintro (e | e)
    · omega
    · have := hv _ e; omega
  · rintro (e | e)
    · omega
    · have := hv _ e; omega
  · rintro k _ (rfl | e)
    · omega
    · have := hv _ e; omega
  · rcases p.mv with e | e
    · exact hv k (e ▸ hk)
    · have := e k hk; omega
  · rintro (e | e)
    · subst e
      have h1 := hw.blk
      unfold Blk at h1 hb
      rw [h1] at hb
      injection hb with hb
      injection hb with _ hb _
      exact h104 hb.symm
    · exact hw.own.ne_ hb (Ne.symm h5) e
theorem OpW.dot {w0 : World} {x : NOp} {lv : Value} {W : World} {l : List UInt8} (h : OpW w0 x lv W l) (hl : l.length ≤ 800000000) (r n : Nat) (hr : r < 256) (hn : n < 4294967296) :
    Calls Try.prog 72 #[.pointer (some ⟨w0.heap.size + 1, 0, none⟩), .agg #[.int .u8 r, .int .u32 n]] W fun e w' => e = .returned (.tuple #[]) ∧ OpW w0 x lv w' (l ++ dotF r n) ∧ Keeps W w' :=
  h.call fun v hw _ => wdot_any hw (by have := h.sz; omega) (by omega) r n hr hn
theorem OpW.vec {w0 : World} {x : NOp} {lv : Value} {W : World} {l : List UInt8} (h : OpW w0 x lv W l) (hl : l.length ≤ 800000000) (xs : List Nat) (hx : xs.length = 8) (hn : ∀ y ∈ xs, y < 4294967296) :
    Calls Try.prog 73 #[.pointer (some ⟨w0.heap.size + 1, 0, none⟩), .agg (vecA xs)] W fun e w' => e = .returned (.tuple #[]) ∧ OpW w0 x lv w' (l ++ vecF xs) ∧ Keeps W w' :=
  h.call fun v hw _ => wvec_any hw (by have := h.sz; omega) (by omega) xs hx hn
/-- numbers that were just laid side by side -/
theorem OpW.nums {w0 : World} {x : NOp} {lv : Value} {W : World} {l : List UInt8} (h : OpW w0 x lv W l) (hl : l.length ≤ 800000000) (ns : List Nat) (hn : ∀ n ∈ ns, n < 2 ^ 64) (h8 : ns.length ≤ 1000000) (cs : Array Value) (hcs : cs = (u64s ns).toArray) (m : Nat) (hm : m = ns.length) :
    Calls Try.prog 126 #[.slice (some ⟨W.heap.size, 0, none⟩) m m, .pointer (some ⟨w0.heap.size + 1 + 1, 0, none⟩)] (W.alloc (.cells cs 80)) fun e w' => e = .returned (.tuple #[]) ∧ OpW w0 x lv w' (l ++ vecF ns) ∧ Keeps (W.alloc (.cells cs 80)) w' := by
  subst hm hcs
  have hb := (Below.refl W.heap.size W).alloc (Nat.le_refl _) (.cells (u64s ns).toArray 80)
  have h1 := h.below hb
  have hsz := h.sz
  have kn := Blk.new W 80 (u64s ns).toArray
  refine h1.call fun v hw hv => puts_all hw (by have := h1.sz; omega) (by omega) _ _ ns ?_ hn h8 ?_ _ h1.k2 ?_
  · refine ⟨by rw [u64s_len]; omega, fun _ => ⟨_, rfl, fun j u hu => ?_⟩⟩
    rw [add_zero]
    exact (kn.cell j).trans (by simpa using hu)
  · intro ad e
    injection e with e
    subst e
    refine ⟨by show W.heap.size ≠ _; omega, fun e => ?_⟩
    obtain ⟨v2, hw2, hv2⟩ := h.ex
    have h3 := hw.blk.cell 0
    have h4 := (hw2.below hb).blk.cell 0
    rw [h3] at h4
    simp at h4
    subst h4
    have := (hw2.own.lt _ e).2
    simp at this
  · refine ⟨by omega, fun e => ?_⟩
    have := hv _ e
    omega
end Go.Proofs.Ytfojjklohbiffaa
