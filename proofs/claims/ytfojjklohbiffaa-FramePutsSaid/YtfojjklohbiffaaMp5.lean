/- append of a string's bytes onto a slice of the call's own; nothing of the program. -/
import Derived.Lib.AppendStr
import Derived.Test.YtfojjklohbiffaaMp2
import Derived.Test.YtfojjklohbiffaaMp4
namespace Tran
open Go Go.RowKit Go.Lib
section
variable {P : Program} (w : World)
theorem run_append_Own_str (B : Nat) (t u ty e : TypeId) (i : TypeInfo) (ht : P.underlying t = some (.slice e)) (hu : P.underlying u = some .string) (hi : P.info? e = some i) (hz : i.zero = some (.int .u8 0))
    (hsize : i.size = 1) (hby : i.bytes = 1) (v : Value) (n : Nat) (xs : List Value) (hown : Own w B e 1 v n xs) (s : ByteArray)
    (h63 : n + s.size ≤ maxLen) (hbytes : n + s.size ≤ 140737488355328) (hbase : B ≤ w.heap.size) :
    ∃ v' w', (Builtin.append_ #[t, u] ty #[v, .string s]).run P w = .ok v' w' ∧ Own w' B e 1 v' (n + s.size) (xs ++ strCells s) ∧ w.grownBy w' (blkOf v) ∧ (blkOf v' = blkOf v ∨ blkOf v' = some w.heap.size) := by
  have hsmall : n + s.size ≤ 9223372036854775807 := by simp only [maxLen] at h63; omega
  have hxl : xs.length = n := by simpa using hown.1
  have hl : (strCells s).length = s.size * 1 := by rw [strCells_length, Nat.mul_one]
  have hlen : (xs ++ strCells s).length = (n + s.size) * 1 := by rw [List.length_append, hxl, strCells_length, Nat.mul_one]
  by_cases hm : s.size = 0
  · have hn : strCells s = [] := List.eq_nil_of_length_eq_zero (by rw [strCells_length]; exact hm)
    refine ⟨v, w, ?_, by rw [hm, hn]; simpa using hown, World.grownBy.refl w _, .inl rfl⟩
    have hf := run_firstCells_string (P := P) w 1 s
    rw [hm] at hf
    rcases hown.2 with ⟨A', rfl, rfl⟩ | ⟨g, cap, cur, fz, rfl, _, _, _, hnc, _⟩
    · cases A' <;> simp [Builtin.append_, run_underlying ht, run_underlying hu, Go.sizeOf, typeInfo, hi, hsize, Builtin.lenOf, hm, hf, storeCells, hn]
    · simp [Builtin.append_, run_underlying ht, run_underlying hu, Go.sizeOf, typeInfo, hi, hsize, Builtin.lenOf, hm, hf, hnc, storeCells, hn]
  · obtain ⟨A', cap, rfl, hnc, hcm, hrd⟩ := hown.slice
    by_cases hroom : n + s.size ≤ cap
    · rcases hown.2 with ⟨_, hv, h0⟩ | ⟨g, cap', cur, fz, hv, hbg, hg, hfz, _, _, hcs, htake⟩
      · injection hv with _ _ hc0; omega
      · injection hv with hA _ hc0
        subst hA hc0
        have hfit : n * 1 + (strCells s).length ≤ cur.size := by rw [hl, ← Nat.add_mul]; exact Nat.le_trans (Nat.mul_le_mul_right _ hroom) hcs
        have hf := run_firstCells_string (P := P) w 1 s
        have hst := run_storeCells_free P g (n * 1) e fz (strCells s) 0 cur w hg hfz (by simpa using hfit) (strCells_oneCell s)
        simp only [Nat.add_zero, Nat.mul_one] at hst
        have hrun : (Builtin.append_ #[t, u] ty #[.slice (some ⟨g, 0, none⟩) n (cap' + 1), .string s]).run P w =
            .ok (.slice (some ⟨g, 0, none⟩) (n + s.size) (cap' + 1)) (w.setRow g (cur.toList.take (n * 1) ++ strCells s ++ cur.toList.drop (n * 1 + (strCells s).length)).toArray) := by
          simp [Builtin.append_, run_underlying ht, run_underlying hu, Go.sizeOf, typeInfo, hi, hsize, Builtin.lenOf, hroom, hf, Addr.add_lit, hst]
        have hsz2 : (cur.toList.take (n * 1) ++ strCells s ++ cur.toList.drop (n * 1 + (strCells s).length)).toArray.size = cur.size := by
          simp only [List.size_toArray, List.length_append, List.length_take, List.length_drop, Array.length_toList]
          omega
        refine ⟨_, _, hrun, Own.mk_ hlen hbg (setRow_heap w g cur _ e _ hg) (hfz.row hsz2) hroom hcm (by rw [hsz2]; exact hcs) ?_, ⟨rfl, rfl, rfl, by simp, fun k _ hk => setRow_other w g k _ (fun e => hk (by simp [blkOf, e]))⟩, .inl rfl⟩
        rw [htake, ← hlen]
        exact List.take_left
    · have hge := grownCap_ge w (n + s.size) cap e
      have hcm2 : grownCap w (n + s.size) cap e ≤ maxLen := grownCap_le_maxLen w (n + s.size) cap e h63
      have hgr : ∀ (o : Obj) (row : Option Nat), w.grownBy (w.drew.alloc o) row := fun o row => ⟨rfl, rfl, rfl, by simp, fun k hk _ => Below.heap_alloc w.drew _ k hk⟩
      have hown2 : Own (w.drew.alloc (.cells (xs.toArray ++ (strCells s).toArray ++ Builtin.zeroCells (Value.int .u8 0).cells (grownCap w (n + s.size) cap e - (n + s.size))) e)) B e 1 (.slice (some ⟨w.heap.size, 0, none⟩) (n + s.size) (grownCap w (n + s.size) cap e)) (n + s.size) (xs ++ strCells s) := by
        refine Own.mk_ hlen hbase (Go.heap_alloc_new w.drew _) (.inl rfl) hge hcm2 (Nat.le_of_eq ?_) ?_
        · have hz1 : (Value.int IntKind.u8 0).cells.size = 1 := rfl
          simp only [Array.size_append, List.size_toArray, size_zeroCells, hz1, hxl, strCells_length]
          omega
        · simp only [Array.toList_append, List.append_assoc]
          rw [← List.append_assoc, ← hlen]
          exact List.take_left
      have hbk : blkOf (.slice (some ⟨w.heap.size, 0, none⟩) (n + s.size) (grownCap w (n + s.size) cap e)) = some w.heap.size := by
        obtain ⟨q, hq⟩ : ∃ q, grownCap w (n + s.size) cap e = q + 1 := ⟨grownCap w (n + s.size) cap e - 1, by omega⟩
        rw [hq]; rfl
      cases A' with
      | none =>
        rcases hown.2 with ⟨_, hv, h0⟩ | ⟨g, cap', cur, fz, hv, _⟩
        · injection hv with _ _ hc0
          subst h0 hc0
          have hx : xs = [] := List.eq_nil_of_length_eq_zero hxl
          subst hx
          have hr := run_append_nil_string (P := P) w t u ty e i (.int .u8 0) ht hu hi hz s (by omega) (by omega) (by rw [hby]; omega)
          have e1 : (s.data.map fun b => Value.int .u8 b.toNat) = (strCells s).toArray := by
            apply Array.ext'
            simp [strCells]
          rw [e1] at hr
          simp only [Nat.zero_add, List.nil_append, Array.empty_append] at hown2 hbk hr ⊢
          exact ⟨_, _, hr, hown2, hgr _ _, .inr hbk⟩
        · injection hv with hA; cases hA
      | some ad =>
        have holds : ∀ j u, xs[j]? = some u → w.cell? (ad.add j) = some u := by
          intro j u hu
          rcases Nat.eq_zero_or_pos n with h0 | h0
          · have hx0 : xs = [] := List.eq_nil_of_length_eq_zero (by omega)
            rw [hx0] at hu; simp at hu
          · obtain ⟨ad', had, hcell⟩ := hrd.2 h0
            injection had with had
            subst had
            exact hcell j u hu
        have hr := run_append_grow_string (P := P) w t u ty e i (.int .u8 0) ht hu hi hz ad n cap xs (by rw [hsize]; simpa using hxl) holds s (by omega) (by omega) (by rw [hby]; exact growslice_fits (by omega) (by omega))
        exact ⟨_, _, hr, hown2, hgr _ _, .inr hbk⟩
theorem wp_append_Own_str {o : Oper} {a : Act} {K : Act → World → Prop} {Q : Exit → Act → World → Prop} (sl x : Operand) (t u : TypeId)
    (ho : o.op = .call { callee := .builtin .append, args := #[sl, x], argTypes := #[t, u] })
    (B : Nat) (e : TypeId) (i : TypeInfo) (ht : P.underlying t = some (.slice e)) (hu : P.underlying u = some .string) (hi : P.info? e = some i) (hz : i.zero = some (.int .u8 0)) (hsize : i.size = 1) (hby : i.bytes = 1)
    (v : Value) (n : Nat) (xs : List Value) (hs : a.eval sl = v) (hown : Own w B e 1 v n xs) (l : List UInt8) (hx : a.eval x = .string ⟨l.toArray⟩)
    (h63 : n + l.length ≤ maxLen) (hbytes : n + l.length ≤ 140737488355328) (hbase : B ≤ w.heap.size)
    (h : ∀ v' w', Own w' B e 1 v' (n + l.length) (xs ++ bc l) → w.grownBy w' (blkOf v) → (blkOf v' = blkOf v ∨ blkOf v' = some w.heap.size) → K (a.put o.dst v') w') : o.wp P a w K Q := by
  have hsz : (⟨l.toArray⟩ : ByteArray).size = l.length := by simp [ByteArray.size]
  obtain ⟨v', w', hr, h2, h3, h4⟩ := run_append_Own_str (P := P) w B t u o.type e i ht hu hi hz hsize hby v n xs hown ⟨l.toArray⟩ (by rw [hsz]; exact h63) (by rw [hsz]; exact hbytes) hbase
  unfold Oper.wp execOp
  simp only [ho, resolve, invoke, builtin, Sem.run_bind, Sem.run_pure, Result.andThen_ok, List.map_toArray, List.map_cons, List.map_nil, hs, hx, hr]
  have e2 : strCells ⟨l.toArray⟩ = bc l := by rw [strCells_eq]
  rw [hsz, e2] at h2
  exact h v' w' h2 h3 h4
theorem wpList_append_Own_str {ops : Array Oper} {rest : List Oper} {o : Oper} {a : Act} {Q : Exit → Act → World → Prop} (hgd : o.guard = none) (sl x : Operand) (t u : TypeId)
    (ho : o.op = .call { callee := .builtin .append, args := #[sl, x], argTypes := #[t, u] })
    (B : Nat) (e : TypeId) (i : TypeInfo) (ht : P.underlying t = some (.slice e)) (hu : P.underlying u = some .string) (hi : P.info? e = some i) (hz : i.zero = some (.int .u8 0)) (hsize : i.size = 1) (hby : i.bytes = 1)
    (v : Value) (n : Nat) (xs : List Value) (hs : a.eval sl = v) (hown : Own w B e 1 v n xs) (l : List UInt8) (hx : a.eval x = .string ⟨l.toArray⟩)
    (h63 : n + l.length ≤ maxLen) (hbytes : n + l.length ≤ 140737488355328) (hbase : B ≤ w.heap.size)
    (h : ∀ v' w', Own w' B e 1 v' (n + l.length) (xs ++ bc l) → w.grownBy w' (blkOf v) → (blkOf v' = blkOf v ∨ blkOf v' = some w.heap.size) → wpList P ops Q rest (a.put o.dst v') w') : wpList P ops Q (o :: rest) a w :=
  wpList_plain hgd fun _ hK => wp_append_Own_str w sl x t u ho B e i ht hu hi hz hsize hby v n xs hs hown l hx h63 hbytes hbase fun v' w' h2 h3 h4 => hK _ _ (h v' w' h2 h3 h4)
end
end Tran
/- Writers in memory: Text, Dot, Vector, Bytes; the numbers of law02. -/
namespace Go.Proofs.Ytfojjklohbiffaa
open Go.RowKit Tran Tran.Wire
set_option linter.unusedVariables false
set_option maxRecDepth 100000 in
set_option maxHeartbeats 2000000 in
theorem bytes_any {w : World} {g B : Nat} {v : Value} {l : List UInt8} (h : WrAt w g B v l) : Calls Try.prog 59 #[.pointer (some ⟨g, 0, none⟩)] w fun e w' => e = .returned (.string ⟨l.toArray⟩) ∧ w = w' := by
  have hc : w.cell? ⟨g, 0, none⟩ = some v := h.blk.cell 0
  obtain ⟨A, cap, rfl, hncap, hcm, hrd⟩ := h.own.slice
  have ho := h.own
  go_enter Try.func59, Try.ntmps59
  go_wp2_with (refine wpList_string_of rfl 35 9 (.tmp 8) rfl 5 _ B _ l rfl Try.underlying35 Try.underlying5 Try.underlying9 ho ?_)
  go_ret
  exact ⟨rfl, rfl⟩
set_option maxRecDepth 100000 in
set_option maxHeartbeats 2000000 in
theorem num_any (w : World) (n : Nat) (hn : n < 2 ^ 64) : Calls Try.prog 69 #[.int .u64 n] w fun e w' => e = .returned (.string ⟨(numF n).toArray⟩) ∧ Below w.heap.size w w' := by
  have N := Lib.hid (fun (W : World) (g B : Nat) (v : Value) (h : WrAt W g B v []) (hB : B ≤ W.heap.size) => wnum_any h hB (by simp) n hn)
  clear hn
  go_enter Try.func69, Try.ntmps69
  go_wp2_with fail
  refine (wnew_any w).mono ?_
  rintro e w0 ⟨rfl, hw0⟩
  have n0 : WrAt w0 w.heap.size w.heap.size (.slice none 0 0) [] := by rw [hw0]; exact new_wr w (Nat.le_refl _)
  have b0 : Below w.heap.size w w0 := by rw [hw0]; exact (Below.refl _ _).alloc (Nat.le_refl _) _
  clear hw0
  go_wp2_with fail
  refine (N.out _ _ _ _ n0 b0.size).mono ?_
  rintro e w1 ⟨v1, rfl, p1⟩
  have b1 := b0.trans (p1.toBelow n0 b0.size)
  have n1 := p1.wr
  rw [List.nil_append] at n1
  have Y := Lib.hid (bytes_any n1)
  go_wp2_with fail
  refine Y.out.mono ?_
  rintro e w2 ⟨rfl, rfl⟩
  go_wp2
  go_ret
  exact ⟨rfl, b1⟩
/-- a text as the wire writes it -/
def textF (s : List UInt8) : List UInt8 := numF s.length ++ s
set_option maxRecDepth 100000 in
set_option maxHeartbeats 2000000 in
theorem wtext_any {w : World} {g B : Nat} {v : Value} {l : List UInt8} (h : WrAt w g B v l) (hB : B ≤ w.heap.size) (hl : l.length ≤ 900000000) (s : List UInt8) (hs : s.length ≤ 100000000) :
    Calls Try.prog 71 #[.pointer (some ⟨g, 0, none⟩), .string ⟨s.toArray⟩] w (Wrote w g B v (l ++ textF s)) := by
  obtain ⟨i0, hi, hz0, hz1, hz2⟩ := info_parts info5w
  have N := Lib.hid (wnum_any h hB (by omega) s.length (by omega))
  have hnl := (numF_len s.length (by omega)).1
  go_enter Try.func71, Try.ntmps71
  go_wp2_with fail
  refine N.out.mono ?_
  rintro e w1 ⟨v1, rfl, p1⟩
  have h1 := p1.wr
  have hB1 : B ≤ w1.heap.size := Nat.le_trans hB p1.ch.size
  obtain ⟨m, hm⟩ : ∃ m, m = l ++ numF s.length := ⟨_, rfl⟩
  rw [← hm] at h1 p1
  have hml : m.length ≤ 1000000000 := by rw [hm, List.length_append]; omega
  have HM := Lib.hid hm
  clear hm hnl
  have hc := h1.blk.cell 0
  have hc1 : w1.cell? ⟨g, 1, none⟩ = some (.bool true) := h1.blk.cell 1
  have hfz := h1.blk.frozen 0
  have ho := h1.own
  have hbk := h1.blk
  obtain ⟨A, cap, rfl, _, hcm, _⟩ := h1.own.slice
  have HNE := Lib.hid (p := some g ≠ blkOf (Value.slice A m.length cap)) (fun e => ho.ne_ hbk (by decide) e.symm)
  clear N
  go_wp2_with (at_builtin; refine wpList_append_Own_str _ rfl (.tmp 21) (.tmp 22) 35 9 rfl B 5 i0 Try.underlying35 Try.underlying9 hi hz0 hz1 hz2 (.slice A m.length cap) _ _ rfl ho s rfl (by unfold maxLen; omega) (by omega) hB1 ?_; intro v' w3 ho4 hg4 hat4; obtain ⟨A2, cap2, rfl, _, _, _⟩ := ho4.slice; have hbk3 := hbk.grown hg4 HNE.out; have hc3 := hbk3.cell 0; have hf3 := hbk3.frozen 0)
  refine bodyPost_end (results_none rfl _ _ _) rfl ?_
  have ho5 : Own w3 B 5 1 (.slice A2 (m.length + s.length) cap2) (m ++ s).length (bc (m ++ s)) := by
    rw [bc_append, List.length_append]; exact ho4
  refine ⟨.slice A2 (m.length + s.length) cap2, rfl, ?_⟩
  have p2 := p1.trans (h1.put ho5 hg4 hat4)
  have e : m ++ s = l ++ textF s := by rw [HM.out, List.append_assoc]; rfl
  rw [e] at p2
  exact p2
/-- a dot as the wire writes it -/
def dotF (r n : Nat) : List UInt8 := numF r ++ numF n
set_option maxRecDepth 100000 in
set_option maxHeartbeats 2000000 in
theorem wdot_any {w : World} {g B : Nat} {v : Value} {l : List UInt8} (h : WrAt w g B v l) (hB : B ≤ w.heap.size) (hl : l.length ≤ 900000000) (r n : Nat) (hr : r < 256) (hn : n < 2 ^ 32) :
    Calls Try.prog 72 #[.pointer (some ⟨g, 0, none⟩), .agg #[.int .u8 r, .int .u32 n]] w (Wrote w g B v (l ++ dotF r n)) := by
  have l0 := (Below.refl w.heap.size w).alloc (Nat.le_refl _) (.cells #[.int .u8 r, .int .u32 n] 82)
  have hb0 := Blk.new w 82 #[.int .u8 r, .int .u32 n]
  have h0 := h.below l0
  have p0 := (Put.refl h).below l0
  have hc0 := hb0.cell 0
  have hlt := h.blk.lt
  have hltv := fun k hk => (h.own.lt k hk).2
  have N := Lib.hid (wnum_any h0 (by simp; omega) (by omega) r (by omega))
  have hn1 := (numF_len r (by omega)).1
  have hn2 : n < 2 ^ 64 := by omega
  have HN2 := Lib.hid hn2
  clear hn2
  go_enter Try.func72, Try.ntmps72
  go_wp2_with fail
  refine N.out.mono ?_
  rintro e w1 ⟨v1, rfl, p1⟩
  have hb1 := hb0.chg p1.ch (by
    rintro (e | e)
    · omega
    · have := hltv _ e; omega)
  have hc1 := hb1.cell 1
  have hB1 : B ≤ w1.heap.size := Nat.le_trans (by simp; omega) p1.ch.size
  have N2 := Lib.hid (wnum_any p1.wr hB1 (by rw [List.length_append]; omega) n HN2.out)
  clear N hc0
  go_wp2_with fail
  refine N2.out.mono ?_
  rintro e w2 ⟨v2, rfl, p2⟩
  go_wp2
  refine bodyPost_end (results_none rfl _ _ _) rfl ?_
  refine ⟨v2, rfl, ?_⟩
  have p3 := (p0.trans p1).trans p2
  rw [List.append_assoc] at p3
  exact p3
/-- a pointer to no writer -/
def NoWr (w : World) (p : Value) : Prop := p = .pointer none ∨ ∃ g, p = .pointer (some ⟨g, 0, none⟩) ∧ Blk w g 104 #[.slice none 0 0, .bool false]
set_option maxRecDepth 100000 in
set_option maxHeartbeats 2000000 in
theorem wnum_no {w : World} {p : Value} (h : NoWr w p) (n : Nat) : Calls Try.prog 70 #[p, .int .u64 n] w fun e w' => e = .returned (.tuple #[]) ∧ w = w' := by
  rcases h with rfl | ⟨g, rfl, hb⟩
  · go_enter Try.func70, Try.ntmps70
    go_step3
    go_wp2
    rw [Exit.noGoto_ret]
    refine bodyPost_ret (results_none rfl _ _ _) rfl ?_
    exact ⟨rfl, rfl⟩
  · have hc1 : w.cell? ⟨g, 1, none⟩ = some (.bool false) := hb.cell 1
    go_enter Try.func70, Try.ntmps70
    go_step3
    go_wp2
    rw [Exit.noGoto_ret]
    refine bodyPost_ret (results_none rfl _ _ _) rfl ?_
    exact ⟨rfl, rfl⟩
set_option maxRecDepth 100000 in
set_option maxHeartbeats 2000000 in
theorem wtext_no {w : World} {p : Value} (h : NoWr w p) (s : List UInt8) (hs : s.length ≤ 100000000) : Calls Try.prog 71 #[p, .string ⟨s.toArray⟩] w fun e w' => e = .returned (.tuple #[]) ∧ w = w' := by
  · have N := Lib.hid (wnum_no h s.length)
    rcases h with rfl | ⟨g, rfl, hb⟩
    · go_enter Try.func71, Try.ntmps71
      go_wp2_with fail
      refine N.out.mono ?_
      rintro e w1 ⟨rfl, rfl⟩
      go_wp2
      refine bodyPost_end (results_none rfl _ _ _) rfl ?_
      exact ⟨rfl, rfl⟩
    · have hc1 : w.cell? ⟨g, 1, none⟩ = some (.bool false) := hb.cell 1
      go_enter Try.func71, Try.ntmps71
      go_wp2_with fail
      refine N.out.mono ?_
      rintro e w1 ⟨rfl, rfl⟩
      go_wp2
      refine bodyPost_end (results_none rfl _ _ _) rfl ?_
      exact ⟨rfl, rfl⟩
set_option maxRecDepth 100000 in
set_option maxHeartbeats 2000000 in
theorem wdot_no {w : World} {p : Value} (h : NoWr w p) (r n : Nat) (hr : r < 256) (hn : n < 2 ^ 32) : Calls Try.prog 72 #[p, .agg #[.int .u8 r, .int .u32 n]] w fun e w' => e = .returned (.tuple #[]) ∧ Below w.heap.size w w' := by
  have l0 := (Below.refl w.heap.size w).alloc (Nat.le_refl _) (.cells #[.int .u8 r, .int .u32 n] 82)
  have hb0 := Blk.new w 82 #[.int .u8 r, .int .u32 n]
  have hc0 := hb0.cell 0
  have hc1 := hb0.cell 1
  have h0 : NoWr (w.alloc (.cells #[.int .u8 r, .int .u32 n] 82)) p := by
    rcases h with rfl | ⟨g, rfl, hb⟩
    · exact .inl rfl
    · exact .inr ⟨g, rfl, hb.alloc _⟩
  have N := Lib.hid (wnum_no h0 r)
  have N2 := Lib.hid (wnum_no h0 n)
  have hp : ∃ q, p = .pointer q := by
    rcases h with rfl | ⟨g, rfl, hc⟩ <;> exact ⟨_, rfl⟩
  obtain ⟨q, rfl⟩ := hp
  go_enter Try.func72, Try.ntmps72
  go_wp2_with fail
  refine N.out.mono ?_
  rintro e w1 ⟨rfl, rfl⟩
  go_wp2_with fail
  refine N2.out.mono ?_
  rintro e w1 ⟨rfl, rfl⟩
  go_wp2
  refine bodyPost_end (results_none rfl _ _ _) rfl ?_
  exact ⟨rfl, l0⟩
theorem bytes_no {w : World} {p : Value} (h : NoWr w p) : Calls Try.prog 59 #[p] w fun e w' => e = .returned (.string ⟨#[]⟩) ∧ w = w' := by
  rcases h with rfl | ⟨g, rfl, hb⟩
  · go_enter Try.func59, Try.ntmps59
    go_wp2
    go_ret
    exact ⟨rfl, rfl⟩
  · have hc : w.cell? ⟨g, 0, none⟩ = some (.slice none 0 0) := hb.cell 0
    have ho : Own w 0 5 1 (.slice none 0 0) 0 (bc []) := Own.nil _ _ _ _
    go_enter Try.func59, Try.ntmps59
    go_wp2_with (refine wpList_string_of rfl 35 9 (.tmp 8) rfl 5 _ 0 0 [] rfl Try.underlying35 Try.underlying5 Try.underlying9 ho ?_)
    go_ret
    exact ⟨rfl, rfl⟩
end Go.Proofs.Ytfojjklohbiffaa
