/- append of a string's bytes onto a slice of the call's own; nothing of the program. -/
import Derived.Test.YtfojjklohbiffaaDoorOwn
import Derived.Lib.AppendStr
namespace Tran
open Go Go.RowKit Go.Lib
section
variable {P : Program} (w : World)
theorem run_append_Own_str (B : Nat) (t u ty e : TypeId) (i : TypeInfo) (ht : P.underlying t = some (.slice e)) (hu : P.underlying u = some .string) (hi : P.info? e = some i) (hz : i.zero = some (.int .u8 0))
    (hsize : i.size = 1) (hby : i.bytes = 1) (v : Value) (n : Nat) (xs : List Value) (hown : Own w B e 1 v n xs) (s : ByteArray)
    (h63 : n + s.size ≤ maxLen) (hbytes : n + s.size ≤ 140737488355328) (hbase : B ≤ w.heap.size) :
    ∃ v' w', (Builtin.append_ #[t, u] ty #[v, .string s]).run P w = .ok v' w' ∧ Own w' B e 1 v' (n + s.size) (xs ++ strCells s) ∧ w.grownBy w' (blkOf v) ∧ (blkOf v' = blkOf v ∨ blkOf v' = some w.heap.size) := by
  have hsmall : n + s.size ≤ 9223372036854775807 := by simp only [maxLen] at h63; omega
  have hxl : xs.length = n := by simpa using hown.1
  have hl : (strCells s).length = s.size * 1 := by rw [strCells_length, Nat.mul_one]
  have hlen : (xs ++ strCells s).length = (n + s.size) * 1 := by rw [List.length_append, hxl, strCells_length, Nat.mul_one]
  by_cases hm : s.size = 0
  · have hn : strCells s = [] := List.eq_nil_of_length_eq_zero (by rw [strCells_length]; exact hm)
    refine ⟨v, w, ?_, by rw [hm, hn]; simpa using hown, World.grownBy.refl w _, .inl rfl⟩
    have hf := run_firstCells_string (P := P) w 1 s
    rw [hm] at hf
    rcases hown.2 with ⟨A', rfl, rfl⟩ | ⟨g, cap, cur, fz, rfl, _, _, _, hnc, _⟩
    · cases A' <;> simp [Builtin.append_, run_underlying ht, run_underlying hu, Go.sizeOf, typeInfo, hi, hsize, Builtin.lenOf, hm, hf, storeCells, hn]
    · simp [Builtin.append_, run_underlying ht, run_underlying hu, Go.sizeOf, typeInfo, hi, hsize, Builtin.lenOf, hm, hf, hnc, storeCells, hn]
  · obtain ⟨A', cap, rfl, hnc, hcm, hrd⟩ := hown.slice
    by_cases hroom : n + s.size ≤ cap
    · rcases hown.2 with ⟨_, hv, h0⟩ | ⟨g, cap', cur, fz, hv, hbg, hg, hfz, _, _, hcs, htake⟩
      · injection hv with _ _ hc0; omega
      · injection hv with hA _ hc0
        subst hA hc0
        have hfit : n * 1 + (strCells s).length ≤ cur.size := by rw [hl, ← Nat.add_mul]; exact Nat.le_trans (Nat.mul_le_mul_right _ hroom) hcs
        have hf := run_firstCells_string (P := P) w 1 s
        have hst := run_storeCells_free P g (n * 1) e fz (strCells s) 0 cur w hg hfz (by simpa using hfit) (strCells_oneCell s)
        simp only [Nat.add_zero, Nat.mul_one] at hst
        have hrun : (Builtin.append_ #[t, u] ty #[.slice (some ⟨g, 0, none⟩) n (cap' + 1), .string s]).run P w =
            .ok (.slice (some ⟨g, 0, none⟩) (n + s.size) (cap' + 1)) (w.setRow g (cur.toList.take (n * 1) ++ strCells s ++ cur.toList.drop (n * 1 + (strCells s).length)).toArray) := by
          simp [Builtin.append_, run_underlying ht, run_underlying hu, Go.sizeOf, typeInfo, hi, hsize, Builtin.lenOf, hroom, hf, Addr.add_lit, hst]
        have hsz2 : (cur.toList.take (n * 1) ++ strCells s ++ cur.toList.drop (n * 1 + (strCells s).length)).toArray.size = cur.size := by
          simp only [List.size_toArray, List.length_append, List.length_take, List.length_drop, Array.length_toList]
          omega
        refine ⟨_, _, hrun, Own.mk_ hlen hbg (setRow_heap w g cur _ e _ hg) (hfz.row hsz2) hroom hcm (by rw [hsz2]; exact hcs) ?_, ⟨rfl, rfl, rfl, by simp, fun k _ hk => setRow_other w g k _ (fun e => hk (by simp [blkOf, e]))⟩, .inl rfl⟩
        rw [htake, ← hlen]
        exact List.take_left
    · have hge := grownCap_ge w (n + s.size) cap e
      have hcm2 : grownCap w (n + s.size) cap e ≤ maxLen := grownCap_le_maxLen w (n + s.size) cap e h63
      have hgr : ∀ (o : Obj) (row : Option Nat), w.grownBy (w.drew.alloc o) row := fun o row => ⟨rfl, rfl, rfl, by simp, fun k hk _ => Below.heap_alloc w.drew _ k hk⟩
      have hown2 : Own (w.drew.alloc (.cells (xs.toArray ++ (strCells s).toArray ++ Builtin.zeroCells (Value.int .u8 0).cells (grownCap w (n + s.size) cap e - (n + s.size))) e)) B e 1 (.slice (some ⟨w.heap.size, 0, none⟩) (n + s.size) (grownCap w (n + s.size) cap e)) (n + s.size) (xs ++ strCells s) := by
        refine Own.mk_ hlen hbase (Go.heap_alloc_new w.drew _) (.inl rfl) hge hcm2 (Nat.le_of_eq ?_) ?_
        · have hz1 : (Value.int IntKind.u8 0).cells.size = 1 := rfl
          simp only [Array.size_append, List.size_toArray, size_zeroCells, hz1, hxl, strCells_length]
          omega
        · simp only [Array.toList_append, List.append_assoc]
          rw [← List.append_assoc, ← hlen]
          exact List.take_left
      have hbk : blkOf (.slice (some ⟨w.heap.size, 0, none⟩) (n + s.size) (grownCap w (n + s.size) cap e)) = some w.heap.size := by
        obtain ⟨q, hq⟩ : ∃ q, grownCap w (n + s.size) cap e = q + 1 := ⟨grownCap w (n + s.size) cap e - 1, by omega⟩
        rw [hq]; rfl
      cases A' with
      | none =>
        rcases hown.2 with ⟨_, hv, h0⟩ | ⟨g, cap', cur, fz, hv, _⟩
        · injection hv with _ _ hc0
          subst h0 hc0
          have hx : xs = [] := List.eq_nil_of_length_eq_zero hxl
          subst hx
          have hr := run_append_nil_string (P := P) w t u ty e i (.int .u8 0) ht hu hi hz s (by omega) (by omega) (by rw [hby]; omega)
          have e1 : (s.data.map fun b => Value.int .u8 b.toNat) = (strCells s).toArray := by
            apply Array.ext'
            simp [strCells]
          rw [e1] at hr
          simp only [Nat.zero_add, List.nil_append, Array.empty_append] at hown2 hbk hr ⊢
          exact ⟨_, _, hr, hown2, hgr _ _, .inr hbk⟩
        · injection hv with hA; cases hA
      | some ad =>
        have holds : ∀ j u, xs[j]? = some u → w.cell? (ad.add j) = some u := by
          intro j u hu
          rcases Nat.eq_zero_or_pos n with h0 | h0
          · have hx0 : xs = [] := List.eq_nil_of_length_eq_zero (by omega)
            rw [hx0] at hu; simp at hu
          · obtain ⟨ad', had, hcell⟩ := hrd.2 h0
            injection had with had
            subst had
            exact hcell j u hu
        have hr := run_append_grow_string (P := P) w t u ty e i (.int .u8 0) ht hu hi hz ad n cap xs (by rw [hsize]; simpa using hxl) holds s (by omega) (by omega) (by rw [hby]; exact growslice_fits (by omega) (by omega))
        exact ⟨_, _, hr, hown2, hgr _ _, .inr hbk⟩
theorem wp_append_Own_str {o : Oper} {a : Act} {K : Act → World → Prop} {Q : Exit → Act → World → Prop} (sl x : Operand) (t u : TypeId)
    (ho : o.op = .call { callee := .builtin .append, args := #[sl, x], argTypes := #[t, u] })
    (B : Nat) (e : TypeId) (i : TypeInfo) (ht : P.underlying t = some (.slice e)) (hu : P.underlying u = some .string) (hi : P.info? e = some i) (hz : i.zero = some (.int .u8 0)) (hsize : i.size = 1) (hby : i.bytes = 1)
    (v : Value) (n : Nat) (xs : List Value) (hs : a.eval sl = v) (hown : Own w B e 1 v n xs) (l : List UInt8) (hx : a.eval x = .string ⟨l.toArray⟩)
    (h63 : n + l.length ≤ maxLen) (hbytes : n + l.length ≤ 140737488355328) (hbase : B ≤ w.heap.size)
    (h : ∀ v' w', Own w' B e 1 v' (n + l.length) (xs ++ bc l) → w.grownBy w' (blkOf v) → (blkOf v' = blkOf v ∨ blkOf v' = some w.heap.size) → K (a.put o.dst v') w') : o.wp P a w K Q := by
  have hsz : (⟨l.toArray⟩ : ByteArray).size = l.length := by simp [ByteArray.size]
  obtain ⟨v', w', hr, h2, h3, h4⟩ := run_append_Own_str (P := P) w B t u o.type e i ht hu hi hz hsize hby v n xs hown ⟨l.toArray⟩ (by rw [hsz]; exact h63) (by rw [hsz]; exact hbytes) hbase
  unfold Oper.wp execOp
  simp only [ho, resolve, invoke, builtin, Sem.run_bind, Sem.run_pure, Result.andThen_ok, List.map_toArray, List.map_cons, List.map_nil, hs, hx, hr]
  have e2 : strCells ⟨l.toArray⟩ = bc l := by rw [strCells_eq]
  rw [hsz, e2] at h2
  exact h v' w' h2 h3 h4
theorem wpList_append_Own_str {ops : Array Oper} {rest : List Oper} {o : Oper} {a : Act} {Q : Exit → Act → World → Prop} (hgd : o.guard = none) (sl x : Operand) (t u : TypeId)
    (ho : o.op = .call { callee := .builtin .append, args := #[sl, x], argTypes := #[t, u] })
    (B : Nat) (e : TypeId) (i : TypeInfo) (ht : P.underlying t = some (.slice e)) (hu : P.underlying u = some .string) (hi : P.info? e = some i) (hz : i.zero = some (.int .u8 0)) (hsize : i.size = 1) (hby : i.bytes = 1)
    (v : Value) (n : Nat) (xs : List Value) (hs : a.eval sl = v) (hown : Own w B e 1 v n xs) (l : List UInt8) (hx : a.eval x = .string ⟨l.toArray⟩)
    (h63 : n + l.length ≤ maxLen) (hbytes : n + l.length ≤ 140737488355328) (hbase : B ≤ w.heap.size)
    (h : ∀ v' w', Own w' B e 1 v' (n + l.length) (xs ++ bc l) → w.grownBy w' (blkOf v) → (blkOf v' = blkOf v ∨ blkOf v' = some w.heap.size) → wpList P ops Q rest (a.put o.dst v') w') : wpList P ops Q (o :: rest) a w :=
  wpList_plain hgd fun _ hK => wp_append_Own_str w sl x t u ho B e i ht hu hi hz hsize hby v n xs hs hown l hx h63 hbytes hbase fun v' w' h2 h3 h4 => hK _ _ (h v' w' h2 h3 h4)
end
end Tran
