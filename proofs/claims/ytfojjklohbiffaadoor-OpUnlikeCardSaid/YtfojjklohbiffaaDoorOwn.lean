/- Words on slices that the walks of this seat share: a slice that reads as a list; a slice of the call's own; append onto it. Nothing of the program. -/
import Derived.Test.YtfojjklohbiffaaDoorWords
import Derived.Lib.AppendStr
import Derived.Deep.Draws
namespace Tran
open Go Go.RowKit

theorem block_of_add (a : Addr) (n : Nat) : (a.add n).block = a.block := by unfold Addr.add; split <;> rfl
theorem add_zero (g j : Nat) : (⟨g, 0, none⟩ : Addr).add j = ⟨g, j, none⟩ := by unfold Addr.add; split <;> simp_all

/-- a slice's n elements, of size cells each, read as the cells xs -/
def Rd (w : World) (A : Option Addr) (n size : Nat) (xs : List Value) : Prop :=
  xs.length = n * size ∧ (0 < n → ∃ ad, A = some ad ∧ ∀ j u, xs[j]? = some u → w.cell? (ad.add j) = some u)

/-- nothing of a row's cells is frozen -/
def Free (cur : Array Value) (fz : Nat × Nat) : Prop := fz = (0, 0) ∨ cur.size ≤ fz.1

/-- the block that a slice value keeps its elements in, if it can hold any -/
def blkOf : Value → Option Nat
  | .slice (some a) _ (_ + 1) => some a.block
  | _ => none

/-- a slice value of the call's own: n elements of type e, of size cells each: the cells xs -/
def Own (w : World) (B : Nat) (e : TypeId) (size : Nat) (v : Value) (n : Nat) (xs : List Value) : Prop :=
  xs.length = n * size ∧
  ((∃ A, v = .slice A 0 0 ∧ n = 0) ∨
   ∃ g cap cur fz, v = .slice (some ⟨g, 0, none⟩) n (cap + 1) ∧ B ≤ g ∧ w.heap[g]? = some (.cells cur e fz) ∧ Free cur fz ∧ n ≤ cap + 1 ∧ cap + 1 ≤ maxLen ∧ (cap + 1) * size ≤ cur.size ∧ cur.toList.take (n * size) = xs)

section
variable {w w' : World} {B : Nat} {e : TypeId} {size : Nat} {v : Value} {n : Nat} {xs : List Value}
theorem Own.nil (w : World) (B : Nat) (e : TypeId) (size : Nat) : Own w B e size (.slice none 0 0) 0 [] := ⟨by simp, .inl ⟨_, rfl, rfl⟩⟩
theorem Own.empty (w : World) (B : Nat) (e : TypeId) (size : Nat) (A : Option Addr) : Own w B e size (.slice A 0 0) 0 [] := ⟨by simp, .inl ⟨_, rfl, rfl⟩⟩
/-- a slice value over a row whose first cells are known -/
theorem Own.mk_ {g cap : Nat} {cur : Array Value} {fz : Nat × Nat} (hl : xs.length = n * size) (hb : B ≤ g) (hg : w.heap[g]? = some (.cells cur e fz)) (hf : Free cur fz) (hn : n ≤ cap) (hm : cap ≤ maxLen) (hs : cap * size ≤ cur.size) (ht : cur.toList.take (n * size) = xs) :
    Own w B e size (.slice (some ⟨g, 0, none⟩) n cap) n xs := by
  refine ⟨hl, ?_⟩
  cases cap with
  | zero => obtain rfl : n = 0 := by omega
            exact .inl ⟨_, rfl, rfl⟩
  | succ c => exact .inr ⟨g, c, cur, fz, rfl, hb, hg, hf, hn, hm, hs, ht⟩
theorem Own.of (h : w.ownsRow B e size v n xs) : Own w B e size v n xs := by
  rcases h.2 with ⟨rfl, rfl⟩ | ⟨g, cap, cur, rfl, hb, hg, h1, h2, h3, h4⟩
  · exact ⟨h.1, .inl ⟨_, rfl, rfl⟩⟩
  · exact Own.mk_ h.1 hb hg (.inl rfl) h1 h2 (Nat.le_of_eq h3.symm) h4
theorem Own.lt (h : Own w B e size v n xs) : ∀ k, blkOf v = some k → B ≤ k ∧ k < w.heap.size := by
  intro k hk
  rcases h.2 with ⟨A, rfl, _⟩ | ⟨g, cap, cur, fz, rfl, hb, hg, _⟩
  · cases A <;> simp [blkOf] at hk
  · simp [blkOf] at hk
    subst hk
    exact ⟨hb, (Array.getElem?_eq_some_iff.1 hg).1⟩
theorem Own.sameBlock (h : Own w B e size v n xs) (hk : ∀ g, blkOf v = some g → w'.heap[g]? = w.heap[g]?) : Own w' B e size v n xs := by
  refine ⟨h.1, ?_⟩
  rcases h.2 with hn | ⟨g, cap, cur, fz, rfl, hb, hgg, rest⟩
  · exact .inl hn
  · exact .inr ⟨g, cap, cur, fz, rfl, hb, (hk g (by simp [blkOf])).trans hgg, rest⟩
theorem Own.kept {row : Option Nat} (h : Own w B e size v n xs) (hg : w.grownBy w' row) (hne : blkOf v = none ∨ blkOf v ≠ row) : Own w' B e size v n xs :=
  h.sameBlock fun g hv => hg.block g (h.lt g hv).2 (by rcases hne with hn | hn <;> rw [hv] at hn <;> first | (cases hn; done) | exact hn)
theorem Own.alloc (h : Own w B e size v n xs) (o : Obj) : Own (w.alloc o) B e size v n xs := h.sameBlock fun g hv => Below.heap_alloc w o g (h.lt g hv).2
theorem Own.drew (h : Own w B e size v n xs) : Own w.drew B e size v n xs := h
theorem Own.drewN (h : Own w B e size v n xs) (k : Nat) : Own (w.drewN k) B e size v n xs := h
theorem Own.far (h : Own w B e size v n xs) {p : Addr} (hp : blkOf v ≠ some p.block) (u : Value) : Own (w.setCell p u) B e size v n xs :=
  h.sameBlock fun g hv => Below.heap_setCell w p u g (fun e => hp (by rw [hv, e]))
theorem Own.rowFar (h : Own w B e size v n xs) {k : Nat} (hp : blkOf v ≠ some k) (cs : Array Value) : Own (w.setRow k cs) B e size v n xs :=
  h.sameBlock fun g hv => setRow_other w k g cs (fun e => hp (by rw [hv, e]))
/-- a call that leaves everything below its first block -/
theorem Own.below {C : Nat} (h : Own w B e size v n xs) (hb : Below C w w') (hC : w.heap.size ≤ C) : Own w' B e size v n xs :=
  h.sameBlock fun g hv => hb.block g (by have := (h.lt g hv).2; omega)
theorem Own.chg {S : Nat → Prop} (h : Own w B e size v n xs) (hc : Chg S w w') (hn : ∀ g, blkOf v = some g → ¬ S g) : Own w' B e size v n xs :=
  h.sameBlock fun g hv => hc.block g (h.lt g hv).2 (hn g hv)
/-- blocks of other element types are other blocks -/
theorem Own.ne_ (h : Own w B e size v n xs) {g : Nat} {cs : Array Value} {t : TypeId} {fr : Nat × Nat} (hg : w.heap[g]? = some (.cells cs t fr)) (hne : e ≠ t) : blkOf v ≠ some g := by
  intro hv
  rcases h.2 with ⟨A, rfl, _⟩ | ⟨g', cap, cur, fz, rfl, hb, hgg, rest⟩
  · cases A <;> simp [blkOf] at hv
  · simp [blkOf] at hv
    subst hv
    rw [hg] at hgg
    injection hgg with hgg
    injection hgg with _ ht
    exact hne ht.symm
theorem Own.form (h : Own w B e size v n xs) (hn : 0 < n) : ∃ g cap, v = .slice (some ⟨g, 0, none⟩) n cap ∧ 0 < cap ∧ B ≤ g ∧ g < w.heap.size := by
  rcases h.2 with ⟨_, _, h0⟩ | ⟨g, cap, cur, fz, rfl, hb, hg, _⟩
  · omega
  · exact ⟨g, cap + 1, rfl, by omega, hb, (Array.getElem?_eq_some_iff.1 hg).1⟩
theorem Own.slice (h : Own w B e size v n xs) : ∃ A cap, v = .slice A n cap ∧ n ≤ cap ∧ cap ≤ maxLen ∧ Rd w A n size xs := by
  rcases h.2 with ⟨A, rfl, h0⟩ | ⟨g, cap, cur, fz, rfl, hb, hg, hf, hnc, hcm, hcs, ht⟩
  · subst h0; exact ⟨A, 0, rfl, Nat.le_refl _, Nat.zero_le _, h.1, fun hn => absurd hn (by omega)⟩
  · refine ⟨_, cap + 1, rfl, hnc, hcm, h.1, fun _ => ⟨_, rfl, fun j u hu => ?_⟩⟩
    rw [add_zero, cell_of_row w g j cur e fz hg]
    rw [← ht, List.getElem?_take] at hu
    split at hu
    · simpa using hu
    · cases hu
theorem Own.frozen {g cap : Nat} (h : Own w B e size (.slice (some ⟨g, 0, none⟩) n cap) n xs) (j : Nat) (hj : j < n * size) : w.frozen? ⟨g, j, none⟩ = false := by
  rcases h.2 with ⟨A, hv, h0⟩ | ⟨g', cap', cur, fz, hv, hb, hgg, hf, hnc, hcm, hcs, ht⟩
  · subst h0; omega
  · injection hv with h1 _ h3
    injection h1 with h1
    injection h1 with h1
    subst h1
    obtain ⟨lo, hi⟩ := fz
    simp only [World.frozen?, hgg, Bool.and_eq_false_iff, decide_eq_false_iff_not]
    rcases hf with hf | hf
    · injection hf with h1 h2; subst h1 h2; right; omega
    · left
      have := Nat.mul_le_mul_right size hnc
      simp only at hf; omega
theorem Own.cellAt {g cap : Nat} (h : Own w B e size (.slice (some ⟨g, 0, none⟩) n cap) n xs) {j : Nat} {u : Value} (hu : xs[j]? = some u) : w.cell? ⟨g, j, none⟩ = some u := by
  rcases h.2 with ⟨A, hv, h0⟩ | ⟨g', cap', cur, fz, hv, _, hg, _, _, _, _, ht⟩
  · have hl := h.1
    rw [h0, Nat.zero_mul] at hl
    rw [List.eq_nil_of_length_eq_zero hl] at hu
    simp at hu
  · injection hv with h1 _ h3
    injection h1 with h1
    injection h1 with h1
    subst h1
    rw [cell_of_row w _ j cur e fz hg]
    rw [← ht, List.getElem?_take] at hu
    split at hu
    · simpa using hu
    · cases hu
end

theorem Free.row {cur : Array Value} {fz : Nat × Nat} (h : Free cur fz) {cs : Array Value} (hs : cs.size = cur.size) : Free cs fz := by
  rcases h with h | h
  · exact .inl h
  · exact .inr (by omega)

/-- cells stored into a row of which nothing is frozen -/
theorem run_storeCells_free (P : Program) (g o : Nat) (t : TypeId) (fz : Nat × Nat) : ∀ (vs : List Value) (i : Nat) (cur : Array Value) (w : World), w.heap[g]? = some (.cells cur t fz) → Free cur fz → o + i + vs.length ≤ cur.size → (∀ v ∈ vs, v.oneCell' = true) →
    (storeCells ⟨g, o, none⟩ vs i).run P w = .ok () (w.setRow g (cur.toList.take (o + i) ++ vs ++ cur.toList.drop (o + i + vs.length)).toArray)
  | [], i, cur, w, hg, _, _, _ => by
    simp only [storeCells, List.append_nil, List.length_nil, Nat.add_zero, List.take_append_drop, Array.toArray_toList]
    rw [setRow_self w g cur t fz hg]
    rfl
  | v :: rest, i, cur, w, hg, hfz, hl, h1 => by
    have hi : o + i < cur.size := by simp at hl; omega
    have hadd : (⟨g, o, none⟩ : Addr).add i = ⟨g, o + i, none⟩ := by unfold Addr.add; split <;> simp_all
    have hcell : w.cell? ⟨g, o + i, none⟩ = some cur[o + i] := by simp [World.cell?, hg, hi]
    have hfro : w.frozen? ⟨g, o + i, none⟩ = false := by
      obtain ⟨lo, hi'⟩ := fz
      simp only [World.frozen?, hg, Bool.and_eq_false_iff, decide_eq_false_iff_not]
      rcases hfz with hf | hf
      · injection hf with h1 h2; subst h1 h2; right; omega
      · left; simp only at hf; omega
    have hst : (store ((⟨g, o, none⟩ : Addr).add i) v).run P w = .ok () (w.setRow g (cur.setIfInBounds (o + i) v)) := by
      rw [hadd, run_store P w _ v _ (h1 v (by simp)), hcell]
      simp [hfro, setCell_eq_setRow w g (o + i) cur t fz v hg]
    have ih := run_storeCells_free P g o t fz rest (i + 1) (cur.setIfInBounds (o + i) v) (w.setRow g (cur.setIfInBounds (o + i) v)) (setRow_heap w g cur _ t _ hg) (hfz.row (by simp)) (by simp at hl ⊢; omega) (fun x hx => h1 x (by simp [hx]))
    simp only [storeCells, Sem.run_bind, hst, Result.andThen_ok, ih, setRow_setRow]
    congr 3
    have e := list_seg_step cur.toList (o + i) v rest (by simp at hl ⊢; omega)
    simpa [Array.toList_setIfInBounds, Nat.add_assoc] using e

section
variable {P : Program} (w : World)
/-- append of a slice's elements onto a slice of the call's own -/
theorem run_append_Own (B : Nat) (t ty e : TypeId) (i : TypeInfo) (z : Value) (size bytes : Nat) (ht : P.underlying t = some (.slice e)) (hi : P.info? e = some i) (hz : i.zero = some z)
    (hsize : i.size = size) (hby : i.bytes = bytes) (hzs : z.cells.size = size) (hsz : 0 < size)
    (v : Value) (n : Nat) (xs : List Value) (hown : Own w B e size v n xs)
    (A : Option Addr) (m c : Nat) (news : List Value) (hr : Rd w A m size news) (h1 : ∀ u ∈ news, u.oneCell' = true)
    (h63 : n + m ≤ maxLen) (hbytes : (n + m) * bytes ≤ 140737488355328) (hbase : B ≤ w.heap.size) :
    ∃ v' w', (Builtin.append_ #[t, t] ty #[v, .slice A m c]).run P w = .ok v' w' ∧ Own w' B e size v' (n + m) (xs ++ news) ∧ w.grownBy w' (blkOf v) ∧ (blkOf v' = blkOf v ∨ blkOf v' = some w.heap.size) := by
  subst hsize
  subst hby
  have hsmall : n + m ≤ 9223372036854775807 := by simp only [maxLen] at h63; omega
  have hlen : (xs ++ news).length = (n + m) * i.size := by rw [List.length_append, hown.1, hr.1, Nat.add_mul]
  by_cases hm : m = 0
  · subst hm
    have hn : news = [] := List.eq_nil_of_length_eq_zero (by simpa using hr.1)
    subst hn
    refine ⟨v, w, ?_, by simpa using hown, World.grownBy.refl w _, .inl rfl⟩
    rcases hown.2 with ⟨A', rfl, rfl⟩ | ⟨g, cap, cur, fz, rfl, _, _, _, hnc, _⟩
    · cases A <;> cases A' <;> simp [Builtin.append_, run_underlying ht, Go.sizeOf, typeInfo, hi, Builtin.lenOf, Builtin.firstCells, loadCells, loadCellsFrom, storeCells]
    · cases A <;> simp [Builtin.append_, run_underlying ht, Go.sizeOf, typeInfo, hi, Builtin.lenOf, Builtin.firstCells, loadCells, loadCellsFrom, hnc, storeCells]
  · obtain ⟨a, rfl, hnews⟩ := hr.2 (by omega)
    have hl := hr.1
    obtain ⟨A', cap, rfl, hnc, hcm, hrd⟩ := hown.slice
    by_cases hroom : n + m ≤ cap
    · rcases hown.2 with ⟨_, hv, h0⟩ | ⟨g, cap', cur, fz, hv, hbg, hg, hfz, _, _, hcs, htake⟩
      · injection hv with _ _ hc0; omega
      · injection hv with hA _ hc0
        subst hA hc0
        have hfit : n * i.size + news.length ≤ cur.size := by rw [hl, ← Nat.add_mul]; exact Nat.le_trans (Nat.mul_le_mul_right _ hroom) hcs
        have hf := run_firstCells_some (P := P) w i.size m a m c news hl hnews
        have hst := run_storeCells_free P g (n * i.size) e fz news 0 cur w hg hfz (by simpa using hfit) h1
        simp only [Nat.add_zero] at hst
        have hrun : (Builtin.append_ #[t, t] ty #[.slice (some ⟨g, 0, none⟩) n (cap' + 1), .slice (some a) m c]).run P w =
            .ok (.slice (some ⟨g, 0, none⟩) (n + m) (cap' + 1)) (w.setRow g (cur.toList.take (n * i.size) ++ news ++ cur.toList.drop (n * i.size + news.length)).toArray) := by
          simp [Builtin.append_, run_underlying ht, Go.sizeOf, typeInfo, hi, Builtin.lenOf, hroom, hf, Addr.add_lit, hst]
        have hsz2 : (cur.toList.take (n * i.size) ++ news ++ cur.toList.drop (n * i.size + news.length)).toArray.size = cur.size := by
          simp only [List.size_toArray, List.length_append, List.length_take, List.length_drop, Array.length_toList]
          omega
        refine ⟨_, _, hrun, Own.mk_ hlen hbg (setRow_heap w g cur _ e _ hg) (hfz.row hsz2) hroom hcm (by rw [hsz2]; exact hcs) ?_, ⟨rfl, rfl, rfl, by simp, fun k _ hk => setRow_other w g k _ (fun e => hk (by simp [blkOf, e]))⟩, .inl rfl⟩
        rw [htake, ← hlen]
        exact List.take_left
    · have hge := grownCap_ge w (n + m) cap e
      have hcm2 : grownCap w (n + m) cap e ≤ maxLen := grownCap_le_maxLen w (n + m) cap e h63
      have hgr : ∀ (o : Obj) (row : Option Nat), w.grownBy (w.drew.alloc o) row := fun o row => ⟨rfl, rfl, rfl, by simp, fun k hk _ => Below.heap_alloc w.drew _ k hk⟩
      have hown2 : Own (w.drew.alloc (.cells (xs.toArray ++ news.toArray ++ Builtin.zeroCells z.cells (grownCap w (n + m) cap e - (n + m))) e)) B e i.size (.slice (some ⟨w.heap.size, 0, none⟩) (n + m) (grownCap w (n + m) cap e)) (n + m) (xs ++ news) := by
        refine Own.mk_ hlen hbase (Go.heap_alloc_new w.drew _) (.inl rfl) hge hcm2 (Nat.le_of_eq ?_) ?_
        · simp only [Array.size_append, List.size_toArray, size_zeroCells, hzs, hown.1, hl, ← Nat.add_mul]
          congr 1
          omega
        · simp only [Array.toList_append, List.append_assoc]
          rw [← List.append_assoc, ← hlen]
          exact List.take_left
      have hbk : blkOf (.slice (some ⟨w.heap.size, 0, none⟩) (n + m) (grownCap w (n + m) cap e)) = some w.heap.size := by
        obtain ⟨q, hq⟩ : ∃ q, grownCap w (n + m) cap e = q + 1 := ⟨grownCap w (n + m) cap e - 1, by omega⟩
        rw [hq]; rfl
      cases A' with
      | none =>
        rcases hown.2 with ⟨_, hv, h0⟩ | ⟨g, cap', cur, fz, hv, _⟩
        · injection hv with _ _ hc0
          subst h0 hc0
          have hx : xs = [] := List.eq_nil_of_length_eq_zero (by simpa using hown.1)
          subst hx
          have hr := run_append_nil (P := P) w t ty e i z ht hi hz a m c news hl hnews (by omega) (by omega) (by have hb := hbytes; simp only [Nat.zero_add] at hb; omega)
          simp only [Nat.zero_add, List.nil_append, Array.empty_append] at hown2 hbk hr ⊢
          exact ⟨_, _, hr, hown2, hgr _ _, .inr hbk⟩
        · injection hv with hA; cases hA
      | some ad =>
        have holds : ∀ j u, xs[j]? = some u → w.cell? (ad.add j) = some u := by
          intro j u hu
          rcases Nat.eq_zero_or_pos n with h0 | h0
          · have hx0 : xs = [] := List.eq_nil_of_length_eq_zero (by rw [hown.1, h0, Nat.zero_mul])
            rw [hx0] at hu; simp at hu
          · obtain ⟨ad', had, hcell⟩ := hrd.2 h0
            injection had with had
            subst had
            exact hcell j u hu
        have hr := run_append_grow (P := P) w t ty e i z ht hi hz ad n cap xs hown.1 holds a m c news hl hnews (by omega) (by omega) (growslice_fits (by omega) hbytes)
        exact ⟨_, _, hr, hown2, hgr _ _, .inr hbk⟩

theorem wp_append_Own {o : Oper} {a : Act} {K : Act → World → Prop} {Q : Exit → Act → World → Prop} (s x : Operand) (t : TypeId)
    (ho : o.op = .call { callee := .builtin .append, args := #[s, x], argTypes := #[t, t] })
    (B : Nat) (e : TypeId) (i : TypeInfo) (z : Value) (size bytes : Nat) (ht : P.underlying t = some (.slice e)) (hi : P.info? e = some i) (hz : i.zero = some z)
    (hsize : i.size = size) (hby : i.bytes = bytes) (hzs : z.cells.size = size) (hsz : 0 < size)
    (v : Value) (n : Nat) (xs : List Value) (hs : a.eval s = v) (hown : Own w B e size v n xs)
    (A : Option Addr) (m c : Nat) (news : List Value) (hx : a.eval x = .slice A m c) (hr : Rd w A m size news) (h1 : ∀ u ∈ news, u.oneCell' = true)
    (h63 : n + m ≤ maxLen) (hbytes : (n + m) * bytes ≤ 140737488355328) (hbase : B ≤ w.heap.size)
    (h : ∀ v' w', Own w' B e size v' (n + m) (xs ++ news) → w.grownBy w' (blkOf v) → (blkOf v' = blkOf v ∨ blkOf v' = some w.heap.size) → K (a.put o.dst v') w') : o.wp P a w K Q := by
  obtain ⟨v', w', hrun, h2, h3, h4⟩ := run_append_Own (P := P) w B t o.type e i z size bytes ht hi hz hsize hby hzs hsz v n xs hown A m c news hr h1 h63 hbytes hbase
  unfold Oper.wp execOp
  simp only [ho, resolve, invoke, builtin, Sem.run_bind, Sem.run_pure, Result.andThen_ok, List.map_toArray, List.map_cons, List.map_nil, hs, hx, hrun]
  exact h v' w' h2 h3 h4
theorem wpList_append_Own {ops : Array Oper} {rest : List Oper} {o : Oper} {a : Act} {Q : Exit → Act → World → Prop} (hgd : o.guard = none) (s x : Operand) (t : TypeId)
    (ho : o.op = .call { callee := .builtin .append, args := #[s, x], argTypes := #[t, t] })
    (B : Nat) (e : TypeId) (i : TypeInfo) (z : Value) (size bytes : Nat) (ht : P.underlying t = some (.slice e)) (hi : P.info? e = some i) (hz : i.zero = some z)
    (hsize : i.size = size) (hby : i.bytes = bytes) (hzs : z.cells.size = size) (hsz : 0 < size)
    (v : Value) (n : Nat) (xs : List Value) (hs : a.eval s = v) (hown : Own w B e size v n xs)
    (A : Option Addr) (m c : Nat) (news : List Value) (hx : a.eval x = .slice A m c) (hr : Rd w A m size news) (h1 : ∀ u ∈ news, u.oneCell' = true)
    (h63 : n + m ≤ maxLen) (hbytes : (n + m) * bytes ≤ 140737488355328) (hbase : B ≤ w.heap.size)
    (h : ∀ v' w', Own w' B e size v' (n + m) (xs ++ news) → w.grownBy w' (blkOf v) → (blkOf v' = blkOf v ∨ blkOf v' = some w.heap.size) → wpList P ops Q rest (a.put o.dst v') w') : wpList P ops Q (o :: rest) a w :=
  wpList_plain hgd fun _ hK => wp_append_Own w s x t ho B e i z size bytes ht hi hz hsize hby hzs hsz v n xs hs hown A m c news hx hr h1 h63 hbytes hbase fun v' w' h2 h3 h4 => hK _ _ (h v' w' h2 h3 h4)
end

section
variable {P : Program}
/-- as one step of a region that draws its order -/
theorem step_append_Own (w : World) {ops : Array Oper} {o : Oper} {a : Act} {K : Act → World → Prop} {Q : Exit → Act → World → Prop} {E : Prop} (hgd : o.guard = none) (s x : Operand) (t : TypeId)
    (ho : o.op = .call { callee := .builtin .append, args := #[s, x], argTypes := #[t, t] })
    (B : Nat) (e : TypeId) (i : TypeInfo) (z : Value) (size bytes : Nat) (ht : P.underlying t = some (.slice e)) (hi : P.info? e = some i) (hz : i.zero = some z)
    (hsize : i.size = size) (hby : i.bytes = bytes) (hzs : z.cells.size = size) (hsz : 0 < size)
    (v : Value) (n : Nat) (xs : List Value) (hs : a.eval s = v) (hown : Own w B e size v n xs)
    (A : Option Addr) (m c : Nat) (news : List Value) (hx : a.eval x = .slice A m c) (hr : Rd w A m size news) (h1 : ∀ u ∈ news, u.oneCell' = true)
    (h63 : n + m ≤ maxLen) (hbytes : (n + m) * bytes ≤ 140737488355328) (hbase : B ≤ w.heap.size)
    (h : ∀ v' w', Own w' B e size v' (n + m) (xs ++ news) → w.grownBy w' (blkOf v) → (blkOf v' = blkOf v ∨ blkOf v' = some w.heap.size) → K (a.put o.dst v') w') :
    if Region.wanted o (yielded ops a.tmps) = true then Oper.wp P o a w K Q else E := by
  have hw : Region.wanted o (yielded ops a.tmps) = true := by simp [Region.wanted, hgd]
  rw [if_pos hw]
  exact wp_append_Own w s x t ho B e i z size bytes ht hi hz hsize hby hzs hsz v n xs hs hown A m c news hx hr h1 h63 hbytes hbase h
end
theorem Rd.later {w w' : World} {A : Option Addr} {n size : Nat} {xs : List Value} (h : Rd w A n size xs) (hb : Below w.heap.size w w') : Rd w' A n size xs := by
  refine ⟨h.1, fun hn => ?_⟩
  obtain ⟨ad, rfl, hc⟩ := h.2 hn
  refine ⟨ad, rfl, fun j u hu => ?_⟩
  have := hc j u hu
  rw [hb.cell (by have := World.block_lt_of_cell? w _ this; exact this)]
  exact this
theorem Rd.take {w : World} {A : Option Addr} {n size : Nat} {xs : List Value} (h : Rd w A n size xs) {k : Nat} (hk : k ≤ n) : Rd w A k size (xs.take (k * size)) := by
  refine ⟨by rw [List.length_take, h.1]; exact Nat.min_eq_left (Nat.mul_le_mul_right _ hk), fun hn => ?_⟩
  obtain ⟨ad, rfl, hc⟩ := h.2 (by omega)
  refine ⟨ad, rfl, fun j u hu => ?_⟩
  rw [List.getElem?_take] at hu
  split at hu
  · exact hc j u hu
  · cases hu
theorem Rd.dropA {w : World} {ad : Addr} {n size : Nat} {xs : List Value} (h : Rd w (some ad) n size xs) {k : Nat} (hk : k ≤ n) {A : Option Addr} (hA : k < n → A = some (ad.add (k * size))) :
    Rd w A (n - k) size (xs.drop (k * size)) := by
  refine ⟨by rw [List.length_drop, h.1, Nat.sub_mul], fun hn => ⟨_, hA (by omega), fun j u hu => ?_⟩⟩
  obtain ⟨ad', had, hc⟩ := h.2 (by omega)
  injection had with had
  subst had
  rw [List.getElem?_drop] at hu
  have := hc _ u hu
  have e : (ad.add (k * size)).add j = ad.add (k * size + j) := by
    unfold Addr.add
    by_cases hi : k * size = 0 <;> by_cases hj : j = 0 <;> simp [hi, hj, Nat.add_assoc]
  rw [e]; exact this
/-- a slice's beginning, its room cut -/
theorem Own.cut {w : World} {B : Nat} {e : TypeId} {size g cap n : Nat} {xs : List Value} (h : Own w B e size (.slice (some ⟨g, 0, none⟩) n cap) n xs) {p : Nat} (hp : p ≤ n) :
    Own w B e size (.slice (some ⟨g, 0, none⟩) p p) p (xs.take (p * size)) := by
  have hl : (xs.take (p * size)).length = p * size := by
    rw [List.length_take, h.1]; exact Nat.min_eq_left (Nat.mul_le_mul_right _ hp)
  rcases h.2 with ⟨A, hv, h0⟩ | ⟨g', cap', cur, fz, hv, hb, hgg, hf, hnc, hcm, hcs, ht⟩
  · obtain rfl : p = 0 := by omega
    exact ⟨hl, .inl ⟨_, rfl, rfl⟩⟩
  · injection hv with h1 _ h3
    injection h1 with h1
    injection h1 with h1
    subst h1
    refine Own.mk_ hl hb hgg hf (Nat.le_refl _) (by omega) (Nat.le_trans (Nat.mul_le_mul_right _ (by omega)) hcs) ?_
    rw [← ht, List.take_take, Nat.min_eq_left (Nat.mul_le_mul_right _ hp)]
/-- what stands behind a place of a slice -/
theorem Rd.drop {w : World} {g n size : Nat} {xs : List Value} (h : Rd w (some ⟨g, 0, none⟩) n size xs) {k : Nat} (hk : k ≤ n) {A : Option Addr} (hA : k < n → A = some ⟨g, k * size, none⟩) :
    Rd w A (n - k) size (xs.drop (k * size)) := by
  refine ⟨by rw [List.length_drop, h.1, Nat.sub_mul], fun hn => ⟨_, hA (by omega), fun j u hu => ?_⟩⟩
  obtain ⟨ad, had, hc⟩ := h.2 (by omega)
  injection had with had
  subst had
  rw [List.getElem?_drop] at hu
  have := hc _ u hu
  rw [add_zero] at this
  rw [Addr.add_lit]; exact this
/-- one element of one cell, in a block that was just laid -/
theorem Rd.one (w : World) (x : Value) (t : TypeId) : Rd (w.alloc (.cells #[x] t)) (some ⟨w.heap.size, 0, none⟩) 1 1 [x] :=
  ⟨rfl, fun _ => ⟨_, rfl, fun j u hu => by
    cases j with
    | zero =>
      rw [add_zero, (Blk.new w t #[x]).cell]; simpa using hu
    | succ j => simp at hu⟩⟩
/-- a slice whose elements were just laid -/
theorem Own.lit (w : World) (e : TypeId) (cur : Array Value) (hm : cur.size ≤ maxLen) {B : Nat} (hB : B ≤ w.heap.size) :
    Own (w.alloc (.cells cur e)) B e 1 (.slice (some ⟨w.heap.size, 0, none⟩) cur.size cur.size) cur.size cur.toList :=
  Own.mk_ (by simp) hB (Go.heap_alloc_new w _) (.inl rfl) (Nat.le_refl _) hm (by simp) (List.take_of_length_le (by simp))
theorem Own.set_ {w : World} {B : Nat} {e : TypeId} {size g cap n : Nat} {xs : List Value} (h : Own w B e size (.slice (some ⟨g, 0, none⟩) n cap) n xs) (j : Nat) (u : Value) : Own (w.setCell ⟨g, j, none⟩ u) B e size (.slice (some ⟨g, 0, none⟩) n cap) n (xs.set j u) := by
  refine ⟨by rw [List.length_set]; exact h.1, ?_⟩
  rcases h.2 with h0 | ⟨g', cap', cur, fz, hv, hb, hg, hf, hnc, hcm, hcs, ht⟩
  · exact .inl h0
  · injection hv with h1 _ h3
    injection h1 with h1
    injection h1 with h1
    subst h1 h3
    refine .inr ⟨_, cap', cur.setIfInBounds j u, fz, rfl, hb, ?_, hf.row (by simp), hnc, hcm, by simpa using hcs, ?_⟩
    · rw [setCell_eq_setRow w _ j cur e fz u hg]; exact setRow_heap w _ cur _ e fz hg
    · rw [Array.toList_setIfInBounds, List.take_set, ht]
/-- a value's block is the one that it had, or lies beyond w -/
def Moved (w : World) (v v' : Value) : Prop := blkOf v' = blkOf v ∨ ∀ k, blkOf v' = some k → w.heap.size ≤ k
theorem Moved.refl (w : World) (v : Value) : Moved w v v := .inl rfl
/-- the cells of texts -/
def strs (l : List (List UInt8)) : List Value := l.map fun s => .string ⟨s.toArray⟩
theorem strs_length (l : List (List UInt8)) : (strs l).length = l.length := by simp [strs]
theorem strs_one (l : List (List UInt8)) : ∀ u ∈ strs l, u.oneCell' = true := by
  intro u hu; simp only [strs, List.mem_map] at hu; obtain ⟨b, _, rfl⟩ := hu; rfl
theorem strs_append (a b : List (List UInt8)) : strs (a ++ b) = strs a ++ strs b := by simp [strs]
theorem strs_get {l : List (List UInt8)} {j : Nat} (hj : j < l.length) : (strs l)[j]? = some (.string ⟨l[j].toArray⟩) := by simp [strs, hj]
/-- the cells of bytes -/
def bc (l : List UInt8) : List Value := l.map fun b => .int .u8 (b.toNat : Int)
theorem bc_length (l : List UInt8) : (bc l).length = l.length := by simp [bc]
theorem bc_one (l : List UInt8) : ∀ u ∈ bc l, u.oneCell' = true := by
  intro u hu; simp only [bc, List.mem_map] at hu; obtain ⟨b, _, rfl⟩ := hu; rfl
theorem bc_append (a b : List UInt8) : bc (a ++ b) = bc a ++ bc b := by simp [bc]
theorem bc_get {l : List UInt8} {j : Nat} (hj : j < l.length) : (bc l)[j]? = some (.int .u8 (l[j].toNat : Int)) := by simp [bc, hj]
theorem strCells_eq (s : ByteArray) : Lib.strCells s = bc s.data.toList := rfl

section
variable {P : Program}
/-- a string's bytes in new memory -/
theorem run_bytes_new (w : World) (src dst e : TypeId) (s : ByteArray) (hs : P.underlying src = some .string) (hd : P.underlying dst = some (.slice e)) (he : P.underlying e = some (.int .u8)) (hm : s.size ≤ maxLen) :
    ∃ v w', (convert src dst (.string s)).run P w = .ok v w' ∧ (∀ B, B ≤ w.heap.size → Own w' B e 1 v s.size (bc s.data.toList)) ∧ w.grownBy w' none ∧ ∃ cap, v = .slice (some ⟨w.heap.size, 0, none⟩) s.size cap := by
  have hge := grownCap_ge w s.size 0 e
  have h2 : s.data.size = s.size := rfl
  refine ⟨_, _, run_bytes_of_string w src dst e s hs hd he, fun B hB => Own.mk_ (by simp [bc]) hB (Go.heap_alloc_new w.drew _) (.inr ?_) hge (grownCap_le_maxLen w s.size 0 e hm) ?_ ?_, ⟨rfl, rfl, rfl, by simp, fun k hk _ => Below.heap_alloc w.drew _ k hk⟩, _, rfl⟩
  · exact Nat.le_refl _
  · simp [bytesRow]; omega
  · have e1 : (bytesRow s (grownCap w s.size 0 e)).toList = bc s.data.toList ++ (Array.replicate (grownCap w s.size 0 e - s.size) (Value.int .u8 0)).toList := by
      simp [bytesRow, bc]
    rw [e1, Nat.mul_one, List.take_append_of_le_length (by rw [bc_length]; simp [h2]), List.take_of_length_le (by rw [bc_length]; simp [h2])]

theorem wpList_bytes_new {ops : Array Oper} {rest : List Oper} {o : Oper} {a : Act} {w : World} {Q : Exit → Act → World → Prop} (hgd : o.guard = none) (src dst : TypeId) (x : Operand) (ho : o.op = .convert src dst x)
    (e : TypeId) (s : ByteArray) (hx : a.eval x = .string s) (hs : P.underlying src = some .string) (hd : P.underlying dst = some (.slice e)) (he : P.underlying e = some (.int .u8)) (hm : s.size ≤ maxLen)
    (h : ∀ v w' cap, v = .slice (some ⟨w.heap.size, 0, none⟩) s.size cap → (∀ B, B ≤ w.heap.size → Own w' B e 1 v s.size (bc s.data.toList)) → w.grownBy w' none → wpList P ops Q rest (a.put o.dst v) w') : wpList P ops Q (o :: rest) a w := by
  obtain ⟨v, w', hrun, h1, h2, cap, hv⟩ := run_bytes_new (P := P) w src dst e s hs hd he hm
  refine wpList_plain hgd fun K hK => ?_
  unfold Oper.wp execOp
  simp only [ho, hx, Sem.run_bind, hrun, Result.andThen_ok]
  exact hK _ _ (h v w' cap hv h1 h2)

/-- the text of bytes -/
theorem run_string_of (w : World) (src dst e : TypeId) (A : Option Addr) (n cap : Nat) (l : List UInt8) (hs : P.underlying src = some (.slice e)) (he : P.underlying e = some (.int .u8)) (hd : P.underlying dst = some .string)
    (hr : Rd w A n 1 (bc l)) : (convert src dst (.slice A n cap)).run P w = .ok (.string ⟨l.toArray⟩) w := by
  have hl : l.length = n := by have := hr.1; rw [bc_length] at this; omega
  subst hl
  rcases Nat.eq_zero_or_pos l.length with h0 | h0
  · have hl0 : l = [] := List.eq_nil_of_length_eq_zero h0
    subst hl0
    cases A with
    | none =>
      rw [run_convert_bytes_string w src dst e none _ cap hs he hd]
      rfl
    | some ad => exact run_convert_bytes_back w src dst e ad cap [] hs he hd (fun j hj => absurd hj (by simp))
  · obtain ⟨ad, rfl, hc⟩ := hr.2 h0
    exact run_convert_bytes_back w src dst e ad cap l hs he hd (fun j hj => hc j _ (bc_get hj))
theorem wpList_string_of {ops : Array Oper} {rest : List Oper} {o : Oper} {a : Act} {w : World} {Q : Exit → Act → World → Prop} (hgd : o.guard = none) (src dst : TypeId) (x : Operand) (ho : o.op = .convert src dst x)
    (e : TypeId) (v : Value) (B n : Nat) (l : List UInt8) (hx : a.eval x = v) (hs : P.underlying src = some (.slice e)) (he : P.underlying e = some (.int .u8)) (hd : P.underlying dst = some .string) (hown : Own w B e 1 v n (bc l))
    (h : wpList P ops Q rest (a.put o.dst (.string ⟨l.toArray⟩)) w) : wpList P ops Q (o :: rest) a w := by
  obtain ⟨A, cap, rfl, _, _, hr⟩ := hown.slice
  refine wpList_plain hgd fun K hK => ?_
  unfold Oper.wp execOp
  simp only [ho, hx, Sem.run_bind, run_string_of w src dst e A n cap l hs he hd hr, Result.andThen_ok]
  exact hK _ _ h
end
end Tran
