/- An argument '[]Act' opened: its acts, their cells, their texts' lengths. -/
import Derived.Test.YtfojjklohbiffaaNetG
import Derived.Deep.Slices
import Derived.Deep.Fields
import Derived.ChangeSame
import Derived.SizedLaws
import Derived.ProofKit
import Derived.OpenShut
namespace Go.Proofs.Ytfojjklohbiffaa
open Go.RowKit Go.ChangeShapes Go.WideShapes Go.Deep Tran
section
variable {H : Type} {enc : TypeId × Value → H} {P : Program} {w : World} {base : Nat} {spare : Nat → Bool} {held : Bool}
theorem open_slice_fields {t e : TypeId} {fs : Array Field} {fuel : Nat} {cs : List Value} {x : DataW H × List MemPlace} (ht : P.underlying t = some (.slice e)) (he : P.underlying e = some (.struct fs))
    (hone : oneCellFields P fs = true) (hC : P.cellsOf e = fs.size) (h : DataW.trod enc P w base spare held fuel t cs = some x) :
    (cs = [.slice none 0 0] ∧ x = (.nil, [])) ∨
    ∃ (a : Addr) (len cap m : Nat) (D : Nat → DataW H) (Pl : Nat → List MemPlace), cs = [.slice (some a) len cap] ∧ base ≤ a.block ∧ len ≤ cap ∧ cap ≤ maxLen ∧ m = (if spare a.block then cap else len) ∧
      x = (.slice ((List.range len).map D) ((List.range (m - len)).map fun j => D (len + j)), MemPlace.row a (m * fs.size) ++ (List.range m).flatMap Pl) ∧
      ∀ i, i < m → ∃ (ys : List (DataW H × List MemPlace)) (n : Nat), D i = .agg (ys.map (·.1)) ∧ Pl i = ys.flatMap (·.2) ∧ ys.length = fs.size ∧
        ∀ (j : Nat) (f : Field), fs[j]? = some f → ∃ (v : Value) (y : DataW H × List MemPlace), w.cell? (a.add (i * fs.size + j)) = some v ∧ ys[j]? = some y ∧ DataW.trod enc P w base spare held n f.type [v] = some y := by
  rcases open_slice ht h with h0 | ⟨a, len, cap, m, n, D, Pl, hcs, hb, hl, hm, hmm, hx, hi⟩
  · exact .inl h0
  · refine .inr ⟨a, len, cap, m, D, Pl, hcs, hb, hl, hm, hmm, by rw [hC] at hx; exact hx, fun i him => ?_⟩
    obtain ⟨cs', hc, ht'⟩ := hi i him
    rw [hC] at hc
    obtain ⟨ys, n', hn', hy, hlen, hyl, hf⟩ := DataW.trod_struct he ht'
    obtain ⟨_, hcl, hat⟩ := World.cells?_some hc
    simp only [Prod.mk.injEq] at hy
    refine ⟨ys, n', hy.1, hy.2, hyl, fun j f hj => ?_⟩
    obtain ⟨ho, hk⟩ := hone_of hone j f hj
    have hjl : j < fs.size := (Array.getElem?_eq_some_iff.1 hj).1
    have hcell := hat j hjl
    have hv : cs'[j]? = some (cs'[j]'(by omega)) := List.getElem?_eq_getElem (by omega)
    have h1 := hf j f hj
    rw [ho, hk] at h1
    have hone' : (cs'.drop j).take 1 = [cs'[j]'(by omega)] := by
      rw [List.drop_eq_getElem_cons (by omega)]
      rfl
    rw [hone'] at h1
    have hys : ys[j]? = some (ys[j]'(by omega)) := List.getElem?_eq_getElem (by omega)
    refine ⟨_, _, ?_, hys, h1.trans hys⟩
    rw [← Go.Deep.add_add, hcell, hv]
end
theorem weightsAll_mem {H : Type} {P : Program} {e : TypeId} : ∀ {l : List (DataW H)} {d : DataW H}, d ∈ l → ∀ n ∈ d.weights P e, n ∈ DataW.weightsAll P e l
  | d0 :: l, d, hd, n, hn => by
    simp only [DataW.weightsAll, List.mem_append]
    rcases List.mem_cons.1 hd with rfl | hd
    · exact .inl hn
    · exact .inr (weightsAll_mem hd n hn)
theorem cells46 : Try.prog.cellsOf 46 = 3 := by kernel_rfl
theorem acts_of {H : Type} {enc : TypeId × Value → H} {w : World} {base fuel : Nat} {v : Value} {x : DataW H × List MemPlace} (h : DataW.trod enc Try.prog w base (fun _ => true) true fuel 39 [v] = some x)
    (hz : ∀ n ∈ x.1.weights Try.prog 39, n ≤ reachBytes) :
    ∃ (A : Option Addr) (cap : Nat) (l : List NAct), v = .slice A l.length cap ∧ Rd w A l.length 3 (actCells l) ∧ l.length ≤ maxLen ∧ (∀ a ∈ l, a.ok) ∧ (∀ a ∈ l, a.s.length ≤ 140737488355328) := by
  rcases open_slice_fields Try.underlying39 Try.underlying46 (by kernel_rfl) cells46 h with ⟨hc, hx⟩ | ⟨a, len, cap, m, D, Pl, hcs, hb, hl, hm, hmm, hx, hi⟩
  · obtain rfl : v = .slice none 0 0 := by simpa using hc
    exact ⟨none, 0, [], rfl, ⟨rfl, fun h => absurd h (by simp)⟩, Nat.zero_le _, fun _ h => by simp at h, fun _ h => by simp at h⟩
  · obtain rfl : v = .slice (some a) len cap := by simpa using hcs
    simp only [if_true] at hmm
    subst hmm
    have hf : ∀ i, ∃ y : NAct, i < m → w.cell? (a.add (i * 3)) = some (.int .u8 y.what) ∧ w.cell? (a.add (i * 3 + 1)) = some (.string ⟨y.s.toArray⟩) ∧ w.cell? (a.add (i * 3 + 2)) = some (.int .i64 y.place) ∧ y.ok ∧
        D i = .agg [.lit (.int .u8 y.what), .lit (.string y.s), .lit (.int .i64 y.place)] := by
      intro i
      by_cases him : i < m
      · obtain ⟨ys, n, hD, hP, hyl, hf⟩ := hi i him
        obtain ⟨v0, y0, c0, e0, t0⟩ := hf 0 _ rfl
        obtain ⟨v1, y1, c1, e1, t1⟩ := hf 1 _ rfl
        obtain ⟨v2, y2, c2, e2, t2⟩ := hf 2 _ rfl
        obtain ⟨n0, r0, rfl, w0⟩ := DataW.trod_int Try.underlying5 t0
        obtain ⟨s1, r1, rfl, w1⟩ := DataW.trod_string Try.underlying9 t1
        obtain ⟨n2, r2, rfl, w2⟩ := DataW.trod_int Try.underlying3 t2
        simp only [List.cons.injEq, and_true] at r0 r1 r2
        subst r0 r1 r2
        obtain ⟨y0, y1, y2, rfl⟩ : ∃ y0 y1 y2, ys = [y0, y1, y2] := by
          match ys, hyl with
          | [a, b, c], _ => exact ⟨a, b, c, rfl⟩
        simp only [List.getElem?_cons_zero, List.getElem?_cons_succ, Option.some.injEq] at e0 e1 e2
        subst e0 e1 e2
        refine ⟨⟨n0, s1.data.toList, n2⟩, fun _ => ⟨c0, ?_, c2, ?_, hD⟩⟩
        · rw [← str_mk]; exact c1
        · have := bounds_u8 w0
          exact ⟨this.1, show n0 < 256 by omega⟩
      · exact ⟨⟨0, [], 0⟩, fun h => absurd h him⟩
    obtain ⟨F, hF⟩ := Classical.axiomOfChoice hf
    have hlen : ((List.range len).map F).length = len := by simp
    refine ⟨some a, m, (List.range len).map F, by rw [hlen], ?_, by omega, ?_, ?_⟩
    · refine ⟨by rw [actCells_length, hlen], fun hn => ⟨a, rfl, fun j u hu => ?_⟩⟩
      have hj : j < len * 3 := by
        have := (List.getElem?_eq_some_iff.1 hu).1
        rw [actCells_length, hlen] at this; exact this
      obtain ⟨h1, h2, h3⟩ := flat3_get (fun x : NAct => Value.int .u8 x.what) (fun x => .string ⟨x.s.toArray⟩) (fun x => .int .i64 x.place) ((List.range len).map F) (j / 3) (by rw [hlen]; omega)
      obtain ⟨k0, k1, k2, _, _⟩ := hF (j / 3) (by omega)
      simp only [List.getElem_map, List.getElem_range] at h1 h2 h3
      have h3c : j % 3 = 0 ∨ j % 3 = 1 ∨ j % 3 = 2 := by omega
      rcases h3c with e | e | e
      · rw [show j = j / 3 * 3 by omega] at hu ⊢
        have := h1.symm.trans hu
        injection this with this
        rw [← this]; exact k0
      · rw [show j = j / 3 * 3 + 1 by omega] at hu ⊢
        have := h2.symm.trans hu
        injection this with this
        rw [← this]; exact k1
      · rw [show j = j / 3 * 3 + 2 by omega] at hu ⊢
        have := h3.symm.trans hu
        injection this with this
        rw [← this]; exact k2
    · intro y hy
      obtain ⟨i, hir, rfl⟩ := List.mem_map.1 hy
      exact (hF i (by have := List.mem_range.1 hir; omega)).2.2.2.1
    · intro y hy
      obtain ⟨i, hir, rfl⟩ := List.mem_map.1 hy
      have hil := List.mem_range.1 hir
      have hD := (hF i (by omega)).2.2.2.2
      have h1 : (F i).s.length ∈ x.1.weights Try.prog 39 := by
        subst hx
        simp only [DataW.weights, Try.underlying39]
        refine List.mem_cons_of_mem _ (List.mem_append_left _ (weightsAll_mem (List.mem_map.2 ⟨i, hir, hD⟩) _ ?_))
        simp [DataW.weights, Try.underlying46, DataW.weightsEach]
      have := hz _ h1
      unfold reachBytes at this
      omega
end Go.Proofs.Ytfojjklohbiffaa
