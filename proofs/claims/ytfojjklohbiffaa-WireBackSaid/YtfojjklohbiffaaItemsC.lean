/- Items' bytes: plain. -/
import Derived.Test.YtfojjklohbiffaaItemsB
namespace Go.Proofs.Ytfojjklohbiffaa
open Go.RowKit Tran Tran.Wire
theorem flat_snoc (l : List NItem) (k : Nat) (hk : k < l.length) : (l.take (k + 1)).flatMap itemW = (l.take k).flatMap itemW ++ itemW l[k] := by
  rw [List.take_succ_eq_append_getElem hk, List.flatMap_append]; simp
theorem flat_bound (l : List NItem) (hok : ∀ x ∈ l, x.ok) (hs : ∀ x ∈ l, x.s.length ≤ 2000) : (l.flatMap itemW).length ≤ 2100 * l.length := by
  induction l with
  | nil => simp
  | cons x l ih =>
    have h1 := itemW_len x (hok x (by simp)) (by have := hs x (by simp); omega)
    have h2 := hs x (by simp)
    have h3 := ih (fun y hy => hok y (by simp [hy])) (fun y hy => hs y (by simp [hy]))
    rw [List.flatMap_cons, List.length_append, List.length_cons]; omega
theorem le_sum {l : List NItem} {x : NItem} (hx : x ∈ l) : x.s.length ≤ totalI l := by
  induction l with
  | nil => simp at hx
  | cons y l ih =>
    simp only [totalI, List.map_cons, List.sum_cons] at ih ⊢
    rcases List.mem_cons.1 hx with rfl | h
    · omega
    · have := ih h; omega
theorem small_of {l : List NItem} (h : greatI l = false) : l.length ≤ 100 ∧ ∀ x ∈ l, x.s.length ≤ 2000 := by
  unfold greatI at h
  rw [Bool.or_eq_false_iff] at h
  have h1 := of_decide_eq_false h.1
  have h2 := of_decide_eq_false h.2
  refine ⟨by omega, fun x hx => ?_⟩
  have := le_sum hx
  omega
end Go.Proofs.Ytfojjklohbiffaa
