/- Arguments opened: a slice whose elements are known by their cells; small numbers. Nothing of the program. -/
import Derived.Test.YtfojjklohbiffaaDoorOwn
import Derived.Deep.Slices
import Derived.Deep.Fields
import Derived.ChangeSame
import Derived.SizedLaws
import Derived.ProofKit
import Derived.OpenShut
namespace Tran
open Go Go.RowKit Go.ChangeShapes Go.WideShapes Go.Deep
section
variable {H : Type} {enc : TypeId × Value → H} {P : Program} {w : World} {base : Nat} {spare : Nat → Bool} {held : Bool} {fuel : Nat} {t : TypeId} {cs : List Value} {x : DataW H × List MemPlace}
theorem trod_u8 (ht : P.underlying t = some (.int .u8)) (h : DataW.trod enc P w base spare held fuel t cs = some x) : ∃ m : Nat, cs = [.int .u8 (m : Int)] ∧ m < 256 := by
  obtain ⟨n, rfl, _, wn⟩ := DataW.trod_int ht h
  have b := bounds_u8 wn
  exact ⟨n.toNat, by rw [Int.toNat_of_nonneg b.1], by omega⟩
theorem trod_u16 (ht : P.underlying t = some (.int .u16)) (h : DataW.trod enc P w base spare held fuel t cs = some x) : ∃ m : Nat, cs = [.int .u16 (m : Int)] ∧ m < 65536 := by
  obtain ⟨n, rfl, _, wn⟩ := DataW.trod_int ht h
  have b := bounds_u16 wn
  exact ⟨n.toNat, by rw [Int.toNat_of_nonneg b.1], by omega⟩
theorem trod_u32 (ht : P.underlying t = some (.int .u32)) (h : DataW.trod enc P w base spare held fuel t cs = some x) : ∃ m : Nat, cs = [.int .u32 (m : Int)] ∧ m < 4294967296 := by
  obtain ⟨n, rfl, _, wn⟩ := DataW.trod_int ht h
  have b := bounds_u32 wn
  exact ⟨n.toNat, by rw [Int.toNat_of_nonneg b.1], by omega⟩
theorem trod_u64 (ht : P.underlying t = some (.int .u64)) (h : DataW.trod enc P w base spare held fuel t cs = some x) : ∃ m : Nat, cs = [.int .u64 (m : Int)] ∧ m < 2 ^ 64 := by
  obtain ⟨n, rfl, _, wn⟩ := DataW.trod_int ht h
  have b := bounds_u64 wn
  exact ⟨n.toNat, by rw [Int.toNat_of_nonneg b.1], by omega⟩
theorem trod_str (ht : P.underlying t = some .string) (h : DataW.trod enc P w base spare held fuel t cs = some x) : ∃ s : List UInt8, cs = [.string ⟨s.toArray⟩] ∧ x.1 = .lit (.string s) := by
  obtain ⟨s, rfl, rfl, _⟩ := DataW.trod_string ht h
  exact ⟨s.data.toList, by rw [← str_mk], rfl⟩
/-- an array of so many 32-bit numbers -/
theorem trod_u32s {n : Nat} {e : TypeId} (ht : P.underlying t = some (.array n e)) (he : P.underlying e = some (.int .u32)) (hc : P.cellsOf e = 1) (hct : P.cellsOf t = n) (h : DataW.trod enc P w base spare held fuel t cs = some x) :
    ∃ xs : List Nat, xs.length = n ∧ cs = xs.map (fun x => Value.int .u32 (x : Nat)) ∧ ∀ x ∈ xs, x < 2 ^ 32 := by
  obtain ⟨ys, m, _, _, hl, hyl, hf⟩ := DataW.trod_array ht h
  rw [hct] at hl
  have hx : ∀ i, ∃ k : Nat, i < n → cs[i]? = some (Value.int .u32 (k : Int)) ∧ k < 2 ^ 32 := by
    intro i
    by_cases hi : i < n
    · have h1 := hf i hi
      rw [hc, Nat.mul_one, List.getElem?_eq_getElem (by omega : i < ys.length)] at h1
      obtain ⟨k, hk, hk2⟩ := trod_u32 he h1
      refine ⟨k, fun _ => ⟨?_, hk2⟩⟩
      have e : (cs.drop i).take 1 = [cs[i]'(by omega)] := by rw [List.drop_eq_getElem_cons (by omega)]; rfl
      rw [e] at hk
      rw [List.getElem?_eq_getElem (by omega)]
      injection hk with hk
      rw [hk]
    · exact ⟨0, fun h => absurd h hi⟩
  obtain ⟨F, hF⟩ := Classical.axiomOfChoice hx
  refine ⟨(List.range n).map F, by simp, ?_, ?_⟩
  · apply List.ext_getElem?
    intro i
    by_cases hi : i < n
    · rw [(hF i hi).1]; simp [hi]
    · rw [List.getElem?_eq_none (by omega), List.getElem?_eq_none (by simp; omega)]
  · intro y hy
    obtain ⟨i, hi, rfl⟩ := List.mem_map.1 hy
    exact (hF i (List.mem_range.1 hi)).2
end
theorem flat_get {α : Type} (f : α → List Value) (m : Nat) : ∀ (l : List α) (_ : ∀ x ∈ l, (f x).length = m) (i j : Nat), j < m → (l.flatMap f)[i * m + j]? = (l[i]?).bind fun x => (f x)[j]?
  | [], _, i, j, _ => by simp
  | x :: l, hm, 0, j, hj => by
    rw [List.flatMap_cons, Nat.zero_mul, Nat.zero_add, List.getElem?_append_left (by rw [hm x (by simp)]; exact hj)]; rfl
  | x :: l, hm, i + 1, j, hj => by
    have ih := flat_get f m l (fun y hy => hm y (by simp [hy])) i j hj
    have hx := hm x (by simp)
    rw [List.flatMap_cons, List.getElem?_append_right (by rw [hx, Nat.succ_mul]; omega), hx, show (i + 1) * m + j - m = i * m + j by rw [Nat.succ_mul]; omega, ih]
    rfl
theorem flat_len {α : Type} (f : α → List Value) (m : Nat) : ∀ (l : List α) (_ : ∀ x ∈ l, (f x).length = m), (l.flatMap f).length = l.length * m
  | [], _ => by simp
  | x :: l, hm => by rw [List.flatMap_cons, List.length_append, hm x (by simp), flat_len f m l (fun y hy => hm y (by simp [hy])), List.length_cons, Nat.succ_mul, Nat.add_comm]
theorem weightsAll_in {H : Type} {P : Program} {e : TypeId} : ∀ {l : List (DataW H)} {d : DataW H}, d ∈ l → ∀ n ∈ d.weights P e, n ∈ DataW.weightsAll P e l
  | d0 :: l, d, hd, n, hn => by
    simp only [DataW.weightsAll, List.mem_append]
    rcases List.mem_cons.1 hd with rfl | hd
    · exact .inl hn
    · exact .inr (weightsAll_in hd n hn)
theorem weightsEach_in {H : Type} {P : Program} : ∀ {ts : List TypeId} {l : List (DataW H)} {i : Nat} {t : TypeId} {d : DataW H}, ts[i]? = some t → l[i]? = some d → ∀ n ∈ d.weights P t, n ∈ DataW.weightsEach P ts l
  | t0 :: ts, d0 :: l, 0, t, d, ht, hd, n, hn => by
    simp only [List.getElem?_cons_zero, Option.some.injEq] at ht hd
    subst ht hd
    simp only [DataW.weightsEach, List.mem_append]
    exact .inl hn
  | t0 :: ts, d0 :: l, i + 1, t, d, ht, hd, n, hn => by
    simp only [List.getElem?_cons_succ] at ht hd
    simp only [DataW.weightsEach, List.mem_append]
    exact .inr (weightsEach_in ht hd n hn)
/-- a slice opened: its elements are read by their cells -/
theorem rows_of {α : Type} {H : Type} {enc : TypeId × Value → H} {P : Program} {w : World} {base : Nat} {held : Bool} {fuel : Nat} {t e : TypeId} {v : Value} {x : DataW H × List MemPlace} (a0 : α) (F : α → List Value) (m : Nat)
    (ht : P.underlying t = some (.slice e)) (hc : P.cellsOf e = m) (Good : α → Prop) (hm : ∀ a, Good a → (F a).length = m)
    (hopen : ∀ n cs y, DataW.trod enc P w base (fun _ => true) held n e cs = some y → cs.length = m → (∀ k ∈ y.1.weights P e, k ≤ reachBytes) → ∃ a, cs = F a ∧ Good a)
    (h : DataW.trod enc P w base (fun _ => true) held fuel t [v] = some x) (hz : ∀ n ∈ x.1.weights P t, n ≤ reachBytes) :
    ∃ (A : Option Addr) (cap : Nat) (l : List α), v = .slice A l.length cap ∧ Rd w A l.length m (l.flatMap F) ∧ l.length ≤ maxLen ∧ l.length * P.bytesOf e ≤ reachBytes ∧ ∀ a ∈ l, Good a := by
  rcases open_slice ht h with ⟨hcs, hx⟩ | ⟨a, len, cap, m', n, D, Pl, hcs, hb, hl, hcm, hmm, hx, hi⟩
  · obtain rfl : v = .slice none 0 0 := by simpa using hcs
    exact ⟨none, 0, [], rfl, ⟨by simp, fun h => absurd h (by simp)⟩, Nat.zero_le _, by simp, fun _ h => by simp at h⟩
  · obtain rfl : v = .slice (some a) len cap := by simpa using hcs
    simp only [if_true] at hmm
    subst hmm
    have hf : ∀ i, ∃ y : α, i < len → (∀ j, j < m → w.cell? (a.add (i * m + j)) = (F y)[j]?) ∧ Good y := by
      intro i
      by_cases hil : i < len
      · obtain ⟨cs', hcc, ht'⟩ := hi i (by omega)
        rw [hc] at hcc
        obtain ⟨_, hcl, hat⟩ := World.cells?_some hcc
        obtain ⟨y, rfl, hg⟩ := hopen n cs' _ ht' hcl (fun k hk => hz k (by
          subst hx
          simp only [DataW.weights, ht]
          exact List.mem_cons_of_mem _ (List.mem_append_left _ (weightsAll_in (List.mem_map.2 ⟨i, List.mem_range.2 hil, rfl⟩) _ hk))))
        refine ⟨y, fun _ => ⟨fun j hj => ?_, hg⟩⟩
        rw [← Go.Deep.add_add, hat j hj]
      · exact ⟨a0, fun h => absurd h hil⟩
    obtain ⟨G, hG⟩ := Classical.axiomOfChoice hf
    have hlen : ((List.range len).map G).length = len := by simp
    have hgd : ∀ a ∈ (List.range len).map G, Good a := by
      intro y hy
      obtain ⟨i, hir, rfl⟩ := List.mem_map.1 hy
      exact (hG i (List.mem_range.1 hir)).2
    have hgl := fun a ha => hm a (hgd a ha)
    refine ⟨some a, m', (List.range len).map G, by rw [hlen], ⟨by rw [flat_len F m _ hgl], fun hn => ⟨a, rfl, fun j u hu => ?_⟩⟩, by omega, ?_, ?_⟩
    · have hj : j < len * m := by
        have := (List.getElem?_eq_some_iff.1 hu).1
        rw [flat_len F m _ hgl, hlen] at this; exact this
      have hm0 : 0 < m := by
        rcases Nat.eq_zero_or_pos m with h0 | h0
        · rw [h0, Nat.mul_zero] at hj; omega
        · exact h0
      have hq : j / m < len := Nat.div_lt_of_lt_mul (by rw [Nat.mul_comm]; exact hj)
      have hr : j % m < m := Nat.mod_lt _ hm0
      have hjj : j / m * m + j % m = j := by rw [Nat.mul_comm]; exact Nat.div_add_mod j m
      have h1 := flat_get F m ((List.range len).map G) hgl (j / m) (j % m) hr
      rw [hjj, hu] at h1
      have h2 := (hG (j / m) hq).1 (j % m) hr
      rw [hjj] at h2
      rw [h2, h1]
      simp [hq]
    · rw [hlen]
      have h1 : ((List.range len).map D).length + ((List.range (m' - len)).map fun j => D (len + j)).length = m' := by simp; omega
      have h2 : m' * P.bytesOf e ∈ x.1.weights P t := by
        subst hx
        simp only [DataW.weights, ht]
        rw [h1]
        exact List.mem_cons_self
      have h3 := hz _ h2
      exact Nat.le_trans (Nat.mul_le_mul_right _ hl) h3
    · exact hgd
end Tran
