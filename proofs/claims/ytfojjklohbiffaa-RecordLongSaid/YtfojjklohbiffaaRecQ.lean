/- Records: plain: rows of records scanned, whole and cut; what is taken is the row of the texts. -/
import Derived.Test.YtfojjklohbiffaaRecP
import Derived.Test.YtfojjklohbiffaaBurst
namespace Go.Proofs.Ytfojjklohbiffaa
open Tran Tran.Wire
set_option linter.unusedVariables false
theorem rnum_num (n m : Nat) (hn : n ≤ m) (h64 : n < 2 ^ 64) (x : List UInt8) : rnumS (some (numF n ++ x)) m = (n, some x) := by
  unfold rnumS
  rw [numS_numF n h64 x]
  simp [hn]
theorem numF_cons (n : Nat) : ∃ b d, numF n = b :: d := by
  unfold numF; split
  · exact ⟨_, _, rfl⟩
  · exact ⟨_, _, rfl⟩
theorem first_rec (t : List UInt8) (ht : t.length ≤ 65536) (x : List UInt8) : ∃ b r, recF t ++ x = b :: r ∧ firstF b r = (t, (recF t).length, 0) := by
  obtain ⟨b, d, hbd⟩ := numF_cons t.length
  have e : recF t ++ x = numF t.length ++ (t ++ (Crc.tail (Crc.crc (textF t)) ++ x)) := by
    unfold recF Crc.sealed
    rw [textF, List.append_assoc, List.append_assoc]
  have e2 : recF t ++ x = b :: (d ++ (t ++ (Crc.tail (Crc.crc (textF t)) ++ x))) := by rw [e, hbd]; rfl
  refine ⟨b, _, e2, ?_⟩
  have hL := lengthF_some (b := b) (r := d ++ (t ++ (Crc.tail (Crc.crc (textF t)) ++ x))) (n := t.length) (l := t ++ (Crc.tail (Crc.crc (textF t)) ++ x)) (by
    rw [← e2, e]; exact rnum_num _ _ ht (by omega) _)
  unfold firstF
  rw [hL, if_neg (by simp)]
  unfold firstN
  rw [← e2, e, drop_len]
  simp only [List.take_left']
  have hp : recF t <+: numF t.length ++ (t ++ (Crc.tail (Crc.crc (textF t)) ++ x)) := by rw [← e]; exact List.prefix_append _ _
  rw [if_neg (by omega), if_pos hp]
theorem scanF_rec (t : List UInt8) (ht : t.length ≤ 65536) (x : List UInt8) : scanF (recF t ++ x) = ((t, (recF t).length) :: (scanF x).1, (scanF x).2) := by
  obtain ⟨b, r, h1, h2⟩ := first_rec t ht x
  have hd : (b :: r).drop (recF t).length = x := by rw [← h1]; exact drop_len _ _
  rw [h1, scanF, dif_pos (by rw [h2]), h2]
  simp only
  rw [hd]
set_option maxRecDepth 100000 in
theorem first_torn (t : List UInt8) (ht : t.length ≤ 65536) (j : Nat) (h0 : 0 < j) (hj : j < (recF t).length) : ∃ b r, (recF t).take j = b :: r ∧ firstF b r = ([], 0, 1) := by
  obtain ⟨b, d, hbd⟩ := numF_cons t.length
  have hlen := recF_len2 t
  have e : recF t = numF t.length ++ (t ++ Crc.tail (Crc.crc (textF t))) := by
    unfold recF Crc.sealed
    rw [textF, List.append_assoc]
  obtain ⟨i, rfl⟩ : ∃ i, j = i + 1 := ⟨j - 1, by omega⟩
  have e2 : (recF t).take (i + 1) = b :: (d ++ (t ++ Crc.tail (Crc.crc (textF t)))).take i := by rw [e, hbd]; rfl
  have hpl : ((recF t).take (i + 1)).length = i + 1 := by rw [List.length_take]; omega
  refine ⟨b, _, e2, ?_⟩
  by_cases hi : (numF t.length).length ≤ i + 1
  · have e3 : (recF t).take (i + 1) = numF t.length ++ (t ++ Crc.tail (Crc.crc (textF t))).take (i + 1 - (numF t.length).length) := by
      rw [e, List.take_append, List.take_of_length_le hi]
    have hL := lengthF_some (b := b) (r := (d ++ (t ++ Crc.tail (Crc.crc (textF t)))).take i) (n := t.length) (l := (t ++ Crc.tail (Crc.crc (textF t))).take (i + 1 - (numF t.length).length)) (by
      rw [← e2, e3]; exact rnum_num _ _ ht (by omega) _)
    unfold firstF
    rw [hL, if_neg (by simp)]
    unfold firstN
    rw [← e2]
    conv => lhs; rw [show List.drop (numF t.length).length (List.take (i + 1) (recF t)) = (t ++ Crc.tail (Crc.crc (textF t))).take (i + 1 - (numF t.length).length) by rw [e3, drop_len]]
    by_cases c1 : (((t ++ Crc.tail (Crc.crc (textF t))).take (i + 1 - (numF t.length).length)).take t.length).length < t.length
    · simp only
      rw [if_pos c1]
    · have hge : t.length ≤ i + 1 - (numF t.length).length := by
        simp only [List.length_take] at c1; omega
      have et : ((t ++ Crc.tail (Crc.crc (textF t))).take (i + 1 - (numF t.length).length)).take t.length = t := by
        rw [List.take_take, Nat.min_eq_left hge, List.take_left']; rfl
      simp only
      rw [if_neg c1, et, if_neg, if_pos ⟨by rw [hpl]; exact hj, List.take_prefix _ _⟩]
      intro h
      have := h.length_le
      omega
  · have e3 : (d ++ (t ++ Crc.tail (Crc.crc (textF t)))).take i = d.take i := by
      have : (numF t.length).length = d.length + 1 := by rw [hbd]; rfl
      have hle : i ≤ d.length := by omega
      rw [List.take_append_of_le_length hle]
    rw [e3]
    have hdl : (numF t.length).length = d.length + 1 := by rw [hbd]; rfl
    have h128 : ¬ t.length < 128 := by
      intro h
      have : numF t.length = [UInt8.ofNat t.length] := if_pos h
      rw [this] at hi; simp at hi
    have hN : numF t.length = UInt8.ofNat (128 + (dig t.length).length) :: dig t.length := if_neg h128
    rw [hN] at hbd
    injection hbd with hb1 hd1
    have hd3 := dig_le t.length 3 (by omega)
    have hhd := dig_head (n := t.length) (by omega)
    have hv := val_dig t.length
    have hb : b.toNat = 128 + d.length := by rw [← hb1, hd1, UInt8.toNat_ofNat']; rw [hd1] at hd3; omega
    rw [hd1] at hd3 hhd hv
    have hil : (d.take i).length = i := by rw [List.length_take]; omega
    have hid : i < d.length := by omega
    have hS : (rnumS (some (b :: d.take i)) 65536).2 = none := by rw [rnum_short _ _ (by omega) (by right; rw [hil]; omega)]
    have h1 := lengthF_none hS
    have h2 := docLen_eq b (d.take i)
    have h3 := lengthF_st b (d.take i)
    have hD : docLen (b :: d.take i) = true := by
      show docL _ _ = true
      unfold docL
      rw [if_neg (by omega)]
      match d, i, hid, hd3, hhd, hv, hb with
      | [], _, h, _, _, _, _ => simp at h
      | [c], 0, _, _, _, _, hb => rw [if_pos (show b.toNat = 129 from hb)]; rfl
      | [c], i + 1, h, _, _, _, _ => simp at h
      | [c, e], 0, _, _, _, _, hb => rw [if_neg (by rw [hb]; simp), if_pos (show b.toNat = 130 from hb)]; rfl
      | [c, e], 1, _, _, hhd, _, hb =>
        rw [if_neg (by rw [hb]; simp), if_pos (show b.toNat = 130 from hb)]
        simp only [List.headD_cons] at hhd
        simp [List.take]; omega
      | [c, e], i + 2, h, _, _, _, _ => have : i + 2 < 2 := h; omega
      | [c, e, g], i, hid, _, hhd, hv, hb =>
        rw [if_neg (by rw [hb]; simp), if_neg (by rw [hb]; simp)]
        have hc := c.toNat_lt
        have he := e.toNat_lt
        have hg := g.toNat_lt
        simp only [List.headD_cons] at hhd
        have hv2 : val [c, e, g] = (c.toNat * 256 + e.toNat) * 256 + g.toNat := by simp [val]
        rw [hv2] at hv
        have q1 := u8_eq (a := c) (n := 1) (by omega)
        have q2 := u8_eq (a := e) (n := 0) (by omega)
        have q3 := u8_eq (a := g) (n := 0) (by omega)
        have q4 := u8_eq (a := b) (n := 131) hb
        rw [q1, q2, q3, q4]
        match i, hid with
        | 0, _ => decide
        | 1, _ => decide
        | 2, _ => decide
      | _ :: _ :: _ :: _ :: _, _, _, h, _, _, _ => simp at h
    rw [hD] at h2
    have h4 := of_decide_eq_true h2.symm
    unfold firstF
    rw [if_pos h1]
    have : (lengthF b (d.take i)).2.2 = 1 := by omega
    rw [this]
theorem scanF_torn (t : List UInt8) (ht : t.length ≤ 65536) (j : Nat) (h0 : 0 < j) (hj : j < (recF t).length) : scanF ((recF t).take j) = ([], 1) := by
  obtain ⟨b, r, h1, h2⟩ := first_torn t ht j h0 hj
  rw [h1, scanF, dif_neg (by rw [h2]; simp), h2]
def withLen (l : List (List UInt8)) : List (List UInt8 × Nat) := l.map fun t => (t, (recF t).length)
theorem withLen_fst (l : List (List UInt8)) : (withLen l).map (·.1) = l := by simp [withLen, Function.comp_def]
theorem withLen_len (l : List (List UInt8)) : (withLen l).length = l.length := by simp [withLen]
theorem withLen_taken (l : List (List UInt8)) : taken (withLen l) = (l.flatMap recF).length := by
  simp [taken, withLen, Function.comp_def, List.length_flatMap]
theorem scanF_row (l : List (List UInt8)) (hl : ∀ t ∈ l, t.length ≤ 65536) (x : List UInt8) : scanF (l.flatMap recF ++ x) = (withLen l ++ (scanF x).1, (scanF x).2) := by
  induction l with
  | nil => rfl
  | cons t l ih =>
    have ih := ih fun s hs => hl s (List.mem_cons_of_mem _ hs)
    rw [List.flatMap_cons, List.append_assoc, scanF_rec t (hl t List.mem_cons_self), ih]; rfl
theorem scanF_nil : scanF [] = ([], 0) := by rw [scanF]
theorem scanF_whole (l : List (List UInt8)) (hl : ∀ t ∈ l, t.length ≤ 65536) : scanF (l.flatMap recF) = (withLen l, 0) := by
  have := scanF_row l hl []
  rwa [List.append_nil, scanF_nil, List.append_nil] at this
/-- a row that is cut -/
theorem scanF_cut (l : List (List UInt8)) (hl : ∀ t ∈ l, t.length ≤ 65536) (k n : Nat) (hn : n ≤ l.length) (hat : ((l.take n).flatMap recF).length ≤ k) (hk : k ≤ (l.flatMap recF).length)
    (hend : ∀ h : n < l.length, k < ((l.take n).flatMap recF).length + (recF l[n]).length) :
    scanF ((l.flatMap recF).take k) = (withLen (l.take n), if ((l.take n).flatMap recF).length = k then 0 else 1) := by
  have e : l.flatMap recF = (l.take n).flatMap recF ++ (l.drop n).flatMap recF := by rw [← List.flatMap_append, List.take_append_drop]
  have hl2 : ∀ t ∈ l.take n, t.length ≤ 65536 := fun t h => hl t (List.mem_of_mem_take h)
  rw [e, List.take_append, List.take_of_length_le hat, scanF_row _ hl2]
  by_cases hlt : n < l.length
  · have hend := hend hlt
    rw [List.drop_eq_getElem_cons hlt, List.flatMap_cons, List.take_append_of_le_length (by omega)]
    by_cases h0 : ((l.take n).flatMap recF).length = k
    · rw [if_pos h0, h0, Nat.sub_self, List.take_zero, scanF_nil, List.append_nil]
    · rw [if_neg h0, scanF_torn _ (hl _ (List.getElem_mem hlt)) _ (by omega) (by omega), List.append_nil]
  · have h1 : l.take n = l := List.take_of_length_le (by omega)
    have h2 : l.drop n = [] := List.drop_eq_nil_of_le (by omega)
    rw [h1] at hat ⊢
    rw [h2]
    simp only [List.flatMap_nil, List.take_nil]
    rw [scanF_nil, if_pos (by omega), List.append_nil]
/-- what is taken is the row of the texts -/
theorem scanF_back (s : List UInt8) : ((scanF s).1.map (·.1)).flatMap recF = s.take (taken (scanF s).1) ∧ (∀ t ∈ (scanF s).1.map (·.1), t.length ≤ 65536) ∧ ((scanF s).2 = 0 ↔ taken (scanF s).1 = s.length) := by
  induction s using scanF.induct with
  | case1 => simp [scanF, taken]
  | case2 b r h ih =>
    have ho := firstF_own h
    obtain ⟨h1, h2, h3⟩ := firstF_ok h
    rw [scanF, dif_pos h]
    obtain ⟨i1, i2, i3⟩ := ih
    generalize hq : scanF ((b :: r).drop (firstF b r).2.1) = q at *
    have et : taken (((firstF b r).1, (firstF b r).2.1) :: q.1) = (firstF b r).2.1 + taken q.1 := by simp [taken]
    refine ⟨?_, ?_, ?_⟩
    · simp only
      rw [et, List.map_cons, List.flatMap_cons, i1, List.take_add]
      congr 1
      rw [h2]
      obtain ⟨z, hz⟩ := h3
      rw [← hz]; simp
    · simp only [List.map_cons, List.mem_cons]
      rintro t (rfl | ht)
      · exact h1
      · exact i2 t ht
    · simp only
      rw [et, i3, List.length_drop]
      simp only [List.length_cons] at ho ⊢
      omega
  | case3 b r h =>
    rw [scanF, dif_neg h]
    simp [taken, h]
theorem putR_row {l : List (List UInt8)} (hl : ∀ t ∈ l, t.length ≤ 65536) : putR l = .tuple #[.string ⟨(l.flatMap recF).toArray⟩, .int .i64 0] :=
  short_all fun k hk => hl _ (List.getElem_mem hk)
/-- a record that is turned is scanned as another -/
theorem scanF_turned (t : List UInt8) (k bits : Nat) (hk : k + 32 ≤ 8 * (recF t).length) (hb : bits ≠ 0) (hb2 : bits < 2 ^ 32) (n : Nat) (q : List (List UInt8 × Nat)) : (scanF (Crc.burst (recF t) k bits 32).1).1 ≠ (t, n) :: q := by
  intro h
  have hT := Crc.burst_turned (recF t) k bits hk hb hb2
  have hO := Crc.opened_burst (textF t) k bits
  have hL := Crc.burst_length (recF t) k bits 32
  rw [show Crc.sealed (textF t) = recF t from rfl, hT] at hO
  generalize (Crc.burst (recF t) k bits 32).1 = s at *
  cases s with
  | nil => rw [scanF_nil] at h; cases h
  | cons b r =>
    rw [scanF] at h
    split at h
    · rename_i h0
      obtain ⟨h1, h2, h3⟩ := firstF_ok h0
      simp only [List.cons.injEq, Prod.mk.injEq] at h
      rw [h.1.1] at h3
      have e := h3.eq_of_length hL.symm
      rw [← e, show recF t = Crc.sealed (textF t) from rfl, Crc.opened_sealed] at hO
      cases hO
    · cases h
end Go.Proofs.Ytfojjklohbiffaa
