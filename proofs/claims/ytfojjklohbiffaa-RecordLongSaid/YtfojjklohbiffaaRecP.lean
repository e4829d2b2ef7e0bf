/- Records: plain: the document's reader of what stands first answers as the program's; rows of records, whole and cut, scanned. -/
import Derived.Test.YtfojjklohbiffaaRecF
namespace Go.Proofs.Ytfojjklohbiffaa
open Tran Tran.Wire
set_option linter.unusedVariables false
theorem lowF_full {r : List UInt8} {k : Nat} (hk : 1 ≤ k) (hr : k ≤ r.length) : lowF r k = val (r.take k) := by
  have h : r ≠ [] := by rintro rfl; simp at hr; omega
  unfold lowF lowI
  rw [if_neg h, List.length_take, Nat.min_eq_left hr, Nat.sub_self]; simp
theorem head_take {r : List UInt8} {k : Nat} (hk : 1 ≤ k) (hr : k ≤ r.length) : (0 < ((r.take k).headD 0).toNat) ↔ r.head? ≠ some 0 := by
  cases r with
  | nil => simp at hr; omega
  | cons c t =>
    obtain ⟨j, rfl⟩ : ∃ j, k = j + 1 := ⟨k - 1, by omega⟩
    simp only [List.take_succ_cons, List.headD_cons, List.head?_cons, ne_eq, Option.some.injEq]
    rw [← UInt8.toNat_inj, show (0 : UInt8).toNat = 0 from rfl]
    omega
set_option maxRecDepth 100000 in
/-- the program's length, by the reader of numbers -/
theorem lengthF_some {b : UInt8} {r : List UInt8} {n : Nat} {l : List UInt8} (h : rnumS (some (b :: r)) 65536 = (n, some l)) : lengthF b r = (n, (numF n).length, 0) := by
  obtain ⟨h1, h2, h3⟩ := rnumS_some h
  injection h1 with h1
  by_cases hb : b.toNat < 128
  · rw [rnum_lo r _ hb, if_pos (by omega)] at h
    injection h with e1 e2
    unfold lengthF
    rw [if_pos hb, ← e1]
    unfold numF
    rw [if_pos hb]; rfl
  · by_cases hs : 8 < b.toNat - 128 ∨ r.length < b.toNat - 128
    · rw [rnum_short r _ hb hs] at h; cases h
    · have h8 : b.toNat - 128 ≤ 8 := by omega
      have hr : b.toNat - 128 ≤ r.length := by omega
      rw [rnum_hi r _ hb h8 hr] at h
      have hl : b.toNat - 128 = (r.take (b.toNat - 128)).length := by rw [List.length_take]; omega
      split at h
      · rename_i hc
        injection h with e1 e2
        rcases (numF_of hb hl).1 hc.1 with ⟨_, g2, g3, g4⟩ | ⟨g, _⟩
        · have hk : 1 ≤ b.toNat - 128 := by
            refine Nat.pos_of_ne_zero fun e => g2 ?_
            rw [e]; rfl
          have hf := lowF_full hk hr
          unfold lengthF
          rw [if_neg hb, if_neg, if_neg (by omega), hf, e1]
          · have := congrArg List.length hc.1
            rw [e1] at this
            rw [this, List.length_cons, ← hl]
          · rw [hf]
            have := (head_take hk hr).1 g3
            rintro (h | h | h | h | h)
            · omega
            · omega
            · omega
            · omega
            · exact this h
        · omega
      · cases h
theorem lengthF_none {b : UInt8} {r : List UInt8} (h : (rnumS (some (b :: r)) 65536).2 = none) : (lengthF b r).2.2 ≠ 0 := by
  have hbl := b.toNat_lt
  by_cases hb : b.toNat < 128
  · rw [rnum_lo r _ hb, if_pos (by omega)] at h; cases h
  · unfold lengthF
    rw [if_neg hb]
    split
    · simp
    · rename_i hc
      split
      · simp
      · rename_i hs
        have h8 : b.toNat - 128 ≤ 8 := by omega
        have hr : b.toNat - 128 ≤ r.length := by omega
        have hk : 1 ≤ b.toNat - 128 := by omega
        have hl : b.toNat - 128 = (r.take (b.toNat - 128)).length := by rw [List.length_take]; omega
        rw [rnum_hi r _ hb h8 hr, if_pos] at h
        · cases h
        · rw [lowF_full hk hr] at hc
          refine ⟨(numF_of hb hl).2 (.inl ⟨by omega, ?_, (head_take hk hr).2 fun e => hc (.inr (.inr (.inr (.inr e)))), by omega⟩), by omega⟩
          intro e
          rw [e] at hl; simp at hl; omega
/-- the document's first record: its text, its bytes (0: none) -/
def docFirst (s : List UInt8) : List UInt8 × Nat :=
  match rnumS (some s) 65536 with
  | (_, none) => ([], 0)
  | (n, some rest) => if rest.length < n + 4 then ([], 0) else if recF (rest.take n) <+: s then (rest.take n, (recF (rest.take n)).length) else ([], 0)
/-- may it be the beginning of a length? -/
def docL (b : UInt8) (r : List UInt8) : Bool :=
  if b.toNat < 128 then true else if b.toNat = 129 then r.isEmpty || decide (128 ≤ (r.headD 0).toNat) else if b.toNat = 130 then r.isEmpty || decide (1 ≤ (r.headD 0).toNat)
    else decide ((b :: r).take 4 <+: [131, 1, 0, 0])
def docLen : List UInt8 → Bool
  | [] => true
  | b :: r => docL b r
def docPart (s : List UInt8) : Bool :=
  docLen s && match rnumS (some s) 65536 with
  | (_, none) => true
  | (n, some rest) => if n + 4 ≤ rest.length then false else if rest.length ≤ n then true else decide (s <+: recF (rest.take n))
theorem val_ge (c : UInt8) : ∀ (n : Nat) (t : List UInt8), t.length = n → c.toNat * 256 ^ t.length ≤ val (c :: t) := by
  intro n
  induction n with
  | zero =>
    intro t h
    obtain rfl := List.eq_nil_of_length_eq_zero h
    simp [val]
  | succ n ih =>
    intro t h
    rcases List.eq_nil_or_concat t with rfl | ⟨l, x, rfl⟩
    · simp at h
    · rw [List.concat_eq_append] at h ⊢
      have := ih l (by simpa using h)
      rw [← List.cons_append, val_snoc, List.length_append, List.length_singleton, Nat.pow_succ, ← Nat.mul_assoc]
      omega
theorem lowF_ge {c : UInt8} {t : List UInt8} {k : Nat} (hk : 1 ≤ k) : c.toNat * 256 ^ (k - 1) ≤ lowF (c :: t) k := by
  obtain ⟨j, rfl⟩ : ∃ j, k = j + 1 := ⟨k - 1, by omega⟩
  unfold lowF lowI
  rw [if_neg (by simp), List.take_succ_cons]
  have h1 := val_ge c _ (t.take j) rfl
  have e : 256 ^ (j + 1 - 1) = 256 ^ (t.take j).length * 256 ^ (j + 1 - (c :: t.take j).length) := by
    rw [← Nat.pow_add]; congr 1
    simp only [List.length_cons, List.length_take]; omega
  rw [e, ← Nat.mul_assoc]
  exact Nat.mul_le_mul_right _ h1
theorem u8_eq {a : UInt8} {n : Nat} (h : a.toNat = n) : a = UInt8.ofNat n := by
  apply UInt8.toNat_inj.1
  rw [UInt8.toNat_ofNat', h]
  have := a.toNat_lt
  omega
theorem docLen_eq (b : UInt8) (r : List UInt8) : docLen (b :: r) = decide ((lengthF b r).2.2 ≠ 2) := by
  show docL b r = _
  have hbl := b.toNat_lt
  by_cases hb : b.toNat < 128
  · unfold docL lengthF
    rw [if_pos hb, if_pos hb]; rfl
  · by_cases h1 : b.toNat = 129
    · unfold docL lengthF
      rw [if_neg hb, if_neg hb, if_pos h1, h1]
      cases r with
      | nil => decide
      | cons c t =>
        have hc := c.toNat_lt
        have hl : lowF (c :: t) (129 - 128) = c.toNat := by simp [lowF, lowI, val]
        rw [hl]
        by_cases h2 : 128 ≤ c.toNat
        · have hc0 : c ≠ 0 := by rintro rfl; simp at h2
          rw [if_neg (by simp [hc0]; omega), if_neg (by simp)]
          simp [h2]
        · rw [if_pos (by omega)]; simp; omega
    · by_cases h2 : b.toNat = 130
      · unfold docL lengthF
        rw [if_neg hb, if_neg hb, if_neg h1, if_pos h2, h2]
        match r with
        | [] => decide
        | [c] =>
          have hc := c.toNat_lt
          have hl : lowF [c] (130 - 128) = c.toNat * 256 := by simp [lowF, lowI, val]
          rw [hl]
          by_cases h3 : 1 ≤ c.toNat
          · have hc0 : c ≠ 0 := by rintro rfl; simp at h3
            rw [if_neg (by simp [hc0]; omega), if_pos (by simp)]
            simp [h3]
          · have hc0 : c = 0 := by have := u8_eq (a := c) (n := 0) (by omega); exact this
            subst hc0
            rw [if_pos (by simp)]; simp
        | c :: d :: t =>
          have hc := c.toNat_lt
          have hd := d.toNat_lt
          have hl : lowF (c :: d :: t) (130 - 128) = c.toNat * 256 + d.toNat := by simp [lowF, lowI, val]
          rw [hl]
          by_cases h3 : 1 ≤ c.toNat
          · have hc0 : c ≠ 0 := by rintro rfl; simp at h3
            rw [if_neg (by simp [hc0]; omega), if_neg (by simp)]
            simp [h3]
          · have hc0 : c = 0 := by have := u8_eq (a := c) (n := 0) (by omega); exact this
            subst hc0
            rw [if_pos (by simp)]; simp
      · have hD : docL b r = decide ((b :: r).take 4 <+: [131, 1, 0, 0]) := by
          unfold docL
          rw [if_neg hb, if_neg h1, if_neg h2]
        rw [hD]
        by_cases h3 : b.toNat = 131
        · have hb3 : b = 131 := u8_eq h3
          unfold lengthF
          rw [if_neg hb, h3]
          subst hb3
          match r with
          | [] => decide
          | [c] =>
            have hc := c.toNat_lt
            have hl : lowF [c] (131 - 128) = c.toNat * 65536 := by simp [lowF, lowI, val]
            rw [hl]
            by_cases h4 : c.toNat = 1
            · have := u8_eq h4
              subst this
              rw [if_neg (by decide), if_pos (by simp)]; decide
            · have hn : c ≠ 1 := by rintro rfl; exact h4 rfl
              rw [if_pos]
              · simp [hn]
              · by_cases h5 : c.toNat = 0
                · have := u8_eq h5; subst this; simp
                · omega
          | [c, d] =>
            have hc := c.toNat_lt
            have hd := d.toNat_lt
            have hl : lowF [c, d] (131 - 128) = (c.toNat * 256 + d.toNat) * 256 := by simp [lowF, lowI, val]
            rw [hl]
            by_cases h4 : c.toNat = 1 ∧ d.toNat = 0
            · have e1 := u8_eq h4.1
              have e2 := u8_eq h4.2
              subst e1 e2
              rw [if_neg (by decide), if_pos (by simp)]; decide
            · have hn : ¬ (c = 1 ∧ d = 0) := by rintro ⟨rfl, rfl⟩; exact h4 ⟨rfl, rfl⟩
              rw [if_pos]
              · simp; exact fun e => (fun e2 => hn ⟨e, e2⟩)
              · by_cases h5 : c.toNat = 0
                · have := u8_eq h5; subst this; simp
                · omega
          | c :: d :: e :: t =>
            have hc := c.toNat_lt
            have hd := d.toNat_lt
            have he := e.toNat_lt
            have hl : lowF (c :: d :: e :: t) (131 - 128) = (c.toNat * 256 + d.toNat) * 256 + e.toNat := by simp [lowF, lowI, val]
            rw [hl]
            by_cases h4 : c.toNat = 1 ∧ d.toNat = 0 ∧ e.toNat = 0
            · have e1 := u8_eq h4.1
              have e2 := u8_eq h4.2.1
              have e3 := u8_eq h4.2.2
              subst e1 e2 e3
              have hd : ¬ (131 = 128 ∨ 136 < 131 ∨ 65536 < ((UInt8.ofNat 1).toNat * 256 + (UInt8.ofNat 0).toNat) * 256 + (UInt8.ofNat 0).toNat ∨ ((UInt8.ofNat 1).toNat * 256 + (UInt8.ofNat 0).toNat) * 256 + (UInt8.ofNat 0).toNat < 128 ∨ (UInt8.ofNat 1 :: UInt8.ofNat 0 :: UInt8.ofNat 0 :: t).head? = some 0) := by rw [List.head?_cons]; decide
              rw [if_neg hd, if_neg (by simp)]
              simp [List.take]
            · have hn : ¬ (c = 1 ∧ d = 0 ∧ e = 0) := by rintro ⟨rfl, rfl, rfl⟩; exact h4 ⟨rfl, rfl, rfl⟩
              rw [if_pos]
              · simp [List.take]; exact fun e => (fun e2 e3 => hn ⟨e, e2, e3⟩)
              · by_cases h5 : c.toNat = 0
                · have := u8_eq h5; subst this; simp
                · omega
        · have hn : b ≠ 131 := by rintro rfl; exact h3 rfl
          have hP : ¬ ((b :: r).take 4 <+: [131, 1, 0, 0]) := by
            rw [show (4 : Nat) = 3 + 1 from rfl, List.take_succ_cons, List.cons_prefix_cons]
            exact fun h => hn h.1
          rw [decide_eq_false hP]
          unfold lengthF
          rw [if_neg hb, if_pos]
          · rfl
          · by_cases h4 : b.toNat = 128 ∨ 136 < b.toNat
            · omega
            · cases r with
              | nil =>
                have hl : lowF [] (b.toNat - 128) = 256 ^ (b.toNat - 128 - 1) := lowI_nil _ _ (by omega) (by omega)
                have : 256 ^ 3 ≤ 256 ^ (b.toNat - 128 - 1) := Nat.pow_le_pow_right (by decide) (by omega)
                omega
              | cons c t =>
                by_cases h5 : c.toNat = 0
                · have := u8_eq h5; subst this; simp
                · have hl := lowF_ge (c := c) (t := t) (k := b.toNat - 128) (by omega)
                  have : 256 ^ 3 ≤ 256 ^ (b.toNat - 128 - 1) := Nat.pow_le_pow_right (by decide) (by omega)
                  have h6 : 1 * 256 ^ (b.toNat - 128 - 1) ≤ c.toNat * 256 ^ (b.toNat - 128 - 1) := Nat.mul_le_mul_right _ (by omega)
                  omega
theorem drop_len (a l : List UInt8) : (a ++ l).drop a.length = l := by simp
theorem recF_len2 (t : List UInt8) : (recF t).length = (numF t.length).length + t.length + 4 := by
  unfold recF
  rw [Crc.sealed_length]
  simp [textF]
/-- what stands first: the document's answers are the program's -/
theorem docFirst_yes {b : UInt8} {r : List UInt8} (h : (firstF b r).2.2 = 0) : docFirst (b :: r) = ((firstF b r).1, (firstF b r).2.1) := by
  unfold docFirst
  rcases hq : rnumS (some (b :: r)) 65536 with ⟨n, _ | rest⟩
  · have := lengthF_none (b := b) (r := r) (by rw [hq])
    unfold firstF at h
    rw [if_pos this] at h
    exact absurd h this
  · have hL := lengthF_some hq
    obtain ⟨h1, h2, h3⟩ := rnumS_some hq
    injection h1 with h1
    unfold firstF at h ⊢
    rw [hL] at h ⊢
    rw [if_neg (by simp)] at h ⊢
    unfold firstN at h ⊢
    rw [h1, drop_len] at h ⊢
    simp only
    by_cases c1 : (rest.take n).length < n
    · rw [if_pos c1] at h; cases h
    · rw [if_neg c1] at h ⊢
      have hn : (rest.take n).length = n := by rw [List.length_take] at c1 ⊢; omega
      by_cases c2 : recF (rest.take n) <+: numF n ++ rest
      · rw [if_pos c2]
        have := c2.length_le
        rw [recF_len2, hn, List.length_append] at this
        rw [if_neg (by omega), if_pos c2]
      · rw [if_neg c2] at h
        split at h <;> cases h
theorem docFirst_no {b : UInt8} {r : List UInt8} (h : (firstF b r).2.2 ≠ 0) : docFirst (b :: r) = ([], 0) ∧ docPart (b :: r) = decide ((firstF b r).2.2 = 1) := by
  have hst := lengthF_st b r
  have hfs := firstF_st b r
  have hD := docLen_eq b r
  unfold docFirst docPart
  rcases hq : rnumS (some (b :: r)) 65536 with ⟨n, _ | rest⟩
  · have hne := lengthF_none (b := b) (r := r) (by rw [hq])
    refine ⟨rfl, ?_⟩
    simp only [Bool.and_true]
    rw [hD]
    unfold firstF
    rw [if_pos hne]
    simp only [decide_eq_decide]
    omega
  · have hL := lengthF_some hq
    obtain ⟨h1, h2, h3⟩ := rnumS_some hq
    injection h1 with h1
    rw [hD, hL]
    rw [show decide ((n, (numF n).length, 0).2.2 ≠ 2) = true from rfl, Bool.true_and]
    unfold firstF at h ⊢
    rw [hL] at h ⊢
    rw [if_neg (by simp)] at h ⊢
    unfold firstN at h ⊢
    rw [h1, drop_len] at h ⊢
    dsimp only at h ⊢
    by_cases c1 : (rest.take n).length < n
    · rw [List.length_take] at c1
      rw [if_pos (by omega), if_neg (by omega), if_pos (by omega), if_pos (by rw [List.length_take]; omega)]
      simp
    · have hn : (rest.take n).length = n := by rw [List.length_take] at c1 ⊢; omega
      have hnr : n ≤ rest.length := by rw [List.length_take] at c1; omega
      have hlen := recF_len2 (rest.take n)
      rw [hn] at hlen
      rw [if_neg c1] at h ⊢
      by_cases c2 : recF (rest.take n) <+: numF n ++ rest
      · rw [if_pos c2] at h; exact absurd rfl h
      · rw [if_neg c2, if_neg c2]
        by_cases c3 : rest.length < n + 4
        · rw [if_pos c3, if_neg (by omega)]
          refine ⟨rfl, ?_⟩
          by_cases c4 : rest.length ≤ n
          · have e : rest = rest.take n := (List.take_of_length_le c4).symm
            have hp : numF n ++ rest <+: recF (rest.take n) := by
              unfold recF Crc.sealed textF
              rw [hn, ← e]
              exact List.prefix_append _ _
            rw [if_pos c4, if_pos ⟨by rw [hlen, List.length_append]; omega, hp⟩]
            rfl
          · rw [if_neg c4]
            by_cases c5 : numF n ++ rest <+: recF (rest.take n)
            · rw [if_pos ⟨by rw [hlen, List.length_append]; omega, c5⟩, decide_eq_true c5]; rfl
            · rw [if_neg (fun h => c5 h.2), decide_eq_false c5]; rfl
        · rw [if_neg c3, if_pos (by omega), if_neg (by rw [hlen, List.length_append]; omega)]
          exact ⟨rfl, rfl⟩
end Go.Proofs.Ytfojjklohbiffaa
