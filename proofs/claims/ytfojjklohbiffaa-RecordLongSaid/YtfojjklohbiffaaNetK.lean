/- Nets beside what was sent and what was taken: the counts. -/
import Derived.Test.YtfojjklohbiffaaNetJ
namespace Go.Proofs.Ytfojjklohbiffaa
open Go.RowKit Tran
set_option linter.unusedVariables false
theorem count_le (l : List (List UInt8)) (s : List UInt8) (k : Nat) : (l.take k).count s ≤ k := by
  have := List.count_le_length (a := s) (l := l.take k)
  have h2 := List.length_take_le k l
  omega
set_option maxRecDepth 100000 in
set_option maxHeartbeats 1000000 in
theorem count_any {w : World} {v : Value} {l : List (List UInt8)} (h : Txt w v l) (hl : l.length ≤ 100000) (s : List UInt8) :
    Calls Try.prog 41 #[v, .string ⟨s.toArray⟩] w fun e w' => e = .returned (.int .i64 (l.count s : Nat)) ∧ w = w' := by
  obtain ⟨A, cap, rfl, h1, h2, h3⟩ := h
  unfold maxLen at h2
  have HR := Lib.hid h3
  clear h3
  have hst : ∀ k (hk : k < l.length), (l.take (k + 1)).count s = (l.take k).count s + if (l[k] == s) = true then 1 else 0 := by
    intro k hk
    rw [List.take_succ_eq_append_getElem hk, List.count_append, List.count_singleton]
  have HST := Lib.hid hst
  clear hst
  go_enter Try.func41, Try.ntmps41
  go_wp2
  go_loop [5, 6] (fun n i => ∃ k : Nat, k ≤ l.length ∧ i = .int .i64 k ∧ n = .int .i64 ((l.take k).count s : Nat)) (fun _ i => l.length - (intOf i).toNat)
  case atStart => exact ⟨0, by omega, rfl, rfl⟩
  case round =>
    obtain ⟨k, hk, rfl, rfl⟩ := hrel
    have hb := count_le l s k
    by_cases hlt : k < l.length
    · obtain ⟨ad, rfl, hc⟩ := Txt.cell HR.out hlt
      have HS2 := Lib.hid (HST.out k hlt)
      generalize (l.take k).count s = x at *
      cases heq : (l[k] == s)
      · go_wp2
        go_round
        case rel => exact ⟨k + 1, hlt, by go_num, by rw [HS2.out, heq]; simp⟩
        case measure => simp [intOf]; omega
      · go_wp2
        go_round
        case rel => exact ⟨k + 1, hlt, by go_num, by rw [HS2.out, heq]; simp⟩
        case measure => simp [intOf]; omega
    · have hkk : l.take k = l := List.take_of_length_le (by omega)
      rw [hkk]
      go_wp2
      go_ret
      exact ⟨rfl, rfl⟩
/-- two slices keep their elements in different blocks -/
def Apart (a b : Value) : Prop := ∀ k, blkOf a = some k → blkOf b ≠ some k
/-- a net and two slices of texts, each in memory of its own -/
structure Cnt (w : World) (g B : Nat) (v a b : Value) (fr ins outs : List (List UInt8)) : Prop where
  net : NetAt w g B v fr
  oa : Own w B 9 1 a ins.length (strs ins)
  ob : Own w B 9 1 b outs.length (strs outs)
  va : Apart v a
  vb : Apart v b
  ab : Apart a b
theorem Cnt.below {w w' : World} {g B : Nat} {v a b : Value} {fr ins outs : List (List UInt8)} (h : Cnt w g B v a b fr ins outs) (hb : Below w.heap.size w w') : Cnt w' g B v a b fr ins outs :=
  ⟨h.net.below hb, h.oa.below hb (Nat.le_refl _), h.ob.below hb (Nat.le_refl _), h.va, h.vb, h.ab⟩
theorem Apart.moved {w : World} {v v' a : Value} (h : Apart v a) (hm : Moved w v v') (hl : ∀ k, blkOf a = some k → k < w.heap.size) : Apart v' a := by
  intro k hk ha
  rcases hm with e | e
  · exact h k (e ▸ hk) ha
  · have := e k hk; have := hl k ha; omega
theorem Cnt.step {w w' : World} {g B : Nat} {v v' a b : Value} {fr fr' ins outs : List (List UInt8)} (h : Cnt w g B v a b fr ins outs) (n : NetAt w' g B v' fr') (hm : Moved w v v') (hc : Chg (fun k => k = g ∨ blkOf v = some k) w w') :
    Cnt w' g B v' a b fr' ins outs :=
  ⟨n, h.oa.chg hc (fun k hk => by
      rintro (e | e)
      · exact h.oa.ne_ h.net.blk (by decide) (e ▸ hk)
      · exact h.va k e hk), h.ob.chg hc (fun k hk => by
      rintro (e | e)
      · exact h.ob.ne_ h.net.blk (by decide) (e ▸ hk)
      · exact h.vb k e hk), h.va.moved hm fun k hk => (h.oa.lt k hk).2, h.vb.moved hm fun k hk => (h.ob.lt k hk).2, h.ab⟩
theorem NetAt.kept {w w' : World} {g B : Nat} {v a : Value} {fr ins : List (List UInt8)} (h : NetAt w g B v fr) (ha : Own w B 9 1 a ins.length (strs ins)) (hva : Apart v a) (hg : w.grownBy w' (blkOf a)) : NetAt w' g B v fr :=
  ⟨h.blk.grown hg (fun e => ha.ne_ h.blk (by decide) e.symm), h.ge, h.own.kept hg (by
    cases e : blkOf v with
    | none => exact .inl rfl
    | some k => exact .inr fun e2 => hva k e e2.symm)⟩
theorem moved_of {w : World} {a a' : Value} (h : blkOf a' = blkOf a ∨ blkOf a' = some w.heap.size) : Moved w a a' := by
  rcases h with h | h
  · exact .inl h
  · exact .inr fun k hk => by rw [h] at hk; injection hk with hk; omega
theorem Apart.symm {a b : Value} (h : Apart a b) : Apart b a := fun k hk ha => h k ha hk
theorem Cnt.growA {w w' : World} {g B : Nat} {v a a' b : Value} {fr ins outs : List (List UInt8)} {s : List UInt8} (h : Cnt w g B v a b fr ins outs) (ho : Own w' B 9 1 a' (ins.length + 1) (strs ins ++ [.string ⟨s.toArray⟩])) (hg : w.grownBy w' (blkOf a)) (hat : blkOf a' = blkOf a ∨ blkOf a' = some w.heap.size) :
    Cnt w' g B v a' b fr (ins ++ [s]) outs := by
  have e : strs (ins ++ [s]) = strs ins ++ [.string ⟨s.toArray⟩] := by simp [strs]
  have hm := moved_of hat
  refine ⟨h.net.kept h.oa h.va hg, by rw [e, List.length_append]; exact ho, h.ob.kept hg ?_, ?_, h.vb, h.ab.moved hm fun k hk => (h.ob.lt k hk).2⟩
  · cases eb : blkOf b with
    | none => exact .inl rfl
    | some k => exact .inr fun e2 => h.ab k e2.symm eb
  · exact (h.va.symm.moved hm fun k hk => (h.net.own.lt k hk).2).symm
theorem Cnt.swap {w : World} {g B : Nat} {v a b : Value} {fr ins outs : List (List UInt8)} (h : Cnt w g B v a b fr ins outs) : Cnt w g B v b a fr outs ins := ⟨h.net, h.ob, h.oa, h.vb, h.va, h.ab.symm⟩
theorem Cnt.growB {w w' : World} {g B : Nat} {v a b b' : Value} {fr ins outs : List (List UInt8)} {s : List UInt8} (h : Cnt w g B v a b fr ins outs) (ho : Own w' B 9 1 b' (outs.length + 1) (strs outs ++ [.string ⟨s.toArray⟩])) (hg : w.grownBy w' (blkOf b)) (hat : blkOf b' = blkOf b ∨ blkOf b' = some w.heap.size) :
    Cnt w' g B v a b' fr ins (outs ++ [s]) := (h.swap.growA ho hg hat).swap
theorem cut_perm (l : List (List UInt8)) {p : Nat} (hp : p < l.length) : (l[p] :: cutF l p).Perm l := by
  have e : l = l.take p ++ l[p] :: l.drop (p + 1) := by rw [List.getElem_cons_drop, List.take_append_drop]
  unfold cutF
  exact (List.perm_middle.symm.trans (by rw [← e]))
theorem perm_in {ins outs fr : List (List UInt8)} (h : ins.Perm (outs ++ fr)) (s : List UInt8) : (ins ++ [s]).Perm (outs ++ (fr ++ [s])) := by
  rw [← List.append_assoc]; exact h.append_right _
theorem perm_out {ins outs fr : List (List UInt8)} (h : ins.Perm (outs ++ fr)) {p : Nat} (hp : p < fr.length) : ins.Perm (outs ++ [fr[p]] ++ cutF fr p) := by
  rw [List.append_assoc]
  exact h.trans ((cut_perm fr hp).symm.append_left _)
theorem take_cases (l : List (List UInt8)) (q : Int) : (∃ (p : Nat) (hp : p < l.length), q = p ∧ takeF l q = (cutF l p, l[p], 0)) ∨ takeF l q = (l, [], 7) := by
  unfold takeF okPlace
  by_cases hp : 0 ≤ q ∧ q < l.length
  · obtain ⟨n, rfl⟩ := Int.eq_ofNat_of_zero_le hp.1
    have hn : n < l.length := by omega
    exact .inl ⟨n, hn, rfl, by rw [if_pos (by simp; exact hn)]; simp [hn]⟩
  · exact .inr (by rw [if_neg (by simpa using hp)])
theorem drop_cases (l : List (List UInt8)) (q : Int) : (∃ (p : Nat) (hp : p < l.length), q = p ∧ dropF l q = (cutF l p, 0)) ∨ dropF l q = (l, 7) := by
  unfold dropF okPlace
  by_cases hp : 0 ≤ q ∧ q < l.length
  · obtain ⟨n, rfl⟩ := Int.eq_ofNat_of_zero_le hp.1
    have hn : n < l.length := by omega
    exact .inl ⟨n, hn, rfl, by rw [if_pos (by simp; exact hn)]; simp⟩
  · exact .inr (by rw [if_neg (by simpa using hp)])
theorem double_cases (l : List (List UInt8)) (q : Int) : (∃ (p : Nat) (hp : p < l.length), q = p ∧ doubleF l q = (l ++ [l[p]], 0)) ∨ ∃ c : Nat, c ≠ 0 ∧ c < 100 ∧ doubleF l q = (l, c) := by
  unfold doubleF okPlace
  by_cases hp : 0 ≤ q ∧ q < l.length
  · obtain ⟨n, rfl⟩ := Int.eq_ofNat_of_zero_le hp.1
    have hn : n < l.length := by omega
    rw [if_pos (by simp; exact hn)]
    have e : l.getD ((n : Int).toNat) [] = l[n] := by simp [hn]
    rw [e]
    unfold sendF
    split
    · exact .inr ⟨3, by decide, by decide, rfl⟩
    · split
      · exact .inr ⟨6, by decide, by decide, rfl⟩
      · exact .inl ⟨n, hn, rfl, rfl⟩
  · exact .inr ⟨7, by decide, by decide, by rw [if_neg (by simpa using hp)]⟩
end Go.Proofs.Ytfojjklohbiffaa
