/- The document's readers of texts, dots, vectors. -/
import Derived.Test.YtfojjklohbiffaaDoorWireG
namespace Go.Proofs.YtfojjklohbiffaaDoor
open Go.RowKit Tran Tran.Wire
set_option linter.unusedVariables false
set_option maxRecDepth 100000 in
theorem rnumS_some {st : Option (List UInt8)} {m x : Nat} {l : List UInt8} (h : rnumS st m = (x, some l)) : st = some (numF x ++ l) ∧ x ≤ m ∧ x < 2 ^ 64 := by
  cases st with
  | none => rw [rnumS_none] at h; cases h
  | some s =>
    cases s with
    | nil => have e : rnumS (some []) m = (0, none) := by simp [rnumS, numS]
             rw [e] at h; cases h
    | cons b r =>
      have hbl := b.toNat_lt
      by_cases hb : b.toNat < 128
      · rw [rnum_lo r m hb] at h
        by_cases hm : b.toNat ≤ m
        · rw [if_pos hm] at h
          injection h with h1 h2
          injection h2 with h2
          subst h1 h2
          refine ⟨?_, hm, by omega⟩
          rw [show numF b.toNat = [b] by unfold numF; rw [if_pos hb]; congr 1; apply UInt8.toNat_inj.1; rw [UInt8.toNat_ofNat']; omega]
          rfl
        · rw [if_neg hm] at h; cases h
      · by_cases hk : 8 < b.toNat - 128 ∨ r.length < b.toNat - 128
        · rw [rnum_short r m hb hk] at h; cases h
        · rw [rnum_hi r m hb (by omega) (by omega)] at h
          by_cases hc : numF (val (r.take (b.toNat - 128))) = b :: r.take (b.toNat - 128) ∧ val (r.take (b.toNat - 128)) ≤ m
          · rw [if_pos hc] at h
            injection h with h1 h2
            injection h2 with h2
            subst h1 h2
            refine ⟨?_, hc.2, take_val r _ (by omega)⟩
            rw [hc.1, List.cons_append, List.take_append_drop]
          · rw [if_neg hc] at h; cases h
theorem rnumS_left {st : Option (List UInt8)} {m : Nat} {l : List UInt8} (h : (rnumS st m).2 = some l) : ∃ s, st = some s ∧ l.length ≤ s.length := by
  have h2 := rnumS_some (st := st) (m := m) (x := (rnumS st m).1) (l := l) (by rw [← h])
  exact ⟨_, h2.1, by simp⟩
theorem cutk_to (kd : IntKind) (l : List UInt8) (k : Nat) (hk : k ≤ l.length) (W : World) : (Instr.slice 9 (.string ⟨l.toArray⟩) none (some (.int kd k)) none).run Tryd.prog W = .ok (.string ⟨(l.take k).toArray⟩) W := by
  have h := run_slice_string_h (P := Tryd.prog) W 9 ⟨l.toArray⟩ Tryd.underlying9 kd (k : Int) (by omega) (by simp [ByteArray.size]; omega)
  rw [Int.toNat_natCast, str_take] at h
  exact h
theorem cutk_off (kd : IntKind) (l : List UInt8) (k : Nat) (hk : k ≤ l.length) (W : World) : (Instr.slice 9 (.string ⟨l.toArray⟩) (some (.int kd k)) none none).run Tryd.prog W = .ok (.string ⟨(l.drop k).toArray⟩) W := by
  have h := run_slice_string_l (P := Tryd.prog) W 9 ⟨l.toArray⟩ Tryd.underlying9 kd (k : Int) (by omega) (by simp [ByteArray.size]; omega)
  rw [Int.toNat_natCast, str_cut, show (⟨l.toArray⟩ : ByteArray).size = l.length from rfl, List.take_length] at h
  exact h
theorem rowC_form (st : Option (List UInt8)) : ∃ s f, rowC st = #[.string s, .bool f] := by cases st <;> exact ⟨_, _, rfl⟩
/-- three blocks in a reader's world -/
theorem keep_new {w w1 : World} {g : Nat} {A : Array Value} {t : TypeId} (k : Blk w g t A) (hb : Below w.heap.size w w1) (o : Obj) : Blk (w1.alloc o) g t A := (k.below hb k.lt).alloc o
end Go.Proofs.YtfojjklohbiffaaDoor
