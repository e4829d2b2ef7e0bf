/- The document's nets: Take, Double. -/
import Derived.Test.YtfojjklohbiffaaNetE
namespace Go.Proofs.Ytfojjklohbiffaa
open Go.RowKit Tran
def refTook (w : World) (v : Value) (r : List (List UInt8) × List UInt8 × Nat) (e : Ending) (w' : World) : Prop := ∃ v', e = .returned (.tuple #[v', .string ⟨r.2.1.toArray⟩, .int .i64 (r.2.2 : Nat)]) ∧ Txt w' v' r.1 ∧ Below w.heap.size w w' ∧ ∀ k, rdOf v' = some k → rdOf v = some k ∨ w.heap.size ≤ k
set_option maxRecDepth 100000 in
set_option maxHeartbeats 1000000 in
theorem reftake_any {w : World} {v : Value} {l : List (List UInt8)} (h : Txt w v l) (hl : l.length ≤ 5000) (p : Int) : Calls Try.prog 106 #[v, .int .i64 p] w (refTook w v (takeF l p)) := by
  obtain ⟨i0, hi, hz0, hz1, hz2⟩ := info_parts info9
  have ht := h
  obtain ⟨A, cap, rfl, hl1, hl2, h3⟩ := h
  unfold maxLen at hl2
  by_cases hp : 0 ≤ p ∧ p < l.length
  · obtain ⟨n, rfl⟩ := Int.eq_ofNat_of_zero_le hp.1
    have hn : n < l.length := by omega
    have e : takeF l n = (cutF l n, l[n], 0) := by unfold takeF okPlace; rw [if_pos (by simp; exact hn)]; simp [hn]
    rw [e]
    clear e hp
    obtain ⟨ad, rfl, hcell⟩ := Txt.cell h3 hn
    obtain ⟨A2, hA⟩ : ∃ A2 : Option Addr, (if cap = n + 1 then some ad else some (⟨ad.block, ad.off + (n + 1), none⟩ : Addr)) = A2 := ⟨_, rfl⟩
    have hrt : Rd w (some ad) n 1 ((strs l).take (n * 1)) := h3.take (by omega)
    have hrd : Rd w A2 (l.length - (n + 1)) 1 ((strs l).drop ((n + 1) * 1)) := h3.dropA (by omega) (fun hlt => by rw [← hA, if_neg (by omega), Nat.mul_one]; simp [Addr.add])
    have f1 : IntKind.i64.wrap ((n : Int) + 1) = (n : Int) + 1 := IntWalk.i64_in _ (by omega)
    have f2 : (0 : Int) ≤ (n : Int) + 1 := by omega
    have f3 : ((n : Int) + 1).toNat = n + 1 := by omega
    have f4 : (n : Int) + 1 ≤ (l.length : Int) := by omega
    have f5 : (n : Int) ≤ (cap : Int) := by omega
    have f6 : (n : Int) < (l.length : Int) := by omega
    have hB1 : Below w.heap.size w (w.drew.alloc (.cells #[] 9)) := (Below.refl _ w).drew.alloc (Nat.le_refl _) _
    have hc0 : w.drew.cell? (ad.add n) = some (.string ⟨l[n].toArray⟩) := hcell
    have hlt : (ad.add n).block < w.heap.size := World.block_lt_of_cell? w _ hcell
    have hc1 : (w.drew.alloc (.cells #[] 9)).cell? (ad.add n) = some (.string ⟨l[n].toArray⟩) := (hB1.cell hlt).trans hcell
    have hrt1 := hrt.later hB1
    have hown1 : Own (w.drew.alloc (.cells #[] 9)) w.heap.size 9 1 (.slice (some ⟨w.heap.size, 0, none⟩) 0 0) 0 [] := Own.empty _ _ _ _ _
    have ho1 : ∀ u ∈ (strs l).take (n * 1), u.oneCell' = true := fun u hu => strs_one l u (List.mem_of_mem_take hu)
    have ho2 : ∀ u ∈ (strs l).drop ((n + 1) * 1), u.oneCell' = true := fun u hu => strs_one l u (List.mem_of_mem_drop hu)
    have O1 := Lib.hid ho1; have O2 := Lib.hid ho2; have R1 := Lib.hid hrt1; have RD := Lib.hid hrd; have B1 := Lib.hid hB1; have OW := Lib.hid hown1
    clear ho1 ho2 hrt1 hrt hrd hB1 hown1 ht h3
    have tok1 : True := trivial
    go_enter Try.func106, Try.ntmps106
    go_wp2_with fail
    go_region_law (first
      | (have _t := tok1; refine step_append_Own _ rfl (.tmp 16) (.tmp 19) 43 rfl w.heap.size 9 i0 _ 1 16 Try.underlying43 hi hz0 hz1 hz2 rfl (by decide) (.slice (some ⟨w.heap.size, 0, none⟩) 0 0) _ _ (by simp [Act.eval]) OW.out (some ad) n cap _ (by simp [Act.eval]) R1.out O1.out (by unfold maxLen; omega) (by omega) (by simp) ?_; intro v2 w2 ho2 hg2 hat2; clear tok1; have hB2 : Below w.heap.size w w2 := B1.out.grown hg2 (by simp) (by simp [blkOf]); have hsz2 := hB2.size; have hc2 : w2.cell? (ad.add n) = some (.string ⟨l[n].toArray⟩) := (hB2.cell hlt).trans hcell; have R2 := Lib.hid (RD.out.later hB2))
      | (refine step_append_Own _ rfl (.tmp 20) (.tmp 24) 43 rfl w.heap.size 9 i0 _ 1 16 Try.underlying43 hi hz0 hz1 hz2 rfl (by decide) v2 _ _ (by simp [Act.eval]) ho2 A2 (l.length - (n + 1)) (cap - (n + 1)) _ (by simp [Act.eval]) R2.out O2.out (by unfold maxLen; omega) (by omega) (by omega) ?_; intro v3 w3 ho3 hg3 hat3; have hB3 : Below w.heap.size w w3 := hB2.grown hg3 hsz2 (fun k hk => (ho2.lt k hk).1); have hc3 : w3.cell? (ad.add n) = some (.string ⟨l[n].toArray⟩) := (hB3.cell hlt).trans hcell))
    all_goals go_wp2
    all_goals go_ret3
    all_goals
      have e : strs (cutF l n) = [] ++ (strs l).take (n * 1) ++ (strs l).drop ((n + 1) * 1) := by simp [strs, cutF]
      have el : (cutF l n).length = 0 + n + (l.length - (n + 1)) := by simp [cutF]; omega
      have ho4 : Own w3 w.heap.size 9 1 v3 (cutF l n).length (strs (cutF l n)) := by rw [e, el]; exact ho3
      exact ⟨v3, rfl, Txt.of ho4, hB3, fun k hk => .inr (ho4.lt k (rd_blk ho4 hk)).1⟩
  · have e : takeF l p = (l, [], 7) := by unfold takeF okPlace; rw [if_neg (by simpa using hp)]
    rw [e]
    clear e
    by_cases h0 : p < 0
    · clear hp
      go_enter Try.func106, Try.ntmps106
      go_wp2
      go_ret3
      exact ⟨_, rfl, ht, Below.refl _ _, fun _ hk => .inl hk⟩
    · have h1 : (l.length : Int) ≤ p := by omega
      clear hp
      go_enter Try.func106, Try.ntmps106
      go_wp2
      go_ret3
      exact ⟨_, rfl, ht, Below.refl _ _, fun _ hk => .inl hk⟩
set_option maxRecDepth 100000 in
set_option maxHeartbeats 1000000 in
theorem refdouble_any {w : World} {v : Value} {l : List (List UInt8)} (h : Txt w v l) (p : Int) : Calls Try.prog 107 #[v, .int .i64 p] w (refSent w v (doubleF l p)) := by
  have ht := h
  obtain ⟨A, cap, rfl, hl1, hl2, h3⟩ := h
  unfold maxLen at hl2
  by_cases hp : 0 ≤ p ∧ p < l.length
  · obtain ⟨n, rfl⟩ := Int.eq_ofNat_of_zero_le hp.1
    have hn : n < l.length := by omega
    have e : doubleF l n = sendF l l[n] := by unfold doubleF okPlace; rw [if_pos (by simp; exact hn)]; simp [hn]
    rw [e]
    clear e hp
    obtain ⟨ad, rfl, hcell⟩ := Txt.cell h3 hn
    have HS := Lib.hid (refsend_any ht l[n])
    go_enter Try.func107, Try.ntmps107
    go_wp2_with fail
    refine HS.out.mono ?_
    rintro e w1 ⟨v', rfl, h1, h2, h3⟩
    go_wp2
    go_ret2
    exact ⟨v', rfl, h1, h2, h3⟩
  · have e : doubleF l p = (l, 7) := by unfold doubleF okPlace; rw [if_neg (by simpa using hp)]
    rw [e]
    clear e
    by_cases h0 : p < 0
    · clear hp
      go_enter Try.func107, Try.ntmps107
      go_wp2
      go_ret2
      exact ⟨_, rfl, ht, Below.refl _ _, fun _ hk => .inl hk⟩
    · have h1 : (l.length : Int) ≤ p := by omega
      clear hp
      go_enter Try.func107, Try.ntmps107
      go_wp2
      go_ret2
      exact ⟨_, rfl, ht, Below.refl _ _, fun _ hk => .inl hk⟩
end Go.Proofs.Ytfojjklohbiffaa
