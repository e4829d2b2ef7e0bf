/- Nets in memory: none, Send, gone. -/
import Derived.Test.YtfojjklohbiffaaProg
import Derived.Test.YtfojjklohbiffaaOwn
import Derived.Deep.RegionLaw
namespace Go.Proofs.Ytfojjklohbiffaa
open Go.RowKit Tran

def sendF (l : List (List UInt8)) (b : List UInt8) : List (List UInt8) × Nat :=
  if 262144 < b.length then (l, 3) else if 4096 ≤ l.length then (l, 6) else (l ++ [b], 0)
/-- the net at block g has the frames l, in the slice v -/
structure NetAt (w : World) (g B : Nat) (v : Value) (l : List (List UInt8)) : Prop where
  blk : Blk w g 72 #[v, .bool true]
  ge : B ≤ g
  own : Own w B 9 1 v l.length (strs l)
theorem info9 : (Try.prog.info? 9).map (fun i => (i.zero, i.size, i.bytes)) = some (some (.string ByteArray.empty), 1, 16) := by kernel_rfl

set_option maxRecDepth 100000 in
theorem none_any {w : World} {g B : Nat} {v : Value} {l : List (List UInt8)} (h : NetAt w g B v l) :
    Calls Try.prog 84 #[.pointer (some ⟨g, 0, none⟩)] w fun e w' => e = .returned (.bool false) ∧ w = w' := by
  have hc : w.cell? ⟨g, 1, none⟩ = some (.bool true) := h.blk.cell 1
  go_enter Try.func84, Try.ntmps84
  go_wp2
  go_ret
  exact ⟨rfl, rfl⟩
set_option maxRecDepth 100000 in
theorem none_nil (w : World) : Calls Try.prog 84 #[.pointer none] w fun e w' => e = .returned (.bool true) ∧ w = w' := by
  go_enter Try.func84, Try.ntmps84
  go_wp2
  go_ret
  exact ⟨rfl, rfl⟩
set_option maxRecDepth 100000 in
theorem none_zero {w : World} {g : Nat} (hc : w.cell? ⟨g, 1, none⟩ = some (.bool false)) : Calls Try.prog 84 #[.pointer (some ⟨g, 0, none⟩)] w fun e w' => e = .returned (.bool true) ∧ w = w' := by
  go_enter Try.func84, Try.ntmps84
  go_wp2
  go_ret
  exact ⟨rfl, rfl⟩

set_option maxRecDepth 100000 in
set_option maxHeartbeats 400000 in
theorem send_any {w : World} {g B : Nat} {v : Value} {l : List (List UInt8)} (h : NetAt w g B v l) (hB : B ≤ w.heap.size) (b : List UInt8) :
    Calls Try.prog 37 #[.pointer (some ⟨g, 0, none⟩), .string ⟨b.toArray⟩] w fun e w' => ∃ v', e = .returned (.int .i64 ((sendF l b).2 : Nat)) ∧ NetAt w' g B v' (sendF l b).1 ∧ Moved w v v' ∧ Chg (fun k => k = g ∨ blkOf v = some k) w w' := by
  obtain ⟨i0, hi, hz0, hz1, hz2⟩ := info_parts info9
  have hc : w.cell? ⟨g, 0, none⟩ = some v := h.blk.cell 0
  have hfz := h.blk.frozen 0
  obtain ⟨A, cap, rfl, hncap, hcm, hrd⟩ := h.own.slice
  have ho := h.own
  have hbk := h.blk
  have hge := h.ge
  have HN := Lib.hid (none_any h)
  by_cases h1 : 262144 < b.length
  · have HS := Lib.hid (p := sendF l b = (l, 3)) (by unfold sendF; rw [if_pos h1])
    go_enter Try.func37, Try.ntmps37
    go_wp2_with fail
    refine HN.out.mono ?_
    rintro e w1 ⟨rfl, rfl⟩
    go_wp2
    go_ret
    exact ⟨_, by rw [HS.out]; rfl, by rw [HS.out]; exact h, .refl _ _, .refl _ _⟩
  · by_cases h2 : 4096 ≤ l.length
    · have HS := Lib.hid (p := sendF l b = (l, 6)) (by unfold sendF; rw [if_neg h1, if_pos h2])
      go_enter Try.func37, Try.ntmps37
      go_wp2_with fail
      refine HN.out.mono ?_
      rintro e w1 ⟨rfl, rfl⟩
      go_wp2
      go_ret
      exact ⟨_, by rw [HS.out]; rfl, by rw [HS.out]; exact h, .refl _ _, .refl _ _⟩
    · have HS := Lib.hid (p := sendF l b = (l ++ [b], 0)) (by unfold sendF; rw [if_neg h1, if_neg h2])
      have hn72 : blkOf (Value.slice A l.length cap) ≠ some g := ho.ne_ hbk (by decide)
      have HNE := Lib.hid hn72; clear hn72
      go_enter Try.func37, Try.ntmps37
      go_wp2_with fail
      refine HN.out.mono ?_
      rintro e w1 ⟨rfl, rfl⟩
      go_wp2_with (at_builtin; refine wpList_append_Own _ rfl (.tmp 23) (.tmp 25) 43 rfl B 9 i0 _ 1 16 Try.underlying43 hi hz0 hz1 hz2 rfl (by decide) (.slice A l.length cap) _ _ rfl (ho.alloc _) (some ⟨w.heap.size, 0, none⟩) 1 1 [_] rfl (Rd.one w _ 9) (by intro u hu; simp at hu; subst hu; rfl) (by unfold maxLen; omega) (by omega) (by simp; omega) ?_; intro v' w3 ho4 hg4 hat4; obtain ⟨A2, cap2, rfl, _, _, _⟩ := ho4.slice; have hbk3 := (hbk.alloc (.cells #[Value.string ⟨b.toArray⟩] 9)).grown hg4 (fun e => HNE.out e.symm); have hc3 := hbk3.cell 0; have hf3 := hbk3.frozen 0)
      go_ret
      refine ⟨.slice A2 (l.length + 1) cap2, by rw [HS.out]; rfl, ?_, ?_, ?_⟩
      · rw [HS.out]
        refine ⟨hbk3.set_ 0 _, hge, ?_⟩
        have e : strs (l ++ [b]) = strs l ++ [Value.string ⟨b.toArray⟩] := by simp [strs]
        rw [e, List.length_append]
        refine ho4.far ?_ _
        exact ho4.ne_ hbk3 (by decide)
      · rcases hat4 with h4 | h4
        · exact .inl h4
        · refine .inr fun k hk => ?_
          rw [h4] at hk; injection hk with hk; simp at hk; omega
      · exact (((Chg.refl _ w).alloc _).grown hg4 (fun k hk => .inl (.inr hk))).setCell (.inl (.inl rfl)) _

def cutF (l : List (List UInt8)) (p : Nat) : List (List UInt8) := l.take p ++ l.drop (p + 1)
set_option maxRecDepth 100000 in
set_option maxHeartbeats 1000000 in
theorem gone_any {w : World} {g B : Nat} {v : Value} {l : List (List UInt8)} (h : NetAt w g B v l) (hB : B ≤ w.heap.size) (p : Nat) (hp : p < l.length) (hl : l.length ≤ 5000) :
    Calls Try.prog 88 #[.pointer (some ⟨g, 0, none⟩), .int .i64 p] w fun e w' => ∃ v', e = .returned (.int .i64 0) ∧ NetAt w' g B v' (cutF l p) ∧ Moved w v v' ∧ Chg (fun k => k = g ∨ blkOf v = some k) w w' := by
  obtain ⟨i0, hi, hz0, hz1, hz2⟩ := info_parts info9
  have hc : w.cell? ⟨g, 0, none⟩ = some v := h.blk.cell 0
  have hfz := h.blk.frozen 0
  have ho := h.own
  obtain ⟨q, cap, rfl, hcap, hbg, hqlt⟩ := ho.form (by omega)
  obtain ⟨A, cap', hv, hncap, hcm, hrd⟩ := ho.slice
  injection hv with hA _ hc0
  subst hA hc0
  unfold maxLen at hcm
  have f1 : IntKind.i64.wrap ((p : Int) + 1) = (p : Int) + 1 := IntWalk.i64_in _ (by omega)
  have f2 : (0 : Int) ≤ (p : Int) + 1 := by omega
  have f3 : ((p : Int) + 1).toNat = p + 1 := by omega
  have f4 : (p : Int) + 1 ≤ (l.length : Int) := by omega
  have f5 : (p : Int) ≤ (cap : Int) := by omega
  obtain ⟨A2, hA⟩ : ∃ A2 : Addr, (if cap = p + 1 then some (⟨q, 0, none⟩ : Addr) else some ⟨q, p + 1, none⟩) = some A2 := by
    by_cases h : cap = p + 1 <;> simp [h]
  have hrd2 : Rd w.drew (some A2) (l.length - (p + 1)) 1 ((strs l).drop ((p + 1) * 1)) := by
    refine Rd.drop (w := w.drew) hrd (by omega) (fun hlt => ?_)
    rw [← hA, if_neg (by omega), Nat.mul_one]
  have hone : ∀ u ∈ (strs l).drop ((p + 1) * 1), u.oneCell' = true := fun u hu => strs_one l u (List.mem_of_mem_drop hu)
  have hcut := (ho.cut (p := p) (by omega)).drew
  have hbk := h.blk
  have hge := h.ge
  have HO := Lib.hid hone; have HR := Lib.hid hrd2; have HC := Lib.hid hcut
  clear hone hrd2 hcut
  have HNE : Hid (some g ≠ blkOf (Value.slice (some ⟨q, 0, none⟩) p p)) := by
    intro e
    have hcut := (ho.cut (p := p) (by omega))
    exact hcut.ne_ hbk (by decide) e.symm
  go_enter Try.func88, Try.ntmps88
  go_wp2_with fail
  go_region_law (refine step_append_Own _ rfl (.tmp 12) (.tmp 19) 43 rfl B 9 i0 _ 1 16 Try.underlying43 hi hz0 hz1 hz2 rfl (by decide) (.slice (some ⟨q, 0, none⟩) p p) _ _ (by simp [Act.eval, Act.put]) HC.out (some A2) (l.length - (p + 1)) (cap - (p + 1)) _ (by simp [Act.eval, Act.put]) HR.out HO.out (by unfold maxLen; omega) (by omega) (by simpa using hB) ?_; intro v' w3 ho4 hg4 hat4; obtain ⟨A3, cap3, rfl, _, _, _⟩ := ho4.slice; have hbk3 := hbk.drew.grown hg4 HNE.out; have hc3 := hbk3.cell 0; have hf3 := hbk3.frozen 0)
  all_goals
    go_wp2
    go_ret
    have hbc : ∀ k, blkOf (Value.slice (some ⟨q, 0, none⟩) p p) = some k → blkOf (Value.slice (some ⟨q, 0, none⟩) l.length cap) = some k := by
      intro k hk
      obtain ⟨c, hc⟩ : ∃ c, cap = c + 1 := ⟨cap - 1, by omega⟩
      cases p with
      | zero => simp [blkOf] at hk
      | succ p => rw [hc]; exact hk
    refine ⟨.slice A3 (p + (l.length - (p + 1))) cap3, rfl, ?_, ?_, ?_⟩
    · refine ⟨hbk3.set_ 0 _, hge, ?_⟩
      have e : strs (cutF l p) = (strs l).take (p * 1) ++ (strs l).drop ((p + 1) * 1) := by simp [strs, cutF]
      have el : (cutF l p).length = p + (l.length - (p + 1)) := by simp [cutF]; omega
      rw [e, el]
      refine ho4.far ?_ _
      exact ho4.ne_ hbk3 (by decide)
    · rcases hat4 with h4 | h4
      · cases p with
        | zero => exact .inr fun k hk => by rw [h4] at hk; simp [blkOf] at hk
        | succ p =>
          left
          rw [h4]
          exact (hbc q rfl).symm ▸ rfl
      · refine .inr fun k hk => ?_
        rw [h4] at hk; injection hk with hk; simp at hk; omega
    · exact (((Chg.refl _ w).drew).grown hg4 (fun k hk => .inl (.inr (hbc k hk)))).setCell (.inl (.inl rfl)) _
end Go.Proofs.Ytfojjklohbiffaa
