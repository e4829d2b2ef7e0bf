/- Nets in memory: New, Frames, Len, Copy; what is no net; slices that read as texts. -/
import Derived.Test.YtfojjklohbiffaaNetC
import Derived.Lib.SliceRun
namespace Go.Proofs.Ytfojjklohbiffaa
open Go.RowKit Tran
/-- the block that a slice's elements are read from, if it has any -/
def rdOf : Value → Option Nat
  | .slice (some a) (_ + 1) _ => some a.block
  | _ => none
/-- a slice value reads as texts -/
def Txt (w : World) (v : Value) (l : List (List UInt8)) : Prop := ∃ A cap, v = .slice A l.length cap ∧ l.length ≤ cap ∧ cap ≤ maxLen ∧ Rd w A l.length 1 (strs l)
theorem Txt.of {w : World} {B : Nat} {v : Value} {l : List (List UInt8)} (h : Own w B 9 1 v l.length (strs l)) : Txt w v l := by
  obtain ⟨A, cap, hv, h1, h2, h3⟩ := h.slice
  exact ⟨A, cap, hv, h1, h2, h3⟩
theorem rd_blk {w : World} {B n : Nat} {v : Value} {xs : List Value} (h : Own w B 9 1 v n xs) {k : Nat} (hk : rdOf v = some k) : blkOf v = some k := by
  rcases h.2 with ⟨A, rfl, _⟩ | ⟨g, cap, cur, fz, rfl, _⟩
  · cases A <;> simp [rdOf] at hk
  · cases n with
    | zero => simp [rdOf] at hk
    | succ n => simpa [rdOf, blkOf] using hk
theorem Txt.lt {w : World} {v : Value} {l : List (List UInt8)} (h : Txt w v l) {k : Nat} (hk : rdOf v = some k) : k < w.heap.size := by
  obtain ⟨A, cap, rfl, h1, h2, h3⟩ := h
  cases A with
  | none => simp [rdOf] at hk
  | some a =>
    cases l with
    | nil => simp [rdOf] at hk
    | cons x l =>
      simp [rdOf] at hk
      subst hk
      obtain ⟨ad, had, hc⟩ := h3.2 (by simp)
      injection had with had
      subst had
      have := World.block_lt_of_cell? w _ (hc 0 _ rfl)
      rwa [block_of_add] at this
theorem Txt.same {w w' : World} {v : Value} {l : List (List UInt8)} (h : Txt w v l) (hk : ∀ k, rdOf v = some k → w'.heap[k]? = w.heap[k]?) : Txt w' v l := by
  obtain ⟨A, cap, rfl, h1, h2, h3⟩ := h
  refine ⟨A, cap, rfl, h1, h2, h3.1, fun hn => ?_⟩
  obtain ⟨ad, rfl, hc⟩ := h3.2 hn
  refine ⟨ad, rfl, fun j u hu => ?_⟩
  have hb : w'.heap[ad.block]? = w.heap[ad.block]? := by
    apply hk
    obtain ⟨m, hm⟩ : ∃ m, l.length = m + 1 := ⟨l.length - 1, by omega⟩
    rw [hm]; rfl
  rw [World.cell?_of_block (w := w) (by rw [block_of_add]; exact hb)]
  exact hc j u hu
theorem Txt.chg {w w' : World} {S : Nat → Prop} {v : Value} {l : List (List UInt8)} (h : Txt w v l) (hc : Chg S w w') (hn : ∀ k, rdOf v = some k → ¬ S k) : Txt w' v l :=
  h.same fun k hk => hc.block k (h.lt hk) (hn k hk)
theorem Txt.below {w w' : World} {B : Nat} {v : Value} {l : List (List UInt8)} (h : Txt w v l) (hb : Below B w w') (hn : ∀ k, rdOf v = some k → k < B) : Txt w' v l :=
  h.same fun k hk => hb.block k (hn k hk)
theorem Txt.later {w w' : World} {v : Value} {l : List (List UInt8)} (h : Txt w v l) (hb : Below w.heap.size w w') : Txt w' v l := h.below hb fun _ hk => h.lt hk

set_option maxRecDepth 100000 in
theorem new_any (w : World) : Calls Try.prog 35 #[] w fun e w' => e = .returned (.pointer (some ⟨w.heap.size, 0, none⟩)) ∧ w' = w.alloc (.cells #[.slice none 0 0, .bool true] 72) := by
  go_enter Try.func35, Try.ntmps35
  go_wp2
  go_ret
  exact ⟨rfl, rfl⟩
theorem new_net (w : World) {B : Nat} (hB : B ≤ w.heap.size) : NetAt (w.alloc (.cells #[.slice none 0 0, .bool true] 72)) w.heap.size B (.slice none 0 0) [] :=
  ⟨Blk.new w 72 _, hB, Own.nil _ _ _ _⟩
/-- a copy of texts, in new memory -/
def Cloned (w : World) (l : List (List UInt8)) (e : Ending) (w' : World) : Prop := ∃ v', e = .returned v' ∧ Own w' w.heap.size 9 1 v' l.length (strs l) ∧ Below w.heap.size w w'
set_option maxRecDepth 100000 in
set_option maxHeartbeats 1000000 in
theorem clone_any {w : World} {v : Value} {l : List (List UInt8)} (h : Txt w v l) (hl : l.length ≤ 100000) : Calls Try.prog 85 #[v] w (Cloned w l) := by
  obtain ⟨i0, hi, hz0, hz1, hz2⟩ := info_parts info9
  obtain ⟨A, cap, rfl, h1, h2, h3⟩ := h
  unfold maxLen at h2
  cases A with
  | none =>
    have h0 : l.length = 0 := by
      rcases Nat.eq_zero_or_pos l.length with h0 | h0
      · exact h0
      · obtain ⟨ad, had, _⟩ := h3.2 h0; cases had
    have hnil : l = [] := List.eq_nil_of_length_eq_zero h0
    subst hnil
    have e1 : ∀ W, (binOp .eql 43 (.slice none 0 cap) (.slice none 0 0)).run Try.prog W = .ok (.bool true) W := fun W => Lib.run_eql_slice_nil W 43 9 none 0 cap 0 0 Try.underlying43
    go_enter Try.func85, Try.ntmps85
    go_wp2
    go_ret
    exact ⟨_, rfl, Own.nil _ _ _ _, Below.refl _ _⟩
  | some ad =>
    have e1 : ∀ W, (binOp .eql 43 (.slice (some ad) l.length cap) (.slice none 0 0)).run Try.prog W = .ok (.bool false) W := fun W => Lib.run_eql_slice_nil W 43 9 (some ad) l.length cap 0 0 Try.underlying43
    have hrd : Rd (w.alloc (.cells #[] 9)) (some ad) l.length 1 (strs l) := by
      refine ⟨h3.1, fun hn => ?_⟩
      obtain ⟨ad', had, hc⟩ := h3.2 hn
      injection had with had
      subst had
      refine ⟨ad, rfl, fun j u hu => ?_⟩
      have := hc j u hu
      rw [World.cell?_alloc_lt w _ _ (World.block_lt_of_cell? w _ this)]
      exact this
    have hown : Own (w.alloc (.cells #[] 9)) w.heap.size 9 1 (.slice (some ⟨w.heap.size, 0, none⟩) 0 0) 0 [] := Own.empty _ _ _ _ _
    go_enter Try.func85, Try.ntmps85
    go_wp2_with (at_builtin; refine wpList_append_Own _ rfl (.tmp 5) (.tmp 6) 43 rfl w.heap.size 9 i0 _ 1 16 Try.underlying43 hi hz0 hz1 hz2 rfl (by decide) (.slice (some ⟨w.heap.size, 0, none⟩) 0 0) _ _ rfl hown (some ad) l.length cap _ rfl hrd (strs_one l) (by unfold maxLen; omega) (by omega) (by simp) ?_; intro v' w3 ho4 hg4 hat4)
    go_ret
    refine ⟨v', rfl, by simpa using ho4, ((Below.refl _ _).alloc (Nat.le_refl _) _).grown hg4 (by simp) (by simp [blkOf])⟩

set_option maxRecDepth 100000 in
set_option maxHeartbeats 1000000 in
theorem frames_any {w : World} {g B : Nat} {v : Value} {l : List (List UInt8)} (h : NetAt w g B v l) (hl : l.length ≤ 100000) : Calls Try.prog 36 #[.pointer (some ⟨g, 0, none⟩)] w (Cloned w l) := by
  have hc : w.cell? ⟨g, 0, none⟩ = some v := h.blk.cell 0
  have HN := Lib.hid (none_any h)
  have HC := Lib.hid (clone_any (Txt.of h.own) hl)
  obtain ⟨A, cap, rfl, hncap, hcm, hrd⟩ := h.own.slice
  go_enter Try.func36, Try.ntmps36
  go_wp2_with fail
  refine HN.out.mono ?_
  rintro e w1 ⟨rfl, rfl⟩
  go_wp2_with fail
  refine HC.out.mono ?_
  rintro e w1 ⟨v', rfl, h1, h2⟩
  go_wp2
  go_ret
  exact ⟨v', rfl, h1, h2⟩
set_option maxRecDepth 100000 in
set_option maxHeartbeats 1000000 in
theorem len_any {w : World} {g B : Nat} {v : Value} {l : List (List UInt8)} (h : NetAt w g B v l) : Calls Try.prog 54 #[.pointer (some ⟨g, 0, none⟩)] w fun e w' => e = .returned (.int .i64 (l.length : Nat)) ∧ w = w' := by
  have hc : w.cell? ⟨g, 0, none⟩ = some v := h.blk.cell 0
  have HN := Lib.hid (none_any h)
  obtain ⟨A, cap, rfl, hncap, hcm, hrd⟩ := h.own.slice
  go_enter Try.func54, Try.ntmps54
  go_wp2_with fail
  refine HN.out.mono ?_
  rintro e w1 ⟨rfl, rfl⟩
  go_wp2
  go_ret
  exact ⟨rfl, rfl⟩
/-- a net of its own with the frames l -/
def NewNet (w : World) (l : List (List UInt8)) (e : Ending) (w' : World) : Prop :=
  ∃ g v', e = .returned (.pointer (some ⟨g, 0, none⟩)) ∧ NetAt w' g w.heap.size v' l ∧ Below w.heap.size w w'
set_option maxRecDepth 100000 in
set_option maxHeartbeats 1000000 in
theorem copy_any {w : World} {g B : Nat} {v : Value} {l : List (List UInt8)} (h : NetAt w g B v l) (hl : l.length ≤ 100000) : Calls Try.prog 51 #[.pointer (some ⟨g, 0, none⟩)] w (NewNet w l) := by
  have hc : w.cell? ⟨g, 0, none⟩ = some v := h.blk.cell 0
  have HN := Lib.hid (none_any h)
  have HC := Lib.hid (clone_any (Txt.of h.own) hl)
  obtain ⟨A, cap, rfl, hncap, hcm, hrd⟩ := h.own.slice
  go_enter Try.func51, Try.ntmps51
  go_wp2_with fail
  refine HN.out.mono ?_
  rintro e w1 ⟨rfl, rfl⟩
  go_wp2_with fail
  refine HC.out.mono ?_
  rintro e w1 ⟨v', rfl, h1, h2⟩
  obtain ⟨A2, cap2, rfl, _, _, _⟩ := h1.slice
  go_wp2
  go_ret
  exact ⟨w1.heap.size, _, rfl, ⟨Blk.new w1 72 _, h2.size, h1.alloc _⟩, h2.alloc h2.size _⟩
/-- a pointer to no net -/
def NoNet (w : World) (p : Value) : Prop := p = .pointer none ∨ ∃ g, p = .pointer (some ⟨g, 0, none⟩) ∧ w.cell? ⟨g, 1, none⟩ = some (.bool false)
theorem none_no {w : World} {p : Value} (h : NoNet w p) : Calls Try.prog 84 #[p] w fun e w' => e = .returned (.bool true) ∧ w = w' := by
  rcases h with rfl | ⟨g, rfl, hc⟩
  · exact none_nil w
  · exact none_zero hc
set_option maxRecDepth 100000 in
set_option maxHeartbeats 1000000 in
theorem send_no {w : World} {p : Value} (h : NoNet w p) (b : List UInt8) : Calls Try.prog 37 #[p, .string ⟨b.toArray⟩] w fun e w' => e = .returned (.int .i64 1) ∧ w = w' := by
  have HN := Lib.hid (none_no h)
  go_enter Try.func37, Try.ntmps37
  go_wp2_with fail
  refine HN.out.mono ?_
  rintro e w1 ⟨rfl, rfl⟩
  go_wp2
  go_ret
  exact ⟨rfl, rfl⟩
set_option maxRecDepth 100000 in
set_option maxHeartbeats 1000000 in
theorem at_none {w : World} {p : Value} (h : NoNet w p) (i : Int) (f : Value) : Calls Try.prog 86 #[p, .int .i64 i, f] w fun e w' => e = .returned (.int .i64 1) ∧ w = w' := by
  have HN := Lib.hid (none_no h)
  go_enter Try.func86, Try.ntmps86
  go_wp2_with fail
  refine HN.out.mono ?_
  rintro e w1 ⟨rfl, rfl⟩
  go_wp2
  go_ret
  exact ⟨rfl, rfl⟩
set_option maxRecDepth 100000 in
set_option maxHeartbeats 1000000 in
theorem drop_no {w : World} {p : Value} (h : NoNet w p) (i : Int) : Calls Try.prog 39 #[p, .int .i64 i] w fun e w' => e = .returned (.int .i64 1) ∧ w = w' := by
  have HN := Lib.hid (at_none h i (.func (.func 88) #[p] #[]))
  go_enter Try.func39, Try.ntmps39
  go_wp2_with fail
  refine HN.out.mono ?_
  rintro e w1 ⟨rfl, rfl⟩
  go_wp2
  go_ret
  exact ⟨rfl, rfl⟩
set_option maxRecDepth 100000 in
set_option maxHeartbeats 1000000 in
theorem double_no {w : World} {p : Value} (h : NoNet w p) (i : Int) : Calls Try.prog 40 #[p, .int .i64 i] w fun e w' => e = .returned (.int .i64 1) ∧ w = w' := by
  have HN := Lib.hid (at_none h i (.func (.func 89) #[p] #[]))
  go_enter Try.func40, Try.ntmps40
  go_wp2_with fail
  refine HN.out.mono ?_
  rintro e w1 ⟨rfl, rfl⟩
  go_wp2
  go_ret
  exact ⟨rfl, rfl⟩
set_option maxRecDepth 100000 in
set_option maxHeartbeats 1000000 in
theorem deliver_no {w : World} {p : Value} (h : NoNet w p) (i : Int) : Calls Try.prog 38 #[p, .int .i64 i] w fun e w' => e = .returned (.tuple #[.string ⟨#[]⟩, .int .i64 1]) ∧ Below w.heap.size w w' := by
  have h2 : NoNet ((w.alloc (.cells #[p] 41)).alloc (.cells #[.string ⟨#[]⟩] 9)) p := by
    rcases h with rfl | ⟨g, rfl, hc⟩
    · exact .inl rfl
    · refine .inr ⟨g, rfl, ?_⟩
      have hlt := World.block_lt_of_cell? w _ hc
      rw [World.cell?_alloc_lt _ _ _ (by simp at hlt ⊢; omega), World.cell?_alloc_lt w _ _ hlt]
      exact hc
  have hs2 : Blk ((w.alloc (.cells #[p] 41)).alloc (.cells #[.string ⟨#[]⟩] 9)) (w.heap.size + 1) 9 #[.string ⟨#[]⟩] := by
    have := Blk.new (w.alloc (.cells #[p] 41)) 9 #[.string ⟨#[]⟩]
    simpa using this
  have hc3 := hs2.cell 0
  have hp : ∃ q, p = .pointer q := by
    rcases h with rfl | ⟨g, rfl, hc⟩ <;> exact ⟨_, rfl⟩
  obtain ⟨q, rfl⟩ := hp
  have HN := Lib.hid (at_none h2 i (.func (.func 87) #[] #[.pointer (some ⟨w.heap.size, 0, none⟩), .pointer (some ⟨w.heap.size + 1, 0, none⟩)]))
  go_enter Try.func38, Try.ntmps38
  go_wp2_with fail
  refine HN.out.mono ?_
  rintro e w1 ⟨rfl, rfl⟩
  go_wp2
  go_ret2
  exact ⟨rfl, ((Below.refl _ _).alloc (Nat.le_refl _) _).alloc (by simp) _⟩
set_option maxRecDepth 100000 in
set_option maxHeartbeats 1000000 in
theorem frames_no {w : World} {p : Value} (h : NoNet w p) : Calls Try.prog 36 #[p] w fun e w' => e = .returned (.slice none 0 0) ∧ w = w' := by
  have HN := Lib.hid (none_no h)
  go_enter Try.func36, Try.ntmps36
  go_wp2_with fail
  refine HN.out.mono ?_
  rintro e w1 ⟨rfl, rfl⟩
  go_wp2
  go_ret
  exact ⟨rfl, rfl⟩
set_option maxRecDepth 100000 in
set_option maxHeartbeats 1000000 in
theorem len_no {w : World} {p : Value} (h : NoNet w p) : Calls Try.prog 54 #[p] w fun e w' => e = .returned (.int .i64 0) ∧ w = w' := by
  have HN := Lib.hid (none_no h)
  go_enter Try.func54, Try.ntmps54
  go_wp2_with fail
  refine HN.out.mono ?_
  rintro e w1 ⟨rfl, rfl⟩
  go_wp2
  go_ret
  exact ⟨rfl, rfl⟩
set_option maxRecDepth 100000 in
set_option maxHeartbeats 1000000 in
theorem copy_no {w : World} {p : Value} (h : NoNet w p) : Calls Try.prog 51 #[p] w fun e w' => e = .returned (.pointer none) ∧ w = w' := by
  have HN := Lib.hid (none_no h)
  go_enter Try.func51, Try.ntmps51
  go_wp2_with fail
  refine HN.out.mono ?_
  rintro e w1 ⟨rfl, rfl⟩
  go_wp2
  go_ret
  exact ⟨rfl, rfl⟩
end Go.Proofs.Ytfojjklohbiffaa
