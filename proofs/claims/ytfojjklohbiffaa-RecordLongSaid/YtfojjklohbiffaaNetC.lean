/- Nets in memory: Deliver. -/
import Derived.Test.YtfojjklohbiffaaNetB
namespace Go.Proofs.Ytfojjklohbiffaa
open Go.RowKit Tran
theorem NetAt.far {w : World} {g B : Nat} {v : Value} {l : List (List UInt8)} (h : NetAt w g B v l) {p : Addr} (hg : g ≠ p.block) (hv : blkOf v ≠ some p.block) (u : Value) : NetAt (w.setCell p u) g B v l :=
  ⟨h.blk.far hg u, h.ge, h.own.far hv u⟩
theorem NetAt.alloc {w : World} {g B : Nat} {v : Value} {l : List (List UInt8)} (h : NetAt w g B v l) (o : Obj) : NetAt (w.alloc o) g B v l := ⟨h.blk.alloc o, h.ge, h.own.alloc o⟩
theorem NetAt.chg {w w' : World} {g B : Nat} {v : Value} {l : List (List UInt8)} {S : Nat → Prop} (h : NetAt w g B v l) (hc : Chg S w w') (hg : ¬ S g) (hv : ∀ k, blkOf v = some k → ¬ S k) : NetAt w' g B v l :=
  ⟨h.blk.chg hc hg, h.ge, h.own.chg hc hv⟩
theorem NetAt.lt {w : World} {g B : Nat} {v : Value} {l : List (List UInt8)} (h : NetAt w g B v l) : g < w.heap.size ∧ ∀ k, blkOf v = some k → k < w.heap.size := ⟨h.blk.lt, fun k hk => (h.own.lt k hk).2⟩
/-- what delivering at a place leaves -/
def TookAt (w : World) (g B bs : Nat) (v : Value) (s : List UInt8) (l' : List (List UInt8)) (e : Ending) (w' : World) : Prop :=
  ∃ v', e = .returned (.int .i64 0) ∧ NetAt w' g B v' l' ∧ Moved w v v' ∧ Blk w' bs 9 #[.string ⟨s.toArray⟩] ∧ Chg (fun k => k = g ∨ blkOf v = some k ∨ k = bs) w w'
set_option maxRecDepth 100000 in
set_option maxHeartbeats 1000000 in
theorem deliver1_any {w : World} {g B bn bs : Nat} {v x : Value} {l : List (List UInt8)} (h : NetAt w g B v l) (hB : B ≤ w.heap.size) (hl : l.length ≤ 5000) (p : Nat) (hp : p < l.length)
    (hn : Blk w bn 41 #[.pointer (some ⟨g, 0, none⟩)]) (hs : Blk w bs 9 #[x]) (hne : blkOf v ≠ some bs) :
    Calls Try.prog 87 #[.int .i64 p, .pointer (some ⟨bn, 0, none⟩), .pointer (some ⟨bs, 0, none⟩)] w (TookAt w g B bs v l[p] (cutF l p)) := by
  have hc : w.cell? ⟨g, 0, none⟩ = some v := h.blk.cell 0
  have hcn : w.cell? ⟨bn, 0, none⟩ = some (.pointer (some ⟨g, 0, none⟩)) := hn.cell 0
  have hcs : w.cell? ⟨bs, 0, none⟩ = some x := hs.cell 0
  have hfs := hs.frozen 0
  have hgs : g ≠ bs := by
    rintro rfl
    have := h.blk
    unfold Blk at this hs
    rw [hs] at this
    injection this with this
    injection this with _ ht
    exact absurd ht (by decide)
  have hbns : bn ≠ bs := by
    rintro rfl
    unfold Blk at hn hs
    rw [hs] at hn
    injection hn with hn
    injection hn with _ ht
    exact absurd ht (by decide)
  have ho := h.own
  obtain ⟨q, cap, rfl, hcap, hbg, hqlt⟩ := ho.form (by omega)
  have hcp : w.cell? ⟨q, p, none⟩ = some (.string ⟨l[p].toArray⟩) := ho.cellAt (strs_get hp)
  have hcn2 : (w.setCell ⟨bs, 0, none⟩ (.string ⟨l[p].toArray⟩)).cell? ⟨bn, 0, none⟩ = some (.pointer (some ⟨g, 0, none⟩)) := (hn.far (p := ⟨bs, 0, none⟩) hbns _).cell 0
  have HG := Lib.hid (gone_any (h.far (p := ⟨bs, 0, none⟩) hgs hne (.string ⟨l[p].toArray⟩)) (by simpa [World.setCell] using hB) p hp hl)
  have hs2 := hs.set_ 0 (.string ⟨l[p].toArray⟩)
  have HNE := Lib.hid hne; clear hne
  go_enter Try.func87, Try.ntmps87
  go_wp2_with fail
  refine HG.out.mono ?_
  rintro e w1 ⟨v', rfl, h1, h2, h3⟩
  go_wp2
  go_ret
  refine ⟨v', rfl, h1, ?_, ?_, ?_⟩
  · rcases h2 with h2 | h2
    · exact .inl h2
    · exact .inr fun k hk => by have := h2 k hk; simpa [World.setCell] using this
  · exact hs2.chg h3 (by
      rintro (rfl | e)
      · exact hgs rfl
      · exact HNE.out e)
  · exact ((Chg.refl (fun k => k = g ∨ blkOf (.slice (some ⟨q, 0, none⟩) l.length cap) = some k ∨ k = bs) w).setCell (p := ⟨bs, 0, none⟩) (.inl (.inr (.inr rfl))) _).then_ h3 (by
      rintro k _ (rfl | e)
      · exact .inl rfl
      · exact .inr (.inl e))
set_option maxRecDepth 100000 in
set_option maxHeartbeats 1000000 in
theorem at_deliver {w : World} {g B bn bs : Nat} {v x : Value} {l : List (List UInt8)} (h : NetAt w g B v l) (hB : B ≤ w.heap.size) (hl : l.length ≤ 5000) (p : Nat) (hp : p < l.length)
    (hn : Blk w bn 41 #[.pointer (some ⟨g, 0, none⟩)]) (hs : Blk w bs 9 #[x]) (hne : blkOf v ≠ some bs) :
    Calls Try.prog 86 #[.pointer (some ⟨g, 0, none⟩), .int .i64 p, .func (.func 87) #[] #[.pointer (some ⟨bn, 0, none⟩), .pointer (some ⟨bs, 0, none⟩)]] w (TookAt w g B bs v l[p] (cutF l p)) := by
  have hc : w.cell? ⟨g, 0, none⟩ = some v := h.blk.cell 0
  have HG := Lib.hid (deliver1_any h hB hl p hp hn hs hne)
  obtain ⟨A, cap, rfl, hncap, hcm, hrd⟩ := h.own.slice
  unfold maxLen at hcm
  have HN := Lib.hid (none_any h)
  have HNE := Lib.hid hne; clear hne
  go_enter Try.func86, Try.ntmps86
  go_wp2_with fail
  refine HN.out.mono ?_
  rintro e w1 ⟨rfl, rfl⟩
  go_wp2_with fail
  refine HG.out.mono ?_
  rintro e w1 ⟨v', rfl, h1, h2, h3, h4⟩
  go_wp2
  go_ret
  exact ⟨v', rfl, h1, h2, h3, h4⟩
def takeF (l : List (List UInt8)) (p : Int) : List (List UInt8) × List UInt8 × Nat := if okPlace l p then (cutF l p.toNat, l.getD p.toNat [], 0) else (l, [], 7)
/-- what Deliver leaves -/
def Given (w : World) (g B : Nat) (v : Value) (r : List (List UInt8) × List UInt8 × Nat) (e : Ending) (w' : World) : Prop :=
  ∃ v', e = .returned (.tuple #[.string ⟨r.2.1.toArray⟩, .int .i64 (r.2.2 : Nat)]) ∧ NetAt w' g B v' r.1 ∧ Moved w v v' ∧ Chg (fun k => k = g ∨ blkOf v = some k) w w'
set_option maxRecDepth 100000 in
set_option maxHeartbeats 1000000 in
theorem deliver_any {w : World} {g B : Nat} {v : Value} {l : List (List UInt8)} (h : NetAt w g B v l) (hB : B ≤ w.heap.size) (hl : l.length ≤ 5000) (p : Int) :
    Calls Try.prog 38 #[.pointer (some ⟨g, 0, none⟩), .int .i64 p] w (Given w g B v (takeF l p)) := by
  have hn2 := (h.alloc (.cells #[.pointer (some ⟨g, 0, none⟩)] 41)).alloc (.cells #[.string ⟨#[]⟩] 9)
  have hs1 := (Blk.new w 41 #[.pointer (some ⟨g, 0, none⟩)]).alloc (.cells #[.string ⟨#[]⟩] 9)
  have hs2 : Blk ((w.alloc (.cells #[.pointer (some ⟨g, 0, none⟩)] 41)).alloc (.cells #[.string ⟨#[]⟩] 9)) (w.heap.size + 1) 9 #[.string ⟨#[]⟩] := by
    have := Blk.new (w.alloc (.cells #[.pointer (some ⟨g, 0, none⟩)] 41)) 9 #[.string ⟨#[]⟩]
    simpa using this
  have hne : blkOf v ≠ some (w.heap.size + 1) := fun e => by have := h.lt.2 _ e; omega
  by_cases hp : 0 ≤ p ∧ p < l.length
  · obtain ⟨n, rfl⟩ := Int.eq_ofNat_of_zero_le hp.1
    have hn : n < l.length := by omega
    have e : takeF l n = (cutF l n, l[n], 0) := by unfold takeF okPlace; rw [if_pos (by simp; exact hn)]; simp [hn]
    rw [e]
    have HG := Lib.hid (at_deliver hn2 (by simp; omega) hl n hn hs1 hs2 hne)
    have HNE := Lib.hid hne
    clear e hp hne hn2
    go_enter Try.func38, Try.ntmps38
    go_wp2_with fail
    refine HG.out.mono ?_
    rintro e w1 ⟨v', rfl, h1, h2, h3, h4⟩
    have hc3 := h3.cell 0
    go_wp2
    go_ret2
    refine ⟨v', rfl, h1, ?_, ?_⟩
    · rcases h2 with h2 | h2
      · exact .inl h2
      · exact .inr fun k hk => by have := h2 k hk; simp at this; omega
    · exact (((Chg.refl (fun k => k = g ∨ blkOf v = some k) w).alloc _).alloc _).then_ h4 (by
        rintro k hk (rfl | e | rfl)
        · exact .inl rfl
        · exact .inr e
        · omega)
  · have e : takeF l p = (l, [], 7) := by unfold takeF okPlace; rw [if_neg (by simpa using hp)]
    rw [e]
    have HG := Lib.hid (at_no hn2 p (by omega) (.func (.func 87) #[] #[.pointer (some ⟨w.heap.size, 0, none⟩), .pointer (some ⟨w.heap.size + 1, 0, none⟩)]))
    have hc3 := hs2.cell 0
    clear e hp hne
    go_enter Try.func38, Try.ntmps38
    go_wp2_with fail
    refine HG.out.mono ?_
    rintro e w1 ⟨rfl, rfl⟩
    go_wp2
    go_ret2
    exact ⟨v, rfl, hn2, .refl _ _, ((Chg.refl _ w).alloc _).alloc _⟩
end Go.Proofs.Ytfojjklohbiffaa
