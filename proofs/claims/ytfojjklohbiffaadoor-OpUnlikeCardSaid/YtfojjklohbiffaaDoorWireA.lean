/- Writers in memory: New, Num, Text, Bytes. -/
import Derived.Test.YtfojjklohbiffaaDoorProg
import Derived.Test.YtfojjklohbiffaaDoorOwn
import Derived.Test.YtfojjklohbiffaaDoorWireP
import Derived.Deep.RegionLaw
import Derived.WalkMore
import Derived.ScopeJumps
import Derived.Scope
namespace Go.Proofs.YtfojjklohbiffaaDoor
open Go.RowKit Tran Tran.Wire
set_option linter.unusedVariables false
/-- the writer at block g has written l, in the slice v -/
structure WrAt (w : World) (g B : Nat) (v : Value) (l : List UInt8) : Prop where
  blk : Blk w g 89 #[v, .bool true]
  ge : B ≤ g
  own : Own w B 5 1 v l.length (bc l)
theorem info5w : (Tryd.prog.info? 5).map (fun i => (i.zero, i.size, i.bytes)) = some (some (.int .u8 0), 1, 1) := by kernel_rfl
/-- from w to w' the writer at g, with v first and v' then, has come to l' -/
structure Put (w w' : World) (g B : Nat) (v v' : Value) (l' : List UInt8) : Prop where
  wr : WrAt w' g B v' l'
  mv : Moved w v v'
  ch : Chg (fun k => k = g ∨ blkOf v = some k) w w'
/-- what a writing call leaves -/
def Wrote (w : World) (g B : Nat) (v : Value) (l' : List UInt8) (e : Ending) (w' : World) : Prop :=
  ∃ v', e = .returned (.tuple #[]) ∧ Put w w' g B v v' l'
theorem WrAt.below {w w' : World} {g B : Nat} {v : Value} {l : List UInt8} (h : WrAt w g B v l) (hb : Below w.heap.size w w') : WrAt w' g B v l :=
  ⟨h.blk.below hb h.blk.lt, h.ge, h.own.below hb (Nat.le_refl _)⟩
theorem WrAt.chg {w w' : World} {g B : Nat} {v : Value} {l : List UInt8} {S : Nat → Prop} (h : WrAt w g B v l) (hc : Chg S w w') (hg : ¬ S g) (hv : ∀ k, blkOf v = some k → ¬ S k) : WrAt w' g B v l :=
  ⟨h.blk.chg hc hg, h.ge, h.own.chg hc hv⟩
theorem Put.refl {w : World} {g B : Nat} {v : Value} {l : List UInt8} (h : WrAt w g B v l) : Put w w g B v v l := ⟨h, .refl _ _, .refl _ _⟩
theorem Put.trans {w w1 w2 : World} {g B : Nat} {v v1 v2 : Value} {l1 l2 : List UInt8} (p : Put w w1 g B v v1 l1) (q : Put w1 w2 g B v1 v2 l2) : Put w w2 g B v v2 l2 := by
  have hs := p.ch.size
  refine ⟨q.wr, ?_, p.ch.then_ q.ch fun k hk hS => ?_⟩
  · rcases q.mv with h | h
    · rcases p.mv with h2 | h2
      · exact .inl (h.trans h2)
      · exact .inr fun k hk => h2 k (h ▸ hk)
    · exact .inr fun k hk => by have := h k hk; omega
  · rcases hS with h | h
    · exact .inl h
    · rcases p.mv with h2 | h2
      · exact .inr (h2 ▸ h)
      · have := h2 k h; omega
theorem Put.below {w w1 w2 : World} {g B : Nat} {v v1 : Value} {l1 : List UInt8} (p : Put w w1 g B v v1 l1) (hb : Below w1.heap.size w1 w2) : Put w w2 g B v v1 l1 :=
  ⟨p.wr.below hb, p.mv, p.ch.below hb p.ch.size⟩
theorem Put.toBelow {w w' : World} {g B : Nat} {v v' : Value} {l l' : List UInt8} (p : Put w w' g B v v' l') (h : WrAt w g B v l) (hB : B ≤ w.heap.size) : Below B w w' :=
  p.ch.toBelow hB (by
    rintro k _ (rfl | hk)
    · exact h.ge
    · exact (h.own.lt k hk).1)
/-- an append to the writer's bytes, stored -/
theorem WrAt.put {w w3 : World} {g B : Nat} {v v' : Value} {l l' : List UInt8} (h : WrAt w g B v l) (ho : Own w3 B 5 1 v' l'.length (bc l')) (hg : w.grownBy w3 (blkOf v)) (hat : blkOf v' = blkOf v ∨ blkOf v' = some w.heap.size) :
    Put w (w3.setCell ⟨g, 0, none⟩ v') g B v v' l' := by
  have hne : some g ≠ blkOf v := fun e => h.own.ne_ h.blk (by decide) e.symm
  have hb3 := h.blk.grown hg hne
  have hx := ho.ne_ hb3 (by decide)
  refine ⟨⟨hb3.set_ 0 _, h.ge, ho.far hx _⟩, ?_, (((Chg.refl _ w)).grown hg (fun k hk => .inl (.inr hk))).setCell (.inl (.inl rfl)) _⟩
  rcases hat with h4 | h4
  · exact .inl h4
  · exact .inr fun k hk => by rw [h4] at hk; injection hk with hk; omega
theorem below_drew {B : Nat} {a w : World} (h : Below B a w) : Below B a w.drew := ⟨h.os, h.tape, h.output, h.size, h.block⟩
theorem wp_scope_jumps3 {P : Program} {a : Act} {w : World} {Q : Exit → Act → World → Prop} {c d : Code} (l : Nat) (J : Act → World → Prop) (μ : Act → World → Nat) (hf : findLabel c l = some (Code.skip.seq d))
    (first : (∀ a w, J a w → d.wp P (Exit.jump l J Q) a w) → c.wp P (Exit.jump l J Q) a w)
    (pass : ∀ a w, J a w → d.wp P (Exit.jump l (fun a' w' => J a' w' ∧ μ a' w' < μ a w) Q) a w) : (Code.scope c).wp P Q a w := by
  refine wp_scope_jumps l J μ hf (first fun a w hJ b k cs => ?_) fun a w hJ => wp_seq (wp_skip (pass a w hJ))
  obtain ⟨e, a', w', hq, ha⟩ := pass a w hJ b k cs
  refine ⟨e, a', w', ?_, ha⟩
  cases e with
  | goto l' => exact ⟨hq.1, hq.2.1⟩
  | _ => exact hq
def intOf : Value → Int | .int _ q => q | _ => 0
set_option maxRecDepth 100000 in
set_option maxHeartbeats 1000000 in
theorem wnew_any (w : World) : Calls Tryd.prog 27 #[] w fun e w' => e = .returned (.pointer (some ⟨w.heap.size, 0, none⟩)) ∧ w' = w.alloc (.cells #[.slice none 0 0, .bool true] 89) := by
  go_enter Tryd.func27, Tryd.ntmps27
  go_wp2
  go_ret
  exact ⟨rfl, rfl⟩
theorem new_wr (w : World) {B : Nat} (hB : B ≤ w.heap.size) : WrAt (w.alloc (.cells #[.slice none 0 0, .bool true] 89)) w.heap.size B (.slice none 0 0) [] :=
  ⟨Blk.new w 89 _, hB, Own.nil _ _ _ _⟩
set_option maxRecDepth 100000 in
set_option maxHeartbeats 2000000 in
theorem wnum_any {w : World} {g B : Nat} {v : Value} {l : List UInt8} (h : WrAt w g B v l) (hB : B ≤ w.heap.size) (hl : l.length ≤ 1000000000) (n : Nat) (hn : n < 2 ^ 64) :
    Calls Tryd.prog 29 #[.pointer (some ⟨g, 0, none⟩), .int .u64 n] w (Wrote w g B v (l ++ numF n)) := by
  obtain ⟨i0, hi, hz0, hz1, hz2⟩ := info_parts info5w
  have hc : w.cell? ⟨g, 0, none⟩ = some v := h.blk.cell 0
  have hc1 : w.cell? ⟨g, 1, none⟩ = some (.bool true) := h.blk.cell 1
  have hfz := h.blk.frozen 0
  obtain ⟨A, cap, rfl, hncap, hcm, hrd⟩ := h.own.slice
  have ho := h.own
  have hbk := h.blk
  have hge := h.ge
  have hn5 : blkOf (Value.slice A l.length cap) ≠ some g := ho.ne_ hbk (by decide)
  have HNE := Lib.hid hn5; clear hn5
  by_cases h1 : n < 128
  · have HS := Lib.hid (p := numF n = [UInt8.ofNat n]) (by unfold numF; rw [if_pos h1])
    clear hn
    go_enter Tryd.func29, Tryd.ntmps29
    go_step3
    go_wp2_with (at_builtin; refine wpList_append_Own _ rfl (.tmp 20) (.tmp 23) 48 rfl B 5 i0 _ 1 1 Tryd.underlying48 hi hz0 hz1 hz2 rfl (by decide) (.slice A l.length cap) _ _ rfl (ho.alloc _) (some ⟨w.heap.size, 0, none⟩) 1 1 [_] rfl (Rd.one w _ 5) (by intro u hu; simp at hu; subst hu; rfl) (by unfold maxLen; omega) (by omega) (by simp; omega) ?_; intro v' w3 ho4 hg4 hat4; obtain ⟨A2, cap2, rfl, _, _, _⟩ := ho4.slice; have hbk3 := (hbk.alloc (.cells #[Value.int .u8 (n : Int)] 5)).grown hg4 (fun e => HNE.out e.symm); have hc3 := hbk3.cell 0; have hf3 := hbk3.frozen 0)
    rw [Exit.noGoto_ret]
    refine bodyPost_ret (results_none rfl _ _ _) rfl ?_
    have l1 := (Below.refl w.heap.size w).alloc (Nat.le_refl _) (.cells #[Value.int .u8 (n : Int)] 5)
    have ho5 : Own w3 B 5 1 (.slice A2 (l.length + 1) cap2) (l ++ [UInt8.ofNat n]).length (bc (l ++ [UInt8.ofNat n])) := by
      rw [bc_append, List.length_append]
      have e : bc [UInt8.ofNat n] = [.int .u8 (n : Int)] := by simp [bc]; omega
      rw [e]; exact ho4
    refine ⟨.slice A2 (l.length + 1) cap2, rfl, ?_⟩
    rw [HS.out]
    exact ((Put.refl h).below l1).trans ((h.below l1).put ho5 hg4 hat4)
  · clear hrd hcm
    go_enter Tryd.func29, Tryd.ntmps29
    refine wp_scope_jumps3 0 (fun a' w' => w' = w ∧ ∃ (s : Nat) (u5 u6 u7 u8 u9 u10 u11 u12 u13 u14 u15 u27 u28 u29 u30 u31 u32 u33 u34 u35 u36 u37 : Value), a' = { tmps := #[.pointer (some ⟨g, 0, none⟩), .int .u64 n, undef, undef, .int .i64 s, u5, u6, u7, u8, u9, u10, u11, u12, u13, u14, u15, undef, undef, undef, undef, undef, undef, undef, undef, undef, undef, undef, u27, u28, u29, u30, u31, u32, u33, u34, u35, u36, u37, undef, undef, undef, undef, undef, undef, undef, undef, undef, undef, undef, undef, undef, undef, undef, undef, undef, undef, undef, undef, undef, undef, undef, undef, undef, undef, undef, undef, undef, undef, undef, undef], defers := [] } ∧ 1 ≤ s ∧ s ≤ 8 ∧ 0 < n / 256 ^ (s - 1)) (fun a' _ => 8 - (intOf (a'.tmps.getD 4 undef)).toNat) rfl ?_ ?_
    · intro HP
      have HP := Lib.hid HP
      go_wp2
      go_step3
      rename_i hK
      refine hK _ _ (HP.out _ _ ⟨rfl, 1, _, _, _, _, _, _, _, _, _, _, _, _, _, _, _, _, _, _, _, _, _, _, rfl, by omega, by omega, by rw [Nat.sub_self, Nat.pow_zero, Nat.div_one]; omega⟩)
    · rintro a' w' ⟨rfl, s, u5, u6, u7, u8, u9, u10, u11, u12, u13, u14, u15, u27, u28, u29, u30, u31, u32, u33, u34, u35, u36, u37, rfl, hs1, hs8, hs0⟩
      have hpw : ∀ j : Nat, (2 : Int) ^ (8 * j) = ((256 ^ j : Nat) : Int) := fun j => by rw [Int.pow_mul]; norm_cast
      have hdv : ∀ j : Nat, (n : Int) / 2 ^ (8 * j) = ((n / 256 ^ j : Nat) : Int) := fun j => by rw [hpw]; norm_cast
      by_cases hlp : s < 8 ∧ 0 < n / 256 ^ s
      · obtain ⟨hs, hp⟩ := hlp
        have hpz : (0 : Int) < (n : Int) / 2 ^ (8 * s) := by rw [hdv]; exact_mod_cast hp
        clear hpw hdv hn
        go_wp2
        go_step3
        have e : ((s : Int) + 1) = ((s + 1 : Nat) : Int) := by simp
        rw [e]
        exact ⟨rfl, ⟨rfl, s + 1, _, _, _, _, _, _, _, _, _, _, _, _, _, _, _, _, _, _, _, _, _, _, rfl, by omega, by omega, by simpa using hp⟩, by simp [intOf]; omega⟩
      · have hdl : (dig n).length = s := by
          obtain ⟨t, rfl⟩ : ∃ t, s = t + 1 := ⟨s - 1, by omega⟩
          refine dig_length ?_ (by simpa using hs0)
          by_cases ht : t + 1 < 8
          · exact Nat.eq_zero_of_not_pos fun h => hlp ⟨ht, h⟩
          · have : t = 7 := by omega
            subst this
            rw [Nat.div_eq_of_lt]; exact Nat.lt_of_lt_of_le hn (by decide)
        have hex : (s < 8 ∧ ¬ (0 : Int) < (n : Int) / 2 ^ (8 * s)) ∨ ¬ s < 8 := by
          by_cases h8 : s < 8
          · refine .inl ⟨h8, ?_⟩
            rw [hdv]; have := fun h => hlp ⟨h8, h⟩
            intro h; exact this (by exact_mod_cast h)
          · exact .inr h8
        have HDV := Lib.hid hdv
        have HDL := Lib.hid hdl
        clear hpw hdv hn hlp hdl hs0
        rcases hex with ⟨hs, hz⟩ | hs
        all_goals
          go_wp2_with (at_builtin; refine wpList_append_Own _ rfl (.tmp 42) (.tmp 46) 48 rfl B 5 i0 _ 1 1 Tryd.underlying48 hi hz0 hz1 hz2 rfl (by decide) (.slice A l.length cap) _ _ rfl (ho.alloc _) (some ⟨w'.heap.size, 0, none⟩) 1 1 [_] rfl (Rd.one w' _ 5) (by intro u hu; simp at hu; subst hu; rfl) (by unfold maxLen; omega) (by omega) (by simp; omega) ?_; intro v' w3 ho4 hg4 hat4; obtain ⟨A2, cap2, rfl, _, _, _⟩ := ho4.slice; have hbk3 := (hbk.alloc (.cells #[Value.int .u8 (128 + (s : Int))] 5)).grown hg4 (fun e => HNE.out e.symm); have hc3 := hbk3.cell 0; have hf3 := hbk3.frozen 0)
          have l1 := (Below.refl w'.heap.size w').alloc (Nat.le_refl _) (.cells #[Value.int .u8 (128 + (s : Int))] 5)
          have e8 : bc [UInt8.ofNat (128 + s)] = [.int .u8 (128 + (s : Int))] := by simp [bc]; omega
          have ho5 : Own w3 B 5 1 (.slice A2 (l.length + 1) cap2) (l ++ [UInt8.ofNat (128 + s)]).length (bc (l ++ [UInt8.ofNat (128 + s)])) := by
            rw [bc_append, List.length_append, e8]; exact ho4
          have p0 := Lib.hid (((Put.refl h).below l1).trans ((h.below l1).put ho5 hg4 hat4))
          have hg0 := h.ge
          clear ho5 e8 l1 hg4 hat4 hc3 hf3 hbk3 ho4 ho hbk hfz hc hc1
          go_loopw [4] (fun i wr => ∃ k : Nat, ∃ v1, k ≤ s ∧ i = .int .i64 ((s : Int) - 1 - k) ∧ Put w' wr g B (.slice A l.length cap) v1 (l ++ UInt8.ofNat (128 + s) :: (dig n).take k)) (fun i _ => (intOf i + 1).toNat)
          case atStart => exact ⟨0, _, by omega, by go_num, p0.out⟩
          case round =>
            clear p0
            obtain ⟨k, v1, hk, rfl, p⟩ := hrel
            by_cases hks : k < s
            · obtain ⟨j, hj⟩ : ∃ j : Nat, (s : Int) - 1 - k = (j : Nat) := ⟨s - 1 - k, by omega⟩
              rw [hj]
              have hj7 : j < 8 := by omega
              have hw8 : IntKind.i64.wrap (8 * (j : Int)) = 8 * (j : Int) := IntWalk.i64_in _ (by omega)
              obtain ⟨m, hm⟩ : ∃ m, m = l ++ UInt8.ofNat (128 + s) :: (dig n).take k := ⟨_, rfl⟩
              rw [← hm] at p
              have hll : m.length ≤ 1000000009 := by rw [hm]; simp; omega
              have hca : ∀ o, (wr.alloc o).cell? ⟨g, 0, none⟩ = some v1 := fun o => (p.wr.blk.alloc o).cell 0
              obtain ⟨b, hbb⟩ : ∃ b : UInt8, b = UInt8.ofNat (n / 256 ^ j) := ⟨_, rfl⟩
              have hby : IntKind.u8.wrap ((n : Int) / 2 ^ (8 * (j : Int)).toNat) = (b.toNat : Int) := by
                rw [show (8 * (j : Int)).toNat = 8 * j by omega, HDV.out, hbb, UInt8.toNat_ofNat']
                rfl
              have HBB := Lib.hid hbb
              have HM := Lib.hid hm
              clear hbb
              clear hm
              have hc := p.wr.blk.cell 0
              have hfz := p.wr.blk.frozen 0
              have hbk := p.wr.blk
              have ho := p.wr.own
              have hB4 : B ≤ wr.heap.size := Nat.le_trans hB p.ch.size
              obtain ⟨A4, cap4, rfl, _, hcm4, _⟩ := p.wr.own.slice
              have HNE6 := Lib.hid (p := some g ≠ blkOf (Value.slice A4 m.length cap4)) (fun e => ho.ne_ hbk (by decide) e.symm)
              go_wp2_with fail
              go_region_law (refine step_append_Own _ rfl (.tmp 60) (.tmp 66) 48 rfl B 5 i0 _ 1 1 Tryd.underlying48 hi hz0 hz1 hz2 rfl (by decide) (.slice A4 m.length cap4) _ _ (by simp [Act.eval]) (ho.alloc _).drew (some ⟨wr.heap.size, 0, none⟩) 1 1 [.int .u8 (b.toNat : Int)] (by simp [Act.eval]) (Rd.one wr _ 5) (by intro u hu; simp at hu; subst hu; rfl) (by unfold maxLen; omega) (by omega) (by simp; omega) ?_; intro v4 w5 ho6 hg6 hat6; obtain ⟨A5, cap5, rfl, _, _, _⟩ := ho6.slice; have hbk6 := (hbk.alloc _).drew.grown hg6 HNE6.out; have hc6 := hbk6.cell 0; have hf6 := hbk6.frozen 0)
              all_goals
                have d1 := below_drew ((Below.refl wr.heap.size wr).alloc (Nat.le_refl _) (.cells #[Value.int .u8 (b.toNat : Int)] 5))
                have e6 : Own w5 B 5 1 (.slice A5 (m.length + 1) cap5) (m ++ [b]).length (bc (m ++ [b])) := by
                  rw [bc_append, List.length_append]; exact ho6
                have p6 := p.trans (((Put.refl p.wr).below d1).trans ((p.wr.below d1).put e6 hg6 hat6))
                have em : m ++ [b] = l ++ UInt8.ofNat (128 + s) :: (dig n).take (k + 1) := by
                  have hk2 : k < (dig n).length := by rw [HDL.out]; exact hks
                  have hg := dig_get n k hk2
                  rw [HDL.out, show s - 1 - k = j by omega] at hg
                  rw [HM.out, HBB.out, List.take_succ_eq_append_getElem hk2, hg]; simp
                rw [em] at p6
                clear e6 em hbk6 hc6 hf6 hg6 hat6 ho6 d1
                go_wp2
                go_roundw
                case rel => exact ⟨k + 1, _, by omega, by first | go_num | exact congrArg (Value.int .i64) (by omega), p6⟩
                case measure => first | (simp [intOf]; done) | (simp [intOf]; omega)
            · have e : (s : Int) - 1 - k = -1 := by omega
              rw [e]
              have hkk : (dig n).take k = dig n := List.take_of_length_le (by rw [HDL.out]; omega)
              rw [hkk] at p
              go_wp2
              simp only [Exit.jump]
              refine bodyPost_end (results_none rfl _ _ _) rfl ?_
              refine ⟨v1, rfl, ?_⟩
              have : numF n = UInt8.ofNat (128 + s) :: dig n := by unfold numF; rw [if_neg h1, HDL.out]
              rw [this]; exact p
end Go.Proofs.YtfojjklohbiffaaDoor
