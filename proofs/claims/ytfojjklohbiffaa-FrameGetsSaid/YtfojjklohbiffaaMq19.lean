/- Frames: all, May. -/
import Derived.Test.YtfojjklohbiffaaMq18
namespace Go.Proofs.Ytfojjklohbiffaa
open Go.RowKit Tran
set_option linter.unusedVariables false
set_option linter.unusedSimpArgs false
theorem op_at {w : World} {ps : List POp} {A : Option Addr} (h : Rd w A ps.length 29 (ps.flatMap pF)) (hg : ∀ p ∈ ps, p.good w) {k : Nat} (hk : k < ps.length) :
    ∃ ad, A = some ad ∧ ∀ j u, (opA ps[k].1 ps[k].2)[j]? = some u → w.cell? ((ad.add (k * 29)).add j) = some u := by
  obtain ⟨ad, h1, h2⟩ := rd_cells (fun p hp => pF_len p (hg p hp)) h hk
  exact ⟨ad, h1, fun j u hu => h2 j u (by simpa [opA, pF] using hu)⟩
theorem ix55 {W : World} {ad : Addr} {n c k : Nat} (hk : k < n) (hn : n ≤ 8796093022208) : (Instr.indexAt 55 (.slice (some ad) n c) (.int .i64 (k : Int))).run Try.prog W = .ok (.pointer (some (ad.add (k * 29)))) W := by
  have h1 : (0 : Int) ≤ (k : Int) := by omega
  have h2 : (k : Int) < (n : Int) := by omega
  go_simp
theorem ld122at {W : World} {ad : Addr} {cs : Array Value} (h : ∀ j u, cs[j]? = some u → W.cell? (ad.add j) = some u) (hs : cs.size = 29) : (loadVar 122 ad).run Try.prog W = .ok (.agg cs) W :=
  run_load_cells W ad 122 cs _ h Try.underlying122 rfl (by rw [hs]; exact size122)
set_option maxRecDepth 100000 in
set_option maxHeartbeats 4000000 in
theorem index_any (w : World) (A : Option Addr) (cap : Nat) (l : List Bool) (h : Rd w A l.length 1 (l.map Value.bool)) (hl : l.length ≤ 100) :
    Calls Try.prog 143 #[.slice A l.length cap, .bool false] w fun e w' => (∃ i : Int, e = .returned (.int .i64 i) ∧ ((0 : Int) ≤ i ↔ l.all id = false) ∧ i < 1000 ∧ -1000 < i) ∧ w = w' := by
  obtain ⟨n, hn⟩ : ∃ n, l.length = n := ⟨_, rfl⟩
  have HA := Lib.hid (fun k (hk : k < l.length) => show ∃ ad, A = some ad ∧ w.cell? (ad.add k) = some (.bool l[k]) by
    have e : (l.flatMap fun b => [Value.bool b]) = l.map Value.bool := by
      clear h hl hn hk
      induction l with
      | nil => rfl
      | cons b l ih => simp [ih]
    rw [← e] at h
    obtain ⟨ad, h1, h2⟩ := rd_cells (F := fun b => [Value.bool b]) (fun _ _ => rfl) h hk
    refine ⟨ad, h1, ?_⟩
    have h3 := h2 0 _ rfl
    rwa [addr_add0, Nat.mul_one] at h3)
  rw [hn]
  have HN := Lib.hid hn
  rw [hn] at hl
  clear h hn
  go_enter Try.func143, Try.ntmps143
  go_wp2_with fail
  go_loopw [5, 8] (fun j i wr => ∃ k : Nat, k ≤ n ∧ i = .int .i64 k ∧ (l.take k).all id = true ∧ wr = w) (fun _ i _ => n - (intOf i).toNat)
  case atStart => exact ⟨0, by omega, rfl, by simp, rfl⟩
  case round =>
    obtain ⟨k, hk, rfl, ht, rfl⟩ := hrel
    have HT := Lib.hid ht
    clear ht
    by_cases hlt : k < n
    · have hk2 : k < l.length := by have := HN.out; omega
      obtain ⟨ad, rfl, hc⟩ := HA.out k hk2
      have HG := Lib.hid (List.getElem?_eq_getElem hk2)
      generalize l[k] = b at *
      clear hk2
      cases b
      · go_wp2_with fail
        go_ret
        refine ⟨⟨k, rfl, ⟨fun _ => ?_, fun _ => by omega⟩, by omega, by omega⟩, rfl⟩
        have h := List.mem_of_getElem? HG.out
        rw [Bool.eq_false_iff]
        intro h2
        have := List.all_eq_true.1 h2 _ h
        simp at this
      · go_wp2_with fail
        go_roundw
        case rel =>
          refine ⟨k + 1, hlt, by go_num, ?_, by simp⟩
          rw [List.take_add_one, HG.out, List.all_append, HT.out]
          rfl
        case measure => simp [intOf]; omega
    · go_wp2_with fail
      go_ret
      refine ⟨⟨-1, rfl, ⟨fun h => by omega, fun h => ?_⟩, by omega, by omega⟩, rfl⟩
      have h2 := HT.out
      rw [List.take_of_length_le (by have := HN.out; omega), h] at h2
      cases h2
set_option maxRecDepth 100000 in
theorem contains_any (w : World) (A : Option Addr) (cap : Nat) (l : List Bool) (h : Rd w A l.length 1 (l.map Value.bool)) (hl : l.length ≤ 100) :
    Calls Try.prog 129 #[.slice A l.length cap, .bool false] w fun e w' => e = .returned (.bool (!(l.all id))) ∧ w = w' := by
  have C := Lib.hid (index_any w A cap l h hl)
  have hx : ∃ r, l.all id = r := ⟨_, rfl⟩
  obtain ⟨r, hr⟩ := hx
  rw [hr] at C ⊢
  clear h hl hr
  go_enter Try.func129, Try.ntmps129
  go_wp2_with fail
  refine C.out.mono ?_
  rintro e w1 ⟨⟨i, rfl, hi, h1, h2⟩, rfl⟩
  cases r
  · have h0 : (0 : Int) ≤ i := hi.2 rfl
    go_wp2_with fail
    go_ret
    exact ⟨by simp, by simp⟩
  · have h0 : ¬ (0 : Int) ≤ i := fun h => by have := hi.1 h; cases this
    have h0' : i < 0 := by omega
    clear hi
    go_wp2_with fail
    go_ret
    exact ⟨by simp; omega, by simp⟩
set_option maxRecDepth 100000 in
/-- all -/
theorem all_any (w : World) (A : Option Addr) (cap : Nat) (l : List Bool) (h : Rd w A l.length 1 (l.map Value.bool)) (hl : l.length ≤ 100) :
    Calls Try.prog 98 #[.slice A l.length cap] w fun e w' => e = .returned (.bool (l.all id)) ∧ w = w' := by
  have C := Lib.hid (contains_any w A cap l h hl)
  obtain ⟨r, hr⟩ : ∃ r, l.all id = r := ⟨_, rfl⟩
  rw [hr] at C ⊢
  clear h hl hr
  go_enter Try.func98, Try.ntmps98
  go_wp2_with fail
  refine C.out.mono ?_
  rintro e w1 ⟨rfl, rfl⟩
  go_wp2_with fail
  go_ret
  exact ⟨by simp, by simp⟩
theorem all_new (w : World) (l : List Bool) (cells : Array Value) (hc : cells = (l.map Value.bool).toArray) (m : Nat) (hm : m = l.length) (hl : l.length ≤ 100) :
    Calls Try.prog 98 #[.slice (some ⟨w.heap.size, 0, none⟩) m m] (w.alloc (.cells cells 4)) fun e w' => e = .returned (.bool (l.all id)) ∧ w.alloc (.cells cells 4) = w' := by
  subst hm
  refine all_any _ _ _ l ⟨by simp, fun _ => ⟨⟨w.heap.size, 0, none⟩, rfl, fun j v hv => ?_⟩⟩ hl
  rw [lit_add, Nat.zero_add]
  refine ((Blk.new w 4 cells).cell j).trans ?_
  rw [hc]
  simpa using hv
set_option maxRecDepth 100000 in
theorem long_any (w : World) (x : NOp) (lv : Value) (h8 : x.dep.length = 8) (hL : Lns w lv x.lines) : Calls Try.prog 97 #[.agg (opA x lv)] w fun e w' => e = .returned (.bool (decide (16 < x.lines.length))) ∧ Below w.heap.size w w' := by
  obtain ⟨A, cap, rfl, hr, hll⟩ := hL
  have c28 := ((Blk.new w 122 (opA x (.slice A x.lines.length cap))).cell 28).trans (op_c28 x _ h8)
  have hb := (Below.refl w.heap.size w).alloc (Nat.le_refl _) (.cells (opA x (.slice A x.lines.length cap)) 122)
  have HB := Lib.hid hb
  clear hr h8 hb
  generalize opA x (.slice A x.lines.length cap) = X at *
  by_cases h : 16 < x.lines.length
  · rw [decide_eq_true h]
    go_enter Try.func97, Try.ntmps97
    go_wp2_with fail
    go_ret
    exact ⟨by simp; omega, HB.out⟩
  · rw [decide_eq_false h]
    go_enter Try.func97, Try.ntmps97
    go_wp2_with fail
    go_ret
    exact ⟨by simp; omega, HB.out⟩
set_option maxRecDepth 100000 in
set_option maxHeartbeats 4000000 in
/-- the first operation with too many lines -/
theorem indexf_any (w : World) (A : Option Addr) (cap : Nat) (ps : List POp) (h : Rd w A ps.length 29 (ps.flatMap pF)) (hl : ps.length ≤ 8796093022208) (hg : ∀ p ∈ ps, p.good w) :
    Calls Try.prog 128 #[.slice A ps.length cap, .func (.func 97) #[] #[]] w fun e w' => (∃ i : Int, e = .returned (.int .i64 i) ∧ ((0 : Int) ≤ i ↔ ∃ p ∈ ps, 16 < p.1.lines.length) ∧ i < 8796093022209 ∧ -1000 < i) ∧ Below w.heap.size w w' := by
  obtain ⟨n, hn⟩ : ∃ n, ps.length = n := ⟨_, rfl⟩
  have HA := Lib.hid (fun W (hb : Below w.heap.size w W) k (hk : k < ps.length) => op_at (h.later hb) (fun p hp => ⟨(hg p hp).1.later hb, (hg p hp).2⟩) hk)
  have HG := Lib.hid hg
  rw [hn]
  have HN := Lib.hid hn
  rw [hn] at hl
  clear h hn hg
  go_enter Try.func128, Try.ntmps128
  go_wp2_with fail
  go_loopw [5, 8] (fun j i wr => ∃ k : Nat, k ≤ n ∧ i = .int .i64 k ∧ (∀ p ∈ ps.take k, ¬ 16 < p.1.lines.length) ∧ Below w.heap.size w wr) (fun _ i _ => n - (intOf i).toNat)
  case atStart => exact ⟨0, by omega, rfl, by simp, Below.refl _ _⟩
  case round =>
    obtain ⟨k, hk, rfl, ht, hb⟩ := hrel
    have HT := Lib.hid ht
    have HB := Lib.hid hb
    clear ht hb
    by_cases hlt : k < n
    · have hk2 : k < ps.length := by have := HN.out; omega
      obtain ⟨ad, rfl, hc⟩ := HA.out _ HB.out k hk2
      have HGP := HG.out _ (List.getElem_mem hk2)
      have HQ := Lib.hid (List.getElem?_eq_getElem hk2)
      generalize ps[k] = q at *
      obtain ⟨x, lv⟩ := q
      simp only at hc
      have HC := Lib.hid hc
      have HS := Lib.hid (opA_size x lv HGP.2.dep8)
      have C := Lib.hid (fun W (hb : Below w.heap.size w W) => long_any W x lv HGP.2.dep8 (HGP.1.later hb))
      have HX : Hid ((⟨x, lv⟩ : POp).1 = x) := Lib.hid rfl
      clear hk2 hc HGP
      generalize opA x lv = X at *
      go_wp2_with (refine wpList_load_cells rfl 122 _ rfl (ad.add (k * 29)) rfl X _ (fun j u hj => HC.out j u hj) Try.underlying122 rfl (by rw [HS.out]; exact size122) ?_)
      refine (C.out _ HB.out).mono ?_
      rintro e w1 ⟨rfl, hb1⟩
      have HB1 := Lib.hid (HB.out.trans (hb1.mono HB.out.size))
      clear hb1
      by_cases h16 : 16 < x.lines.length
      · rw [decide_eq_true h16]
        have H16 := Lib.hid h16
        clear h16
        go_wp2_with fail
        go_ret
        refine ⟨⟨k, rfl, ⟨fun _ => ⟨_, List.mem_of_getElem? HQ.out, H16.out⟩, fun _ => by omega⟩, by omega, by omega⟩, HB1.out⟩
      · rw [decide_eq_false h16]
        have H16 := Lib.hid h16
        clear h16
        go_wp2_with fail
        go_roundw
        case rel =>
          refine ⟨k + 1, hlt, by go_num, ?_, HB1.out⟩
          rw [List.take_add_one, HQ.out]
          intro p hp
          rcases List.mem_append.1 hp with hp | hp
          · exact HT.out p hp
          · simp at hp; rw [hp]; exact H16.out
        case measure => simp [intOf]; omega
    · go_wp2_with fail
      go_ret
      refine ⟨⟨-1, rfl, ⟨fun h => by omega, fun h => ?_⟩, by omega, by omega⟩, HB.out⟩
      have h2 := HT.out
      rw [List.take_of_length_le (by have := HN.out; omega)] at h2
      obtain ⟨p, hp, h3⟩ := h
      exact absurd h3 (h2 p hp)
set_option maxRecDepth 100000 in
theorem containsf_any (w : World) (ov : Value) (ps : List POp) (h : Ops w ov ps) (r : Bool) (hr : r = true ↔ ∃ p ∈ ps, 16 < p.1.lines.length) :
    Calls Try.prog 96 #[ov, .func (.func 97) #[] #[]] w fun e w' => e = .returned (.bool r) ∧ Below w.heap.size w w' := by
  obtain ⟨A, cap, rfl, h1, h2, h3⟩ := h
  have C := Lib.hid (indexf_any w A cap ps h1 h2 h3)
  have HR := Lib.hid hr
  clear h1 h2 h3 hr
  go_enter Try.func96, Try.ntmps96
  go_wp2_with fail
  refine C.out.mono ?_
  rintro e w1 ⟨⟨i, rfl, hi, h1, h2⟩, hb⟩
  have HI := Lib.hid hi
  clear hi
  cases r
  · have h0 : ¬ (0 : Int) ≤ i := fun h => absurd (HR.out.2 (HI.out.1 h)) (by simp)
    have h0' : i < 0 := by omega
    go_wp2_with fail
    go_ret
    exact ⟨by simp; omega, hb⟩
  · have h0 : (0 : Int) ≤ i := HI.out.2 (HR.out.1 (by simp))
    go_wp2_with fail
    go_ret
    exact ⟨by simp, hb⟩
/-- which frames may be -/
def mayF (x : NFrame) : Prop := x.kind ≤ 1 ∧ x.src < 8 ∧ x.dst < 8 ∧ x.src ≠ x.dst ∧ (x.kind = 1 ∨ x.ops = []) ∧ x.ops.length ≤ 64 ∧ ¬ ∃ p ∈ x.ops, 16 < p.1.lines.length
set_option maxRecDepth 100000 in
set_option maxHeartbeats 4000000 in
theorem may_any (w : World) (x : NFrame) (ov : Value) (hx : x.ok) (hO : Ops w ov x.ops) : Calls Try.prog 46 #[.agg (frA x ov)] w (Tells w (mayF x)) := by
  obtain ⟨r, hr⟩ := bool_of (∃ p ∈ x.ops, 16 < p.1.lines.length)
  have k0 := Blk.new w 57 (frA x ov)
  have hb := (Below.refl w.heap.size w).alloc (Nat.le_refl _) (.cells (frA x ov) 57)
  have C := Lib.hid (fun W (h : Below w.heap.size w W) => containsf_any W ov x.ops (hO.later h) r hr)
  obtain ⟨A, cap, rfl, hrd, hlen, hgood⟩ := hO
  have F0 := Lib.hid (fun W (h : Blk W w.heap.size 57 (frA x (.slice A x.ops.length cap))) => (h.cell 0).trans (fr_c0 x _))
  have F1 := Lib.hid (fun W (h : Blk W w.heap.size 57 (frA x (.slice A x.ops.length cap))) => (h.cell 1).trans (fr_c1 x _))
  have F2 := Lib.hid (fun W (h : Blk W w.heap.size 57 (frA x (.slice A x.ops.length cap))) => (h.cell 2).trans (fr_c2 x _))
  have F11 := Lib.hid (fun W (h : Blk W w.heap.size 57 (frA x (.slice A x.ops.length cap))) => (h.cell 11).trans (fr_c11 x _ hx.have8))
  have c11 := F11.out _ k0
  have K0 := Lib.hid k0
  have HB := Lib.hid hb
  have b0 := hx.kind
  have b1 := hx.src
  have b2 := hx.dst
  have HR := Lib.hid hr
  have HE := Lib.hid (show x.ops = [] ↔ x.ops.length = 0 from List.length_eq_zero_iff.symm)
  clear k0 hb hrd hgood hr hx
  obtain ⟨n, hn⟩ : ∃ n, x.ops.length = n := ⟨_, rfl⟩
  have HM := Lib.hid (show mayF x ↔ (x.kind ≤ 1 ∧ x.src < 8 ∧ x.dst < 8 ∧ x.src ≠ x.dst ∧ (x.kind = 1 ∨ x.ops = []) ∧ n ≤ 64 ∧ ¬ ∃ p ∈ x.ops, 16 < p.1.lines.length) by unfold mayF; rw [hn])
  rw [hn] at HE c11 F11 F0 F1 F2 K0 HB C hlen ⊢
  clear hn
  generalize frA x (.slice A n cap) = X at *
  go_enter Try.func46, Try.ntmps46
  go_wp2_with fail
  refine (C.out _ HB.out).mono ?_
  rintro e w1 ⟨rfl, hb1⟩
  have K1 := Lib.hid (K0.out.below hb1 K0.out.lt)
  have HB1 := Lib.hid (HB.out.trans (hb1.mono HB.out.size))
  have f0 := F0.out _ K1.out
  have f1 := F1.out _ K1.out
  have f2 := F2.out _ K1.out
  have f11 := F11.out _ K1.out
  clear hb1 c11
  have HB2 := Lib.hid (fun o => HB1.out.alloc HB1.out.size o)
  by_cases hk : x.kind = 1
  · have hkd : decide ((x.kind : Int) = 1) = true := decide_eq_true (by omega)
    go_wp2_with fail
    all_goals
      refine (all_new w1 [_, _, _, _, _, _] _ rfl 6 rfl (by simp)).mono ?_
      rintro e w2 ⟨rfl, rfl⟩
      go_wp2_with fail
      refine bodyPost_ret (results_tmp rfl _ _ _) rfl ?_
      refine ⟨_, rfl, ?_, HB2.out _⟩
      rw [HM.out, ← HR.out, HE.out]
      clear HM HR HE C F0 F1 F2 F11
      cases r <;> simp <;> omega
  · have hkd : decide ((x.kind : Int) = 1) = false := decide_eq_false (by omega)
    go_wp2_with fail
    all_goals
      refine (all_new w1 [_, _, _, _, _, _] _ rfl 6 rfl (by simp)).mono ?_
      rintro e w2 ⟨rfl, rfl⟩
      go_wp2_with fail
      refine bodyPost_ret (results_tmp rfl _ _ _) rfl ?_
      refine ⟨_, rfl, ?_, HB2.out _⟩
      rw [HM.out, ← HR.out, HE.out]
      clear HM HR HE C F0 F1 F2 F11
      cases r <;> simp <;> omega
end Go.Proofs.Ytfojjklohbiffaa
