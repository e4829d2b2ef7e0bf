/- Items: whether they are great; one put. -/
import Derived.Test.YtfojjklohbiffaaItems
import Derived.Test.YtfojjklohbiffaaRes
import Derived.Test.YtfojjklohbiffaaWireF
namespace Go.Proofs.Ytfojjklohbiffaa
open Go.RowKit Tran Tran.Wire
set_option linter.unusedVariables false
def itemA (x : NItem) : Array Value := (itemF x).toArray
theorem itemA_size (x : NItem) (h : x.ok) : (itemA x).size = 14 := by simp [itemA, itemF_len x h]
theorem size84 : (Try.prog.info? 84).map (·.size) = some 14 := by kernel_rfl
theorem item_c0 (x : NItem) : (itemA x)[0]? = some (.int .u8 (x.kind : Int)) := by simp [itemA, itemF]
theorem item_c1 (x : NItem) : (itemA x)[1]? = some (.int .u64 (x.n : Int)) := by simp [itemA, itemF]
theorem item_c2 (x : NItem) : (itemA x)[2]? = some (.string ⟨x.s.toArray⟩) := by simp [itemA, itemF]
theorem item_c3 (x : NItem) : (itemA x)[3]? = some (.int .u8 (x.r : Int)) := by simp [itemA, itemF]
theorem item_c4 (x : NItem) : (itemA x)[4]? = some (.int .u32 (x.dn : Int)) := by simp [itemA, itemF]
theorem item_c5 (x : NItem) (j : Nat) (v : Value) (h : (vecA x.xs)[j]? = some v) : (itemA x)[5 + j]? = some v := by
  have hj : j < x.xs.length := by
    have := (Array.getElem?_eq_some_iff.1 h).1
    rwa [vecA_size] at this
  have e : itemA x = #[.int .u8 (x.kind : Int), .int .u64 (x.n : Int), .string ⟨x.s.toArray⟩, .int .u8 (x.r : Int), .int .u32 (x.dn : Int)] ++ (vecA x.xs ++ #[.int .u64 (x.most : Int)]) := by
    simp [itemA, itemF, vecA]
  rw [e, Array.getElem?_append_right (by simp), Array.getElem?_append_left (by simp [vecA_size]; omega)]
  simpa using h
theorem item_c13 (x : NItem) (h : x.ok) : (itemA x)[13]? = some (.int .u64 (x.most : Int)) := by
  simp [itemA, itemF]
  rw [List.getElem?_append_right (by simp [h.2.2.2.2.2.1])]
  simp [h.2.2.2.2.2.1]
/-- an item's bytes -/
def itemW (x : NItem) : List UInt8 :=
  if x.kind % 4 = 0 then numF x.n else if x.kind % 4 = 1 then textF x.s else if x.kind % 4 = 2 then dotF x.r x.dn else vecF x.xs
theorem itemW_len (x : NItem) (h : x.ok) (hs : x.s.length ≤ 100000000) : (itemW x).length ≤ 72 + x.s.length := by
  unfold itemW
  obtain ⟨_, h1, _, h3, h4, h5, h6, _⟩ := h
  split
  · have := (numF_len x.n h1).1; omega
  · split
    · have := (numF_len x.s.length (by omega)).1
      simp only [textF, List.length_append]; omega
    · split
      · have a := (numF_len x.r (by omega)).1
        have b := (numF_len x.dn (by omega)).1
        simp only [dotF, List.length_append]; omega
      · have := vecF_len x.xs h6
        omega
/-- what a writing call that answers leaves -/
def WroteV (w : World) (g B : Nat) (v : Value) (l' : List UInt8) (u : Value) (e : Ending) (w' : World) : Prop :=
  ∃ v', e = .returned u ∧ Put w w' g B v v' l'
set_option maxRecDepth 100000 in
set_option maxHeartbeats 4000000 in
theorem put02_any {w : World} {g B : Nat} {v : Value} {l : List UInt8} (h : WrAt w g B v l) (hB : B ≤ w.heap.size) (hl : l.length ≤ 800000000) (x : NItem) (hx : x.ok) (hs : x.s.length ≤ 10000) :
    Calls Try.prog 58 #[.pointer (some ⟨g, 0, none⟩), .agg (itemA x)] w (WroteV w g B v (l ++ itemW x) (.string ⟨(itemW x).toArray⟩)) := by
  have l0 := (Below.refl w.heap.size w).alloc (Nat.le_refl _) (.cells (itemA x) 84)
  have k0 := Blk.new w 84 (itemA x)
  have n0 := h.below l0
  have p0 := (Put.refl h).below l0
  have hc0 := (k0.cell 0).trans (item_c0 x)
  have hgw := h.blk.lt
  have hvw := fun k hk => (h.own.lt k hk).2
  obtain ⟨ok0, ok1, ok2, ok3, ok4, ok5, ok6, ok7⟩ := hx
  have HW := Lib.hid (show itemW x = if x.kind % 4 = 0 then numF x.n else if x.kind % 4 = 1 then textF x.s else if x.kind % 4 = 2 then dotF x.r x.dn else vecF x.xs from rfl)
  have hB0 : B ≤ (w.alloc (.cells (itemA x) 84)).heap.size := Nat.le_trans hB p0.ch.size
  have hne : ∀ k, (k = g ∨ blkOf v = some k) → ¬ w.heap.size = k := by
    rintro k (rfl | e) h
    · omega
    · have := hvw k e; omega
  have HNE := Lib.hid hne
  have P0 := Lib.hid p0
  have K0 := Lib.hid k0
  clear hne hgw hvw l0 p0 k0 h
  have hcs : x.kind % 4 = 0 ∨ x.kind % 4 = 1 ∨ x.kind % 4 = 2 ∨ x.kind % 4 = 3 := by omega
  have hkb : (x.kind : Int) % 4 = ((x.kind % 4 : Nat) : Int) := by omega
  have HKB := Lib.hid hkb
  clear hkb
  rcases hcs with hk | hk | hk | hk
  · have hi : itemW x = numF x.n := HW.out.trans (if_pos hk)
    rw [hi]
    have hm : (x.kind : Int) % 4 = 0 := by rw [HKB.out, hk]; rfl
    have N := Lib.hid (wnum_any n0 hB0 (by omega) x.n ok1)
    have hc1 := (K0.out.cell 1).trans (item_c1 x)
    have T := Lib.hid (tnum_any x.n ok1)
    clear hi hk ok1 ok7 n0 hB0
    go_enter Try.func58, Try.ntmps58
    go_wp2_with fail
    refine N.out.mono ?_
    rintro e w1 ⟨v1, rfl, p1⟩
    have k1 := K0.out.chg p1.ch (fun e => HNE.out _ e rfl)
    have hd1 := (k1.cell 1).trans (item_c1 x)
    have p2 := P0.out.trans p1
    clear p1 hc0 hc1 k1
    go_wp2_with fail
    refine (T.out w1).mono ?_
    rintro e w2 ⟨rfl, d2⟩
    go_wp2
    go_ret
    exact ⟨v1, rfl, p2.below d2⟩
  · have hi : itemW x = textF x.s := HW.out.trans ((if_neg (by omega)).trans (if_pos hk))
    rw [hi]
    have hm : (x.kind : Int) % 4 = 1 := by rw [HKB.out, hk]; rfl
    have N := Lib.hid (wtext_any n0 hB0 (by omega) x.s (by omega))
    have hc1 := (K0.out.cell 2).trans (item_c2 x)
    have T := Lib.hid (ttext_any x.s (by omega))
    clear hi hk ok1 ok7 n0 hB0
    go_enter Try.func58, Try.ntmps58
    go_wp2_with fail
    refine N.out.mono ?_
    rintro e w1 ⟨v1, rfl, p1⟩
    have k1 := K0.out.chg p1.ch (fun e => HNE.out _ e rfl)
    have hd1 := (k1.cell 2).trans (item_c2 x)
    have p2 := P0.out.trans p1
    clear p1 hc0 hc1 k1
    go_wp2_with fail
    refine (T.out w1).mono ?_
    rintro e w2 ⟨rfl, d2⟩
    go_wp2
    go_ret
    exact ⟨v1, rfl, p2.below d2⟩
  · have hi : itemW x = dotF x.r x.dn := HW.out.trans ((if_neg (by omega)).trans ((if_neg (by omega)).trans (if_pos hk)))
    rw [hi]
    have hm : (x.kind : Int) % 4 = 2 := by rw [HKB.out, hk]; rfl
    have N := Lib.hid (wdot_any n0 hB0 (by omega) x.r x.dn ok3 ok4)
    have hc1 := (K0.out.cell 3).trans (item_c3 x)
    have hc2 := (K0.out.cell 4).trans (item_c4 x)
    have T := Lib.hid (tdot_any x.r x.dn ok3 ok4)
    clear hi hk ok1 ok7 n0 hB0
    go_enter Try.func58, Try.ntmps58
    go_wp2_with fail
    refine N.out.mono ?_
    rintro e w1 ⟨v1, rfl, p1⟩
    have k1 := K0.out.chg p1.ch (fun e => HNE.out _ e rfl)
    have hd1 := (k1.cell 3).trans (item_c3 x)
    have hd2 := (k1.cell 4).trans (item_c4 x)
    have p2 := P0.out.trans p1
    clear p1 hc0 hc1 hc2 k1
    go_wp2_with fail
    refine (T.out w1).mono ?_
    rintro e w2 ⟨rfl, d2⟩
    go_wp2
    go_ret
    exact ⟨v1, rfl, p2.below d2⟩
  · have hi : itemW x = vecF x.xs := HW.out.trans ((if_neg (by omega)).trans ((if_neg (by omega)).trans (if_neg (by omega))))
    rw [hi]
    have hm : (x.kind : Int) % 4 = 3 := by rw [HKB.out, hk]; rfl
    have N := Lib.hid (wvec_any n0 hB0 (by omega) x.xs ok5 ok6)
    have hvs : (vecA x.xs).size = 8 := by rw [vecA_size]; exact ok5
    have L1 := Lib.hid (fun j u (hj : (vecA x.xs)[j]? = some u) => (K0.out.cell (5 + j)).trans (item_c5 x j u hj))
    have T := Lib.hid (tvec_any x.xs ok5 ok6)
    clear hi hk ok1 ok7 n0 hB0 ok5 ok6
    go_enter Try.func58, Try.ntmps58
    go_wp2_with (refine wpList_load_cells rfl 54 _ rfl ⟨w.heap.size, 5, none⟩ rfl (vecA x.xs) _ (fun j u hj => by rw [lit_add]; exact L1.out j u hj) Try.underlying54 rfl (by rw [hvs]; exact size54) ?_)
    refine N.out.mono ?_
    rintro e w1 ⟨v1, rfl, p1⟩
    have k1 := K0.out.chg p1.ch (fun e => HNE.out _ e rfl)
    have L2 := Lib.hid (fun j u (hj : (vecA x.xs)[j]? = some u) => (k1.cell (5 + j)).trans (item_c5 x j u hj))
    have p2 := P0.out.trans p1
    clear p1 hc0 k1
    go_wp2_with (refine wpList_load_cells rfl 54 _ rfl ⟨w.heap.size, 5, none⟩ rfl (vecA x.xs) _ (fun j u hj => by rw [lit_add]; exact L2.out j u hj) Try.underlying54 rfl (by rw [hvs]; exact size54) ?_)
    refine (T.out w1).mono ?_
    rintro e w2 ⟨rfl, d2⟩
    go_wp2
    go_ret
    exact ⟨v1, rfl, p2.below d2⟩
def totalI (l : List NItem) : Nat := (l.map fun x => x.s.length).sum
def greatI (l : List NItem) : Bool := decide (100 < l.length) || decide (2000 < totalI l)
theorem item_at {w : World} {A : Option Addr} {l : List NItem} (hok : ∀ x ∈ l, x.ok) (h : Rd w A l.length 14 (l.flatMap itemF)) {i : Nat} (hi : i < l.length) :
    ∃ ad, A = some ad ∧ ∀ j v, (itemA l[i])[j]? = some v → w.cell? ((ad.add (i * 14)).add j) = some v := by
  obtain ⟨ad, h1, h2⟩ := rd_cells (fun x hx => itemF_len x (hok x hx)) h hi
  exact ⟨ad, h1, fun j v hv => h2 j v (by simpa [itemA] using hv)⟩
set_option maxRecDepth 100000 in
set_option maxHeartbeats 1000000 in
theorem great02_any {w : World} {A : Option Addr} {cap : Nat} {l : List NItem} (h : Rd w A l.length 14 (l.flatMap itemF)) (hl : l.length ≤ maxLen) (hok : ∀ x ∈ l, x.ok) :
    Calls Try.prog 55 #[.slice A l.length cap] w fun e w' => e = .returned (.bool (greatI l)) ∧ w = w' := by
  unfold maxLen at hl
  have hs : ∀ x ∈ l, x.s.length ≤ 140737488355328 := fun x hx => (hok x hx).2.2.1
  by_cases hb : 100 < l.length
  · have HR := Lib.hid (fun i (hi : i < l.length) => item_at hok h hi); clear h hs hok
    have HG := Lib.hid (p := greatI l = true) (by unfold greatI; simp [hb])
    go_enter Try.func55, Try.ntmps55
    go_wp2
    go_loop [3, 4] (fun n i => ∃ k : Nat, ∃ x : Int, k ≤ l.length ∧ i = .int .i64 k ∧ n = .int .i64 x) (fun _ i => l.length - (intOf i).toNat)
    case atStart => exact ⟨0, 0, by omega, rfl, rfl⟩
    case round =>
      obtain ⟨k, x, hk, rfl, rfl⟩ := hrel
      by_cases hlt : k < l.length
      · obtain ⟨ad, rfl, h1⟩ := HR.out k hlt
        have h2 := h1 2 _ (item_c2 _)
        rw [add_at _ _ _ (by omega)] at h2
        clear h1
        go_wp2
        go_round
        case rel => exact ⟨k + 1, _, by omega, by go_num, rfl⟩
        case measure => simp [intOf]; omega
      · go_wp2
        go_ret
        exact ⟨by rw [HG.out]; rfl, rfl⟩
  · have HR := Lib.hid (fun i (hi : i < l.length) => item_at hok h hi); clear h hok
    have hsm : ∀ k, k ≤ l.length → totalI (l.take k) ≤ k * 140737488355328 := by
      intro k
      induction k with
      | zero => intro _; simp [totalI]
      | succ k ih =>
        intro hk
        have := ih (by omega)
        have h2 := hs l[k] (List.getElem_mem (by omega))
        unfold totalI at this ⊢
        rw [List.take_succ_eq_append_getElem (by omega), List.map_append, List.sum_append]
        simp only [List.map_cons, List.map_nil, List.sum_cons, List.sum_nil]
        omega
    have hst : ∀ k (hk : k < l.length), totalI (l.take (k + 1)) = totalI (l.take k) + l[k].s.length := by
      intro k hk
      unfold totalI
      rw [List.take_succ_eq_append_getElem hk, List.map_append, List.sum_append]
      simp
    have HSM := Lib.hid hsm; have HST := Lib.hid hst; clear hsm hst hs
    go_enter Try.func55, Try.ntmps55
    go_wp2
    go_loop [3, 4] (fun n i => ∃ k : Nat, k ≤ l.length ∧ i = .int .i64 k ∧ n = .int .i64 (totalI (l.take k) : Nat)) (fun _ i => l.length - (intOf i).toNat)
    case atStart => exact ⟨0, by omega, rfl, rfl⟩
    case round =>
      obtain ⟨k, hk, rfl, rfl⟩ := hrel
      have hb1 := HSM.out k hk
      by_cases hlt : k < l.length
      · have hb2 := HSM.out (k + 1) hlt
        have hst2 := HST.out k hlt
        obtain ⟨ad, rfl, h1⟩ := HR.out k hlt
        have h2 := h1 2 _ (item_c2 _)
        rw [add_at _ _ _ (by omega)] at h2
        clear h1
        have hb3 : totalI (l.take k) + l[k].s.length ≤ 9223372036854775807 := by omega
        have HS2 := Lib.hid hst2; clear hst2 hb2
        generalize totalI (l.take k) = x at *
        have hb4 : x ≤ 14073748835532800 := by omega
        clear hb1
        go_wp2
        go_round
        case rel =>
          refine ⟨k + 1, hlt, by go_num, ?_⟩
          rw [HS2.out]
          exact congrArg (Value.int .i64) (Int.natCast_add _ _).symm
        case measure => simp [intOf]; omega
      · have hkk : l.take k = l := List.take_of_length_le (by omega)
        rw [hkk] at hb1 ⊢
        clear hkk
        have HG := Lib.hid (p := greatI l = decide (2000 < totalI l)) (by unfold greatI; rw [decide_eq_false hb, Bool.false_or])
        generalize totalI l = x at *
        by_cases h2 : 2000 < x
        · go_wp2
          go_ret
          rw [HG.out]
          exact ⟨by simp [h2]; omega, rfl⟩
        · go_wp2
          go_ret
          rw [HG.out]
          exact ⟨by simp [h2]; omega, rfl⟩
end Go.Proofs.Ytfojjklohbiffaa
