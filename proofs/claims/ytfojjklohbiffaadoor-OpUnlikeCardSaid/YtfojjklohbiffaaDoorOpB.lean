/- Operations: numbers put one after another; what op.Put keeps. -/
import Derived.Test.YtfojjklohbiffaaDoorOpA
import Derived.Test.YtfojjklohbiffaaDoorRes
import Derived.Test.YtfojjklohbiffaaDoorWireV
namespace Go.Proofs.YtfojjklohbiffaaDoor
open Go.RowKit Tran Tran.Wire
set_option linter.unusedVariables false
def u64s (ns : List Nat) : List Value := ns.map fun n => Value.int .u64 (n : Nat)
theorem u64s_len (ns : List Nat) : (u64s ns).length = ns.length := by simp [u64s]
theorem u64s_get {ns : List Nat} {j : Nat} (h : j < ns.length) : (u64s ns)[j]? = some (.int .u64 ((ns[j] : Nat) : Int)) := by simp [u64s, h]
theorem vecF_le (ns : List Nat) (h : ∀ n ∈ ns, n < 2 ^ 64) : (vecF ns).length ≤ 9 * ns.length := by
  induction ns with
  | nil => simp [vecF]
  | cons n ns ih =>
    have h1 := (numF_len n (h n List.mem_cons_self)).1
    have h2 := ih fun m hm => h m (List.mem_cons_of_mem _ hm)
    simp only [vecF, List.flatMap_cons, List.length_append, List.length_cons] at h2 ⊢
    omega
theorem vecF_snoc (ns : List Nat) (k : Nat) (h : k < ns.length) : vecF (ns.take (k + 1)) = vecF (ns.take k) ++ numF ns[k] := by
  rw [List.take_succ_eq_append_getElem h, vecF, List.flatMap_append]; simp [vecF]
set_option maxRecDepth 100000 in
set_option maxHeartbeats 2000000 in
theorem puts_all {w : World} {g B : Nat} {v : Value} {l : List UInt8} (h : WrAt w g B v l) (hB : B ≤ w.heap.size) (hl : l.length ≤ 800000000) (A : Option Addr) (cap : Nat) (ns : List Nat) (hr : Rd w A ns.length 1 (u64s ns))
    (hn : ∀ n ∈ ns, n < 2 ^ 64) (h8 : ns.length ≤ 1000000) (hA : ∀ ad, A = some ad → ad.block ≠ g ∧ blkOf v ≠ some ad.block) (bx : Nat) (kb : Blk w bx 55 #[.pointer (some ⟨g, 0, none⟩)]) (hbx : bx ≠ g ∧ blkOf v ≠ some bx) :
    Calls Tryd.prog 28 #[.slice A ns.length cap, .pointer (some ⟨bx, 0, none⟩)] w (Wrote w g B v (l ++ vecF ns)) := by
  have hle := vecF_le ns hn
  have HLE := Lib.hid (fun k => show (vecF (ns.take k)).length ≤ 9 * ns.length by
    have h1 := vecF_le (ns.take k) fun n hm => hn n (List.mem_of_mem_take hm)
    rw [List.length_take] at h1; omega)
  have HSN := Lib.hid (fun k hk => vecF_snoc ns k hk)
  have HNM := Lib.hid (fun k (hk : k < ns.length) => hn ns[k] (List.getElem_mem hk))
  have HC := Lib.hid (fun (wr : World) (hc : Chg (fun k => k = g ∨ blkOf v = some k) w wr) k (hk : k < ns.length) => show ∃ ad, A = some ad ∧ wr.cell? (ad.add k) = some (.int .u64 ((ns[k] : Nat) : Int)) by
    obtain ⟨ad, rfl, hcc⟩ := hr.2 (by omega)
    have h1 := hcc k _ (u64s_get hk)
    refine ⟨ad, rfl, ?_⟩
    have hb : (ad.add k).block = ad.block := block_of_add ad k
    rw [hc.cell (by have := World.block_lt_of_cell? w _ h1; exact this) (by rw [hb]; exact fun e => by rcases e with e | e; exact (hA ad rfl).1 e; exact (hA ad rfl).2 e)]
    exact h1)
  have HB := Lib.hid (fun (wr : World) (hc : Chg (fun k => k = g ∨ blkOf v = some k) w wr) => kb.chg hc (fun e => by rcases e with e | e; exact hbx.1 e; exact hbx.2 e))
  have P0 := Lib.hid (Put.refl h)
  clear hr kb hbx hA hn hle h
  go_enter Tryd.func28, Tryd.ntmps28
  go_wp2_with fail
  go_loopw [7] (fun i wr => ∃ k : Nat, ∃ v1, k ≤ ns.length ∧ i = .int .i64 k ∧ Put w wr g B v v1 (l ++ vecF (ns.take k))) (fun i _ => ns.length - (intOf i).toNat)
  case atStart => exact ⟨0, v, by omega, rfl, by simpa [vecF] using P0.out⟩
  case round =>
    obtain ⟨k, v1, hk, rfl, p⟩ := hrel
    have kb := HB.out wr p.ch
    have c0 : _ = some (Value.pointer (some ⟨g, 0, none⟩)) := kb.cell 0
    have hle := HLE.out k
    by_cases hlt : k < ns.length
    · obtain ⟨ad, rfl, hc⟩ := HC.out wr p.ch k hlt
      have hnk := HNM.out k hlt
      have hB1 : B ≤ wr.heap.size := Nat.le_trans hB p.ch.size
      have N := Lib.hid (wnum_any p.wr hB1 (by rw [List.length_append]; omega) ns[k] hnk)
      have HS := Lib.hid (HSN.out k hlt)
      have PP := Lib.hid p
      clear p kb hle
      generalize ns[k] = n at *
      have hn63 : n ≤ 18446744073709551615 := by omega
      clear hnk
      go_wp2_with fail
      refine N.out.mono ?_
      rintro e w2 ⟨v2, rfl, p2⟩
      have p3 := PP.out.trans p2
      rw [List.append_assoc, ← HS.out] at p3
      go_wp2
      go_roundw
      case rel => exact ⟨k + 1, v2, hlt, by go_num, p3⟩
      case measure => simp [intOf]; omega
    · have e : ns.take k = ns := List.take_of_length_le (by omega)
      rw [e] at p
      clear e kb hle
      have PP := Lib.hid p
      clear p
      go_wp2
      refine bodyPost_end (results_none rfl _ _ _) rfl ?_
      exact ⟨v1, rfl, PP.out⟩
/-- the worlds within op.Put: the operation's box, the writer, where it is kept -/
structure OpW (w0 : World) (x : NOp) (lv : Value) (W : World) (l : List UInt8) : Prop where
  k0 : Blk W w0.heap.size 30 (opA x lv)
  k2 : Blk W (w0.heap.size + 1 + 1) 55 #[.pointer (some ⟨w0.heap.size + 1, 0, none⟩)]
  b : Below w0.heap.size w0 W
  sz : w0.heap.size + 3 ≤ W.heap.size
  ex : ∃ v, WrAt W (w0.heap.size + 1) (w0.heap.size + 1) v l ∧ ∀ k, blkOf v = some k → w0.heap.size + 3 ≤ k
theorem OpW.below {w0 : World} {x : NOp} {lv : Value} {W W' : World} {l : List UInt8} (h : OpW w0 x lv W l) (hb : Below W.heap.size W W') : OpW w0 x lv W' l := by
  obtain ⟨v, hw, hv⟩ := h.ex
  exact ⟨h.k0.below hb h.k0.lt, h.k2.below hb h.k2.lt, h.b.trans (hb.mono h.b.size), Nat.le_trans h.sz hb.size, v, hw.below hb, hv⟩
/-- blocks of other types than a writer's stay as they are -/
def Keeps (W W' : World) : Prop := ∀ g t cs, Blk W g t cs → t ≠ 5 → t ≠ 89 → Blk W' g t cs
theorem OpW.call {w0 : World} {x : NOp} {lv : Value} {W : World} {l l' : List UInt8} {F : FuncId} {args : Array Value} (h : OpW w0 x lv W l)
    (H : ∀ v, WrAt W (w0.heap.size + 1) (w0.heap.size + 1) v l → (∀ k, blkOf v = some k → w0.heap.size + 3 ≤ k) → Calls Tryd.prog F args W (Wrote W (w0.heap.size + 1) (w0.heap.size + 1) v l')) :
    Calls Tryd.prog F args W fun e w' => e = .returned (.tuple #[]) ∧ OpW w0 x lv w' l' ∧ Keeps W w' := by
  obtain ⟨v, hw, hv⟩ := h.ex
  refine (H v hw hv).mono ?_
  rintro e w' ⟨v', rfl, p⟩
  have hsz := h.sz
  refine ⟨rfl, ⟨h.k0.chg p.ch ?_, h.k2.chg p.ch ?_, h.b.trans (p.ch.toBelow h.b.size ?_), Nat.le_trans h.sz p.ch.size, v', p.wr, fun k hk => ?_⟩, fun g t cs hb h5 h104 => hb.chg p.ch ?_⟩
  · rintro (e | e)
    · omega
    · have := hv _ e; omega
  · rintro (e | e)
    · omega
    · have := hv _ e; omega
  · rintro k _ (rfl | e)
    · omega
    · have := hv _ e; omega
  · rcases p.mv with e | e
    · exact hv k (e ▸ hk)
    · have := e k hk; omega
  · rintro (e | e)
    · subst e
      have h1 := hw.blk
      unfold Blk at h1 hb
      rw [h1] at hb
      injection hb with hb
      injection hb with _ hb _
      exact h104 hb.symm
    · exact hw.own.ne_ hb (Ne.symm h5) e
theorem OpW.dot {w0 : World} {x : NOp} {lv : Value} {W : World} {l : List UInt8} (h : OpW w0 x lv W l) (hl : l.length ≤ 800000000) (r n : Nat) (hr : r < 256) (hn : n < 4294967296) :
    Calls Tryd.prog 30 #[.pointer (some ⟨w0.heap.size + 1, 0, none⟩), .agg #[.int .u8 r, .int .u32 n]] W fun e w' => e = .returned (.tuple #[]) ∧ OpW w0 x lv w' (l ++ dotF r n) ∧ Keeps W w' :=
  h.call fun v hw _ => wdot_any hw (by have := h.sz; omega) (by omega) r n hr hn
theorem OpW.vec {w0 : World} {x : NOp} {lv : Value} {W : World} {l : List UInt8} (h : OpW w0 x lv W l) (hl : l.length ≤ 800000000) (xs : List Nat) (hx : xs.length = 8) (hn : ∀ y ∈ xs, y < 4294967296) :
    Calls Tryd.prog 31 #[.pointer (some ⟨w0.heap.size + 1, 0, none⟩), .agg (vecA xs)] W fun e w' => e = .returned (.tuple #[]) ∧ OpW w0 x lv w' (l ++ vecF xs) ∧ Keeps W w' :=
  h.call fun v hw _ => wvec_any hw (by have := h.sz; omega) (by omega) xs hx hn
/-- numbers that were just laid side by side -/
theorem OpW.nums {w0 : World} {x : NOp} {lv : Value} {W : World} {l : List UInt8} (h : OpW w0 x lv W l) (hl : l.length ≤ 800000000) (ns : List Nat) (hn : ∀ n ∈ ns, n < 2 ^ 64) (h8 : ns.length ≤ 1000000) (cs : Array Value) (hcs : cs = (u64s ns).toArray) (m : Nat) (hm : m = ns.length) :
    Calls Tryd.prog 28 #[.slice (some ⟨W.heap.size, 0, none⟩) m m, .pointer (some ⟨w0.heap.size + 1 + 1, 0, none⟩)] (W.alloc (.cells cs 27)) fun e w' => e = .returned (.tuple #[]) ∧ OpW w0 x lv w' (l ++ vecF ns) ∧ Keeps (W.alloc (.cells cs 27)) w' := by
  subst hm hcs
  have hb := (Below.refl W.heap.size W).alloc (Nat.le_refl _) (.cells (u64s ns).toArray 27)
  have h1 := h.below hb
  have hsz := h.sz
  have kn := Blk.new W 27 (u64s ns).toArray
  refine h1.call fun v hw hv => puts_all hw (by have := h1.sz; omega) (by omega) _ _ ns ?_ hn h8 ?_ _ h1.k2 ?_
  · refine ⟨by rw [u64s_len]; omega, fun _ => ⟨_, rfl, fun j u hu => ?_⟩⟩
    rw [add_zero]
    exact (kn.cell j).trans (by simpa using hu)
  · intro ad e
    injection e with e
    subst e
    refine ⟨by show W.heap.size ≠ _; omega, fun e => ?_⟩
    obtain ⟨v2, hw2, hv2⟩ := h.ex
    have h3 := hw.blk.cell 0
    have h4 := (hw2.below hb).blk.cell 0
    rw [h3] at h4
    simp at h4
    subst h4
    have := (hw2.own.lt _ e).2
    simp at this
  · refine ⟨by omega, fun e => ?_⟩
    have := hv _ e
    omega
end Go.Proofs.YtfojjklohbiffaaDoor
