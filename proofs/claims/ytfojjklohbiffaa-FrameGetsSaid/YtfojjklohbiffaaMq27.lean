/- Frames: great, bad, the known answers (head). -/
import Derived.Test.YtfojjklohbiffaaMq24
namespace Tran
open Go Go.RowKit
theorem wpList_load_row_if {P : Program} {ops : Array Oper} {rest : List Oper} {o : Oper} {a : Act} {w : World} {Q : Exit → Act → World → Prop} (hw : Region.wanted o (yielded ops a.tmps) = true) (ty : TypeId) (x : Operand) (ho : o.op = .load ty x)
    (g : Nat) (hx : a.eval x = .pointer (some ⟨g, 0, none⟩)) (t : TypeId) (cs : Array Value) (fr : Nat × Nat) (d : TypeDesc) (hg : w.heap[g]? = some (.cells cs t fr))
    (hu : P.underlying ty = some d) (hd : (match d with | .struct _ | .array _ _ => true | _ => false) = true) (hi : (P.info? ty).map (·.size) = some cs.size)
    (h : wpList P ops Q rest (a.put o.dst (.agg cs)) w) : wpList P ops Q (o :: rest) a w := by
  refine wpList_step fun K hK => ?_
  rw [if_pos hw]
  exact wp_load_row ty x ho g hx t cs fr d hg hu hd hi (hK _ _ h)
end Tran
namespace Go.Proofs.Ytfojjklohbiffaa
open Go.RowKit Tran Tran.Wire
set_option linter.unusedVariables false
set_option linter.unusedSimpArgs false
set_option maxRecDepth 100000 in
set_option maxHeartbeats 4000000 in
theorem great06_any (w : World) (x : NFrame) (ov : Value) (hx : x.ok) (hO : Ops w ov x.ops) : Calls Try.prog 42 #[.agg (frA x ov)] w fun e w' => (∃ r : Bool, e = .returned (.bool r)) ∧ Below w.heap.size w w' := by
  have k0 := Blk.new w 57 (frA x ov)
  have hb := (Below.refl w.heap.size w).alloc (Nat.le_refl _) (.cells (frA x ov) 57)
  obtain ⟨A, cap, rfl, hrd, hlen, hgood⟩ := hO
  have c11 := (k0.cell 11).trans (fr_c11 x _ hx.have8)
  have HA := Lib.hid (fun k (hk : k < x.ops.length) => op_at (hrd.later hb) (fun p hp => ⟨(hgood p hp).1.later hb, (hgood p hp).2⟩) hk)
  have HG := Lib.hid hgood
  have HB := Lib.hid hb
  obtain ⟨n, hn⟩ : ∃ n, x.ops.length = n := ⟨_, rfl⟩
  have HN := Lib.hid hn
  rw [hn] at c11 hlen
  clear k0 hb hrd hgood hn hx
  generalize hX : frA x (.slice A x.ops.length cap) = X at *
  rw [HN.out] at hX
  rw [hX] at c11
  clear hX
  generalize hW : w.alloc (.cells X 57) = W at *
  have HW := Lib.hid hW
  clear hW
  go_enter Try.func42, Try.ntmps42
  go_wp2_with fail
  rw [HW.out]
  go_loopw [3, 4] (fun m i wr => ∃ (k : Nat) (z : Int), k ≤ n ∧ i = .int .i64 k ∧ m = .int .i64 z ∧ wr = W) (fun _ i _ => n - (intOf i).toNat)
  case atStart => exact ⟨0, 0, by omega, rfl, rfl, rfl⟩
  case round =>
    obtain ⟨k, z, hk, rfl, rfl, rfl⟩ := hrel
    by_cases hlt : k < n
    · have hk2 : k < x.ops.length := by have := HN.out; omega
      obtain ⟨ad, rfl, hc⟩ := HA.out k hk2
      have hg := HG.out _ (List.getElem_mem hk2)
      generalize x.ops[k] = q at *
      obtain ⟨y, ly⟩ := q
      obtain ⟨B, cb, hly, _, hll⟩ := hg.1
      simp only at hc hly hll
      have c28 := hc 28 _ (op_c28 y ly hg.2.dep8)
      rw [add_at _ _ _ (by omega), hly] at c28
      have hix := ix55 (W := wr) (ad := ad) (c := cap) hlt hlen
      clear hc hg hly hk2
      go_wp2_with fail
      go_roundw
      case rel => exact ⟨k + 1, _, hlt, by go_num, rfl, by simp⟩
      case measure => simp [intOf]; omega
    · by_cases h1 : 100 < n
      · have hd : decide ((100 : Int) < (n : Int)) = true := decide_eq_true (by omega)
        go_wp2_with fail
        go_ret
        exact ⟨⟨_, rfl⟩, HB.out⟩
      · have hd : decide ((100 : Int) < (n : Int)) = false := decide_eq_false (by omega)
        go_wp2_with fail
        go_ret
        exact ⟨⟨_, rfl⟩, HB.out⟩
set_option maxRecDepth 100000 in
set_option maxHeartbeats 4000000 in
theorem bad06_any (w : World) (x : NFrame) (ov : Value) (hx : x.ok) (hO : Ops w ov x.ops) (hm : ¬ mayF x) : Calls Try.prog 90 #[.agg (frA x ov)] w fun e w' => e = .returned (.bool true) ∧ Below w.heap.size w w' := by
  have k0 := Blk.new w 57 (frA x ov)
  have hb := (Below.refl w.heap.size w).alloc (Nat.le_refl _) (.cells (frA x ov) 57)
  have C := Lib.hid (fun W (h : Below w.heap.size w W) => putfr_no W x ov hx (hO.later h) hm)
  have M := Lib.hid (fun W (h : Below w.heap.size w W) => may_any W x ov hx (hO.later h))
  have HM := Lib.hid hm
  have K0 := Lib.hid k0
  have HB := Lib.hid hb
  have HS := Lib.hid (frA_size x ov hx.have8)
  clear hx hO hm k0 hb
  generalize frA x ov = X at *
  go_enter Try.func90, Try.ntmps90
  go_wp2_with (refine wpList_load_row rfl 57 _ rfl w.heap.size rfl 57 X (0, 0) _ K0.out Try.underlying57 rfl (by rw [HS.out]; exact size57) ?_)
  refine (C.out _ HB.out).mono ?_
  rintro e w1 ⟨rfl, hb1⟩
  have K1 := Lib.hid (K0.out.below hb1 K0.out.lt)
  have HB1 := Lib.hid (HB.out.trans (hb1.mono HB.out.size))
  clear hb1
  go_wp2_with (refine wpList_load_row_if (by rfl) 57 _ rfl w.heap.size rfl 57 X (0, 0) _ K1.out Try.underlying57 rfl (by rw [HS.out]; exact size57) ?_)
  refine (M.out _ HB1.out).mono ?_
  rintro e w2 ⟨r, rfl, hr, hb2⟩
  have HB2 := Lib.hid (HB1.out.trans (hb2.mono HB1.out.size))
  have HR := Lib.hid hr
  clear hr hb2
  cases r
  · go_wp2_with fail
    go_ret
    exact ⟨rfl, HB2.out⟩
  · exact absurd (HR.out.1 rfl) HM.out
end Go.Proofs.Ytfojjklohbiffaa
