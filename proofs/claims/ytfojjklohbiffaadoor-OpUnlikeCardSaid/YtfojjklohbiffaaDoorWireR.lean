/- Readers in memory: Fine, Left, End, fail, take, sure. -/
import Derived.Test.YtfojjklohbiffaaDoorWireV
namespace Go.Proofs.YtfojjklohbiffaaDoor
open Go.RowKit Tran Tran.Wire
set_option linter.unusedVariables false
/-- the reader at block g has st left; none: it has failed -/
def RdAt (w : World) (g : Nat) (st : Option (List UInt8)) : Prop :=
  ∃ (s : List UInt8) (pos : Nat) (ok : Bool), Blk w g 91 #[.string ⟨s.toArray⟩, .int .i64 pos, .bool ok] ∧ pos ≤ s.length ∧ s.length ≤ 140737488355328 ∧ st = if ok then some (s.drop pos) else none
/-- a pointer to a reader, or to none (that has failed) -/
def RdP (w : World) (p : Option Addr) (st : Option (List UInt8)) : Prop := (p = none ∧ st = none) ∨ ∃ g, p = some ⟨g, 0, none⟩ ∧ RdAt w g st
/-- from w to w' only the reader at p has turned; it has st left -/
structure Rdd (w w' : World) (p : Option Addr) (st : Option (List UInt8)) : Prop where
  rd : RdP w' p st
  ch : Chg (fun k => p = some ⟨k, 0, none⟩) w w'
theorem Rdd.refl {w : World} {p : Option Addr} {st : Option (List UInt8)} (h : RdP w p st) : Rdd w w p st := ⟨h, .refl _ _⟩
theorem Rdd.trans {w w1 w2 : World} {p : Option Addr} {st st2 : Option (List UInt8)} (h : Rdd w w1 p st) (k : Rdd w1 w2 p st2) : Rdd w w2 p st2 := ⟨k.rd, h.ch.then_ k.ch fun _ _ h => h⟩
theorem RdP.drew {w : World} {p : Option Addr} {st : Option (List UInt8)} (h : RdP w p st) : RdP w.drew p st := h
theorem Rdd.drew {w w1 : World} {p : Option Addr} {st : Option (List UInt8)} (h : Rdd w w1 p st) : Rdd w w1.drew p st := ⟨h.rd, h.ch.drew⟩
set_option maxRecDepth 100000 in
set_option maxHeartbeats 1000000 in
theorem fine_r {w : World} {p : Option Addr} {st : Option (List UInt8)} (h : RdP w p st) : Calls Tryd.prog 54 #[.pointer p] w fun e w' => e = .returned (.bool st.isSome) ∧ w = w' := by
  rcases h with ⟨rfl, rfl⟩ | ⟨g, rfl, s, pos, ok, hb, hp, hs, rfl⟩
  · go_enter Tryd.func54, Tryd.ntmps54
    go_wp2
    go_ret
    exact ⟨rfl, rfl⟩
  · have hc := hb.cell 2
    have e : (if ok then some (s.drop pos) else none : Option (List UInt8)).isSome = ok := by cases ok <;> rfl
    rw [e]
    go_enter Tryd.func54, Tryd.ntmps54
    go_wp2
    go_ret
    exact ⟨rfl, rfl⟩
set_option maxRecDepth 100000 in
set_option maxHeartbeats 1000000 in
theorem fail_r {w : World} {p : Option Addr} {st : Option (List UInt8)} (h : RdP w p st) : Calls Tryd.prog 60 #[.pointer p] w fun e w' => e = .returned (.tuple #[]) ∧ Rdd w w' p none := by
  rcases h with ⟨rfl, rfl⟩ | ⟨g, rfl, s, pos, ok, hb, hp, hs, rfl⟩
  · go_enter Tryd.func60, Tryd.ntmps60
    go_wp2
    refine bodyPost_end (results_none rfl _ _ _) rfl ?_
    exact ⟨rfl, .refl (.inl ⟨rfl, rfl⟩)⟩
  · have hc := hb.cell 2
    have hf := hb.frozen 2
    go_enter Tryd.func60, Tryd.ntmps60
    go_wp2
    refine bodyPost_end (results_none rfl _ _ _) rfl ?_
    exact ⟨rfl, .inr ⟨g, rfl, s, pos, false, hb.set_ 2 _, hp, hs, rfl⟩, (Chg.refl (fun k => some (⟨g, 0, none⟩ : Addr) = some ⟨k, 0, none⟩) w).setCell (.inl rfl) _⟩
def leftN : Option (List UInt8) → Nat | some r => r.length | none => 0
set_option maxRecDepth 100000 in
set_option maxHeartbeats 1000000 in
theorem left_r {w : World} {p : Option Addr} {st : Option (List UInt8)} (h : RdP w p st) : Calls Tryd.prog 55 #[.pointer p] w fun e w' => e = .returned (.int .i64 (leftN st : Nat)) ∧ ∃ n, w' = w.drewN n := by
  have F := Lib.hid (fine_r h)
  rcases h with ⟨rfl, rfl⟩ | ⟨g, rfl, s, pos, ok, hb, hp, hs, rfl⟩
  · go_enter Tryd.func55, Tryd.ntmps55
    go_wp2_with fail
    refine F.out.mono ?_
    rintro e w1 ⟨rfl, rfl⟩
    go_wp2
    go_ret
    exact ⟨rfl, 0, rfl⟩
  · have hc0 := hb.cell 0
    have hc1 := hb.cell 1
    cases ok
    · go_enter Tryd.func55, Tryd.ntmps55
      go_wp2_with fail
      refine F.out.mono ?_
      rintro e w1 ⟨rfl, rfl⟩
      go_wp2
      go_ret
      exact ⟨rfl, 0, rfl⟩
    · have e : leftN (if true = true then some (s.drop pos) else none) = s.length - pos := by simp [leftN]
      rw [e]
      go_enter Tryd.func55, Tryd.ntmps55
      go_wp2_with fail
      refine F.out.mono ?_
      rintro e w1 ⟨rfl, rfl⟩
      go_wp2_with fail
      go_quiet (fail)
      go_wp2
      go_ret
      exact ⟨ret_int (by omega), nq, rfl⟩
def endN : Option (List UInt8) → Nat | some [] => 0 | _ => 5
set_option maxRecDepth 100000 in
set_option maxHeartbeats 1000000 in
theorem end_r {w : World} {p : Option Addr} {st : Option (List UInt8)} (h : RdP w p st) (hl : leftN st ≤ 140737488355328) : Calls Tryd.prog 42 #[.pointer p] w fun e w' => e = .returned (.int .i64 (endN st : Nat)) ∧ ∃ n, w' = w.drewN n := by
  have F := Lib.hid (fine_r h)
  have L := Lib.hid (left_r h)
  clear h
  cases st with
  | none =>
    go_enter Tryd.func42, Tryd.ntmps42
    go_wp2_with fail
    refine F.out.mono ?_
    rintro e w1 ⟨rfl, rfl⟩
    go_wp2
    go_ret
    exact ⟨rfl, 0, rfl⟩
  | some r =>
    cases r with
    | nil =>
      go_enter Tryd.func42, Tryd.ntmps42
      go_wp2_with fail
      refine F.out.mono ?_
      rintro e w1 ⟨rfl, rfl⟩
      go_wp2_with fail
      refine L.out.mono ?_
      rintro e w1 ⟨rfl, n, rfl⟩
      go_wp2
      go_ret
      exact ⟨rfl, n, rfl⟩
    | cons b r =>
      have hp : (0 : Int) < ((leftN (some (b :: r)) : Nat) : Int) := by simp only [leftN, List.length_cons]; omega
      generalize leftN (some (b :: r)) = x at *
      go_enter Tryd.func42, Tryd.ntmps42
      go_wp2_with fail
      refine F.out.mono ?_
      rintro e w1 ⟨rfl, rfl⟩
      go_wp2_with fail
      refine L.out.mono ?_
      rintro e w1 ⟨rfl, n, rfl⟩
      go_wp2
      go_ret
      exact ⟨rfl, n, rfl⟩
/-- n bytes taken -/
def takeS : Option (List UInt8) → Nat → List UInt8 × Option (List UInt8)
  | some r, n => if n ≤ r.length then (r.take n, some (r.drop n)) else ([], none)
  | none, _ => ([], none)
theorem cut_run (s : List UInt8) (pos n : Nat) (h : pos + n ≤ s.length) (W : World) :
    (Instr.slice 9 (.string ⟨s.toArray⟩) (some (.int .i64 pos)) (some (.int .i64 ((pos : Int) + n))) none).run Tryd.prog W = .ok (.string ⟨((s.drop pos).take n).toArray⟩) W := by
  have e : ((s.take (pos + n)).drop pos) = (s.drop pos).take n := by rw [List.drop_take]; congr 1; omega
  have h2 : (pos : Int) + n ≤ ((⟨s.toArray⟩ : ByteArray).size : Nat) := by
    have : (⟨s.toArray⟩ : ByteArray).size = s.length := by simp [ByteArray.size]
    rw [this]; omega
  rw [run_slice_string W 9 _ .i64 .i64 pos ((pos : Int) + n) Tryd.underlying9 (by omega) (by omega) h2]
  have := str_cut s pos (pos + n)
  rw [e] at this
  rw [← this]; rfl
set_option maxRecDepth 100000 in
set_option maxHeartbeats 1000000 in
theorem take_r {w : World} {p : Option Addr} {st : Option (List UInt8)} (h : RdP w p st) (n : Nat) (hn : n ≤ 140737488355328) :
    Calls Tryd.prog 50 #[.pointer p, .int .i64 n] w fun e w' => e = .returned (.string ⟨(takeS st n).1.toArray⟩) ∧ Rdd w w' p (takeS st n).2 := by
  have F := Lib.hid (fun m => fine_r (w := w.drewN m) (p := p) (st := st) h)
  have FL := Lib.hid (fun m => fail_r (w := w.drewN m) (p := p) (st := st) h)
  cases st with
  | none =>
    have HT := Lib.hid (p := takeS none n = ([], none)) rfl
    clear h
    go_enter Tryd.func50, Tryd.ntmps50
    go_wp2_with fail
    go_quiet ((go_at_call 54; exact quiet_left (F.out _)))
    go_wp2_with fail
    refine (FL.out _).mono ?_
    rintro e w1 ⟨rfl, hr⟩
    go_wp2
    go_ret
    exact ⟨by rw [HT.out]; rfl, by rw [HT.out]; exact ⟨hr.rd, ((Chg.refl _ w).drewN nq).then_ hr.ch (fun _ _ h => h)⟩⟩
  | some r =>
    rcases h with ⟨_, h⟩ | ⟨g, rfl, s, pos, ok, hb, hp, hs, he⟩
    · cases h
    · cases ok
      · cases he
      · injection he with he
        subst he
        have hc0 := hb.cell 0
        have hc1 := hb.cell 1
        have hf1 := hb.frozen 1
        by_cases hle : pos + n ≤ s.length
        · have HT := Lib.hid (p := takeS (some (s.drop pos)) n = ((s.drop pos).take n, some ((s.drop pos).drop n))) (if_pos (by rw [List.length_drop]; omega))
          go_enter Tryd.func50, Tryd.ntmps50
          go_wp2_with fail
          go_quiet ((go_at_call 54; exact quiet_left (F.out _)))
          go_wp2_with fail
          have hcut := cut_run s pos n hle
          have hwr : IntKind.i64.wrap ((pos : Int) + n) = (pos : Int) + n := IntWalk.i64_in _ (by omega)
          go_quiet (fail)
          clear hcut hwr
          go_wp2
          go_ret
          have hpn : (((pos : Int) + n)) = ((pos + n : Nat) : Int) := by simp
          rw [hpn]
          have hd : (s.drop pos).drop n = s.drop (pos + n) := List.drop_drop
          exact ⟨by rw [HT.out]; rfl, by rw [HT.out, hd]; exact ⟨.inr ⟨g, rfl, s, pos + n, true, (hb.drewN _).set_ 1 _, hle, hs, rfl⟩, ((Chg.refl (fun k => some (⟨g, 0, none⟩ : Addr) = some ⟨k, 0, none⟩) w).drewN _).setCell (.inl rfl) _⟩⟩
        · have HT := Lib.hid (p := takeS (some (s.drop pos)) n = ([], none)) (if_neg (by rw [List.length_drop]; omega))
          go_enter Tryd.func50, Tryd.ntmps50
          go_wp2_with fail
          go_quiet ((go_at_call 54; exact quiet_left (F.out _)))
          go_wp2_with fail
          refine (FL.out _).mono ?_
          rintro e w1 ⟨rfl, hr⟩
          go_wp2
          go_ret
          exact ⟨by rw [HT.out]; rfl, by rw [HT.out]; exact ⟨hr.rd, ((Chg.refl _ w).drewN _).then_ hr.ch (fun _ _ h => h)⟩⟩
set_option maxRecDepth 100000 in
set_option maxHeartbeats 1000000 in
theorem sure_r {w : World} {p : Option Addr} {st : Option (List UInt8)} (h : RdP w p st) (b : Bool) :
    Calls Tryd.prog 51 #[.pointer p, .bool b] w fun e w' => e = .returned (.bool (b && st.isSome)) ∧ Rdd w w' p (if b = true then st else none) := by
  cases b
  · have FL := Lib.hid (fail_r h)
    clear h
    go_enter Tryd.func51, Tryd.ntmps51
    go_wp2_with fail
    refine FL.out.mono ?_
    rintro e w1 ⟨rfl, hr⟩
    have F := Lib.hid (fine_r hr.rd)
    go_wp2_with fail
    refine F.out.mono ?_
    rintro e w2 ⟨rfl, rfl⟩
    go_wp2
    go_ret
    exact ⟨rfl, hr⟩
  · have F := Lib.hid (fine_r h)
    have HR := Lib.hid h
    clear h
    go_enter Tryd.func51, Tryd.ntmps51
    go_wp2_with fail
    refine F.out.mono ?_
    rintro e w2 ⟨rfl, rfl⟩
    go_wp2
    go_ret
    exact ⟨rfl, .refl HR.out⟩
theorem open_r {l : List UInt8} (w : World) (hl : l.length ≤ 140737488355328) : Calls Tryd.prog 36 #[.string ⟨l.toArray⟩] w fun e w' => e = .returned (.pointer (some ⟨w.heap.size, 0, none⟩)) ∧ RdP w' (some ⟨w.heap.size, 0, none⟩) (some l) ∧ w' = w.alloc (.cells #[.string ⟨l.toArray⟩, .int .i64 0, .bool true] 91) := by
  go_enter Tryd.func36, Tryd.ntmps36
  go_wp2
  go_ret
  exact ⟨rfl, .inr ⟨_, rfl, l, 0, true, Blk.new w 91 _, Nat.zero_le _, hl, rfl⟩, rfl⟩
end Go.Proofs.YtfojjklohbiffaaDoor
