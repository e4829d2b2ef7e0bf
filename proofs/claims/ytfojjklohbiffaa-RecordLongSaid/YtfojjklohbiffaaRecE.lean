/- Records: what scanning tells, and the iterator that goes from record to record. -/
import Derived.RangeFuncNested
import Derived.RangeFuncBound
import Derived.RangeFuncCalls
import Derived.RangeFuncLeaves
import Derived.Shelf.Abstract
import Derived.Shelf.RegionOpen
import Derived.OwnWalkIn
import Derived.TacticsInMore
import Derived.LoopNIn
import Derived.LoopIn
import Derived.Test.YtfojjklohbiffaaRng
import Derived.Test.YtfojjklohbiffaaRecD
namespace Go.Proofs.Ytfojjklohbiffaa
open Go.RowKit Tran Tran.Wire
attribute [local go_sem] Oper.semAt_some
set_option linter.unusedVariables false
theorem firstF_ok {b : UInt8} {r : List UInt8} (h : (firstF b r).2.2 = 0) :
    (firstF b r).1.length ≤ 65536 ∧ (firstF b r).2.1 = (recF (firstF b r).1).length ∧ recF (firstF b r).1 <+: b :: r := by
  unfold firstF at h ⊢
  by_cases h1 : (lengthF b r).2.2 ≠ 0
  · rw [if_pos h1] at h; exact absurd h h1
  · rw [if_neg h1] at h ⊢
    have hok := lengthF_ok (Decidable.of_not_not h1)
    unfold firstN at h ⊢
    split
    · rename_i h2; rw [if_pos h2] at h; cases h
    · rename_i h2
      rw [if_neg h2] at h
      split
      · rename_i h3
        refine ⟨?_, rfl, h3⟩
        have : ((List.drop (lengthF b r).2.1 (b :: r)).take (lengthF b r).1).length ≤ (lengthF b r).1 := List.length_take_le _ _
        simp only
        omega
      · rename_i h3
        rw [if_neg h3] at h
        split at h <;> cases h
theorem firstF_own {b : UInt8} {r : List UInt8} (h : (firstF b r).2.2 = 0) : 1 ≤ (firstF b r).2.1 ∧ (firstF b r).2.1 ≤ r.length + 1 := by
  obtain ⟨h1, h2, h3⟩ := firstF_ok h
  have := recF_len (firstF b r).1 (by omega)
  have h4 := h3.length_le
  simp only [List.length_cons] at h4
  omega
/-- every record in a row of bytes, with its bytes; the state at the end -/
def scanF : List UInt8 → List (List UInt8 × Nat) × Nat
  | [] => ([], 0)
  | b :: r =>
    if h : (firstF b r).2.2 = 0 then
      (((firstF b r).1, (firstF b r).2.1) :: (scanF ((b :: r).drop (firstF b r).2.1)).1, (scanF ((b :: r).drop (firstF b r).2.1)).2)
    else ([], (firstF b r).2.2)
termination_by s => s.length
decreasing_by
  all_goals
    have := firstF_own h
    simp only [List.length_drop, List.length_cons]
    omega
theorem firstF_st (b : UInt8) (r : List UInt8) : (firstF b r).2.2 ≤ 2 := by
  have := lengthF_st b r
  unfold firstF firstN
  split
  · exact this
  · split
    · simp
    · split
      · simp
      · split <;> simp
def encTN (x : List UInt8 × Nat) : Array Value := #[.string ⟨x.1.toArray⟩, .int .i64 (x.2 : Nat)]
/-- the iterator's own cells: the text left over, where the state goes, the state -/
def Its (bs bl bt : Nat) (s : List UInt8) (c : Nat) (W : World) : Prop :=
  Blk W bs 9 #[.string ⟨s.toArray⟩] ∧ Blk W bl 170 #[.pointer (some ⟨bt, 0, none⟩)] ∧ Blk W bt 5 #[.int .u8 (c : Nat)]
def Keeps3 (bs bl bt : Nat) (W W' : World) : Prop := W'.heap[bs]? = W.heap[bs]? ∧ W'.heap[bl]? = W.heap[bl]? ∧ W'.heap[bt]? = W.heap[bt]?
theorem Its.kept {bs bl bt : Nat} {s : List UInt8} {c : Nat} {W W' : World} (h : Its bs bl bt s c W) (k : Keeps3 bs bl bt W W') : Its bs bl bt s c W' :=
  ⟨k.1.trans h.1, k.2.1.trans h.2.1, k.2.2.trans h.2.2⟩
theorem cut_from (l : List UInt8) (a : Nat) (ha : a ≤ l.length) (W : World) : (Instr.slice 9 (.string ⟨l.toArray⟩) (some (.int .i64 a)) none none).run Try.prog W = .ok (.string ⟨(l.drop a).toArray⟩) W := by
  have h := run_slice_string_l (P := Try.prog) W 9 ⟨l.toArray⟩ Try.underlying9 .i64 (a : Int) (by omega) (by simp [ByteArray.size]; omega)
  rw [Int.toNat_natCast, str_cut, show (⟨l.toArray⟩ : ByteArray).size = l.length by simp [ByteArray.size], List.take_length] at h
  exact h
/-- how many bytes the text of block bs has -/
def bytesIn (bs : Nat) (w : World) : Nat := match w.cell? ⟨bs, 0, none⟩ with
  | some (.string t) => t.size
  | _ => 0
theorem bytesIn_eq {bs : Nat} {w : World} {s : List UInt8} (h : Blk w bs 9 #[.string ⟨s.toArray⟩]) : bytesIn bs w = s.length := by
  have := h.cell 0
  unfold bytesIn
  rw [this]
  rfl
set_option maxRecDepth 100000 in
set_option maxHeartbeats 8000000 in
theorem records1_own (n bs bl bt : Nat) (s : List UInt8) (hs : s.length ≤ 1000000) (h1 : bs ≠ bl) (h2 : bs ≠ bt) (h3 : bl ≠ bt) :
    SeqOwn Fence.wide n Try.prog 138 #[.pointer (some ⟨bs, 0, none⟩), .pointer (some ⟨bl, 0, none⟩)] encTN (Keeps3 bs bl bt) (Chg fun k => k = bs ∨ k = bt)
      (fun xs W => xs = (scanF s).1 ∧ Blk W bt 5 #[.int .u8 ((scanF s).2 : Nat)]) (Its bs bl bt s 0) (fun pre x => (pre ++ [x]) <+: (scanF s).1) := by
  intro l J W hI hJ hY h0
  refine callsIn_of_wp Try.func138 rfl trivial ?_ rfl
  simp only [Try.ntmps138, List.size_toArray, List.length_cons, List.length_nil, Nat.reduceAdd, Nat.reduceSub, Array.replicate_succ, Array.replicate_zero, List.push_toArray, List.append_toArray, List.nil_append, List.cons_append]
  gi_wp2
  gi_loopw [] (fun wr => ∃ (pre : List (List UInt8 × Nat)) (t : List UInt8) (c : Nat), t.length ≤ 1000000 ∧ (scanF s).1 = pre ++ (scanF t).1 ∧ (scanF s).2 = (scanF t).2 ∧ (t = [] → c = 0) ∧ Its bs bl bt t c wr ∧ J pre wr)
    (fun wr => bytesIn bs wr)
  case atStart =>
    exact ⟨[], s, 0, hs, rfl, rfl, fun _ => rfl, hI, h0⟩
  case round =>
    obtain ⟨pre, t, c, htl, hx1, hx2, hc, ⟨hb1, hb2, hb3⟩, hJs⟩ := hrel
    have k1 := Lib.hid hb1
    have k2 := Lib.hid hb2
    have k3 := Lib.hid hb3
    cases t with
    | nil =>
      have c1 := hb1.cell 0
      obtain rfl := hc rfl
      clear hb1 hb2 hb3
      gi_wp2
      go_end0
      exact ⟨⟨_, rfl⟩, pre, ⟨by simp [scanF], by simpa [scanF] using k3.out⟩, hJs⟩
    | cons b r =>
      have c1 := hb1.cell 0
      have F := first_any b r (by simp at htl; omega) wr
      unfold Firsts at F
      have HOK := firstF_ok (b := b) (r := r)
      have HOW := firstF_own (b := b) (r := r)
      have HST := firstF_st b r
      have HSC : scanF (b :: r) = if (firstF b r).2.2 = 0 then
          (((firstF b r).1, (firstF b r).2.1) :: (scanF ((b :: r).drop (firstF b r).2.1)).1, (scanF ((b :: r).drop (firstF b r).2.1)).2)
        else ([], (firstF b r).2.2) := by rw [scanF]; split <;> rfl
      have km := Lib.hid (bytesIn_eq hb1)
      clear hb1 hb2 hb3 hc
      generalize firstF b r = q at *
      obtain ⟨t1, own, st⟩ := q
      simp only at HOK HOW HST HSC F
      by_cases hst : st = 0
      · subst hst
        rw [if_pos rfl] at HSC
        rw [HSC] at hx1 hx2
        replace hx1 := Lib.hid hx1
        replace hx2 := Lib.hid hx2
        obtain ⟨ho1, ho2⟩ := HOW rfl
        rw [show ((0 : Nat) : Int) = 0 from rfl] at F
        clear HSC HOK HST HOW
        gi_wp2
        refine ⟨trivial, nofun, (callsIn_wide.2 F).mono ?_⟩
        rintro e w1 ⟨rfl, b1⟩
        have m1 := (k1.out.below b1 k1.out.lt).cell 0
        have m2 := (k2.out.below b1 k2.out.lt).cell 0
        have m3 := (k3.out.below b1 k3.out.lt).cell 0
        have m4 := (k3.out.below b1 k3.out.lt).frozen 0
        have hJ1 : J pre (w1.setCell ⟨bt, 0, none⟩ (.int .u8 0)) := hJ pre wr _ hJs ((Chg.of_below b1).setCell (.inl (.inr rfl)) _)
        obtain ⟨fn, tmps, assign, body, hy, hR⟩ := hY pre (t1, own) _ ⟨_, by rw [hx1.out, List.append_assoc]; rfl⟩ hJ1
        unfold encTN at hy
        dsimp only at hy
        gi_wp2
        refine ⟨nofun, hR.mono ?_⟩
        rintro e W3 ⟨rfl, hJ3, hk3⟩
        have hI3 : Its bs bl bt (b :: r) 0 W3 := Its.kept ⟨(k1.out.below b1 k1.out.lt).far h2 _, (k2.out.below b1 k2.out.lt).far h3 _, by simpa using (k3.out.below b1 k3.out.lt).set_ 0 (.int .u8 0)⟩ hk3
        have n1 := hI3.1.cell 0
        have n2 := hI3.1.frozen 0
        have hcut := cut_from (b :: r) own (by simp; omega)
        clear m1 m2 m3 m4 hy hR hJ1 hJs c1 F k1 k2 k3 hk3 b1
        replace hI3 := Lib.hid hI3
        gi_wp2
        go_roundw
        case rel =>
          refine ⟨pre ++ [(t1, own)], (b :: r).drop own, 0, by simp at htl ⊢; omega, by simpa using hx1.out, hx2.out, fun _ => rfl, ⟨by simpa using hI3.out.1.set_ 0 (.string ⟨((b :: r).drop own).toArray⟩), hI3.out.2.1.far h1.symm _, hI3.out.2.2.far h2.symm _⟩, hJ _ _ _ hJ3 ((Chg.refl _ _).setCell (.inl (.inl rfl)) _)⟩
        case measure =>
          rw [km.out, bytesIn_eq (s := (b :: r).drop own) (by simpa using hI3.out.1.set_ 0 (.string ⟨((b :: r).drop own).toArray⟩))]
          simp only [List.length_drop, List.length_cons]
          omega
      · rw [if_neg hst] at HSC
        rw [HSC] at hx1 hx2
        replace hx1 := Lib.hid hx1
        replace hx2 := Lib.hid hx2
        have hne : ((st : Int) != 0) = true := by rw [bne_iff_ne]; omega
        clear HSC HOK HOW
        gi_wp2
        refine ⟨trivial, nofun, (callsIn_wide.2 F).mono ?_⟩
        rintro e w1 ⟨rfl, b1⟩
        have m1 := (k1.out.below b1 k1.out.lt).cell 0
        have m2 := (k2.out.below b1 k2.out.lt).cell 0
        have m3 := (k3.out.below b1 k3.out.lt).cell 0
        have m4 := (k3.out.below b1 k3.out.lt).frozen 0
        gi_wp2
        refine ⟨nofun, ?_⟩
        gi_wp2
        refine bodyPost_ret (results_none rfl _ _ _) rfl ?_
        refine ⟨⟨_, rfl⟩, pre, ⟨by simpa using hx1.out.symm, ?_⟩, hJ pre wr _ hJs ((Chg.of_below b1).setCell (.inl (.inr rfl)) _)⟩
        rw [hx2.out]
        simpa using (k3.out.below b1 k3.out.lt).set_ 0 (.int .u8 st)
end Go.Proofs.Ytfojjklohbiffaa
