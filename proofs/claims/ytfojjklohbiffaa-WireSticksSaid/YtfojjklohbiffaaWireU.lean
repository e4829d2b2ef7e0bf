/- WireSticks, walked. -/
import Derived.Test.YtfojjklohbiffaaItemsE
import Derived.Deep.CutRange
import Derived.Deep.CutBlock
namespace Go.Proofs.Ytfojjklohbiffaa
open Go.RowKit Tran Tran.Wire
set_option linter.unusedVariables false
/-- how a reader may go on: what failed stays so and tells zero; what has not has less left -/
structure Stick (st st' : Option (List UInt8)) (z : Bool) : Prop where
  stay : st = none → st' = none
  zero : st' = none → z = true
  less : ∀ r', st' = some r' → ∃ r, st = some r ∧ r'.length < r.length
theorem rnum_less {st : Option (List UInt8)} {m : Nat} {l : List UInt8} (h : (rnumS st m).2 = some l) : ∃ r, st = some r ∧ l.length < r.length := by
  obtain ⟨h1, _, h3⟩ := rnumS_some (st := st) (m := m) (x := (rnumS st m).1) (l := l) (by rw [← h])
  have := (numF_len (rnumS st m).1 h3).2
  exact ⟨_, h1, by rw [List.length_append]; omega⟩
theorem stick_num (st : Option (List UInt8)) (m : Nat) : Stick st (rnumS st m).2 (decide ((rnumS st m).1 = 0)) :=
  ⟨fun h => by rw [h, rnumS_none], fun h => decide_eq_true (rnumS_zero h), fun _ h => rnum_less h⟩
theorem takeS_some {st : Option (List UInt8)} {n : Nat} {l : List UInt8} (h : (takeS st n).2 = some l) : ∃ r, st = some r ∧ l.length ≤ r.length := by
  cases st with
  | none => cases h
  | some r =>
    unfold takeS at h
    simp only at h
    split at h
    · injection h with h; subst h; exact ⟨r, rfl, by simp⟩
    · cases h
theorem takeS_none {st : Option (List UInt8)} {n : Nat} (h : (takeS st n).2 = none) : (takeS st n).1 = [] := by
  cases st with
  | none => rfl
  | some r =>
    unfold takeS at h ⊢
    simp only at h ⊢
    split at h
    · cases h
    · rename_i hn; rw [if_neg hn]
theorem stick_text (st : Option (List UInt8)) (m : Int) : Stick st (rtextS st m).2 (rtextS st m).1.isEmpty := by
  refine ⟨fun h => ?_, fun h => (by rw [show (rtextS st m).1 = [] from takeS_none h]; rfl), fun r' h => ?_⟩
  · unfold rtextS; rw [h, rnumS_none]; rfl
  · obtain ⟨r1, h1, h2⟩ := takeS_some h
    obtain ⟨r, h3, h4⟩ := rnum_less h1
    exact ⟨r, h3, by omega⟩
theorem rdot_less {st : Option (List UInt8)} {l : List UInt8} (h : (rdotS st).2 = some l) : ∃ r, st = some r ∧ l.length < r.length := by
  obtain ⟨r1, h1, h2⟩ := rnum_less h
  obtain ⟨r, h3, h4⟩ := rnum_less h1
  exact ⟨r, h3, by omega⟩
theorem rdot_none : (rdotS none).2 = none := by unfold rdotS; simp only [rnumS_none]
theorem rvec_less {st : Option (List UInt8)} : ∀ (k : Nat) {l : List UInt8}, (rvecS st (k + 1)).2 = some l → ∃ r, st = some r ∧ l.length < r.length
  | 0, l, h => rnum_less h
  | k + 1, l, h => by
    obtain ⟨r1, h1, h2⟩ := rnum_less (st := (rvecS st (k + 1)).2) h
    obtain ⟨r, h3, h4⟩ := rvec_less k h1
    exact ⟨r, h3, by omega⟩
theorem rvec_none : ∀ k, (rvecS none k).2 = none
  | 0 => rfl
  | k + 1 => by show (rnumS (rvecS none k).2 4294967295).2 = none; rw [rvec_none k, rnumS_none]
set_option maxRecDepth 100000 in
theorem dot_eql (W : World) (a b c d : Int) : (binOp .eql 82 (.agg #[.int .u8 a, .int .u32 b]) (.agg #[.int .u8 c, .int .u32 d])).run Try.prog W = .ok (.bool (a == c && b == d)) W := by
  by_cases h1 : a = c <;> by_cases h2 : b = d <;> simp [go_sem, h1, h2]
theorem left_none {W : World} {p : Option Addr} (h : RdP W p none) : Calls Try.prog 63 #[.pointer p] W fun e w' => e = .returned (.int .i64 0) ∧ ∃ n, w' = W.drewN n := left_r h
theorem left_some {W : World} {p : Option Addr} {r : List UInt8} (h : RdP W p (some r)) : Calls Try.prog 63 #[.pointer p] W fun e w' => e = .returned (.int .i64 (r.length : Nat)) ∧ ∃ n, w' = W.drewN n := left_r h
theorem end_none {W : World} {p : Option Addr} (h : RdP W p none) : Calls Try.prog 64 #[.pointer p] W fun e w' => e = .returned (.int .i64 5) ∧ ∃ n, w' = W.drewN n := end_r h (by simp [leftN])
theorem fine_none {W : World} {p : Option Addr} (h : RdP W p none) : Calls Try.prog 62 #[.pointer p] W fun e w' => e = .returned (.bool false) ∧ W = w' := fine_r h
theorem fine_some {W : World} {p : Option Addr} {r : List UInt8} (h : RdP W p (some r)) : Calls Try.prog 62 #[.pointer p] W fun e w' => e = .returned (.bool true) ∧ W = w' := fine_r h
theorem dotV_zero (st : Option (List UInt8)) : ∃ a b : Nat, dotV st = .agg #[.int .u8 (a : Nat), .int .u32 (b : Nat)] ∧ Stick st (rdotS st).2 ((a : Int) == 0 && (b : Int) == 0) := by
  unfold dotV
  cases h : (rdotS st).2 with
  | none => exact ⟨0, 0, rfl, ⟨fun _ => rfl, fun _ => rfl, fun _ e => (by cases e)⟩⟩
  | some l => exact ⟨_, _, rfl, ⟨fun e => (by subst e; rw [rdot_none] at h; cases h), fun e => (by cases e), fun r' e => (by cases e; exact rdot_less h)⟩⟩
set_option maxRecDepth 100000 in
theorem vecV_zero (st : Option (List UInt8)) : ∃ x0 x1 x2 x3 x4 x5 x6 x7 : Nat, vecV st = .agg #[.int .u32 (x0 : Nat), .int .u32 (x1 : Nat), .int .u32 (x2 : Nat), .int .u32 (x3 : Nat), .int .u32 (x4 : Nat), .int .u32 (x5 : Nat), .int .u32 (x6 : Nat), .int .u32 (x7 : Nat)] ∧ Stick st (rvecS st 8).2 ([x0, x1, x2, x3, x4, x5, x6, x7] == zer8) ∧
    ∀ W, (binOp .eql 54 (.agg #[.int .u32 (x0 : Nat), .int .u32 (x1 : Nat), .int .u32 (x2 : Nat), .int .u32 (x3 : Nat), .int .u32 (x4 : Nat), .int .u32 (x5 : Nat), .int .u32 (x6 : Nat), .int .u32 (x7 : Nat)]) (.agg #[.int .u32 0, .int .u32 0, .int .u32 0, .int .u32 0, .int .u32 0, .int .u32 0, .int .u32 0, .int .u32 0])).run Try.prog W = .ok (.bool ([x0, x1, x2, x3, x4, x5, x6, x7] == zer8)) W := by
  have key : ∃ xs : List Nat, xs.length = 8 ∧ vecV st = .agg (vecA xs) ∧ Stick st (rvecS st 8).2 (xs == zer8) := by
    unfold vecV
    cases h : (rvecS st 8).2 with
    | none => exact ⟨zer8, rfl, rfl, ⟨fun _ => rfl, fun _ => rfl, fun _ e => (by cases e)⟩⟩
    | some l => exact ⟨_, rvecS_len st 8, rfl, ⟨fun e => (by subst e; rw [rvec_none] at h; cases h), fun e => (by cases e), fun r' e => (by cases e; exact rvec_less 7 h)⟩⟩
  obtain ⟨xs, hl, hv, hs⟩ := key
  have he := vec_eql xs zer8 hl rfl
  match xs, hl with
  | [x0, x1, x2, x3, x4, x5, x6, x7], _ => exact ⟨x0, x1, x2, x3, x4, x5, x6, x7, hv, hs, fun W => he W⟩
set_option maxRecDepth 100000 in
set_option maxHeartbeats 8000000 in
theorem sticks_any (w : World) (s : List UInt8) (hsl : s.length ≤ maxLen) (A : Option Addr) (cap : Nat) (l : List NItem) (h : Rd w A l.length 14 (l.flatMap itemF)) (hl : l.length ≤ maxLen) (hok : ∀ x ∈ l, x.ok) :
    Calls Try.prog 14 #[.string ⟨s.toArray⟩, .slice A l.length cap] w fun e w' => e = .returned (.bool true) ∧ Below w.heap.size w w' := by
  unfold maxLen at hl hsl
  by_cases hg : s.length ≤ 3000 ∧ l.length ≤ 100
  · obtain ⟨hg1, hg2⟩ := hg
    have HR := Lib.hid (fun W (hb : Below w.heap.size w W) i (hi : i < l.length) => item_at hok (h.later hb) hi)
    have HOK := Lib.hid hok
    clear hl h hok hsl
    go_enter Try.func14, Try.ntmps14
    go_wp2_with fail
    refine (open_r w (by omega)).mono ?_
    rintro e w0 ⟨rfl, r0, hw0⟩
    have b0 : Below w.heap.size w w0 := by rw [hw0]; exact (Below.refl _ _).alloc (Nat.le_refl _) _
    have L0 : Calls Try.prog 63 #[.pointer (some ⟨w.heap.size, 0, none⟩)] w0 fun e w' => e = .returned (.int .i64 (s.length : Nat)) ∧ ∃ n, w' = w0.drewN n := left_r r0
    replace L0 := Lib.hid L0
    have R0 := Lib.hid r0
    clear hw0 r0
    go_wp2_with fail
    refine L0.out.mono ?_
    rintro e w1 ⟨rfl, n, hn⟩
    have b1 : Below w.heap.size w w1 := by rw [hn]; exact below_drewN b0 n
    have r1 : RdP w1 (some ⟨w.heap.size, 0, none⟩) (some s) := by rw [hn]; exact R0.out
    clear hn b0 R0 L0
    go_wp2_with fail
    go_loopw [6] (fun i wr => ∃ k : Nat, ∃ st, k ≤ l.length ∧ i = .int .i64 k ∧ RdP wr (some ⟨w.heap.size, 0, none⟩) st ∧ Below w.heap.size w wr) (fun i _ => l.length - (intOf i).toNat)
    case atStart => exact ⟨0, some s, by omega, rfl, r1, b1⟩
    case round =>
      clear r1 b1
      obtain ⟨k, st, hk, rfl, r, b⟩ := hrel
      by_cases hlt : k < l.length
      · obtain ⟨ad, rfl, h1⟩ := HR.out wr b k hlt
        have hx := HOK.out _ (List.getElem_mem hlt)
        have c0 := h1 0 _ (item_c0 _)
        have c5 := h1 13 _ (item_c13 _ hx)
        rw [add_at _ _ _ (by omega)] at c5
        rw [add_zero_a] at c0
        have F := Lib.hid (fine_r r)
        have L := Lib.hid (left_r r)
        have R := Lib.hid r
        have B := Lib.hid b
        have H1 := Lib.hid h1
        have HX := Lib.hid hx
        clear r b h1 hx
        go_wp2_with fail
        refine F.out.mono ?_
        rintro e w1 ⟨rfl, rfl⟩
        go_wp2_with fail
        refine L.out.mono ?_
        rintro e w2 ⟨rfl, n2, hn2⟩
        have r2 : RdP w2 (some ⟨w.heap.size, 0, none⟩) st := by rw [hn2]; exact R.out
        have b2 : Below w.heap.size w w2 := by rw [hn2]; exact below_drewN B.out n2
        have h2 : ∀ j v, (itemA l[k])[j]? = some v → w2.cell? ((ad.add (k * 14)).add j) = some v := by rw [hn2]; exact H1.out
        have d0 := h2 0 _ (item_c0 _)
        have d5 := h2 13 _ (item_c13 _ HX.out)
        rw [add_at _ _ _ (by omega)] at d5
        rw [add_zero_a] at d0
        have R2 := Lib.hid r2
        have B2 := Lib.hid b2
        clear hn2 r2 b2 h2 F L R B H1 c0 c5
        go_upto_block 2 with (fail)
        go_cut [9] from 44 to 77 (fun s9 wx => ∃ st' z, s9 = .bool z ∧ Stick st st' z ∧ RdP wx (some ⟨w.heap.size, 0, none⟩) st' ∧ Below w.heap.size w wx)
        case first =>
          have hx := HX.out
          clear HX
          generalize l[k] = x at *
          have hcs : x.kind % 4 = 0 ∨ x.kind % 4 = 1 ∨ x.kind % 4 = 2 ∨ x.kind % 4 = 3 := by omega
          have hkb : (x.kind : Int) % 4 = ((x.kind % 4 : Nat) : Int) := by omega
          replace hx := Lib.hid hx
          rcases hcs with hk | hk | hk | hk
          · have N := Lib.hid (rnum_r R2.out x.most)
            have S := Lib.hid (stick_num st x.most)
            have hm : (x.kind : Int) % 4 = 0 := by omega
            clear hkb hk
            go_wp2_with fail
            refine N.out.mono ?_
            rintro e w3 ⟨rfl, r3⟩
            go_wp2_with fail
            go_meet
            refine ⟨_, _, rfl, ?_, r3.rd, B2.out.trans (r3.toBelow (Nat.le_refl _) B2.out.size)⟩
            have e : (((rnumS st x.most).1 : Int) == 0) = decide ((rnumS st x.most).1 = 0) := by
              rw [Bool.eq_iff_iff]; simp
            rw [e]; exact S.out
          · have em : (((x.most % 3000 : Nat) : Int)) = (x.most : Int) % 3000 := by omega
            have N := rtext_r R2.out (((x.most % 3000 : Nat) : Int)) (by omega)
            have S := Lib.hid (stick_text st (((x.most % 3000 : Nat) : Int)))
            generalize rtextS st (((x.most % 3000 : Nat) : Int)) = q at *
            rw [em] at N
            replace N := Lib.hid N
            have hm : (x.kind : Int) % 4 = 1 := by omega
            clear hkb hk em
            go_wp2_with fail
            refine N.out.mono ?_
            rintro e w3 ⟨rfl, r3⟩
            go_wp2_with fail
            go_meet
            refine ⟨_, _, rfl, ?_, r3.rd, B2.out.trans (r3.toBelow (Nat.le_refl _) B2.out.size)⟩
            exact S.out
          · have N := rdot_r R2.out
            obtain ⟨a, b, hab, hz⟩ := dotV_zero st
            rw [hab] at N
            have heq := fun W => dot_eql W a b 0 0
            replace N := Lib.hid N
            have hm : (x.kind : Int) % 4 = 2 := by omega
            replace hz := Lib.hid hz
            clear hkb hk hab
            go_wp2_with fail
            refine N.out.mono ?_
            rintro e w3 ⟨rfl, r3⟩
            go_wp2_with fail
            go_meet
            refine ⟨_, _, rfl, ?_, r3.rd, B2.out.trans (r3.toBelow (Nat.le_refl _) B2.out.size)⟩
            exact hz.out
          · have N := rvec_r R2.out
            obtain ⟨x0, x1, x2, x3, x4, x5, x6, x7, hab, hz⟩ := vecV_zero st
            rw [hab] at N
            have heq := hz.2
            replace hz := Lib.hid hz.1
            replace N := Lib.hid N
            have hm : (x.kind : Int) % 4 = 3 := by omega
            clear hkb hk hab
            go_wp2_with fail
            refine N.out.mono ?_
            rintro e w3 ⟨rfl, r3⟩
            go_wp2_with fail
            go_meet
            refine ⟨_, _, rfl, ?_, r3.rd, B2.out.trans (r3.toBelow (Nat.le_refl _) B2.out.size)⟩
            exact hz.out
        case rest =>
          obtain ⟨st', z, rfl, S, r3, b3⟩ := hcut
          clear d0 d5 R2 B2
          replace S := Lib.hid S
          have R3 := Lib.hid r3
          clear r3
          cases st with
          | none =>
            obtain rfl := S.out.stay rfl
            obtain rfl := S.out.zero rfl
            go_wp2_with fail
            refine (fine_none R3.out).mono ?_
            rintro e w4 ⟨rfl, rfl⟩
            go_wp2_with fail
            refine (fine_none R3.out).mono ?_
            rintro e w4 ⟨rfl, rfl⟩
            go_wp2_with fail
            refine (left_none R3.out).mono ?_
            rintro e w4 ⟨rfl, n4, hn4⟩
            have r4 : RdP w4 (some ⟨w.heap.size, 0, none⟩) none := by rw [hn4]; exact R3.out
            have b4 : Below w.heap.size w w4 := by rw [hn4]; exact below_drewN b3 n4
            have R4 := Lib.hid r4
            clear hn4 r4 b3 R3
            go_wp2_with fail
            refine (end_none R4.out).mono ?_
            rintro e w5 ⟨rfl, n5, hn5⟩
            have r5 : RdP w5 (some ⟨w.heap.size, 0, none⟩) none := by rw [hn5]; exact R4.out
            have b5 : Below w.heap.size w w5 := by rw [hn5]; exact below_drewN b4 n5
            have R5 := Lib.hid r5
            clear hn5 r5 b4 R4
            go_wp2_with fail
            refine (fine_none R5.out).mono ?_
            rintro e w6 ⟨rfl, rfl⟩
            go_wp2_with fail
            go_roundw
            case rel => exact ⟨k + 1, none, hlt, by go_num, R5.out, b5⟩
            case measure => simp [intOf]; omega
          | some r =>
            cases st' with
            | none =>
              obtain rfl := S.out.zero rfl
              go_wp2_with fail
              refine (fine_none R3.out).mono ?_
              rintro e w4 ⟨rfl, rfl⟩
              go_wp2_with fail
              refine (left_none R3.out).mono ?_
              rintro e w4 ⟨rfl, n4, hn4⟩
              have r4 : RdP w4 (some ⟨w.heap.size, 0, none⟩) none := by rw [hn4]; exact R3.out
              have b4 : Below w.heap.size w w4 := by rw [hn4]; exact below_drewN b3 n4
              have R4 := Lib.hid r4
              clear hn4 r4 b3 R3
              go_wp2_with fail
              refine (end_none R4.out).mono ?_
              rintro e w5 ⟨rfl, n5, hn5⟩
              have r5 : RdP w5 (some ⟨w.heap.size, 0, none⟩) none := by rw [hn5]; exact R4.out
              have b5 : Below w.heap.size w w5 := by rw [hn5]; exact below_drewN b4 n5
              have R5 := Lib.hid r5
              clear hn5 r5 b4 R4
              go_wp2_with fail
              refine (fine_none R5.out).mono ?_
              rintro e w6 ⟨rfl, rfl⟩
              go_wp2_with fail
              go_roundw
              case rel => exact ⟨k + 1, none, hlt, by go_num, R5.out, b5⟩
              case measure => simp [intOf]; omega
            | some r' =>
              have hlr : r'.length < r.length := by
                obtain ⟨r2, h2, h3⟩ := S.out.less r' rfl
                injection h2 with h2; subst h2; exact h3
              have hlr2 : ((leftN (some r) : Nat) : Int) = (r.length : Nat) := rfl
              have hge : decide (((r.length : Nat) : Int) ≤ (r'.length : Nat)) = false := decide_eq_false (by omega)
              rw [hlr2]
              clear hlr2
              go_wp2_with fail
              refine (fine_some R3.out).mono ?_
              rintro e w4 ⟨rfl, rfl⟩
              go_wp2_with fail
              refine (fine_some R3.out).mono ?_
              rintro e w4 ⟨rfl, rfl⟩
              go_wp2_with fail
              refine (left_some R3.out).mono ?_
              rintro e w4 ⟨rfl, n4, hn4⟩
              have r4 : RdP w4 (some ⟨w.heap.size, 0, none⟩) (some r') := by rw [hn4]; exact R3.out
              have b4 : Below w.heap.size w w4 := by rw [hn4]; exact below_drewN b3 n4
              clear hn4 b3 R3
              go_wp2_with fail
              go_roundw
              case rel => exact ⟨k + 1, some r', hlt, by go_num, r4, b4⟩
              case measure => simp [intOf]; omega
      · have R := Lib.hid r
        clear r
        cases st with
        | none =>
          go_wp2_with fail
          refine (end_none R.out).mono ?_
          rintro e w5 ⟨rfl, n5, hn5⟩
          have r5 : RdP w5 (some ⟨w.heap.size, 0, none⟩) none := by rw [hn5]; exact R.out
          have b8 : Below w.heap.size w w5 := by rw [hn5]; exact below_drewN b n5
          have R5 := Lib.hid r5
          clear hn5 r5 b
          go_wp2_with fail
          refine (fine_none R5.out).mono ?_
          rintro e w6 ⟨rfl, rfl⟩
          go_wp2_with fail
          refine (head02_any _).mono ?_
          rintro e w9 ⟨rfl, d9⟩
          have b9 := b8.trans (d9.mono b8.size)
          go_wp2
          go_ret
          exact ⟨rfl, b9⟩
        | some r =>
          have E := end_r R.out R.out.left_le
          have L := left_some (W := wr) R.out
          cases r with
          | nil =>
            have E2 : Calls Try.prog 64 #[.pointer (some ⟨w.heap.size, 0, none⟩)] wr fun e w' => e = .returned (.int .i64 0) ∧ ∃ n, w' = wr.drewN n := E
            replace E := Lib.hid E2
            clear E2 L
            go_wp2_with fail
            refine E.out.mono ?_
            rintro e w5 ⟨rfl, n5, hn5⟩
            have r5 : RdP w5 (some ⟨w.heap.size, 0, none⟩) (some []) := by rw [hn5]; exact R.out
            have b7 : Below w.heap.size w w5 := by rw [hn5]; exact below_drewN b n5
            have L5 : Calls Try.prog 63 #[.pointer (some ⟨w.heap.size, 0, none⟩)] w5 fun e w' => e = .returned (.int .i64 0) ∧ ∃ n, w' = w5.drewN n := left_some r5
            have R5 := Lib.hid r5
            replace L5 := Lib.hid L5
            clear hn5 r5 b
            go_wp2_with fail
            refine (fine_some R5.out).mono ?_
            rintro e w6 ⟨rfl, rfl⟩
            go_wp2_with fail
            refine L5.out.mono ?_
            rintro e w6 ⟨rfl, n6, hn6⟩
            have b8 : Below w.heap.size w w6 := by rw [hn6]; exact below_drewN b7 n6
            clear hn6
            go_wp2_with fail
            refine (head02_any _).mono ?_
            rintro e w9 ⟨rfl, d9⟩
            have b9 := b8.trans (d9.mono b8.size)
            go_wp2
            go_ret
            exact ⟨rfl, b9⟩
          | cons c r =>
            have E2 : Calls Try.prog 64 #[.pointer (some ⟨w.heap.size, 0, none⟩)] wr fun e w' => e = .returned (.int .i64 5) ∧ ∃ n, w' = wr.drewN n := E
            have hz : (((r.length : Nat) : Int) + 1 == 0) = false := by rw [beq_eq_false_iff_ne]; omega
            replace E := Lib.hid E2
            clear E2 L
            go_wp2_with fail
            refine E.out.mono ?_
            rintro e w5 ⟨rfl, n5, hn5⟩
            have r5 : RdP w5 (some ⟨w.heap.size, 0, none⟩) (some (c :: r)) := by rw [hn5]; exact R.out
            have b7 : Below w.heap.size w w5 := by rw [hn5]; exact below_drewN b n5
            have L5 : Calls Try.prog 63 #[.pointer (some ⟨w.heap.size, 0, none⟩)] w5 fun e w' => e = .returned (.int .i64 ((r.length : Nat) + 1)) ∧ ∃ n, w' = w5.drewN n := by
              have h := left_some r5
              rw [show (((c :: r).length : Nat) : Int) = (r.length : Nat) + 1 by simp] at h
              exact h
            have R5 := Lib.hid r5
            replace L5 := Lib.hid L5
            clear hn5 r5 b
            go_wp2_with fail
            refine (fine_some R5.out).mono ?_
            rintro e w6 ⟨rfl, rfl⟩
            go_wp2_with fail
            refine L5.out.mono ?_
            rintro e w6 ⟨rfl, n6, hn6⟩
            have b8 : Below w.heap.size w w6 := by rw [hn6]; exact below_drewN b7 n6
            clear hn6
            go_wp2_with fail
            refine (head02_any _).mono ?_
            rintro e w9 ⟨rfl, d9⟩
            have b9 := b8.trans (d9.mono b8.size)
            go_wp2
            go_ret
            exact ⟨rfl, b9⟩
  · clear h hok
    by_cases h3 : 3000 < s.length
    · clear hg
      go_enter Try.func14, Try.ntmps14
      go_wp2_with fail
      refine (head02_any w).mono ?_
      rintro e w2 ⟨rfl, b2⟩
      go_wp2
      go_ret
      exact ⟨rfl, b2⟩
    · have h4 : 100 < l.length := by omega
      clear hg
      go_enter Try.func14, Try.ntmps14
      go_wp2_with fail
      refine (head02_any w).mono ?_
      rintro e w2 ⟨rfl, b2⟩
      go_wp2
      go_ret
      exact ⟨rfl, b2⟩
end Go.Proofs.Ytfojjklohbiffaa
