/- WireReads, walked. -/
import Derived.Test.YtfojjklohbiffaaItemsE
import Derived.Deep.CutRange
namespace Go.Proofs.Ytfojjklohbiffaa
open Go.RowKit Tran Tran.Wire
set_option linter.unusedVariables false
set_option maxRecDepth 100000 in
set_option maxHeartbeats 8000000 in
theorem reads_any (w : World) (s : List UInt8) (hsl : s.length ≤ maxLen) (A : Option Addr) (cap : Nat) (l : List NItem) (h : Rd w A l.length 14 (l.flatMap itemF)) (hl : l.length ≤ maxLen) (hok : ∀ x ∈ l, x.ok) :
    Calls Try.prog 13 #[.string ⟨s.toArray⟩, .slice A l.length cap] w fun e w' => e = .returned (.bool true) ∧ Below w.heap.size w w' := by
  unfold maxLen at hl
  by_cases hg : s.length ≤ 3000 ∧ l.length ≤ 100
  · obtain ⟨hg1, hg2⟩ := hg
    have HR := Lib.hid (fun W (hb : Below w.heap.size w W) i (hi : i < l.length) => item_at hok (h.later hb) hi)
    have HOK := Lib.hid hok
    clear hl h hok hsl
    go_enter Try.func13, Try.ntmps13
    go_wp2_with fail
    refine (open_r w (by omega)).mono ?_
    rintro e w0 ⟨rfl, r0, hw0⟩
    have b0 : Below w.heap.size w w0 := by rw [hw0]; exact (Below.refl _ _).alloc (Nat.le_refl _) _
    have z0 : w0.heap.size = w.heap.size + 1 := by rw [hw0]; simp
    have d0 := (Below.refl w0.heap.size w0).alloc (Nat.le_refl _) (.cells #[.string ⟨s.toArray⟩, .bool true] 89)
    have k0 := Blk.new w0 89 #[.string ⟨s.toArray⟩, .bool true]
    rw [z0] at k0
    have I0 : RI w (some s) (w0.alloc (.cells #[.string ⟨s.toArray⟩, .bool true] 89)) := ⟨r0.below d0, k0, b0.trans (d0.mono b0.size)⟩
    replace I0 := Lib.hid I0
    have Z0 := Lib.hid z0
    clear z0 hw0 b0 r0 d0 k0
    go_wp2_with fail
    rw [Z0.out]
    go_loopw [7] (fun i wr => ∃ k : Nat, ∃ st, k ≤ l.length ∧ i = .int .i64 k ∧ RI w st wr) (fun i _ => l.length - (intOf i).toNat)
    case atStart => exact ⟨0, some s, by omega, rfl, I0.out⟩
    case round =>
      clear I0
      obtain ⟨k, st, hk, rfl, I⟩ := hrel
      by_cases hlt : k < l.length
      · obtain ⟨ad, rfl, h1⟩ := HR.out wr I.b k hlt
        have hx := HOK.out _ (List.getElem_mem hlt)
        obtain ⟨x0, x1, x2, x3, x4, x5, x6, x7, hlit⟩ := item_lit l[k] hx
        have T := fun W (hr : RdP W (some ⟨w.heap.size, 0, none⟩) st) => take02_any hr l[k] hx
        obtain ⟨s', f', hsf⟩ := rowC_form st
        rw [hlit] at h1 T
        simp only [hsf] at T
        unfold Read at T
        obtain ⟨s'', f'', hsf2⟩ := rowC_form (itemT st l[k])
        simp only [hsf2] at T
        replace T := Lib.hid T
        have HS2 := Lib.hid hsf2
        clear hsf2
        have c0 := h1 0 _ rfl
        have c1 := h1 1 _ rfl
        have c2 := h1 2 _ rfl
        have c3 := h1 3 _ rfl
        have c4 := h1 4 _ rfl
        have c5 := h1 5 _ rfl
        have c6 := h1 6 _ rfl
        have c7 := h1 7 _ rfl
        have c8 := h1 8 _ rfl
        have c9 := h1 9 _ rfl
        have c10 := h1 10 _ rfl
        have c11 := h1 11 _ rfl
        have c12 := h1 12 _ rfl
        have c13 := h1 13 _ rfl
        rw [add_at _ _ _ (by omega)] at c1 c2 c3 c4 c5 c6 c7 c8 c9 c10 c11 c12 c13
        rw [add_zero_a] at c0
        have nb : (ad.add (k * 14)).block < wr.heap.size := World.block_lt_of_cell? wr _ c0
        have nb1 : (ad.add (k * 14)).block ≠ wr.heap.size := by omega
        have nb2 : wr.heap.size ≠ (ad.add (k * 14)).block := by omega
        have y0 := I.k1.cell 0
        have y1 := I.k1.cell 1
        rw [hsf] at y0 y1
        have HI := Lib.hid I
        have HSF := Lib.hid hsf
        clear h1 hlit hx hsf I
        generalize itemT st l[k] = st' at *
        generalize l[k] = x at *
        go_upto_region 10 with (fail)
        go_cut [8, 9] from 25 to 72 (fun s8 s9 wx => ∃ g, s8 = .pointer (some ⟨g, 0, none⟩) ∧ s9 = .bool true ∧ RJ w st st' g wx)
        case first =>
          have L1 := HI.out.k1.lt
          have R1 := Lib.hid (T.out wr.drew HI.out.rd)
          have R2 := Lib.hid (T.out (wr.alloc (.cells #[.string ⟨#[]⟩, .bool false] 89)).drew (HI.out.rd.below (below_drew ((Below.refl _ _).alloc (Nat.le_refl _) _))))
          go_region_with (first
            | (go_at_call 61; ((with_reducible refine R1.out.mono ?_)); rintro e w4 ⟨rfl, r4⟩)
            | (go_at_call 61; ((with_reducible refine R2.out.mono ?_)); rintro e w5 ⟨rfl, r5⟩; have k5 := (Blk.new wr 89 #[.string ⟨#[]⟩, .bool false]).drew.chg r5.ch (fun e => by injection e with e; injection e with e; omega); have q0 := k5.cell 0; have q1 := k5.cell 1; have z0 := k5.frozen 0; have z1 := k5.frozen 1))
          all_goals
            go_wp2_with fail
            go_meet
            first
              | exact ⟨_, rfl, rfl, rj_after HI.out r4 HS2.out⟩
              | exact ⟨_, rfl, rfl, rj_before HI.out rfl r5 HS2.out⟩
        case rest =>
          obtain ⟨g, rfl, rfl, J⟩ := hcut
          have k1 := J.k1
          rw [HSF.out] at k1
          have q0 : _ = some (Value.string s') := k1.cell 0
          have q1 : _ = some (Value.bool f') := k1.cell 1
          have z0 := k1.frozen 0
          have z1 := k1.frozen 1
          have n1 := J.ne
          have n2 := J.ne.symm
          clear T c0 c1 c2 c3 c4 c5 c6 c7 c8 c9 c10 c11 c12 c13 y0 y1 nb nb1 nb2 HI HSF HS2 k1
          cases st' with
          | none =>
            have y0 : _ = some (Value.string ⟨#[]⟩) := J.k8.cell 0
            have y1 : _ = some (Value.bool false) := J.k8.cell 1
            have I6 := rj_done J rfl
            replace J := Lib.hid J
            go_wp2_with fail
            obtain ⟨w6, hw6⟩ : ∃ w6, w6 = (wc.setCell ⟨w.heap.size + 1, 0, none⟩ (.string ⟨#[]⟩)).setCell ⟨w.heap.size + 1, 1, none⟩ (.bool false) := ⟨_, rfl⟩
            rw [← hw6] at I6 ⊢
            clear hw6 q0 q1 z0 z1 y0 y1 n1 n2
            have y0 : _ = some (Value.string ⟨#[]⟩) := I6.k1.cell 0
            have y1 : _ = some (Value.bool false) := I6.k1.cell 1
            have F := Lib.hid (fun m => fine_r (w := w6.drewN m) (p := some ⟨w.heap.size, 0, none⟩) (st := none) I6.rd)
            have L := Lib.hid (fun m => left_r (w := w6.drewN m) (p := some ⟨w.heap.size, 0, none⟩) (st := none) I6.rd)
            have E := Lib.hid (fun m => end_r (w := w6.drewN m) (p := some ⟨w.heap.size, 0, none⟩) (st := none) I6.rd (by simp [leftN]))
            go_quiet (first
              | (go_at_call 62; exact quiet_left (F.out _))
              | (go_at_call 63; exact quiet_more (L.out _))
              | (go_at_call 64; exact quiet_more (E.out _)))
            go_wp2_with fail
            go_roundw
            case rel => exact ⟨k + 1, none, hlt, by go_num, ⟨I6.rd, I6.k1, below_drewN I6.b _⟩⟩
            case measure => simp [intOf]; omega
          | some r =>
            have y0 : _ = some (Value.string ⟨r.toArray⟩) := J.k8.cell 0
            have y1 : _ = some (Value.bool true) := J.k8.cell 1
            have I6 := rj_done J rfl
            replace J := Lib.hid J
            go_wp2_with fail
            obtain ⟨w6, hw6⟩ : ∃ w6, w6 = (wc.setCell ⟨w.heap.size + 1, 0, none⟩ (.string ⟨r.toArray⟩)).setCell ⟨w.heap.size + 1, 1, none⟩ (.bool true) := ⟨_, rfl⟩
            rw [← hw6] at I6 ⊢
            clear hw6 q0 q1 z0 z1 y0 y1 n1 n2
            have y0 : _ = some (Value.string ⟨r.toArray⟩) := I6.k1.cell 0
            have y1 : _ = some (Value.bool true) := I6.k1.cell 1
            have F := Lib.hid (fun m => fine_r (w := w6.drewN m) (p := some ⟨w.heap.size, 0, none⟩) (st := some r) I6.rd)
            have L := Lib.hid (fun m => left_r (w := w6.drewN m) (p := some ⟨w.heap.size, 0, none⟩) (st := some r) I6.rd)
            have E := (fun m => end_r (w := w6.drewN m) (p := some ⟨w.heap.size, 0, none⟩) (st := some r) I6.rd I6.rd.left_le)
            cases r with
            | nil =>
              replace E := Lib.hid E
              go_quiet (first
                | (go_at_call 62; exact quiet_left (F.out _))
                | (go_at_call 63; exact quiet_more (L.out _))
                | (go_at_call 64; exact quiet_more (E.out _)))
              go_wp2_with fail
              go_roundw
              case rel => exact ⟨k + 1, some [], hlt, by go_num, ⟨I6.rd, I6.k1, below_drewN I6.b _⟩⟩
              case measure => simp [intOf]; omega
            | cons b r =>
              have L2 : ∀ m, Calls Try.prog 63 #[.pointer (some ⟨w.heap.size, 0, none⟩)] (w6.drewN m) fun e w' => e = .returned (.int .i64 ((r.length : Nat) + 1)) ∧ ∃ n, w' = (w6.drewN m).drewN n := fun m => by
                have h := L.out m
                rw [show ((leftN (some (b :: r)) : Nat) : Int) = (r.length : Nat) + 1 by simp [leftN]] at h
                exact h
              have E2 : ∀ m, Calls Try.prog 64 #[.pointer (some ⟨w.heap.size, 0, none⟩)] (w6.drewN m) fun e w' => e = .returned (.int .i64 5) ∧ ∃ n, w' = (w6.drewN m).drewN n := fun m => E m
              have hz : (((r.length : Nat) : Int) + 1 == 0) = false := by rw [beq_eq_false_iff_ne]; omega
              replace E := Lib.hid E2
              replace L := Lib.hid L2
              clear E2 L2
              go_quiet (first
                | (go_at_call 62; exact quiet_left (F.out _))
                | (go_at_call 63; exact quiet_more (L.out _))
                | (go_at_call 64; exact quiet_more (E.out _)))
              go_wp2_with fail
              go_roundw
              case rel => exact ⟨k + 1, some (b :: r), hlt, by go_num, ⟨I6.rd, I6.k1, below_drewN I6.b _⟩⟩
              case measure => simp [intOf]; omega
      · go_wp2_with fail
        refine (head02_any _).mono ?_
        rintro e w3 ⟨rfl, d3⟩
        have b3 := I.b.trans (d3.mono I.b.size)
        go_wp2
        go_ret
        exact ⟨rfl, b3⟩
  · clear h hok
    unfold maxLen at hsl
    by_cases h3 : 3000 < s.length
    · clear hg
      go_enter Try.func13, Try.ntmps13
      go_wp2_with fail
      refine (head02_any w).mono ?_
      rintro e w2 ⟨rfl, b2⟩
      go_wp2
      go_ret
      exact ⟨rfl, b2⟩
    · have h4 : 100 < l.length := by omega
      clear hg
      go_enter Try.func13, Try.ntmps13
      go_wp2_with fail
      refine (head02_any w).mono ?_
      rintro e w2 ⟨rfl, b2⟩
      go_wp2
      go_ret
      exact ⟨rfl, b2⟩
end Go.Proofs.Ytfojjklohbiffaa
