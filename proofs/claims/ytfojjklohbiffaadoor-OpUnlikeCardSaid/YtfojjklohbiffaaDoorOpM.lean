/- Operations: the document's Get. -/
import Derived.Test.YtfojjklohbiffaaDoorOpL
import Derived.Test.YtfojjklohbiffaaDoorOpI
namespace Go.Proofs.YtfojjklohbiffaaDoor
open Go.RowKit Tran Tran.Wire
set_option linter.unusedVariables false
set_option linter.unusedSimpArgs false
set_option maxRecDepth 100000 in
set_option maxHeartbeats 8000000 in
theorem tgetO_any (w : World) (l : List UInt8) (hl : l.length ≤ 1000000) : Calls Tryd.prog 17 #[.string ⟨l.toArray⟩] w (GotO w (rdO (some l))) := by
  have T := Lib.hid (fun W => take_any W (some l) (fun s e => by injection e with e; subst e; omega))
  have H8 := Lib.hid (rdO_ok (some l)).dep8
  generalize rdO (some l) = q at *
  obtain ⟨x, s⟩ := q
  simp only at H8 T
  have kr := Blk.new w 30 (opA zeroO (.slice none 0 0))
  have hb0 := (Below.refl w.heap.size w).alloc (Nat.le_refl _) (.cells (opA zeroO (.slice none 0 0)) 30)
  have KR := Lib.hid kr
  have HB := Lib.hid hb0
  clear kr hb0
  have HZ1 : Hid ((opA zeroO (.slice none 0 0)).all (·.oneCell') = true) := Lib.hid (opA_one_ _ _ _ _)
  go_enter Tryd.func17, Tryd.ntmps17
  go_wp2_with fail
  rw [← zO_eq] at *
  refine (T.out _).mono ?_
  rintro e w1 ⟨lv, rfl, hL, hb⟩
  rw [World.size_alloc] at hL
  have hb := Lib.hid hb
  have KR := Lib.hid (KR.out.below hb.out KR.out.lt)
  have HB := Lib.hid (HB.out.trans (hb.out.mono HB.out.size))
  have HL := Lib.hid hL
  have HRW := Lib.hid KR.out.lt
  obtain ⟨A1, cap1, rfl, _, _, _⟩ := hL.slice
  clear hb hL
  cases s with
  | none =>
    simp only [Option.isSome_none, Bool.false_eq_true, if_false] at HL
    obtain ⟨t1, t2, t3, t4, tb⟩ := two_set w1 (opA zeroO (.slice none 0 0)) (opA zeroO (.slice A1 zeroO.lines.length cap1)) (rowC none) (rowC none) 30 81
    have KR2 := Lib.hid (KR.out.below tb KR.out.lt)
    have HB2 := Lib.hid (HB.out.trans (tb.mono HB.out.size))
    have T1 := Lib.hid t1
    have T2 := Lib.hid t2
    have c1 : _ = some (Value.bool false) := t4.cell 1
    rw [zO_eq, show (Obj.cells (rowC none) 81) = Obj.cells #[Value.string ⟨#[]⟩, Value.bool false] 81 from rfl] at c1
    clear t1 t2 t3 t4 tb
    go_wp2_with (first
      | (refine wpList_store_row rfl 30 _ _ rfl w1.heap.size _ rfl rfl 30 _ T1.out size122 rfl (opA_one_ _ _ _ _) ?_)
      | (refine wpList_store_row rfl 81 _ _ rfl (w1.heap.size + 1) (rowC none) rfl rfl 81 _ T2.out (by rw [rowC_size]; exact size89) (by simp only [rowC_size]) (rowC_one none) ?_)
      | (refine wpList_store_row rfl 30 _ _ rfl w.heap.size (opA zeroO (.slice none 0 0)) rfl rfl 30 _ KR2.out size122 rfl HZ1.out ?_))
    refine bodyPost_ret (results_row_tmp rfl _ _ w.heap.size 30 (opA zeroO (.slice none 0 0)) (0, 0) _ _ rfl rfl (KR2.out.row _) Tryd.underlying30 rfl size122) rfl ?_
    exact ⟨.slice none 0 0, rfl, Tran.Own.nil _ _ _ _, below_setRow HB2.out (Nat.le_refl _) _⟩
  | some l2 =>
    simp only [Option.isSome_some, if_true] at HL
    obtain ⟨t1, t2, t3, t4, tb⟩ := two_set w1 (opA zeroO (.slice none 0 0)) (opA x (.slice A1 x.lines.length cap1)) (rowC none) (rowC (some l2)) 30 81
    have KR2 := Lib.hid (KR.out.below tb KR.out.lt)
    have HB2 := Lib.hid (HB.out.trans (tb.mono HB.out.size))
    have HL2 := Lib.hid (HL.out.below tb (Nat.le_refl _))
    have T1 := Lib.hid t1
    have T2 := Lib.hid t2
    have T3 := Lib.hid t3
    have c0 : _ = some (Value.string ⟨l2.toArray⟩) := t4.cell 0
    have c1 : _ = some (Value.bool true) := t4.cell 1
    rw [zO_eq, show (Obj.cells (rowC none) 81) = Obj.cells #[Value.string ⟨#[]⟩, Value.bool false] 81 from rfl] at c0 c1
    have HSX := Lib.hid (opA_size x (.slice A1 x.lines.length cap1) H8.out)
    have HSO := Lib.hid (opA_one_ x A1 x.lines.length cap1)
    clear t1 t2 t3 t4 tb
    by_cases hz : l2 = []
    · subst hz
      simp only [Option.isSome_some, if_true]
      generalize hX : opA x (.slice A1 x.lines.length cap1) = X at *
      have HX := Lib.hid hX
      clear hX
      go_wp2_with (first
        | (refine wpList_store_row rfl 30 _ _ rfl w1.heap.size X rfl rfl 30 _ T1.out (by rw [HSX.out]; exact size122) (by rw [HSX.out]; rfl) HSO.out ?_)
        | (refine wpList_store_row rfl 81 _ _ rfl (w1.heap.size + 1) (rowC (some [])) rfl rfl 81 _ T2.out (by rw [rowC_size]; exact size89) (by simp only [rowC_size]) (rowC_one _) ?_)
        | (refine wpList_load_row rfl 30 _ rfl w1.heap.size rfl 30 X (0, 0) _ T3.out Tryd.underlying30 rfl (by rw [HSX.out]; exact size122) ?_)
        | (refine wpList_store_row rfl 30 _ _ rfl w.heap.size X rfl rfl 30 _ KR2.out (by rw [HSX.out]; exact size122) (by rw [HSX.out]; rfl) HSO.out ?_))
      refine bodyPost_ret (results_row_tmp rfl _ _ w.heap.size 30 X (0, 0) _ _ rfl rfl (KR2.out.row _) Tryd.underlying30 rfl (by rw [HSX.out]; exact size122)) rfl ?_
      refine ⟨.slice A1 x.lines.length cap1, by rw [if_pos rfl, HX.out]; rfl, ?_, below_setRow HB2.out (Nat.le_refl _) _⟩
      rw [if_pos rfl]
      exact own_weaken (HL2.out.rowFar (k := w.heap.size) (fun e => by have := (HL2.out.lt _ e).1; have := HRW.out; omega) X) (by have := HRW.out; omega)
    · have hd : decide ((0 : Int) < (l2.length : Int)) = true := decide_eq_true (by have := List.length_pos_iff.2 hz; omega)
      have hd2 : decide (0 < l2.length) = true := decide_eq_true (List.length_pos_iff.2 hz)
      have HE := Lib.hid (show endN (some l2) = 5 by cases l2 with | nil => exact absurd rfl hz | cons a b => rfl)
      have HN := Lib.hid (show ¬ some l2 = some [] from fun e => hz (by injection e))
      simp only [Option.isSome_some, if_true]
      generalize hX : opA x (.slice A1 x.lines.length cap1) = X at *
      clear hX
      go_wp2_with (first
        | (refine wpList_store_row rfl 30 _ _ rfl w1.heap.size X rfl rfl 30 _ T1.out (by rw [HSX.out]; exact size122) (by rw [HSX.out]; rfl) HSO.out ?_)
        | (refine wpList_store_row rfl 81 _ _ rfl (w1.heap.size + 1) (rowC (some l2)) rfl rfl 81 _ T2.out (by rw [rowC_size]; exact size89) (by simp only [rowC_size]) (rowC_one _) ?_)
        | (refine wpList_store_row rfl 30 _ _ rfl w.heap.size (opA zeroO (.slice none 0 0)) rfl rfl 30 _ KR2.out size122 rfl HZ1.out ?_))
      refine bodyPost_ret (results_row_tmp rfl _ _ w.heap.size 30 (opA zeroO (.slice none 0 0)) (0, 0) _ _ rfl rfl (KR2.out.row _) Tryd.underlying30 rfl size122) rfl ?_
      refine ⟨.slice none 0 0, ?_, ?_, below_setRow HB2.out (Nat.le_refl _) _⟩
      · rw [if_neg HN.out, HE.out]; rfl
      · rw [if_neg HN.out]; exact Tran.Own.nil _ _ _ _
end Go.Proofs.YtfojjklohbiffaaDoor
