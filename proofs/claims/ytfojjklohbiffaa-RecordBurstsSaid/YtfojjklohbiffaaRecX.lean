/- Records' laws: the walk of RecordScans. -/
import Derived.Test.YtfojjklohbiffaaRecW
namespace Go.Proofs.Ytfojjklohbiffaa
open Go.RowKit Tran Tran.Wire
set_option linter.unusedVariables false
theorem recs_fst (q : List (List UInt8 × Nat)) : (q.map (·.1)).length = q.length := by simp
set_option maxRecDepth 100000 in
set_option maxHeartbeats 8000000 in
theorem rscans_any (s : List UInt8) (hs : s.length ≤ maxLen) (w : World) :
    Calls Try.prog 18 #[.string ⟨s.toArray⟩] w fun e w' => e = .returned (.bool true) ∧ Below w.heap.size w w' := by
  unfold maxLen at hs
  by_cases hb : 3000 < s.length
  · go_enter Try.func18, Try.ntmps18
    go_wp2_with fail
    refine (head08_any _).mono ?_
    rintro e w1 ⟨rfl, b1⟩
    go_wp2
    go_ret
    exact ⟨rfl, b1⟩
  · have C1 := scan_any s (by omega)
    have C2 := tscan_any s (by omega)
    obtain ⟨hn1, hn2, hn3⟩ := scanF_le s
    obtain ⟨hk1, hk2, hk3⟩ := scanF_back s
    generalize scanF s = q at *
    obtain ⟨l, st⟩ := q
    unfold Scanned at C1 C2
    simp only at C1 C2 hn1 hn2 hn3 hk1 hk2 hk3
    have hll : (l.map (·.1)).length = l.length := recs_fst l
    generalize l.map (·.1) = ts at *
    rw [← hll] at C1 C2 hn2
    generalize taken l = n at *
    replace C1 := Lib.hid C1
    replace C2 := Lib.hid C2
    have HR := Lib.hid (fun (w : World) A cap (h : Rd w A ts.length 1 (strs ts)) => rput_any w A cap ts h (by omega) (fun s hs => by have := hk2 s hs; omega) (by rw [hk1, List.length_take]; omega))
    have HP := Lib.hid (putR_row hk2)
    rw [hk1] at HP
    have hct := cut_to s n hn1
    clear hk1 hk2 hll
    have hbool : ((decide ((st : Int) = 0)) != (decide (n = s.length))) = false := by
      rw [bne_eq_false_iff_eq, decide_eq_decide]; omega
    by_cases h0 : st = 0
    · have hns := hk3.1 h0
      subst h0
      have hsn : ((n : Int) == (s.length : Nat)) = true := by rw [beq_iff_eq]; omega
      clear hk3 hns hbool
      rw [show ((0 : Nat) : Int) = 0 from rfl] at C1 C2
      go_enter Try.func18, Try.ntmps18
      go_wp2_with fail
      refine (C1.out _).mono ?_
      rintro e w1 ⟨u1, rfl, o1, b1⟩
      go_wp2_with fail
      refine (C2.out _).mono ?_
      rintro e w2 ⟨u2, rfl, o2, b2⟩
      have S := Lib.hid (same_self ((Txt.of o1).later b2) (Txt.of o2) (by omega))
      have b3 := b1.trans (b2.mono b1.size)
      go_wp2_with fail
      refine S.out.mono ?_
      rintro e w3 ⟨rfl, d3⟩
      obtain ⟨A, cap, rfl, _, _, _⟩ := o1.slice
      have P := HR.out w3 A cap (((Txt.of o1).later b2).later d3).rd
      unfold PutsR at P
      rw [HP.out] at P
      replace P := Lib.hid P
      have b4 := b3.trans (d3.mono b3.size)
      clear o1 o2 b1 b2 d3 b3 S
      go_wp2_with fail
      refine P.out.mono ?_
      rintro e w4 ⟨rfl, d4⟩
      have b5 := b4.trans (d4.mono b4.size)
      go_wp2_with fail
      refine (head08_any _).mono ?_
      rintro e w5 ⟨rfl, d5⟩
      have b6 := b5.trans (d5.mono b5.size)
      go_wp2_with fail
      go_ret
      exact ⟨rfl, b6⟩
    · have hns : ¬ n = s.length := fun h => h0 (hk3.2 h)
      have hsn : ((n : Int) == (s.length : Nat)) = false := by rw [beq_eq_false_iff_ne]; omega
      have hs0 : ((st : Int) == 0) = false := by rw [beq_eq_false_iff_ne]; omega
      clear hk3 hbool
      go_enter Try.func18, Try.ntmps18
      go_wp2_with fail
      refine (C1.out _).mono ?_
      rintro e w1 ⟨u1, rfl, o1, b1⟩
      go_wp2_with fail
      refine (C2.out _).mono ?_
      rintro e w2 ⟨u2, rfl, o2, b2⟩
      have S := Lib.hid (same_self ((Txt.of o1).later b2) (Txt.of o2) (by omega))
      have b3 := b1.trans (b2.mono b1.size)
      go_wp2_with fail
      refine S.out.mono ?_
      rintro e w3 ⟨rfl, d3⟩
      obtain ⟨A, cap, rfl, _, _, _⟩ := o1.slice
      have P := HR.out w3 A cap (((Txt.of o1).later b2).later d3).rd
      unfold PutsR at P
      rw [HP.out] at P
      replace P := Lib.hid P
      have b4 := b3.trans (d3.mono b3.size)
      clear o1 o2 b1 b2 d3 b3 S
      go_wp2_with fail
      refine P.out.mono ?_
      rintro e w4 ⟨rfl, d4⟩
      have b5 := b4.trans (d4.mono b4.size)
      go_wp2_with fail
      refine (head08_any _).mono ?_
      rintro e w5 ⟨rfl, d5⟩
      have b6 := b5.trans (d5.mono b5.size)
      go_wp2_with fail
      go_ret
      exact ⟨rfl, b6⟩
end Go.Proofs.Ytfojjklohbiffaa
