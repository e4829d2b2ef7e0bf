/- Records' laws: the law's head. -/
import Derived.Test.YtfojjklohbiffaaRecU
namespace Go.Proofs.Ytfojjklohbiffaa
open Go.RowKit Tran Tran.Wire
set_option linter.unusedVariables false
theorem Txt.rd {w : World} {A : Option Addr} {n cap : Nat} {l : List (List UInt8)} (h : Txt w (.slice A n cap) l) : Rd w A l.length 1 (strs l) := by
  obtain ⟨A', cap', e, _, _, hr⟩ := h
  injection e with e1 e2 e3
  subst e1; exact hr
theorem Reads.mk' {x : ByteArray} {s : List UInt8} {l : List (List UInt8)} {q : List (List UInt8 × Nat)} {tk st : Nat} (hx : x.data.toList = s) (hl : s.length ≤ 1000000) (hs : scanF s = (q, st)) (hq : q.map (·.1) = l) (ht : taken q = tk) : Reads x l tk st := by
  refine ⟨by rw [hx]; exact hl, ?_, ?_, ?_⟩
  · rw [hx, hs]; exact hq
  · rw [hx, hs, ht]
  · rw [hx, hs]
/-- the two texts of the head -/
def ht2 : List (List UInt8) := [[97], []]
theorem ht2_ok : ∀ t ∈ ht2, t.length ≤ 65536 := by decide
theorem ht2_len : (ht2.flatMap recF).length = 11 := by
  simp only [ht2, List.flatMap_cons, List.flatMap_nil, List.append_nil, List.length_append, recF_len2]
  decide
theorem scan_bad (b : UInt8) (r : List UInt8) (st : Nat) (h : firstF b r = ([], 0, st + 1)) : scanF (b :: r) = ([], st + 1) := by
  rw [scanF, dif_neg (by rw [h]; simp), h]
theorem rd_a : Reads ⟨(ht2.flatMap recF).toArray⟩ [[97], []] 11 0 :=
  Reads.mk' rfl (by rw [ht2_len]; omega) (scanF_whole ht2 ht2_ok) (withLen_fst _) (by rw [withLen_taken, ht2_len])
theorem take1_len : ((ht2.take 1).flatMap recF).length = 6 := by
  simp only [ht2, List.take, List.flatMap_cons, List.flatMap_nil, List.append_nil, recF_len2]
  decide
theorem rd_b : Reads ⟨((ht2.flatMap recF).take 10).toArray⟩ [[97]] 6 1 := by
  have h := scanF_cut ht2 ht2_ok 10 1 (by decide) (by rw [take1_len]; omega) (by rw [ht2_len]; omega) (fun h => by
    rw [take1_len]; show 10 < 6 + (recF []).length; rw [recF_len2]; decide)
  rw [if_neg (by rw [take1_len]; omega)] at h
  exact Reads.mk' rfl (by rw [List.length_take]; omega) h (withLen_fst _) (by rw [withLen_taken, take1_len])
theorem sc5 : scanF [5] = ([], 1) := scan_bad _ _ 0 (by decide)
theorem rd_c : Reads (⟨(ht2.flatMap recF).toArray⟩ ++ ⟨#[5]⟩) [[97], []] 11 1 := by
  have h := scanF_row ht2 ht2_ok [5]
  rw [sc5, List.append_nil] at h
  exact Reads.mk' (by simp [ByteArray.data_append]) (by rw [List.length_append, ht2_len]; simp) h (withLen_fst _) (by rw [withLen_taken, ht2_len])
theorem rd_d : Reads ⟨#[130, 0]⟩ [] 0 2 := Reads.mk' (s := [130, 0]) rfl (by simp) (scan_bad _ _ 1 (by decide)) rfl rfl
theorem rd_e : Reads ⟨#[132]⟩ [] 0 2 := Reads.mk' (s := [132]) rfl (by simp) (scan_bad _ _ 1 (by decide)) rfl rfl
theorem rd_f : Reads ⟨#[129, 5]⟩ [] 0 2 := Reads.mk' (s := [129, 5]) rfl (by simp) (scan_bad _ _ 1 (by decide)) rfl rfl
theorem rd_g : Reads ⟨#[131, 2]⟩ [] 0 2 := Reads.mk' (s := [131, 2]) rfl (by simp) (scan_bad _ _ 1 (by decide)) rfl rfl
theorem rd_h : Reads ⟨#[131]⟩ [] 0 1 := Reads.mk' (s := [131]) rfl (by simp) (scan_bad _ _ 0 (by decide)) rfl rfl
theorem rd_i : Reads ⟨#[]⟩ [] 0 0 := Reads.mk' (s := []) rfl (by simp) scanF_nil rfl rfl
theorem txt_nil (w : World) : Txt w (.slice none 0 0) [] := Txt.of (Own.nil w 0 9 1)
set_option maxRecDepth 100000 in
set_option maxHeartbeats 8000000 in
theorem head08_any (w : World) : Calls Try.prog 75 #[] w fun e w' => e = .returned (.bool true) ∧ Below w.heap.size w w' := by
  have t0 : Txt (w.alloc (.cells #[.string ⟨#[97]⟩, .string ⟨#[]⟩] 9)) (.slice (some ⟨w.heap.size, 0, none⟩) 2 2) [[97], []] := Txt.of (lit_own w [[97], []] (by simp))
  have b0 := (Below.refl w.heap.size w).alloc (Nat.le_refl _) (.cells #[.string ⟨#[97]⟩, .string ⟨#[]⟩] 9)
  have P := rput_any (w.alloc (.cells #[.string ⟨#[97]⟩, .string ⟨#[]⟩] 9)) (some ⟨w.heap.size, 0, none⟩) 2 ht2 t0.rd (by decide) (by decide) (by rw [ht2_len]; omega)
  rw [show ht2.length = 2 from rfl] at P
  unfold PutsR at P
  rw [putR_row ht2_ok] at P
  have P := Lib.hid P
  have hln := ht2_len
  have hct := cut_to (ht2.flatMap recF) 10 (by omega)
  rw [show ((10 : Nat) : Int) = 10 from rfl] at hct
  have RA := Lib.hid rd_a
  have RB := Lib.hid rd_b
  have RC := Lib.hid rd_c
  have hle : ((((ht2.flatMap recF).length : Nat) : Int) != 11) = false := by rw [hln]; rfl
  have hl2 : (ht2.flatMap recF).length ≤ 11 := by omega
  have hl3 : 11 ≤ (ht2.flatMap recF).length := by omega
  clear hln t0
  generalize ht2.flatMap recF = S at *
  go_enter Try.func75, Try.ntmps75
  go_wp2_with fail
  refine P.out.mono ?_
  rintro e w1 ⟨rfl, d1⟩
  have b1 := b0.trans (d1.mono b0.size)
  clear d1 b0 P
  go_wp2_with fail
  refine (scans_yes RA.out (Txt.of (lit_own w1 [[97], []] (by simp))) (by simp)).mono ?_
  rintro e w2 ⟨rfl, d2⟩
  have b2 := (b1.alloc b1.size _).trans (d2.mono (b1.alloc b1.size _).size)
  clear d2 b1
  go_wp2_with fail
  refine (scans_yes RB.out (Txt.of (lit_own w2 [[97]] (by simp))) (by simp)).mono ?_
  rintro e w3 ⟨rfl, d3⟩
  have b3 := (b2.alloc b2.size _).trans (d3.mono (b2.alloc b2.size _).size)
  clear d3 b2
  go_wp2_with fail
  refine (scans_yes RC.out (Txt.of (lit_own w3 [[97], []] (by simp))) (by simp)).mono ?_
  rintro e w4 ⟨rfl, d4⟩
  have b4 := (b3.alloc b3.size _).trans (d4.mono (b3.alloc b3.size _).size)
  clear d4 b3
  go_wp2_with fail
  refine (scans_yes rd_d (txt_nil w4) (by simp)).mono ?_
  rintro e w5 ⟨rfl, d5⟩
  have b5 := b4.trans (d5.mono b4.size)
  clear d5 b4
  go_wp2_with fail
  refine (scans_yes rd_e (txt_nil w5) (by simp)).mono ?_
  rintro e w6 ⟨rfl, d6⟩
  have b6 := b5.trans (d6.mono b5.size)
  clear d6 b5
  go_wp2_with fail
  refine (scans_yes rd_f (txt_nil w6) (by simp)).mono ?_
  rintro e w7 ⟨rfl, d7⟩
  have b7 := b6.trans (d7.mono b6.size)
  clear d7 b6
  go_wp2_with fail
  refine (scans_yes rd_g (txt_nil w7) (by simp)).mono ?_
  rintro e w8 ⟨rfl, d8⟩
  have b8 := b7.trans (d8.mono b7.size)
  clear d8 b7
  go_wp2_with fail
  refine (scans_yes rd_h (txt_nil w8) (by simp)).mono ?_
  rintro e w9 ⟨rfl, d9⟩
  have b9 := b8.trans (d9.mono b8.size)
  clear d9 b8
  go_wp2_with fail
  refine (scans_yes rd_i (txt_nil w9) (by simp)).mono ?_
  rintro e w10 ⟨rfl, d10⟩
  have b10 := b9.trans (d10.mono b9.size)
  clear d10 b9
  go_wp2_with fail
  go_ret
  exact ⟨rfl, b10⟩
end Go.Proofs.Ytfojjklohbiffaa
