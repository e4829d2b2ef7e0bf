/- Records' laws: the walk of RecordLong. -/
import Derived.Test.YtfojjklohbiffaaRecW
import Derived.Test.YtfojjklohbiffaaNetL
namespace Tran
open Go Go.RowKit
theorem wpList_string_rd {P : Program} {ops : Array Oper} {rest : List Oper} {o : Oper} {a : Act} {w : World} {Q : Exit → Act → World → Prop} (hgd : o.guard = none) (src dst : TypeId) (x : Operand) (ho : o.op = .convert src dst x)
    (e : TypeId) (A : Option Addr) (n cap : Nat) (l : List UInt8) (hx : a.eval x = .slice A n cap) (hs : P.underlying src = some (.slice e)) (he : P.underlying e = some (.int .u8)) (hd : P.underlying dst = some .string) (hr : Rd w A n 1 (bc l))
    (h : wpList P ops Q rest (a.put o.dst (.string ⟨l.toArray⟩)) w) : wpList P ops Q (o :: rest) a w := by
  refine wpList_plain hgd fun K hK => ?_
  unfold Oper.wp execOp
  simp only [ho, hx, Sem.run_bind, run_string_of w src dst e A n cap l hs he hd hr, Result.andThen_ok]
  exact hK _ _ h
end Tran
namespace Go.Proofs.Ytfojjklohbiffaa
open Go.RowKit Tran Tran.Wire
set_option linter.unusedVariables false
theorem fill_step (m : List UInt8) (c : UInt8) (j : Nat) (hj : j < m.length) (h : m.take j = List.replicate j c) : (m.set j c).take (j + 1) = List.replicate (j + 1) c := by
  rw [List.take_succ_eq_append_getElem (by simpa using hj), List.take_set_of_le (Nat.le_refl j), h, List.getElem_set_self, List.replicate_succ']
theorem bc_set (m : List UInt8) (c : UInt8) (j : Nat) : bc (m.set j c) = (bc m).set j (.int .u8 (c.toNat : Int)) := by simp [bc, List.map_set]
theorem nf65536 : (numF 65536).length = 4 := by simp [numF, dig]
theorem elem35 : Try.prog.elem 35 = 5 := by kernel_rfl
theorem sizeOf5 : ∀ w, (Go.sizeOf 5).run Try.prog w = .ok 1 w := fun w => by
  obtain ⟨i, hi, _, hs, _⟩ := info_parts info5w
  simp [Go.sizeOf, typeInfo, hi, hs]
theorem cut_one (g n cap : Nat) (hn : 1 ≤ n) (hc : 1 < cap) (W : World) : (Instr.slice 35 (.slice (some ⟨g, 0, none⟩) n cap) (some (.int .i64 1)) none none).run Try.prog W = .ok (.slice (some ⟨g, 1, none⟩) (n - 1) (cap - 1)) W := by
  have h := run_slice_l (P := Try.prog) W 35 (some ⟨g, 0, none⟩) n cap (by rw [elem35]; exact Try.underlying35) .i64 (1 : Int) (by omega) (by omega)
  rw [elem35, sizeOf5] at h
  simp only [Result.andThen] at h
  rw [h]
  unfold sliced
  have e : (1 : Int).toNat = 1 := rfl
  rw [e, if_neg (by omega)]
  rfl
set_option maxRecDepth 100000 in
set_option maxHeartbeats 16000000 in
theorem rlong_any (w : World) (x c : Int) (h0 : 0 ≤ x) (h1 : x < 256) (hc0 : 0 ≤ c) (hc1 : c < 256) :
    Calls Try.prog 20 #[.int .u8 x, .int .u8 c] w fun e w' => e = .returned (.bool true) ∧ Below w.heap.size w w' := by
  obtain ⟨i0, hi, hz0, hz1, hz2⟩ := info_parts info5'
  obtain ⟨cb, hcb⟩ : ∃ cb : UInt8, (cb.toNat : Int) = c := ⟨UInt8.ofNat c.toNat, by rw [UInt8.toNat_ofNat']; omega⟩
  subst hcb
  have ZZ := Lib.hid (zeros 65537)
  go_enter Try.func20, Try.ntmps20
  go_wp2_with (refine wpList_make_full _ rfl (.const (.int .i64 65537)) (.const (.int .i64 65537)) 35 rfl w.heap.size 5 i0 _ 1 Try.underlying35 hi hz0 hz1 .i64 .i64 _ _ 65537 rfl rfl rfl rfl (by rw [hz2]; omega) (by unfold maxLen; omega) (Nat.le_refl _) ?_; intro w2 how hg)
  obtain ⟨Z, hZ, hbc⟩ := ZZ.out
  have ho := Own.of how
  rw [hbc] at ho
  have b2 := (Below.refl w.heap.size w).grown hg (Nat.le_refl _) (by simp)
  clear how hbc ZZ hg
  obtain ⟨N, hN⟩ : ∃ N : Nat, 65537 = N := ⟨_, rfl⟩
  rw [hN] at ho hZ ⊢
  have hN1 : 65537 ≤ N := by omega
  have hN2 : N ≤ 65537 := by omega
  have HN := Lib.hid hN
  have HZ := Lib.hid hZ
  clear hZ hN
  go_loopw [6] (fun i wr => ∃ (j : Nat) (m : List UInt8), j ≤ N ∧ i = .int .i64 j ∧ m.length = N ∧ m.take j = List.replicate j cb ∧ Tran.Own wr w.heap.size 5 1 (.slice (some ⟨w.heap.size, 0, none⟩) N N) N (bc m) ∧ Below w.heap.size w wr)
    (fun i _ => N - (intOf i).toNat)
  case atStart =>
    refine ⟨0, Z, ?_, ?_, ?_, ?_, ?_, ?_⟩
    · omega
    · rfl
    · exact HZ.out
    · rw [List.take_zero]; rfl
    · exact ho
    · exact b2
  case round =>
    obtain ⟨j, m, hj, rfl, hml, htk, ho3, hb3⟩ := hrel
    clear ho b2 HZ
    have HML := Lib.hid hml
    have HTK := Lib.hid htk
    clear hml htk
    by_cases hlt : j < N
    · have hfz : wr.frozen? { block := w.heap.size, off := j } = false := ho3.frozen _ (by omega)
      have hcell : ∃ u, wr.cell? { block := w.heap.size, off := j } = some u := ⟨_, ho3.cellAt (bc_get (by have := HML.out; omega))⟩
      obtain ⟨u, hu⟩ := hcell
      go_wp2
      go_roundw
      case rel =>
        refine ⟨j + 1, m.set j cb, by omega, by go_num, by rw [List.length_set]; exact HML.out, fill_step m cb j (by have := HML.out; omega) HTK.out, ?_, hb3.setCell (Nat.le_refl _) _⟩
        rw [bc_set]
        exact ho3.set_ _ _
      case measure => simp [intOf]; omega
    · obtain rfl : j = N := by omega
      have hM : m = List.replicate j cb := by
        have h := HTK.out
        rwa [List.take_of_length_le (by have := HML.out; omega)] at h
      obtain ⟨_, _, e, _, _, hr⟩ := ho3.slice
      injection e with e1 e2 e3
      subst e1
      have hr2 := hr.drop (k := 1) (by omega) (A := some ⟨w.heap.size, 1, none⟩) (fun _ => rfl)
      rw [show (bc m).drop (1 * 1) = bc (m.drop 1) by simp [bc]] at hr2
      have HR := Lib.hid hr
      have HR2 := Lib.hid hr2
      clear hr hr2 e2 e3 HTK hM
      have hcut := cut_one w.heap.size j j (by omega) (by omega)
      have hdl : (m.drop 1).length = 65536 := by rw [List.length_drop, HML.out]; omega
      generalize m.drop 1 = t at *
      have hml := HML.out
      have HDL := Lib.hid hdl
      have hrl := recF_len2 t
      rw [hdl, nf65536] at hrl
      have P1 := fun W => rput_any (W.alloc (.cells #[.string ⟨t.toArray⟩] 9)) (some ⟨W.heap.size, 0, none⟩) 1 [t] (Txt.of (lit_own W [t] (by simp))).rd (by simp) (fun s hs => by simp at hs; subst hs; omega) (by simp; omega)
      unfold PutsR at P1
      simp only [putR_row (l := [t]) (fun s ht => by simp at ht; subst ht; omega)] at P1
      simp only [List.flatMap_cons, List.flatMap_nil, List.append_nil, List.length_singleton] at P1
      have hmr := (recF_len m (by omega)).2
      have hx1 := (recF_len [120] (by simp)).2
      have hy1 := (recF_len [121] (by simp)).2
      simp only [List.length_singleton] at hx1 hy1
      have P2 := fun W => rput_any (W.alloc (.cells #[.string ⟨#[120]⟩, .string ⟨m.toArray⟩, .string ⟨#[121]⟩] 9)) (some ⟨W.heap.size, 0, none⟩) 3 [[120], m, [121]] (Txt.of (lit_own W [[120], m, [121]] (by simp))).rd (by simp) (fun s hs => by
          simp at hs
          rcases hs with rfl | rfl | rfl
          · simp
          · omega
          · simp) (by simp; omega)
      unfold PutsR at P2
      have hpr : putR [[120], m, [121]] = .tuple #[.string ⟨#[]⟩, .int .i64 3] := long_at (k := 1) (by simp) (by simp; omega)
      simp only [hpr] at P2
      rw [show ([[120], m, [121]] : List (List UInt8)).length = 3 from rfl] at P2
      replace P1 := Lib.hid P1
      replace P2 := Lib.hid P2
      have hsc := scanF_rec t (by omega) []
      rw [List.append_nil, scanF_nil] at hsc
      have R1 := Lib.hid (show Reads ⟨(recF t).toArray⟩ [t] 65544 0 from Reads.mk' (x := ⟨(recF t).toArray⟩) (s := recF t) (l := [t]) (tk := 65544) rfl (by omega) hsc rfl (by simp [taken]; omega))
      obtain ⟨k, hk⟩ : ∃ k : Nat, (k : Int) = 65543 - x := ⟨(65543 - x).toNat, by omega⟩
      have hkx : 65544 - 1 - x = (k : Nat) := by omega
      have hkx2 : 65543 - x = (k : Nat) := by omega
      have HK := Lib.hid hk
      have hk9 : k ≤ 65543 := by omega
      have hk8 : 65543 - 255 ≤ k := by omega
      have R2 := Lib.hid (show Reads ⟨((recF t).take k).toArray⟩ [] 0 1 from Reads.mk' (x := ⟨((recF t).take k).toArray⟩) (s := (recF t).take k) rfl (by rw [List.length_take]; omega) (scanF_torn t (by omega) k (by omega) (by omega)) rfl rfl)
      have hct := cut_to (recF t) k (by omega)
      clear hsc hpr hmr hx1 hy1 hk
      have hrl2 : ((recF t).length : Int) = 65544 := by omega
      have HRL := Lib.hid hrl
      generalize recF t = y at *
      clear hdl hml hrl
      go_wp2_with (refine wpList_string_rd rfl 35 9 _ rfl 5 _ _ _ t rfl Try.underlying35 Try.underlying5 Try.underlying9 HR2.out ?_)
      refine (P1.out _).mono ?_
      rintro e w3 ⟨rfl, d3⟩
      have b3 := (hb3.alloc hb3.size _).trans (d3.mono (hb3.alloc hb3.size _).size)
      have HR3 := Lib.hid ((HR.out.later ((Below.refl wr.heap.size wr).alloc (Nat.le_refl _) (.cells #[.string ⟨t.toArray⟩] 9))).later d3)
      clear d3 hb3 HR HR2 ho3 P1
      go_wp2_with (refine wpList_string_rd rfl 35 9 _ rfl 5 _ _ _ m rfl Try.underlying35 Try.underlying5 Try.underlying9 HR3.out ?_)
      refine (P2.out _).mono ?_
      rintro e w4 ⟨rfl, d4⟩
      have b4 := (b3.alloc b3.size _).trans (d4.mono (b3.alloc b3.size _).size)
      clear d4 b3 HR3 P2
      go_wp2_with fail
      refine (scans_yes R1.out (Txt.of (lit_own w4 [t] (by simp))) (by simp)).mono ?_
      rintro e w5 ⟨rfl, d5⟩
      have b5 := (b4.alloc b4.size _).trans (d5.mono (b4.alloc b4.size _).size)
      clear d5 b4 R1
      go_wp2_with fail
      refine (scans_yes R2.out (txt_nil w5) (by simp)).mono ?_
      rintro e w6 ⟨rfl, d6⟩
      have b6 := b5.trans (d6.mono b5.size)
      clear d6 b5 R2
      go_wp2_with fail
      refine (head08_any _).mono ?_
      rintro e w7 ⟨rfl, d7⟩
      have b7 := b6.trans (d7.mono b6.size)
      go_wp2
      go_ret
      exact ⟨rfl, b7⟩
end Go.Proofs.Ytfojjklohbiffaa
