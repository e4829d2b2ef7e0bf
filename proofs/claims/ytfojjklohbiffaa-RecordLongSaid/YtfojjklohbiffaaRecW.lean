/- Records' laws: the walk of RecordPuts. -/
import Derived.Test.YtfojjklohbiffaaRecV
namespace Tran
open Go Go.RowKit
theorem call_cls_in {P : Program} {f : FuncId} {args : Array Value} {I : World → Prop} {v : Value} (x : Sub I)
    (h : ∀ W, I W → Calls P f args W fun e w' => e = .returned v ∧ Below W.heap.size W w') (hI : ∀ W W', I W → Below W.heap.size W W' → I W') :
    Calls P f args x.w (fun e w'' => e = .returned v ∧ ∃ y : Sub I, w'' = y.w) :=
  (h x.w x.h).mono fun _ w' ⟨he, hb⟩ => ⟨he, ⟨w', hI _ _ x.h hb⟩, rfl⟩
end Tran
namespace Go.Proofs.Ytfojjklohbiffaa
open Go.RowKit Tran Tran.Wire
set_option linter.unusedVariables false
theorem size9 : ∀ w, (Go.sizeOf 9).run Try.prog w = .ok 1 w := fun w => by
  obtain ⟨i, hi, _, hs, _⟩ := info_parts info9_
  simp [Go.sizeOf, typeInfo, hi, hs]
theorem elem43 : Try.prog.elem 43 = 9 := by kernel_rfl
theorem cutl_to (A : Option Addr) (n cap k : Nat) (hk : k ≤ cap) (W : World) : (Instr.slice 43 (.slice A n cap) none (some (.int .i64 k)) none).run Try.prog W = .ok (.slice A k cap) W := by
  have h := run_slice_h (P := Try.prog) W 43 A n cap (by rw [elem43]; exact Try.underlying43) .i64 (k : Int) (by omega) (by omega)
  rw [elem43, size9] at h
  simp only [Result.andThen, Int.toNat_natCast] at h
  rw [h]
  have ha : (A.map fun x => x.add 0) = A := by cases A <;> rfl
  unfold sliced
  rw [Nat.zero_mul, ha, Nat.sub_zero, Nat.sub_zero, ite_self]
theorem Txt.take {w : World} {A : Option Addr} {n cap : Nat} {l : List (List UInt8)} (h : Txt w (.slice A n cap) l) {k : Nat} (hk : k ≤ l.length) : Txt w (.slice A k cap) (l.take k) := by
  obtain ⟨A', cap', e, h1, h2, hr⟩ := h
  injection e with e1 e2 e3
  subst e1 e2 e3
  refine ⟨A, cap, by rw [List.length_take, Nat.min_eq_left hk], by rw [List.length_take]; omega, h2, ?_⟩
  have := hr.take (k := k) hk
  rw [Nat.mul_one, show (strs l).take k = strs (l.take k) by simp [strs, List.map_take]] at this
  rwa [List.length_take, Nat.min_eq_left hk]
/-- bytes below k of l, given the state -/
def atF (l : List (List UInt8)) (n : Nat) : Nat := ((l.take n).flatMap recF).length
theorem atF_succ (l : List (List UInt8)) (n : Nat) (h : n < l.length) : atF l (n + 1) = atF l n + (recF l[n]).length := by
  unfold atF; rw [recs_snoc l n h, List.length_append]
def PutsRel (w : World) (l : List (List UInt8)) (k : Nat) (a n : Value) (wr : World) : Prop := ∃ j : Nat, j ≤ l.length ∧ a = .int .i64 (atF l j : Nat) ∧ n = .int .i64 j ∧ atF l j ≤ k ∧ Below w.heap.size w wr
set_option maxRecDepth 100000 in
set_option maxHeartbeats 8000000 in
theorem puts_tail (w : World) (A : Option Addr) (cap : Nat) (l : List (List UInt8)) (h : Txt w (.slice A l.length cap) l) (hl : l.length ≤ 60) (hs : totalR l ≤ 2500) (x : Nat) (hx : x < 65536) :
    Calls Try.prog 17 #[.slice A l.length cap, .int .u16 x] w fun e w' => e = .returned (.bool true) ∧ Below w.heap.size w w' := by
  have hlen : ∀ s ∈ l, s.length ≤ 2500 := fun s hs' => Nat.le_trans (total_mem hs') hs
  have hok : ∀ t ∈ l, t.length ≤ 65536 := fun t ht => by have := hlen t ht; omega
  have hrow := row_len (l := l) (fun s hs => by have := hlen s hs; omega)
  have hgr : greatR l = false := by unfold greatR; simp; omega
  have G := great08_any (w := w) (cap := cap) h.rd (by omega) (fun s hs => by have := hlen s hs; omega)
  rw [hgr] at G
  have P1 := fun W (hb : Below w.heap.size w W) => rput_any W A cap l (h.later hb).rd (by omega) (fun s hs => by have := hlen s hs; omega) (by omega)
  have P2 := fun W (hb : Below w.heap.size w W) => tput_any W A cap l (h.later hb).rd (by omega) (fun s hs => by have := hlen s hs; omega) (by omega)
  unfold PutsR at P1 P2
  simp only [putR_row hok] at P1 P2
  have hS3 : (l.flatMap recF).length ≤ 3280 := by omega
  have R0 := Lib.hid (fun W (hb : Below w.heap.size w W) => scans_yes (Reads.mk' (x := ⟨(l.flatMap recF).toArray⟩) (s := l.flatMap recF) rfl (by omega) (scanF_whole l hok) (withLen_fst _) (withLen_taken l)) (h.later hb) (by omega))
  have HC := Lib.hid (scanF_cut l hok)
  have HAS := Lib.hid (atF_succ l)
  have HA0 : atF l 0 = 0 := by simp [atF]
  have HSTR := Lib.hid (fun W (hb : Below w.heap.size w W) k (hk : k < l.length) => str_at (h.later hb).rd hk)
  have HLEN := Lib.hid (fun k (hk : k < l.length) => hlen l[k] (List.getElem_mem hk))
  have HT := Lib.hid (fun W (hb : Below w.heap.size w W) => h.later hb)
  have HATL := Lib.hid (fun k => recs_le l k)
  have HCAP := (show l.length ≤ cap by obtain ⟨_, _, e, h1, _⟩ := h; injection e with _ _ e3; omega)
  replace G := Lib.hid G
  replace P1 := Lib.hid P1
  replace P2 := Lib.hid P2
  obtain ⟨S, hS⟩ : ∃ S, S = l.flatMap recF := ⟨_, rfl⟩
  rw [← hS] at P1 P2 R0 hS3
  have HS := Lib.hid hS
  clear hs hlen hok hrow hgr h hS
  go_enter Try.func17, Try.ntmps17
  go_wp2_with fail
  refine G.out.mono ?_
  rintro e w1 ⟨rfl, rfl⟩
  go_wp2_with fail
  refine (P1.out _ (Below.refl _ _)).mono ?_
  rintro e w1 ⟨rfl, b1⟩
  go_wp2_with fail
  refine (P2.out _ b1).mono ?_
  rintro e w2 ⟨rfl, d2⟩
  have b2 := b1.trans (d2.mono b1.size)
  clear d2 b1
  go_wp2_with fail
  refine (R0.out _ b2).mono ?_
  rintro e w3 ⟨rfl, d3⟩
  have b3 := b2.trans (d3.mono b2.size)
  clear d3 b2 P1 P2 R0 G
  obtain ⟨k, hk⟩ : ∃ k, k = x % (S.length + 1) := ⟨_, rfl⟩
  have hkS : k ≤ S.length := by have h := Nat.mod_lt x (show 0 < S.length + 1 by omega); rw [← hk] at h; omega
  have hkI : ((x : Int) % ((S.length : Nat) + 1)) = (k : Nat) := by rw [hk, Int.natCast_emod, Int.natCast_add]; rfl
  clear hk
  go_wp2_with fail
  simp only [hkI]
  clear hkI
  have HFIN := Lib.hid (show ∀ (j st : Nat), j ≤ l.length → scanF (S.take k) = (withLen (l.take j), st) → ∀ W, Below w.heap.size w W → Calls Try.prog 78 #[.string ⟨(S.take k).toArray⟩, .slice A j cap, .int .i64 (atF l j : Nat), .int .u8 (st : Nat)] W fun e w' => e = .returned (.bool true) ∧ Below W.heap.size W w' from
    fun j st hj hsc W hb => scans_yes (Reads.mk' (s := S.take k) rfl (by rw [List.length_take]; omega) hsc (withLen_fst _) (withLen_taken _)) ((HT.out W hb).take hj) (by rw [List.length_take]; omega))
  have hcS := cut_to S k hkS
  have hcl := fun j (hj : j ≤ l.length) => cutl_to A l.length cap j (by omega)
  have HCL := Lib.hid hcl
  have HD8 := Lib.hid (fun W => head08_any W)
  clear hcl
  go_loopw [10, 11] (fun a n wr => PutsRel w l k a n wr) (fun _ n _ => l.length - (intOf n).toNat)
  case atStart => exact ⟨0, by omega, by rw [HA0]; rfl, rfl, by omega, b3⟩
  case round =>
    obtain ⟨j, hj, rfl, rfl, hjk, bj⟩ := hrel
    have hat := HATL.out j
    rw [← HS.out, show ((l.take j).flatMap recF).length = atF l j from rfl] at hat
    clear b3
    by_cases hin : j < l.length
    · obtain ⟨ad, rfl, hc⟩ := HSTR.out wr bj j hin
      have hsl := HLEN.out j hin
      have O := Lib.hid (record_any l[j] (by omega))
      have hO := (recF_len l[j] (by omega)).2
      have hsu := Lib.hid (HAS.out j hin)
      have HF := Lib.hid (fun (h : k < atF l j + (recF l[j]).length) => HFIN.out j _ hj (by have := HC.out k j (by omega) hjk (by rw [← HS.out]; exact hkS) (fun _ => h); rwa [← HS.out] at this))
      rw [show ((l.take j).flatMap recF).length = atF l j from rfl] at HF
      generalize recF l[j] = y at *
      generalize atF l j = aj at *
      by_cases hk2 : aj + y.length ≤ k
      · go_wp2_with fail
        refine (O.out _).mono ?_
        rintro e w4 ⟨rfl, d4⟩
        have b4 := bj.trans (d4.mono bj.size)
        obtain ⟨ad2, he2, hc2⟩ := HSTR.out w4 b4 j hin
        injection he2 with he2
        subst he2
        go_wp2_with fail
        refine (O.out _).mono ?_
        rintro e w5 ⟨rfl, d5⟩
        have b5 := b4.trans (d5.mono b4.size)
        go_wp2_with fail
        go_roundw
        case rel => exact ⟨j + 1, hin, by rw [hsu.out]; go_num, by go_num, by rw [hsu.out]; exact hk2, b5⟩
        case measure => simp [intOf]; omega
      · have RS := HF.out (by omega)
        clear HF
        have hcl := HCL.out j hj
        by_cases hak : aj = k
        · rw [if_pos hak, show ((0 : Nat) : Int) = 0 from rfl] at RS
          replace RS := Lib.hid RS
          have hak2 : ((aj : Int) == k) = true := by rw [beq_iff_eq]; omega
          clear hak
          go_wp2_with fail
          refine (O.out _).mono ?_
          rintro e w4 ⟨rfl, d4⟩
          have b4 := bj.trans (d4.mono bj.size)
          go_wp2_with fail
          refine wp_region_cls (fun W => Below w.heap.size w W) (by kernel_rfl) (by kernel_rfl) (below_drew b4) (fun hne => ?_)
          repeat (go_big_quiet_step ((first | (go_at_call 78; ((with_reducible refine call_cls_in _ RS.out (below_on (Nat.le_refl _))))) | (go_at_call 75; ((with_reducible refine call_cls_in _ (fun W _ => HD8.out W) (below_on (Nat.le_refl _))))))))
          refine wpQuiet_nil ?_
          refine sub_all fun w10 I9 => ?_
          go_wp2
          go_ret
          exact ⟨rfl, I9⟩
        · rw [if_neg hak, show ((1 : Nat) : Int) = 1 from rfl] at RS
          replace RS := Lib.hid RS
          have hak2 : ((aj : Int) == k) = false := by rw [beq_eq_false_iff_ne]; omega
          clear hak
          go_wp2_with fail
          refine (O.out _).mono ?_
          rintro e w4 ⟨rfl, d4⟩
          have b4 := bj.trans (d4.mono bj.size)
          go_wp2_with fail
          refine wp_region_cls (fun W => Below w.heap.size w W) (by kernel_rfl) (by kernel_rfl) (below_drew b4) (fun hne => ?_)
          repeat (go_big_quiet_step ((first | (go_at_call 78; ((with_reducible refine call_cls_in _ RS.out (below_on (Nat.le_refl _))))) | (go_at_call 75; ((with_reducible refine call_cls_in _ (fun W _ => HD8.out W) (below_on (Nat.le_refl _))))))))
          refine wpQuiet_nil ?_
          refine sub_all fun w10 I9 => ?_
          go_wp2
          go_ret
          exact ⟨rfl, I9⟩
    · obtain rfl : j = l.length := by omega
      have hak : atF l l.length = k := by
        have e : S.length = atF l l.length := by unfold atF; rw [HS.out, List.take_length]
        omega
      have RS := HFIN.out l.length 0 (Nat.le_refl _) (by have := HC.out k l.length (by omega) hjk (by rw [← HS.out]; exact hkS) (fun h => absurd h (by omega)); rw [← HS.out] at this; rw [this, show ((l.take l.length).flatMap recF).length = atF l l.length from rfl, if_pos hak])
      rw [show ((0 : Nat) : Int) = 0 from rfl] at RS
      replace RS := Lib.hid RS
      have hcl := HCL.out l.length (Nat.le_refl _)
      have hak2 : (((atF l l.length : Nat) : Int) == k) = true := by rw [beq_iff_eq]; omega
      clear hak hin
      generalize atF l l.length = aj at *
      go_wp2_with fail
      refine wp_region_cls (fun W => Below w.heap.size w W) (by kernel_rfl) (by kernel_rfl) (below_drew bj) (fun hne => ?_)
      repeat (go_big_quiet_step ((first | (go_at_call 78; ((with_reducible refine call_cls_in _ RS.out (below_on (Nat.le_refl _))))) | (go_at_call 75; ((with_reducible refine call_cls_in _ (fun W _ => HD8.out W) (below_on (Nat.le_refl _))))))))
      refine wpQuiet_nil ?_
      refine sub_all fun w10 I9 => ?_
      go_wp2
      go_ret
      exact ⟨rfl, I9⟩
set_option maxRecDepth 100000 in
theorem puts_any (w : World) (A : Option Addr) (cap : Nat) (l : List (List UInt8)) (h : Txt w (.slice A l.length cap) l) (hl : l.length ≤ 8796093022208) (hs : ∀ s ∈ l, s.length ≤ 140737488355328) (x : Int) (h0 : 0 ≤ x) (h1 : x < 65536) :
    Calls Try.prog 17 #[.slice A l.length cap, .int .u16 x] w fun e w' => e = .returned (.bool true) ∧ Below w.heap.size w w' := by
  have G := great08_any (w := w) (cap := cap) h.rd hl hs
  cases hg : greatR l
  · obtain ⟨n, rfl⟩ := Int.eq_ofNat_of_zero_le h0
    exact puts_tail w A cap l h (small_row hg).1 (small_row hg).2 n (by omega)
  · rw [hg] at G
    replace G := Lib.hid G
    clear hg h hl hs
    go_enter Try.func17, Try.ntmps17
    go_wp2_with fail
    refine G.out.mono ?_
    rintro e w1 ⟨rfl, rfl⟩
    go_wp2_with fail
    refine (head08_any _).mono ?_
    rintro e w1 ⟨rfl, b1⟩
    go_wp2
    go_ret
    exact ⟨rfl, b1⟩
end Go.Proofs.Ytfojjklohbiffaa
