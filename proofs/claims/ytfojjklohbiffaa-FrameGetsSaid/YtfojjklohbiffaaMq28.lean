/- Frames: frame.Get: the walk. -/
import Derived.Great.Walk
import Derived.Test.YtfojjklohbiffaaMq26
import Derived.Test.YtfojjklohbiffaaMq27
namespace Go.Proofs.Ytfojjklohbiffaa
open Go.RowKit Tran Tran.Wire
set_option linter.unusedVariables false
set_option linter.unusedSimpArgs false
theorem z12_head (n1 n2 n3 : Nat) (xs : List Nat) (hx : xs.length = 8) : putAt (((z12.setIfInBounds 0 (Value.int IntKind.u8 (n1 : Int))).setIfInBounds 1 (Value.int IntKind.u8 (n2 : Int))).setIfInBounds 2 (Value.int IntKind.u8 (n3 : Int))) 3 (vecA xs).toList = frA { kind := n1, src := n2, dst := n3, have_ := xs, ops := [] } (.slice none 0 0) := by
  rw [z12_fr, fr_put0, fr_put1, fr_put2]
  exact fr_put3 _ _ rfl xs hx
theorem fr_put11 (x : NFrame) (ov ov2 : Value) (h : x.have_.length = 8) : (frA x ov).setIfInBounds 11 ov2 = frA x ov2 := by
  cases x
  obtain ⟨_, _, _, _, _, _, _, _, rfl⟩ := dep8 h
  rfl
theorem GtW.chg {w0 : World} {G : Nat} {s : List UInt8} {W W' : World} {st : Option (List UInt8)} {X : Array Value} {S : Nat → Prop} (h : GtW w0 G s W st X) (c : Chg S W W') (hS : ∀ k, S k → G + 1 + 1 + 1 < k) : GtW w0 G s W' st X := by
  have hgt := h.gt
  exact ⟨h.kr.chg c (fun k => by have := hS _ k; omega), h.ks.chg c (fun k => by have := hS _ k; omega), h.kb.chg c (fun k => by have := hS _ k; omega), h.ko.chg c (fun k => by have := hS _ k; omega),
    h.rd.chg c (fun k e k2 => by injection e with e; injection e with e; have := hS _ k2; omega), h.b.trans (c.toBelow h.b.size (fun k _ k2 => by have := hS _ k2; omega)), hgt⟩
theorem GtW.below {w0 : World} {G : Nat} {s : List UInt8} {W W' : World} {st : Option (List UInt8)} {X : Array Value} (h : GtW w0 G s W st X) (hb : Below W.heap.size W W') : GtW w0 G s W' st X :=
  ⟨h.kr.below hb h.kr.lt, h.ks.below hb h.ks.lt, h.kb.below hb h.kb.lt, h.ko.below hb h.ko.lt, h.rd.below hb, h.b.trans (hb.mono h.b.size), h.gt⟩
theorem bs55 (x : NOp) (lv : Value) (h : x.dep.length = 8) (W : World) : (Instr.buildSlice 55 1 #[(0, .agg (opA x lv))]).run Try.prog W = .ok (.slice (some ⟨W.heap.size, 0, none⟩) 1 1) (W.alloc (.cells (opA x lv) 122)) := by
  cases x
  obtain ⟨_, _, _, _, _, _, _, _, rfl⟩ := dep8 h
  kernel_rfl
set_option maxRecDepth 100000 in
set_option maxHeartbeats 16000000 in
theorem getfr_any (w : World) (l : List UInt8) (hl : l.length ≤ 1000000) : Calls Try.prog 48 #[.string ⟨l.toArray⟩] w fun e w' =>
    ((frIs l ∧ ∃ ps ov, e = .returned (.tuple #[.agg (frA (frHead l ps) ov), .int .i64 0]) ∧ Ops w' ov ps ∧ opsOf ps = (frR l).1) ∨ (¬ frIs l ∧ e = .returned (.tuple #[.agg z12, .int .i64 5]))) ∧ Below w.heap.size w w' := by
  have O := open_any l hl
  have hsl : (Crc.opens l).length ≤ 1000000 := by
    unfold Crc.opens
    split
    · rw [List.length_take]; omega
    · simp
  have HIS : Hid (frIs l ↔ ((frR l).2.2 = true ∧ (frR l).2.1 = some [] ∧ ∀ ps : List POp, opsOf ps = (frR l).1 → mayF (frHead l ps))) := Lib.hid Iff.rfl
  have HR : Hid (frR l = gOps (Crc.opens l).length (rnumS (rvecS (rnumS (rnumS (rnumS (some (Crc.opens l)) 1).2 7).2 7).2 8).2 64).1 (rnumS (rvecS (rnumS (rnumS (rnumS (some (Crc.opens l)) 1).2 7).2 7).2 8).2 64).2 (Crc.opened l)) := Lib.hid rfl
  have HH : Hid (∀ ps, frHead l ps = { kind := (rnumS (some (Crc.opens l)) 1).1, src := (rnumS (rnumS (some (Crc.opens l)) 1).2 7).1, dst := (rnumS (rnumS (rnumS (some (Crc.opens l)) 1).2 7).2 7).1, have_ := vecZ (rnumS (rnumS (rnumS (some (Crc.opens l)) 1).2 7).2 7).2, ops := ps }) := Lib.hid (fun _ => rfl)
  generalize Crc.opens l = s at *
  generalize Crc.opened l = is0 at *
  have HNB := Lib.hid (And.intro (rnumS_le (some s) 1) (And.intro (rnumS_le (rnumS (some s) 1).2 7) (And.intro (rnumS_le (rnumS (rnumS (some s) 1).2 7).2 7) (And.intro (vecZ_lt (rnumS (rnumS (rnumS (some s) 1).2 7).2 7).2) (rnumS_le (rvecS (rnumS (rnumS (rnumS (some s) 1).2 7).2 7).2 8).2 64)))))
  have O := Lib.hid O
  have kr := Blk.new w 57 z12
  have hb := (Below.refl w.heap.size w).alloc (Nat.le_refl _) (.cells z12 57)
  have KR := Lib.hid kr
  have HB := Lib.hid hb
  rw [z12_eq] at KR HB
  clear kr hb
  go_enter Try.func48, Try.ntmps48
  go_wp2_with fail
  refine (O.out _).mono ?_
  rintro e w1 ⟨rfl, hb1⟩
  have KR1 := Lib.hid (KR.out.below hb1 KR.out.lt)
  have HB1 := Lib.hid (HB.out.trans (hb1.mono HB.out.size))
  clear hb1
  obtain ⟨G, hG⟩ : ∃ G, w1.heap.size = G := ⟨_, rfl⟩
  go_wp2_with fail
  refine (open_r _ (by omega)).mono ?_
  rintro e w2 ⟨rfl, _, hw2⟩
  rw [World.size_alloc]
  have S0 := Lib.hid (GtW.start (G := G) KR1.out HB1.out hG.symm (by omega) hw2)
  have hsz2 : w2.heap.size = G + 1 + 1 := by rw [hw2]; simp [hG]
  rw [hG]
  clear hw2 hG
  go_wp2_with fail
  rw [← z12_eq]
  refine (shortm_any S0.out.rd S0.out.kb 1 (by omega)).mono ?_
  rintro e w3 ⟨rfl, hr⟩
  have S1 := Lib.hid (S0.out.rdd hr)
  clear hr
  clear S0 hsz2
  go_wp2_with fail
  refine (shortm_any S1.out.rd S1.out.kb 7 (by omega)).mono ?_
  rintro e w4 ⟨rfl, hr⟩
  have S2 := Lib.hid (S1.out.rdd hr)
  clear hr
  clear S1
  go_wp2_with fail
  refine (shortm_any S2.out.rd S2.out.kb 7 (by omega)).mono ?_
  rintro e w5 ⟨rfl, hr⟩
  have S3 := Lib.hid (S2.out.rdd hr)
  clear hr
  clear S2
  generalize (rnumS (some s) 1).1 = n1 at *
  generalize (rnumS (rnumS (some s) 1).2 7).1 = n2 at *
  generalize (rnumS (rnumS (rnumS (some s) 1).2 7).2 7).1 = n3 at *
  generalize (rnumS (rnumS (rnumS (some s) 1).2 7).2 7).2 = st3 at *
  have c0 := S3.out.ko.cell 0
  have c1 := S3.out.ko.cell 1
  have c2 := S3.out.ko.cell 2
  rw [show z12[0]? = some (.int .u8 0) from rfl] at c0
  rw [show z12[1]? = some (.int .u8 0) from rfl] at c1
  rw [show z12[2]? = some (.int .u8 0) from rfl] at c2
  have z0 := S3.out.ko.frozen 0
  have z1 := S3.out.ko.frozen 1
  have z2 := S3.out.ko.frozen 2
  have bx := S3.out.kb.cell 0
  rw [show (#[Value.pointer (some ⟨G + 1, 0, none⟩)] : Array Value)[0]? = some (Value.pointer (some ⟨G + 1, 0, none⟩)) from rfl] at bx
  go_wp2_with fail
  have S4 := Lib.hid (((S3.out.set 0 (.int .u8 (n1 : Int))).set 1 (.int .u8 (n2 : Int))).set 2 (.int .u8 (n3 : Int)))
  clear c0 c1 c2 z0 z1 z2 bx S3
  refine (rvec_z S4.out.rd).mono ?_
  rintro e w6 ⟨rfl, hr⟩
  have S5 := Lib.hid (S4.out.rdd hr)
  clear hr S4
  have hx8 : (vecA (vecZ st3)).size = 8 := by rw [vecA_size]; exact vecZ_len st3
  have HX8 := Lib.hid hx8
  have hth : w6.there (G + 1 + 1 + 1) 3 (vecA (vecZ st3)).size := S5.out.ko.there (by rw [hx8]; simp [z12])
  have HTH := Lib.hid hth
  have H1 := Lib.hid (vecA_one (vecZ st3))
  have S6 := Lib.hid (S5.out.sets 3 (vecA (vecZ st3)).toList)
  have bx := S6.out.kb.cell 0
  rw [show (#[Value.pointer (some ⟨G + 1, 0, none⟩)] : Array Value)[0]? = some (Value.pointer (some ⟨G + 1, 0, none⟩)) from rfl] at bx
  have HVL := Lib.hid (vecZ_len st3)
  generalize (rvecS st3 8).2 = st4 at *
  generalize vecZ st3 = xs at *
  generalize hV : vecA xs = V at *
  have HV := Lib.hid hV
  clear hV
  clear hx8 hth S5
  go_wp2_with (refine wpList_store_mid rfl 54 _ _ rfl (G + 1 + 1 + 1) 3 V rfl rfl HTH.out (by rw [HX8.out]; exact size54) H1.out ?_)
  have R := rnum_r S6.out.rd 64
  rw [show ((64 : Nat) : Int) = 64 from rfl] at R
  refine R.mono ?_
  rintro e w7 ⟨rfl, hr⟩
  have S7 := Lib.hid (S6.out.rdd hr)
  clear hr S6 R bx
  generalize (rnumS st4 64).1 = n5 at *
  generalize (rnumS st4 64).2 = st5 at *
  rw [← HV.out, z12_head n1 n2 n3 xs HVL.out] at S7
  go_wp2_with fail
  have HS := Lib.hid hsl
  obtain ⟨i0, hi, hz0, hz1, hz2⟩ := info_parts info122
  have HI := Lib.hid (And.intro hi (And.intro hz0 (And.intro hz1 hz2)))
  clear hi hz0 hz1 hz2 O KR KR1 HB HB1 HX8 HTH H1 HV
  go_loopw [5, 10, 11, 42] (fun i n p q wr => ∃ (m : Nat) (b : Bool) (st : Option (List UInt8)) (ps : List POp) (ov : Value), i = .bool b ∧ n = .int .u64 (m : Int) ∧ ps.length + m ≤ n5 ∧ GtW w G s wr st (frA { kind := n1, src := n2, dst := n3, have_ := xs, ops := [] } ov) ∧ OpsO wr (G + 1 + 1 + 1 + 1) ov ps ∧ frR l = (opsOf ps ++ (gOps s.length m st b).1, (gOps s.length m st b).2)) (fun _ n _ _ _ => (intOf n).toNat)
  case atStart => exact ⟨n5, is0, st5, [], _, rfl, rfl, by simp, S7.out, OpsO.nil _ _, by rw [HR.out]; rfl⟩
  case round =>
    obtain ⟨m, b, st, ps, ov, rfl, rfl, hpm, hW, hP, hF⟩ := hrel
    have SW := Lib.hid hW
    have SP := Lib.hid hP
    have SF := Lib.hid hF
    clear hW hP hF S7 HR
    by_cases hm : 0 < m
    · have hd0 : decide ((0 : Int) < (m : Int)) = true := decide_eq_true (by omega)
      cases b
      · have HF := Lib.hid (SF.out.trans (by rw [gOps_no]))
        go_wp2_with (refine wpList_store_row rfl 57 _ _ rfl w.heap.size z12 rfl (by rw [z12_eq]; rfl) 57 z12 SW.out.kr size57 rfl fr_zero_one ?_)
        refine bodyPost_ret (results_row_tmp rfl _ _ w.heap.size 57 z12 (0, 0) _ _ rfl rfl (SW.out.kr.row _) Try.underlying57 rfl size57) rfl ?_
        refine ⟨.inr ⟨fun h => ?_, rfl⟩, below_setRow SW.out.b (Nat.le_refl _) _⟩
        have h1 := (HIS.out.1 h).1
        rw [HF.out] at h1
        cases h1
      · obtain ⟨m, rfl⟩ : ∃ k, m = k + 1 := ⟨m - 1, by omega⟩
        have HW64 := Lib.hid (IntWalk.u64_in (m : Int) (by have := HNB.out.2.2.2.2; omega))
        obtain ⟨g, hg⟩ := bool_of ((rdO (some (rtextS st s.length).1)).2 = some [])
        have b1 := (Below.refl wr.heap.size wr).alloc (Nat.le_refl _) (.cells (opA zeroO (.slice none 0 0)) 122)
        have SW1 := Lib.hid (SW.out.below b1)
        have SP1 := Lib.hid (SP.out.below b1)
        have KN := Lib.hid (Blk.new wr 122 (opA zeroO (.slice none 0 0)))
        have N := Lib.hid (next_any SW1.out.rd SW1.out.kb SW1.out.ks HS.out g hg)
        rw [z29_eq] at SW1 SP1 KN N
        clear b1 hm
        go_wp2_with fail
        refine N.out.mono ?_
        rintro e w8 ⟨lv, rfl, hL, hr⟩
        have hgl : G + 1 + 1 + 1 < wr.heap.size := SW.out.ko.lt
        have L8 := Lib.hid (own_weaken hL (show wr.heap.size + 1 ≤ _ by simp))
        have SW8 := Lib.hid (SW1.out.rdd hr)
        have SP8 := Lib.hid (SP1.out.chg hr.ch (fun k e => by injection e with e; injection e with e; omega))
        have K8 := Lib.hid (KN.out.chg hr.ch (fun e => by injection e with e; injection e with e; omega))
        have HOK := Lib.hid (gotO_ok (rtextS st s.length).1)
        have HLL := Lib.hid (gotO_lines (rtextS st s.length).1)
        have HSX := Lib.hid (opA_size (gotO (rtextS st s.length).1) lv HOK.out.dep8)
        have HOX := Lib.hid (opA_one _ lv (lns_own hL HLL.out))
        have HG := Lib.hid hg
        have HGY := Lib.hid (fun h => gOps_yes (L := s.length) (n := m) (st := st) h)
        have HGN := Lib.hid (fun h => gOps_bad (L := s.length) (n := m) (st := st) h)
        have SW9 := Lib.hid (SW8.out.chg ((Chg.refl (fun k => k = wr.heap.size) w8).setRow (.inl rfl) (opA (gotO (rtextS st s.length).1) lv)) (fun k e => by have e2 : k = wr.heap.size := e; omega))
        have SP9 := Lib.hid (SP8.out.rowFar (g := wr.heap.size) (fun e => Nat.lt_irrefl _ (SP.out.1.lt _ e).2) (fun p hp e => Nat.lt_irrefl _ ((SP.out.2 p hp).1.lt _ e).2) (opA (gotO (rtextS st s.length).1) lv))
        have L9 := Lib.hid (L8.out.rowFar (k := wr.heap.size) (fun e => Nat.not_succ_le_self _ (L8.out.lt _ e).1) (opA (gotO (rtextS st s.length).1) lv))
        have K9 := Lib.hid (K8.out.row (opA (gotO (rtextS st s.length).1) lv))
        clear hL hr N SW1 SP1 KN hg SW8 SP8 L8
        cases g
        · go_wp2_with (refine wpList_store_row rfl 122 _ _ rfl wr.heap.size (opA (gotO (rtextS st s.length).1) lv) rfl rfl 122 _ K8.out (by rw [HSX.out]; exact size122) (by rw [HSX.out]; rfl) HOX.out ?_)
          go_roundw
          case rel =>
            refine ⟨m, false, (rtextS st s.length).2, ps, ov, rfl, by rw [HW64.out], by omega, SW9.out, SP9.out, ?_⟩
            rw [SF.out, HGN.out (fun h => absurd (HG.out.2 h) (by simp)), gOps_no]
          case measure => rw [HW64.out]; simp [intOf]
        · have c11 := (SW9.out.ko.cell 11).trans (fr_c11 { kind := n1, src := n2, dst := n3, have_ := xs, ops := [] } ov HVL.out)
          have HBT := Lib.hid (bs55 (gotO (rtextS st s.length).1) lv HOK.out.dep8)
          obtain ⟨p0, hp0⟩ : ∃ p : POp, p = (gotO (rtextS st s.length).1, lv) := ⟨_, rfl⟩
          have HP0 : Hid (p0.1 = gotO (rtextS st s.length).1) := Lib.hid (by rw [hp0])
          have HPF : Hid ((pF p0).toArray = opA (gotO (rtextS st s.length).1) lv) := Lib.hid (by rw [hp0]; rfl)
          have HPL := Lib.hid (show (pF p0).length = 29 by rw [hp0]; exact opF_len (gotO (rtextS st s.length).1) lv HOK.out.dep8)
          have HP1 := Lib.hid (show ∀ u ∈ pF p0, u.oneCell' = true by
            intro u hu
            have h1 := HOX.out
            rw [← HPF.out] at h1
            simp only [List.all_toArray] at h1
            exact List.all_eq_true.1 h1 u hu)
          have HPK := Lib.hid (show p0.1.ok ∧ p0.1.lines.length ≤ 16 by rw [hp0]; exact ⟨HOK.out, HLL.out⟩)
          have L9 := Lib.hid (show Tran.Own (w8.setRow wr.heap.size (opA (gotO (rtextS st s.length).1) lv)) (G + 1 + 1 + 1 + 1) 177 4 p0.2 p0.1.lines.length (p0.1.lines.flatMap claimF) by rw [hp0]; exact own_weaken L9.out (by omega))
          generalize hX : opA (gotO (rtextS st s.length).1) lv = X at *
          clear hX hp0
          have ba := (Below.refl _ (w8.setRow wr.heap.size X)).alloc (Nat.le_refl _) (.cells X 122)
          have SW10 := Lib.hid (SW9.out.below ba)
          have SP10 := Lib.hid (SP9.out.below ba)
          have HPO := Lib.hid (L9.out.below ba (Nat.le_refl _))
          have KA := Lib.hid (Blk.new (w8.setRow wr.heap.size X) 122 X)
          have C11 := Lib.hid c11
          clear ba c11
          go_upto_region 14 with (refine wpList_store_row rfl 122 _ _ rfl wr.heap.size X rfl rfl 122 _ K8.out (by rw [HSX.out]; exact size122) (by rw [HSX.out]; rfl) HOX.out ?_)
          refine lst_begin ?_
          intro A hA
          have h8 : A.eval (.tmp 8) = .pointer (some ⟨G + 1 + 1 + 1, 0, none⟩) := by rw [hA]; rfl
          have h11 : A.eval (.tmp 11) = .pointer (some ⟨wr.heap.size, 0, none⟩) := by rw [hA]; rfl
          have hsz : A.tmps.size = 68 := by rw [hA]; rfl
          have hA := Lib.hid hA
          refine lst_val (some 48) (v := .pointer (some ⟨G + 1 + 1 + 1, 11, none⟩)) rfl rfl (exec_addr 57 _ 4 rfl h8 (fb4)) ?_
          refine lst_val (some 49) (v := ov) rfl rfl (exec_load1 55 _ rfl (ev_eq (by (try simp only [Act.size_put]); rw [hsz]; decide)) (ld55 C11.out)) ?_
          refine lst_val (some 50) (v := .agg X) rfl rfl (exec_load1 122 _ rfl (ev_ne (by rfl) (ev_ne (by rfl) h11)) (ld122 K9.out HSX.out)) ?_
          refine lst_val (some 51) (v := .slice (some ⟨(w8.setRow wr.heap.size X).heap.size, 0, none⟩) 1 1) rfl rfl (exec_bslice 55 1 _ rfl (vs := #[(0, .agg X)]) (by simp only [List.map_toArray, List.map_cons, List.map_nil]; rw [(show Act.eval _ (.tmp 50) = _ from (ev_eq (by (try simp only [Act.size_put]); rw [hsz]; decide)))]) (HBT.out (w8.setRow wr.heap.size X))) ?_
          obtain ⟨v1, we, hrun, hO1, hgr, hbk⟩ := run_append_Own (P := Try.prog) (w := ((w8.setRow wr.heap.size X).alloc (.cells X 122))) (G + 1 + 1 + 1 + 1) 55 55 122 i0 _ 29 144 Try.underlying55 HI.out.1 HI.out.2.1 HI.out.2.2.1 HI.out.2.2.2 rfl (by omega) ov ps.length _ SP10.out.1 (some ⟨(w8.setRow wr.heap.size X).heap.size, 0, none⟩) 1 1 (pF p0) ⟨by rw [HPL.out], fun _ => ⟨_, rfl, fun j u hj => by rw [lit_add, Nat.zero_add]; exact (KA.out.cell j).trans (by rw [← HPF.out]; simpa using hj)⟩⟩ HP1.out (by have := HNB.out.2.2.2.2; unfold maxLen; omega) (by have := HNB.out.2.2.2.2; omega) (by have := SW10.out.ko.lt; omega)
          have hc : Chg (fun q => blkOf ov = some q) ((w8.setRow wr.heap.size X).alloc (.cells X 122)) we := (Chg.refl _ _).grown hgr (fun q hq => .inl hq)
          have SW11 := Lib.hid (SW10.out.chg hc (fun q hq => (SP10.out.1.lt _ hq).1))
          have SP11 := Lib.hid (OpsO.snoc (p := p0) SP10.out HPO.out HPK.out.1 HPK.out.2 hgr hO1)
          obtain ⟨A1, cap1, rfl, _, _, _⟩ := hO1.slice
          refine lst_val (some 52) (v := .slice A1 (ps.length + 1) cap1) rfl rfl (exec_append (t := 55) rfl (ev_ne (by rfl) (ev_ne (by rfl) (ev_eq (by (try simp only [Act.size_put]); rw [hsz]; decide)))) (ev_eq (by (try simp only [Act.size_put]); rw [hsz]; decide)) hrun) ?_
          refine lst_val (some 53) (v := .pointer (some ⟨G + 1 + 1 + 1, 11, none⟩)) rfl rfl (exec_addr 57 _ 4 rfl (ev_ne (by rfl) (ev_ne (by rfl) (ev_ne (by rfl) (ev_ne (by rfl) (ev_ne (by rfl) h8))))) (fb4)) ?_
          refine lst_skip none rfl rfl (exec_store1 55 _ _ rfl (ev_eq (by (try simp only [Act.size_put]); rw [hsz]; decide)) (ev_ne (by rfl) (ev_eq (by (try simp only [Act.size_put]); rw [hsz]; decide))) (st55 ((SW11.out.ko.cell 11).trans (fr_c11 { kind := n1, src := n2, dst := n3, have_ := xs, ops := [] } ov HVL.out)) (SW11.out.ko.frozen 11))) ?_
          refine lst_nil ?_
          have SW12 := SW11.out.set 11 (.slice A1 (ps.length + 1) cap1)
          rw [fr_put11 _ _ _ HVL.out] at SW12
          have SP12 := SP11.out.far (q := ⟨G + 1 + 1 + 1, 11, none⟩) (show G + 1 + 1 + 1 < G + 1 + 1 + 1 + 1 by omega) (.slice A1 (ps.length + 1) cap1)
          have SW12 := Lib.hid SW12
          have SP12 := Lib.hid SP12
          have hA := hA.out
          subst hA
          simp only [Act.put, List.setIfInBounds_toArray, List.set_cons_zero, List.set_cons_succ]
          clear h8 h11 hsz hO1 hgr hbk hrun hc
          go_wp2_with fail
          go_roundw
          case rel =>
            refine ⟨m, true, (rtextS st s.length).2, ps ++ [p0], .slice A1 (ps.length + 1) cap1, rfl, by rw [HW64.out], by rw [List.length_append, List.length_singleton]; omega, SW12.out, SP12.out, ?_⟩
            rw [SF.out, HGY.out (HG.out.1 (by simp)), opsOf, opsOf, List.map_append, List.map_singleton, HP0.out, List.append_assoc]
            rfl
          case measure => rw [HW64.out]; simp [intOf]
    · obtain rfl : m = 0 := by omega
      have SF := Lib.hid (SF.out.trans (show _ = (opsOf ps, st, b) by simp [gOps]))
      cases b
      · go_wp2_with (refine wpList_store_row rfl 57 _ _ rfl w.heap.size z12 rfl (by rw [z12_eq]; rfl) 57 z12 SW.out.kr size57 rfl fr_zero_one ?_)
        refine bodyPost_ret (results_row_tmp rfl _ _ w.heap.size 57 z12 (0, 0) _ _ rfl rfl (SW.out.kr.row _) Try.underlying57 rfl size57) rfl ?_
        refine ⟨.inr ⟨fun h => ?_, rfl⟩, below_setRow SW.out.b (Nat.le_refl _) _⟩
        have h1 := (HIS.out.1 h).1
        rw [SF.out] at h1
        cases h1
      · have HLE : leftN st ≤ 140737488355328 := SW.out.rd.left_le
        have bx := SW.out.kb.cell 0
        rw [show (#[Value.pointer (some ⟨G + 1, 0, none⟩)] : Array Value)[0]? = some (Value.pointer (some ⟨G + 1, 0, none⟩)) from rfl] at bx
        go_wp2_with fail
        refine (end_r SW.out.rd HLE).mono ?_
        rintro e Wz ⟨rfl, nz, rfl⟩
        have hbz : Below wr.heap.size wr (wr.drewN nz) := ⟨rfl, rfl, rfl, Nat.le_refl _, fun _ _ => rfl⟩
        have SZ := Lib.hid (SW.out.below hbz)
        have PZ := Lib.hid (SP.out.below hbz)
        clear hbz bx SW SP
        generalize wr.drewN nz = wz at *
        by_cases hst : st = some []
        · subst hst
          rw [show ((endN (some []) : Nat) : Int) = 0 from rfl]
          have HX12 := Lib.hid (frA_size { kind := n1, src := n2, dst := n3, have_ := xs, ops := [] } ov HVL.out)
          have M := Lib.hid (may_any wz { kind := n1, src := n2, dst := n3, have_ := xs, ops := ps } ov (by rw [← HH.out ps]; exact frHead_ok l ps) (PZ.out.ops (by have := HNB.out.2.2.2.2; omega)))
          rw [show frA { kind := n1, src := n2, dst := n3, have_ := xs, ops := ps } ov = frA { kind := n1, src := n2, dst := n3, have_ := xs, ops := [] } ov from rfl] at M
          generalize hX : frA { kind := n1, src := n2, dst := n3, have_ := xs, ops := [] } ov = X at *
          have HX := Lib.hid hX
          clear hX
          go_wp2_with (refine wpList_load_row_if rfl 57 _ rfl (G + 1 + 1 + 1) rfl 57 X (0, 0) _ SZ.out.ko Try.underlying57 rfl (by rw [HX12.out]; exact size57) ?_)
          refine M.out.mono ?_
          rintro e wf ⟨r, rfl, hr, hbf⟩
          have SF2 := Lib.hid (SZ.out.below hbf)
          have PF2 := Lib.hid (PZ.out.below hbf)
          have HRR := Lib.hid hr
          clear hbf hr M SZ PZ
          have HIF : Hid (frIs l ↔ r = true) := Lib.hid (by
            rw [HIS.out, SF.out, HRR.out]
            constructor
            · rintro ⟨_, _, h⟩
              have := h ps rfl
              rwa [HH.out ps] at this
            · intro h
              refine ⟨rfl, rfl, fun qs hqs => ?_⟩
              rw [HH.out qs]
              exact may_same (x := { kind := n1, src := n2, dst := n3, have_ := xs, ops := ps }) ⟨rfl, rfl, rfl, rfl, hqs.symm⟩ h)
          cases r
          · go_wp2_with (refine wpList_store_row rfl 57 _ _ rfl w.heap.size z12 rfl (by rw [z12_eq]; rfl) 57 z12 SF2.out.kr size57 rfl fr_zero_one ?_)
            refine bodyPost_ret (results_row_tmp rfl _ _ w.heap.size 57 z12 (0, 0) _ _ rfl rfl (SF2.out.kr.row _) Try.underlying57 rfl size57) rfl ?_
            exact ⟨.inr ⟨fun h => by simpa using HIF.out.1 h, rfl⟩, below_setRow SF2.out.b (Nat.le_refl _) _⟩
          · have HO1 : Hid (X.all (·.oneCell') = true) := Lib.hid (by
              obtain ⟨A1, cap1, e1, _⟩ := PF2.out.1.slice
              rw [← HX.out, e1]; simp [frA, frF, Value.oneCell'])
            go_wp2_with (first
              | (refine wpList_load_row rfl 57 _ rfl (G + 1 + 1 + 1) rfl 57 X (0, 0) _ SF2.out.ko Try.underlying57 rfl (by rw [HX12.out]; exact size57) ?_)
              | (refine wpList_store_row rfl 57 _ _ rfl w.heap.size X rfl rfl 57 z12 SF2.out.kr (by rw [HX12.out]; exact size57) (by rw [HX12.out]; rfl) HO1.out ?_))
            refine bodyPost_ret (results_row_tmp rfl _ _ w.heap.size 57 X (0, 0) _ _ rfl rfl (SF2.out.kr.row _) Try.underlying57 rfl (by rw [HX12.out]; exact size57)) rfl ?_
            refine ⟨.inl ⟨HIF.out.2 (by simp), ps, ov, ?_, ?_, by rw [SF.out]⟩, below_setRow SF2.out.b (Nat.le_refl _) _⟩
            · rw [HH.out ps, ← HX.out]; rfl
            · have hgt := SF2.out.gt
              exact (PF2.out.rowFar (g := w.heap.size) (fun e => by have := (PF2.out.1.lt _ e).1; omega) (fun p hp e => by have := ((PF2.out.2 p hp).1.lt _ e).1; omega) X).ops (by have := HNB.out.2.2.2.2; omega)
        · have hend : endN st = 5 := by
            cases st with
            | none => rfl
            | some l => cases l with
              | nil => exact absurd rfl hst
              | cons a b => rfl
          rw [hend]
          rw [show ((5 : Nat) : Int) = 5 from rfl]
          have HST := Lib.hid hst
          clear hst hend
          go_wp2_with (refine wpList_store_row rfl 57 _ _ rfl w.heap.size z12 rfl (by rw [z12_eq]; rfl) 57 z12 SZ.out.kr size57 rfl fr_zero_one ?_)
          refine bodyPost_ret (results_row_tmp rfl _ _ w.heap.size 57 z12 (0, 0) _ _ rfl rfl (SZ.out.kr.row _) Try.underlying57 rfl size57) rfl ?_
          refine ⟨.inr ⟨fun h => ?_, rfl⟩, below_setRow SZ.out.b (Nat.le_refl _) _⟩
          have h1 := (HIS.out.1 h).2.1
          rw [SF.out] at h1
          exact HST.out h1
end Go.Proofs.Ytfojjklohbiffaa
