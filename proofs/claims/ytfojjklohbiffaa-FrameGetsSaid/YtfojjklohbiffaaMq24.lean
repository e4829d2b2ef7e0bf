/- Frames: frame.Put. -/
import Derived.Test.YtfojjklohbiffaaMq13
import Derived.Test.YtfojjklohbiffaaMq21
import Derived.Test.YtfojjklohbiffaaMq23
namespace Go.Proofs.Ytfojjklohbiffaa
open Go.RowKit Tran Tran.Wire
set_option linter.unusedVariables false
set_option linter.unusedSimpArgs false
def textsF (ps : List POp) : List UInt8 := ps.flatMap fun p => textF (putO p.1)
/-- a frame's bytes, unsealed -/
def bodyF (x : NFrame) : List UInt8 := vecF [x.kind, x.src, x.dst] ++ vecF x.have_ ++ numF x.ops.length ++ textsF x.ops
def putF (x : NFrame) : List UInt8 := Crc.sealed (bodyF x)
theorem textsF_snoc (ps : List POp) (k : Nat) (h : k < ps.length) : textsF (ps.take (k + 1)) = textsF (ps.take k) ++ textF (putO ps[k].1) := by
  rw [List.take_succ_eq_append_getElem h, textsF, List.flatMap_append]; simp [textsF]
theorem textF_le (s : List UInt8) (h : s.length ≤ 1000000) : (textF s).length ≤ s.length + 9 := by
  have h1 := (numF_len s.length (by omega)).1
  simp only [textF, List.length_append]; omega
theorem textsF_len {w : World} (ps : List POp) (hg : ∀ p ∈ ps, p.good w) (hl : ¬ ∃ p ∈ ps, 16 < p.1.lines.length) : (textsF ps).length ≤ 909 * ps.length := by
  induction ps with
  | nil => simp [textsF]
  | cons p ps ih =>
    have h1 := putO_len p.1 (hg p List.mem_cons_self).2 (by
      rcases Nat.lt_or_ge 16 p.1.lines.length with h | h
      · exact absurd ⟨p, List.mem_cons_self, h⟩ hl
      · exact h)
    have h2 := textF_le (putO p.1) (by omega)
    have h3 := ih (fun q hq => hg q (List.mem_cons_of_mem _ hq)) (fun ⟨q, hq, h⟩ => hl ⟨q, List.mem_cons_of_mem _ hq, h⟩)
    simp only [textsF, List.flatMap_cons, List.length_append, List.length_cons] at h3 ⊢
    omega
/-- the worlds within frame.Put: the frame's box, the writer at G -/
structure FrW (w0 : World) (X : Array Value) (G : Nat) (W : World) (l : List UInt8) : Prop where
  k0 : Blk W w0.heap.size 57 X
  b : Below w0.heap.size w0 W
  gt : w0.heap.size < G
  lt : G < W.heap.size
  ex : ∃ v, WrAt W G G v l ∧ ∀ k, blkOf v = some k → G < k
theorem FrW.below {w0 : World} {X : Array Value} {G : Nat} {W W' : World} {l : List UInt8} (h : FrW w0 X G W l) (hb : Below W.heap.size W W') : FrW w0 X G W' l := by
  obtain ⟨v, hw, hv⟩ := h.ex
  exact ⟨h.k0.below hb h.k0.lt, h.b.trans (hb.mono h.b.size), h.gt, Nat.lt_of_lt_of_le h.lt hb.size, v, hw.below hb, hv⟩
theorem FrW.call {w0 : World} {X : Array Value} {G : Nat} {W : World} {l l' : List UInt8} {F : FuncId} {args : Array Value} (h : FrW w0 X G W l)
    (H : ∀ v, WrAt W G G v l → Calls Try.prog F args W (Wrote W G G v l')) : Calls Try.prog F args W fun e w' => e = .returned (.tuple #[]) ∧ FrW w0 X G w' l' := by
  obtain ⟨v, hw, hv⟩ := h.ex
  refine (H v hw).mono ?_
  rintro e w' ⟨v', rfl, p⟩
  have h1 := h.gt
  have h2 := h.lt
  have h3 := h.b.size
  refine ⟨rfl, ⟨h.k0.chg p.ch ?_, h.b.trans (p.ch.toBelow h3 ?_), h1, Nat.lt_of_lt_of_le h2 p.ch.size, v', p.wr, fun k hk => ?_⟩⟩
  · rintro (e | e)
    · omega
    · have := hv _ e; omega
  · rintro k _ (rfl | e)
    · omega
    · have := hv _ e; omega
  · rcases p.mv with e | e
    · exact hv k (e ▸ hk)
    · have := e k hk; omega
theorem FrW.start {w0 w1 : World} {X : Array Value} (k0 : Blk w1 w0.heap.size 57 X) (b : Below w0.heap.size w0 w1) : FrW w0 X w1.heap.size (w1.alloc (.cells #[.slice none 0 0, .bool true] 104)) [] :=
  ⟨k0.alloc _, b.alloc b.size _, k0.lt, by simp, .slice none 0 0, new_wr w1 (Nat.le_refl _), fun k e => by simp [blkOf] at e⟩
theorem ix123 (a b c k : Nat) (hk : k < 3) (W : World) : (Instr.index 123 (.agg #[.int .u8 (a : Int), .int .u8 (b : Int), .int .u8 (c : Int)]) (.int .i64 (k : Int))).run Try.prog W = .ok (.int .u8 (([a, b, c].getD k 0 : Nat) : Int)) W := by
  have e : k = 0 ∨ k = 1 ∨ k = 2 := by omega
  have h1 : (0 : Int) ≤ (k : Int) := by omega
  have h2 : (k : Int) < 3 := by omega
  rcases e with rfl | rfl | rfl <;> simp [Instr.index, run_underlying Try.underlying123, go_sem]
set_option maxRecDepth 100000 in
theorem putfr_no (w : World) (x : NFrame) (ov : Value) (hx : x.ok) (hO : Ops w ov x.ops) (hm : ¬ mayF x) : Calls Try.prog 44 #[.agg (frA x ov)] w fun e w' => e = .returned (.tuple #[.string ⟨#[]⟩, .int .i64 2]) ∧ Below w.heap.size w w' := by
  have k0 := Blk.new w 57 (frA x ov)
  have hb := (Below.refl w.heap.size w).alloc (Nat.le_refl _) (.cells (frA x ov) 57)
  have C := Lib.hid (may_any (w.alloc (.cells (frA x ov) 57)) x ov hx (hO.later hb))
  have HB := Lib.hid hb
  have K0 := Lib.hid k0
  have HS := Lib.hid (frA_size x ov hx.have8)
  have HM := Lib.hid hm
  clear hO hx hm k0 hb
  generalize frA x ov = X at *
  go_enter Try.func44, Try.ntmps44
  go_wp2_with (refine wpList_load_row rfl 57 _ rfl w.heap.size rfl 57 X (0, 0) _ K0.out Try.underlying57 rfl (by rw [HS.out]; exact size57) ?_)
  refine C.out.mono ?_
  rintro e w1 ⟨r, rfl, hr, hb1⟩
  have HB1 := Lib.hid (HB.out.trans (hb1.mono HB.out.size))
  have HR := Lib.hid hr
  clear hr hb1
  cases r
  · go_wp2_with fail
    go_ret2
    exact ⟨rfl, HB1.out⟩
  · exact absurd (HR.out.1 rfl) HM.out
set_option maxRecDepth 100000 in
set_option maxHeartbeats 16000000 in
theorem putfr_yes (w : World) (x : NFrame) (ov : Value) (hx : x.ok) (hO : Ops w ov x.ops) (hm : mayF x) : Calls Try.prog 44 #[.agg (frA x ov)] w fun e w' => e = .returned (.tuple #[.string ⟨(putF x).toArray⟩, .int .i64 0]) ∧ Below w.heap.size w w' := by
  have k0 := Blk.new w 57 (frA x ov)
  have hb := (Below.refl w.heap.size w).alloc (Nat.le_refl _) (.cells (frA x ov) 57)
  have C := Lib.hid (may_any (w.alloc (.cells (frA x ov) 57)) x ov hx (hO.later hb))
  have HOL := Lib.hid (fun W (h : Below w.heap.size w W) => hO.later h)
  obtain ⟨A, cap, rfl, hrd, hlen, hgood⟩ := hO
  have F0 := Lib.hid (fun W (h : Blk W w.heap.size 57 (frA x (.slice A x.ops.length cap))) => (h.cell 0).trans (fr_c0 x _))
  have F1 := Lib.hid (fun W (h : Blk W w.heap.size 57 (frA x (.slice A x.ops.length cap))) => (h.cell 1).trans (fr_c1 x _))
  have F2 := Lib.hid (fun W (h : Blk W w.heap.size 57 (frA x (.slice A x.ops.length cap))) => (h.cell 2).trans (fr_c2 x _))
  have F3 := Lib.hid (fun W (h : Blk W w.heap.size 57 (frA x (.slice A x.ops.length cap))) j u hj => (h.cell (3 + j)).trans (fr_c3 x _ j u hj))
  have F11 := Lib.hid (fun W (h : Blk W w.heap.size 57 (frA x (.slice A x.ops.length cap))) => (h.cell 11).trans (fr_c11 x _ hx.have8))
  have HL := Lib.hid hm
  have HTL := Lib.hid (fun k => show (textsF (x.ops.take k)).length ≤ 909 * 64 by
    have h1 := textsF_len (x.ops.take k) (fun p hp => hgood p (List.mem_of_mem_take hp)) (fun ⟨p, hp, h⟩ => hm.2.2.2.2.2.2 ⟨p, List.mem_of_mem_take hp, h⟩)
    have h2 := hm.2.2.2.2.2.1
    rw [List.length_take] at h1; omega)
  have HTS := Lib.hid (textsF_snoc x.ops)
  have HA := Lib.hid (fun W (hb : Below w.heap.size w W) k (hk : k < x.ops.length) => op_at (hrd.later hb) (fun p hp => ⟨(hgood p hp).1.later hb, (hgood p hp).2⟩) hk)
  have HG := Lib.hid hgood
  have H64 := hm.2.2.2.2.2.1
  have HB := Lib.hid hb
  have K0 := Lib.hid k0
  have HS := Lib.hid (frA_size x (.slice A x.ops.length cap) hx.have8)
  have HX := Lib.hid hx
  have H8 := Lib.hid hx.have8
  have HVS := Lib.hid (show (vecA x.have_).size = 8 by rw [vecA_size]; exact hx.have8)
  have hq2 := vecF_le x.have_ (fun n hn => by have := hx.have_ n hn; omega)
  rw [hx.have8] at hq2
  have HP := Lib.hid (show putF x = Crc.sealed (vecF [x.kind, x.src, x.dst] ++ vecF x.have_ ++ numF x.ops.length ++ textsF x.ops) from rfl)
  have HNB := Lib.hid (fun k (hk : k < 3) => show [x.kind, x.src, x.dst].getD k 0 < 256 by
    have e : k = 0 ∨ k = 1 ∨ k = 2 := by omega
    have h1 := hx.kind
    have h2 := hx.src
    have h3 := hx.dst
    rcases e with rfl | rfl | rfl <;> simp only [List.getD_cons_zero, List.getD_cons_succ] <;> omega)
  have HNS := Lib.hid (fun k (hk : k < 3) => show vecF ([x.kind, x.src, x.dst].take (k + 1)) = vecF ([x.kind, x.src, x.dst].take k) ++ numF ([x.kind, x.src, x.dst].getD k 0) by
    rw [vecF_snoc _ k (by simpa using hk), List.getD_eq_getElem?_getD, List.getElem?_eq_getElem (by simpa using hk)]; rfl)
  have HNL := Lib.hid (fun k => show (vecF ([x.kind, x.src, x.dst].take k)).length ≤ 27 by
    have h1 := hx.kind
    have h2 := hx.src
    have h3 := hx.dst
    have h := vecF_le ([x.kind, x.src, x.dst].take k) (fun n hn => by
      have h2 := List.mem_of_mem_take hn
      simp at h2; omega)
    rw [List.length_take] at h; simp at h; omega)
  have HIX := Lib.hid (ix123 x.kind x.src x.dst)
  have hn9 := (numF_len x.ops.length (by omega)).1
  clear hrd hgood hx hm k0 hb
  generalize frA x (.slice A x.ops.length cap) = X at *
  obtain ⟨n, hn⟩ : ∃ n, x.ops.length = n := ⟨_, rfl⟩
  have HN := Lib.hid hn
  rw [hn] at HP F11 hlen H64 hn9 HOL
  clear hn
  go_enter Try.func44, Try.ntmps44
  go_wp2_with (refine wpList_load_row rfl 57 _ rfl w.heap.size rfl 57 X (0, 0) _ K0.out Try.underlying57 rfl (by rw [HS.out]; exact size57) ?_)
  refine C.out.mono ?_
  rintro e w1 ⟨r, rfl, hr, hb1⟩
  have HB1 := Lib.hid (HB.out.trans (hb1.mono HB.out.size))
  have K1 := Lib.hid (K0.out.below hb1 K0.out.lt)
  have HR := Lib.hid hr
  clear hr hb1
  cases r
  · exact absurd (HR.out.2 HL.out) (by simp)
  go_wp2_with fail
  refine (wnew_any _).mono ?_
  rintro e w2 ⟨rfl, hw2⟩
  have S0 := Lib.hid (hw2 ▸ FrW.start K1.out HB1.out)
  have f0 := F0.out _ S0.out.k0
  have f1 := F1.out _ S0.out.k0
  have f2 := F2.out _ S0.out.k0
  obtain ⟨G, hG⟩ : ∃ G, w1.heap.size = G := ⟨_, rfl⟩
  rw [hG] at S0 ⊢
  clear hw2 hG HR C
  go_wp2_with fail
  clear f0 f1 f2
  go_loopw [6, 22] (fun s i wr => ∃ k : Nat, k ≤ 3 ∧ i = .int .i64 k ∧ FrW w X G wr (vecF ([x.kind, x.src, x.dst].take k))) (fun _ i _ => 3 - (intOf i).toNat)
  case atStart => exact ⟨0, by omega, rfl, S0.out⟩
  case round =>
    obtain ⟨k, hk, rfl, h⟩ := hrel
    clear S0
    have H := Lib.hid h
    clear h
    by_cases hlt : k < 3
    · have hix := HIX.out k hlt
      have hnb := HNB.out k hlt
      have hs := Lib.hid (HNS.out k hlt)
      have hnl := HNL.out k
      generalize vecF ([x.kind, x.src, x.dst].take k) = z at *
      generalize [x.kind, x.src, x.dst].getD k 0 = y at *
      have hw : IntKind.u64.wrap (y : Int) = y := IntWalk.u64_in _ (by omega)
      go_wp2_with fail
      refine (H.out.call fun v hv => wnum_any hv (by have := H.out.lt; omega) (by omega) y (by omega)).mono ?_
      rintro e w3 ⟨rfl, h2⟩
      have H2 := Lib.hid h2
      clear h2
      go_wp2_with fail
      go_roundw
      case rel => exact ⟨k + 1, hlt, by go_num, by rw [hs.out]; exact H2.out⟩
      case measure => simp [intOf]; omega
    · have e : [x.kind, x.src, x.dst].take k = [x.kind, x.src, x.dst] := List.take_of_length_le (by simp; omega)
      have hnl := HNL.out k
      rw [e] at H hnl
      clear e HNL HNS HNB HIX
      have hex : ∃ z, vecF [x.kind, x.src, x.dst] = z := ⟨_, rfl⟩
      obtain ⟨z, hz⟩ := hex
      rw [hz] at H hnl HP
      clear hz
      have f11 := F11.out _ H.out.k0
      have HF3 := Lib.hid (F3.out _ H.out.k0)
      go_wp2_with (refine wpList_load_cells rfl 54 _ rfl ⟨w.heap.size, 3, none⟩ rfl (vecA x.have_) _ (fun j u hj => by rw [lit_add]; exact HF3.out j u (by simpa [vecA] using hj)) Try.underlying54 rfl (by rw [HVS.out]; exact size54) ?_)
      refine (H.out.call fun v hv => wvec_any hv (by have := H.out.lt; omega) (by omega) x.have_ H8.out HX.out.have_).mono ?_
      rintro e w3 ⟨rfl, h2⟩
      have H2 := Lib.hid h2
      have f11 := F11.out _ h2.k0
      have hw : IntKind.u64.wrap ((n : Nat) : Int) = n := IntWalk.u64_in _ (by omega)
      clear h2 HF3 H
      go_wp2_with fail
      refine (H2.out.call fun v hv => wnum_any hv (by have := H2.out.lt; omega) (by rw [List.length_append]; omega) n (by omega)).mono ?_
      rintro e w4 ⟨rfl, h3⟩
      have H3 := Lib.hid h3
      have f11 := F11.out _ h3.k0
      clear h3 H2
      have hz3 : (z ++ vecF x.have_ ++ numF n).length ≤ 200 := by simp only [List.length_append]; omega
      generalize z ++ vecF x.have_ ++ numF n = z3 at *
      clear hq2 hnl hn9
      go_wp2_with fail
      go_loopw [8, 9, 10, 43, 47] (fun a b c i d wr => ∃ k : Nat, k ≤ n ∧ i = .int .i64 k ∧ FrW w X G wr (z3 ++ textsF (x.ops.take k))) (fun _ _ _ i _ _ => n - (intOf i).toNat)
      case atStart => exact ⟨0, by omega, rfl, by simpa [textsF] using H3.out⟩
      case round =>
        obtain ⟨k, hk, rfl, h⟩ := hrel
        clear H3 f11
        have H := Lib.hid h
        clear h
        have htl := HTL.out k
        by_cases hlt : k < n
        · have hk2 : k < x.ops.length := by have := HN.out; omega
          obtain ⟨ad, rfl, hc⟩ := HA.out _ H.out.b k hk2
          have hg := HG.out _ (List.getElem_mem hk2)
          have hts := Lib.hid (HTS.out k hk2)
          have h16 : x.ops[k].1.lines.length ≤ 16 := by
            rcases Nat.lt_or_ge 16 x.ops[k].1.lines.length with h | h
            · exact absurd ⟨_, List.getElem_mem hk2, h⟩ HL.out.2.2.2.2.2.2
            · exact h
          generalize x.ops[k] = q at *
          obtain ⟨y, ly⟩ := q
          simp only at hc h16 hts
          generalize textsF (x.ops.take k) = zt at *
          have HC := Lib.hid hc
          have HSY := Lib.hid (opA_size y ly hg.2.dep8)
          have HOY := Lib.hid (opA_one y ly hg.1)
          have hpl := putO_len y hg.2 h16
          have kn := Blk.new wr 122 (opA zeroO (.slice none 0 0))
          have b1 := (Below.refl wr.heap.size wr).alloc (Nat.le_refl _) (.cells (opA zeroO (.slice none 0 0)) 122)
          have kx := kn.row (opA y ly)
          have b2 := below_setRow b1 (Nat.le_refl _) (opA y ly)
          have H4 := Lib.hid (H.out.below b2)
          have CP := Lib.hid (putO_any _ y ly hg.2 (hg.1.later (H4.out.b)))
          rw [show putOR y = .tuple #[.string ⟨(putO y).toArray⟩, .int .i64 0] by unfold putOR; rw [if_neg (by omega)]] at CP
          have KN := Lib.hid kn
          have KX := Lib.hid kx
          rw [z29_eq] at KN KX H4 CP
          clear kn b1 kx b2 hc hg hk2
          generalize opA y ly = Y at *
          go_wp2_with (first
            | (refine wpList_load_cells rfl 122 _ rfl (ad.add (k * 29)) rfl Y _ (fun j u hj => HC.out j u hj) Try.underlying122 rfl (by rw [HSY.out]; exact size122) ?_)
            | (refine wpList_store_row rfl 122 _ _ rfl wr.heap.size Y rfl rfl 122 _ KN.out (by rw [HSY.out]; exact size122) (by rw [HSY.out]; rfl) HOY.out ?_)
            | (refine wpList_load_row rfl 122 _ rfl wr.heap.size rfl 122 Y (0, 0) _ KX.out Try.underlying122 rfl (by rw [HSY.out]; exact size122) ?_))
          refine CP.out.mono ?_
          rintro e w5 ⟨rfl, hb5⟩
          have H5 := Lib.hid (H4.out.below hb5)
          clear hb5
          go_wp2_with fail
          refine (H5.out.call fun v hv => wtext_any hv (by have := H5.out.lt; omega) (by rw [List.length_append]; omega) (putO y) (by omega)).mono ?_
          rintro e w6 ⟨rfl, h6⟩
          rw [List.append_assoc, ← hts.out] at h6
          have H6 := Lib.hid h6
          clear h6
          go_wp2_with fail
          go_roundw
          case rel => exact ⟨k + 1, hlt, by go_num, H6.out⟩
          case measure => simp [intOf]; omega
        · have e : x.ops.take k = x.ops := List.take_of_length_le (by have := HN.out; omega)
          rw [e] at H htl
          clear e
          have hz4 : (z3 ++ textsF x.ops).length ≤ 1000000 := by rw [List.length_append]; omega
          obtain ⟨v, hv, _⟩ := H.out.ex
          have CB := Lib.hid (bytes_any hv)
          have CS := Lib.hid (seal_l (z3 ++ textsF x.ops) hz4)
          have HBW := Lib.hid H.out.b
          clear hv
          generalize z3 ++ textsF x.ops = z4 at *
          go_wp2_with fail
          refine CB.out.mono ?_
          rintro e w5 ⟨rfl, rfl⟩
          go_wp2_with fail
          refine (CS.out _).mono ?_
          rintro e w6 ⟨rfl, hb6⟩
          have HB6 := Lib.hid (HBW.out.trans (hb6.mono HBW.out.size))
          clear hb6
          go_wp2_with fail
          go_ret2
          exact ⟨by rw [HP.out]; rfl, HB6.out⟩
end Go.Proofs.Ytfojjklohbiffaa
/- The known answers of layer 1 (head) hold, whatever the memory. -/
namespace Go.Proofs.Ytfojjklohbiffaa
open Go.RowKit Tran
theorem tab0 : Crc.tab 0 = 0 := by decide +kernel
theorem tab128 : Crc.tab 128 = 2197175160 := by decide +kernel
theorem tab1 : Crc.tab 1 = 4067132163 := by decide +kernel
theorem crc0 : Crc.crc [] = 0 := by decide +kernel
theorem crc9 : Crc.crc [49, 50, 51, 52, 53, 54, 55, 56, 57] = 3808858755 := by decide +kernel
theorem op0 : Crc.opened [0, 0, 0, 0] = true ∧ Crc.opens [0, 0, 0, 0] = [] := by decide +kernel
theorem op3 : Crc.opened [97, 98, 99] = false ∧ Crc.opens [97, 98, 99] = [] := by decide +kernel
theorem open_at (l r : List UInt8) (b : Bool) (hl : l.length ≤ 1000000) (h : Crc.opened l = b ∧ Crc.opens l = r) (w : World) :
    Calls Try.prog 25 #[.string ⟨l.toArray⟩] w fun e w' => e = .returned (.tuple #[.string ⟨r.toArray⟩, .bool b]) ∧ Below w.heap.size w w' := by
  have := open_any l hl w
  rwa [h.1, h.2] at this
theorem sum_at (l : List UInt8) (n : Int) (hl : l.length ≤ 1000000) (h : ((Crc.crc l : Nat) : Int) = n) (w : World) :
    Calls Try.prog 27 #[.string ⟨l.toArray⟩] w fun e w' => e = .returned (.int .u32 n) ∧ Below w.heap.size w w' := by
  have := sum_any ⟨l.toArray⟩ (by show l.toArray.size ≤ maxLen; unfold maxLen; simp; omega) w
  rw [← h]; exact this
set_option maxRecDepth 100000 in
set_option maxHeartbeats 1000000 in
theorem head1_any (w : World) :
    Calls Try.prog 22 #[] w fun e w' => e = .returned (.bool true) ∧ Below w.heap.size w w' := by
  go_enter Try.func22, Try.ntmps22
  go_wp2_with fail
  refine (table_any _).mono ?_
  rintro e w1 ⟨rfl, hb1⟩
  have hz1 : w.heap.size ≤ w1.heap.size := hb1.size
  go_wp2_with (refine wpList_store_row rfl 24 _ _ rfl w1.heap.size tabArr rfl rfl 24 Try.zeroCells24 (Blk.new w1 24 _) (by rw [tabArr_size]; exact size24) (by rw [tabArr_size]; exact zero24_size) tabArr_one ?_)
  have hk2 := (Blk.new w1 24 Try.zeroCells24).row tabArr
  have hb2 : Below w.heap.size w ((w1.alloc (Obj.cells Try.zeroCells24 24)).setRow w1.heap.size tabArr) := below_setRow (hb1.alloc hz1 _) hz1 _
  have hs2 : w1.heap.size < ((w1.alloc (Obj.cells Try.zeroCells24 24)).setRow w1.heap.size tabArr).heap.size := by simp
  generalize (w1.alloc (Obj.cells Try.zeroCells24 24)).setRow w1.heap.size tabArr = w2 at *
  refine (seal_any ⟨#[97, 98]⟩ (by decide) _).mono ?_
  rintro e w3 ⟨rfl, hb3⟩
  have hk3 := hk2.below hb3 hs2
  have hb3' := hb2.trans (hb3.mono hb2.size)
  have hs3 := hk3.lt
  clear hk2 hb2 hs2 hb3
  go_wp2_with fail
  refine (open_at (Crc.sealed [97, 98]) [97, 98] true (by rw [Crc.sealed_length]; simp) ⟨Crc.opened_sealed _, Crc.opens_sealed _⟩ _).mono ?_
  rintro e w4 ⟨rfl, hb4⟩
  have hk4 := hk3.below hb4 hs3
  have hb4' := hb3'.trans (hb4.mono hb3'.size)
  have hs4 := hk4.lt
  clear hk3 hb3' hs3 hb4
  go_wp2_with fail
  refine (open_at [0, 0, 0, 0] [] true (by simp) op0 _).mono ?_
  rintro e w5 ⟨rfl, hb5⟩
  have hk5 := hk4.below hb5 hs4
  have hb5' := hb4'.trans (hb5.mono hb4'.size)
  have hs5 := hk5.lt
  clear hk4 hb4' hs4 hb5
  go_wp2_with fail
  refine (open_at [97, 98, 99] [] false (by simp) op3 _).mono ?_
  rintro e w6 ⟨rfl, hb6⟩
  have hk6 := hk5.below hb6 hs5
  have hb6' := hb5'.trans (hb6.mono hb5'.size)
  have hs6 := hk6.lt
  clear hk5 hb5' hs5 hb6
  have c0 : w6.cell? { block := w1.heap.size, off := 0 } = some (.int .u32 0) := (hk6.cell 0).trans ((tabArr_get (by omega)).trans (by rw [tab0]; rfl))
  have c128 : w6.cell? { block := w1.heap.size, off := 128 } = some (.int .u32 2197175160) := (hk6.cell 128).trans ((tabArr_get (by omega)).trans (by rw [tab128]; rfl))
  have c1 : w6.cell? { block := w1.heap.size, off := 1 } = some (.int .u32 4067132163) := (hk6.cell 1).trans ((tabArr_get (by omega)).trans (by rw [tab1]; rfl))
  go_wp2_with fail
  refine (sum_at [] 0 (by simp) (by rw [crc0]; rfl) _).mono ?_
  rintro e w7 ⟨rfl, hb7⟩
  have hb7' := hb6'.trans (hb7.mono hb6'.size)
  go_wp2_with fail
  refine (sum_at [49, 50, 51, 52, 53, 54, 55, 56, 57] 3808858755 (by simp) (by rw [crc9]; rfl) _).mono ?_
  rintro e w8 ⟨rfl, hb8⟩
  have hb8' := hb7'.trans (hb8.mono hb7'.size)
  go_wp2
  go_ret
  exact ⟨rfl, hb8'⟩
end Go.Proofs.Ytfojjklohbiffaa
