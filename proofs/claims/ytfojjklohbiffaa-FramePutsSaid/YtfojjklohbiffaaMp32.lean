/- Frames: plain: bytes of unlike frames are not the same. -/
import Derived.Test.YtfojjklohbiffaaMp27
import Derived.Test.YtfojjklohbiffaaMp29
import Derived.Test.YtfojjklohbiffaaMp31
namespace Go.Proofs.Ytfojjklohbiffaa
open Go.RowKit Tran Tran.Wire
set_option linter.unusedVariables false
set_option linter.unusedSimpArgs false
theorem numF_cancel {a b : Nat} (ha : a < 18446744073709551616) (hb : b < 18446744073709551616) {r s : List UInt8} (h : numF a ++ r = numF b ++ s) : a = b ∧ r = s := by
  have h1 := rnum_nm a 18446744073709551615 (by omega) (by omega) r
  rw [h, rnum_nm b 18446744073709551615 (by omega) (by omega) s] at h1
  injection h1 with h1 h2
  injection h2 with h2
  exact ⟨h1.symm, h2.symm⟩
theorem vecF_cancel : ∀ {xs ys : List Nat} {r s : List UInt8}, xs.length = ys.length → (∀ x ∈ xs, x < 4294967296) → (∀ y ∈ ys, y < 4294967296) → vecF xs ++ r = vecF ys ++ s → xs = ys ∧ r = s
  | [], [], r, s, _, _, _, h => ⟨rfl, by simpa [vecF] using h⟩
  | x :: xs, y :: ys, r, s, hl, hx, hy, h => by
    simp only [vecF, List.flatMap_cons, List.append_assoc] at h
    obtain ⟨rfl, h2⟩ := numF_cancel (by have := hx x (by simp); omega) (by have := hy y (by simp); omega) h
    obtain ⟨rfl, h3⟩ := vecF_cancel (xs := xs) (ys := ys) (by simpa using hl) (fun z hz => hx z (by simp [hz])) (fun z hz => hy z (by simp [hz])) h2
    exact ⟨rfl, h3⟩
  | [], _ :: _, _, _, hl, _, _, _ => by simp at hl
  | _ :: _, [], _, _, hl, _, _, _ => by simp at hl
theorem textF_cancel {u v r s : List UInt8} (hu : u.length < 18446744073709551616) (hv : v.length < 18446744073709551616) (h : textF u ++ r = textF v ++ s) : u = v ∧ r = s := by
  simp only [textF, List.append_assoc] at h
  obtain ⟨h1, h2⟩ := numF_cancel hu hv h
  exact List.append_inj h2 h1
theorem textsF_cancel (ps : List POp) : ∀ qs : List POp, ps.length = qs.length → (∀ p ∈ ps, p.1.ok ∧ p.1.lines.length ≤ 16) → (∀ q ∈ qs, q.1.ok ∧ q.1.lines.length ≤ 16) → textsF ps = textsF qs → opsOf ps = opsOf qs := by
  induction ps with
  | nil =>
    intro qs hl _ _ _
    cases qs with
    | nil => rfl
    | cons q qs => simp at hl
  | cons p ps ih =>
    intro qs hl hp hq h
    cases qs with
    | nil => simp at hl
    | cons q qs =>
      obtain ⟨p1, p2⟩ := hp p (by simp)
      obtain ⟨q1, q2⟩ := hq q (by simp)
      have l1 := putO_len p.1 p1 p2
      have l2 := putO_len q.1 q1 q2
      rw [textsF, textsF, List.flatMap_cons, List.flatMap_cons] at h
      obtain ⟨h1, h2⟩ := textF_cancel (by omega) (by omega) h
      have h1' : putO p.1 ++ [] = putO q.1 ++ [] := by rw [h1]
      obtain ⟨h3, _⟩ := putO_inj p1 q1 p2 q2 h1'
      have h4 := ih qs (by simpa using hl) (fun z hz => hp z (List.mem_cons_of_mem _ hz)) (fun z hz => hq z (List.mem_cons_of_mem _ hz)) h2
      rw [opsOf, opsOf] at h4
      rw [opsOf, opsOf, List.map_cons, List.map_cons, h3, h4]
theorem sealed_inj {a b : List UInt8} (h : Crc.sealed a = Crc.sealed b) : a = b := by
  have := Crc.opens_sealed a
  rw [h, Crc.opens_sealed] at this
  exact this.symm
theorem textsF_ops (ps : List POp) : textsF ps = (opsOf ps).flatMap fun x => textF (putO x) := by
  simp [textsF, opsOf, List.flatMap_map]
theorem may_ops {x : NFrame} (h : mayF x) : ∀ p ∈ x.ops, p.1.lines.length ≤ 16 := fun p hp => by
  rcases Nat.lt_or_ge 16 p.1.lines.length with h2 | h2
  · exact absurd ⟨p, hp, h2⟩ h.2.2.2.2.2.2
  · exact h2
/-- the same bytes, the same frame -/
theorem putF_same {x y : NFrame} (hx : x.ok) (hy : y.ok) (gx : ∀ p ∈ x.ops, p.1.ok) (gy : ∀ p ∈ y.ops, p.1.ok) (mx : mayF x) (my : mayF y) : putF x = putF y ↔ sameF x y := by
  constructor
  · intro h
    have h := sealed_inj h
    simp only [bodyF, List.append_assoc] at h
    have k1 := hx.kind; have k2 := hx.src; have k3 := hx.dst
    have j1 := hy.kind; have j2 := hy.src; have j3 := hy.dst
    obtain ⟨h1, h⟩ := vecF_cancel (xs := [x.kind, x.src, x.dst]) (ys := [y.kind, y.src, y.dst]) rfl (by simp; omega) (by simp; omega) h
    obtain ⟨h2, h⟩ := vecF_cancel (hx.have8.trans hy.have8.symm) hx.have_ hy.have_ h
    have n1 := mx.2.2.2.2.2.1
    have n2 := my.2.2.2.2.2.1
    obtain ⟨h3, h⟩ := numF_cancel (by omega) (by omega) h
    have h4 := textsF_cancel _ _ h3 (fun p hp => ⟨gx p hp, may_ops mx p hp⟩) (fun p hp => ⟨gy p hp, may_ops my p hp⟩) h
    simp only [List.cons.injEq, and_true] at h1
    exact ⟨h1.1, h1.2.1, h1.2.2, h2, h4⟩
  · rintro ⟨h1, h2, h3, h4, h5⟩
    unfold putF bodyF
    rw [textsF_ops, textsF_ops, h1, h2, h3, h4, h5, ops_len h5]
end Go.Proofs.Ytfojjklohbiffaa
/- Frames: plain: what is read of a frame's bytes; they are read back; what is read is a frame's bytes. -/
namespace Go.Proofs.Ytfojjklohbiffaa
open Go.RowKit Tran Tran.Wire
set_option linter.unusedVariables false
set_option linter.unusedSimpArgs false
/-- what is read of a frame: its numbers, and the operations' end -/
def frK (l : List UInt8) := rnumS (some (Crc.opens l)) 1
def frS (l : List UInt8) := rnumS (frK l).2 7
def frD (l : List UInt8) := rnumS (frS l).2 7
def frN (l : List UInt8) := rnumS (rvecS (frD l).2 8).2 64
def frR (l : List UInt8) := gOps (Crc.opens l).length (frN l).1 (frN l).2 (Crc.opened l)
/-- the frame that is read, its operations apart -/
def frHead (l : List UInt8) (ps : List POp) : NFrame := { kind := (frK l).1, src := (frS l).1, dst := (frD l).1, have_ := vecZ (frD l).2, ops := ps }
/-- is it one? -/
def frIs (l : List UInt8) : Prop := (frR l).2.2 = true ∧ (frR l).2.1 = some [] ∧ ∀ ps : List POp, opsOf ps = (frR l).1 → mayF (frHead l ps)
theorem may_len {x : NFrame} (h : mayF x) : x.ops.length ≤ 64 := h.2.2.2.2.2.1
theorem frHead_ok (l : List UInt8) (ps : List POp) : (frHead l ps).ok := by
  have h1 := rnumS_le (some (Crc.opens l)) 1
  have h2 := rnumS_le (frK l).2 7
  have h3 := rnumS_le (frS l).2 7
  exact ⟨by show (rnumS _ 1).1 < 256; omega, by show (rnumS _ 7).1 < 256; omega, by show (rnumS _ 7).1 < 256; omega, vecZ_len _, vecZ_lt _⟩
theorem may_same {x y : NFrame} (h : sameF x y) (hm : mayF x) : mayF y := by
  obtain ⟨h1, h2, h3, h4, h5⟩ := h
  have hl := ops_len h5
  obtain ⟨m1, m2, m3, m4, m5, m6, m7⟩ := hm
  refine ⟨by omega, by omega, by omega, by omega, ?_, by omega, ?_⟩
  · rcases m5 with m5 | m5
    · exact .inl (by omega)
    · refine .inr (List.length_eq_zero_iff.1 (by rw [← hl, m5]; rfl))
  · rintro ⟨p, hp, h16⟩
    have : p.1 ∈ opsOf x.ops := by rw [h5]; exact List.mem_map_of_mem hp
    obtain ⟨q, hq, e⟩ := List.mem_map.1 this
    exact m7 ⟨q, hq, by rw [e]; exact h16⟩
theorem takeS_app (s r : List UInt8) : takeS (some (s ++ r)) s.length = (s, some r) := by
  simp [takeS]
theorem rtext_text (s r : List UInt8) (m : Nat) (h : s.length ≤ m) (hm : s.length < 2 ^ 64) : rtextS (some (textF s ++ r)) (m : Int) = (s, some r) := by
  unfold rtextS textF
  rw [List.append_assoc, Int.toNat_natCast, rnum_nm s.length m h hm (s ++ r)]
  exact takeS_app s r
theorem textsF_cons (p : POp) (ps : List POp) : textsF (p :: ps) = textF (putO p.1) ++ textsF ps := rfl
theorem gotO_put (x : NOp) (hx : x.ok) (hl : x.lines.length ≤ 16) : (rdO (some (putO x))).2 = some [] ∧ gotO (putO x) = x := by
  have h := rdO_put x hx hl []
  rw [List.append_nil] at h
  have h2 : (rdO (some (putO x))).2 = some [] := by rw [h]
  refine ⟨h2, ?_⟩
  unfold gotO
  rw [if_pos h2, h]
/-- operations' texts are read back -/
theorem gOps_put (L : Nat) (r : List UInt8) (ps : List POp) (hp : ∀ p ∈ ps, p.1.ok ∧ p.1.lines.length ≤ 16) (hL : (textsF ps).length ≤ L) : gOps L ps.length (some (textsF ps ++ r)) true = (opsOf ps, some r, true) := by
  induction ps with
  | nil => rfl
  | cons p ps ih =>
    obtain ⟨h1, h2⟩ := hp p (by simp)
    have hl := putO_len p.1 h1 h2
    obtain ⟨g1, g2⟩ := gotO_put p.1 h1 h2
    rw [textsF_cons, List.length_append] at hL
    have hle : (putO p.1).length ≤ (textF (putO p.1)).length := by rw [textF, List.length_append]; omega
    have ht : rtextS (some (textsF (p :: ps) ++ r)) (L : Int) = (putO p.1, some (textsF ps ++ r)) := by
      rw [textsF_cons, List.append_assoc]
      exact rtext_text _ _ L (by omega) (by omega)
    have ih := ih (fun q hq => hp q (List.mem_cons_of_mem _ hq)) (by omega)
    rw [List.length_cons, gOps_yes (by rw [ht]; exact g1), ht]
    simp only [g2, ih]
    rfl
theorem takeS_some {q l : List UInt8} {n : Nat} (h : (takeS (some q) n).2 = some l) : q = (takeS (some q) n).1 ++ l ∧ (takeS (some q) n).1.length = n := by
  simp only [takeS] at h ⊢
  by_cases hle : n ≤ q.length
  · rw [if_pos hle] at h ⊢
    simp only [Option.some.injEq] at h
    exact ⟨by rw [← h, List.take_append_drop], by rw [List.length_take, Nat.min_eq_left hle]⟩
  · rw [if_neg hle] at h
    simp at h
theorem text_some {st : Option (List UInt8)} {m : Int} {l : List UInt8} (h : (rtextS st m).2 = some l) : st = some (textF (rtextS st m).1 ++ l) := by
  unfold rtextS at h ⊢
  generalize hn : rnumS st m.toNat = n at *
  obtain ⟨n, q⟩ := n
  simp only at h ⊢
  cases q with
  | none => simp [takeS] at h
  | some q =>
    obtain ⟨h1, h2⟩ := takeS_some h
    have h3 : st = some (numF n ++ q) := by
      have h4 := num_some (st := st) (m := m.toNat) (l := q) (by rw [hn])
      rwa [hn] at h4
    rw [h3, textF, h2, List.append_assoc, ← h1]
theorem rdO_whole {t : List UInt8} (h : (rdO (some t)).2 = some []) : t = putO (gotO t) := by
  have h1 := rdO_some h
  unfold gotO
  rw [if_pos h]
  rw [List.append_nil] at h1
  injection h1
/-- what is read of operations is their texts -/
theorem gOps_some (L : Nat) (n : Nat) : ∀ (st : Option (List UInt8)) {os : List NOp} {r : List UInt8}, gOps L n st true = (os, some r, true) →
    st = some (os.flatMap (fun x => textF (putO x)) ++ r) ∧ os.length = n ∧ ∀ x ∈ os, x.ok ∧ x.lines.length ≤ 16 := by
  induction n with
  | zero =>
    intro st os r h
    simp only [gOps, Prod.mk.injEq, and_true] at h
    obtain ⟨rfl, rfl⟩ := h
    simp
  | succ n ih =>
    intro st os r h
    by_cases hc : (rdO (some (rtextS st L).1)).2 = some []
    · rw [gOps_yes hc] at h
      generalize hg : gOps L n (rtextS st L).2 true = q at h
      obtain ⟨os', st', b'⟩ := q
      simp only [Prod.mk.injEq] at h
      obtain ⟨rfl, rfl, rfl⟩ := h
      obtain ⟨h1, h2, h3⟩ := ih _ hg
      have h4 := text_some h1
      have h5 := rdO_whole hc
      have h6 := gotO_ok (rtextS st (L : Int)).1
      have h7 := gotO_lines (rtextS st (L : Int)).1
      generalize gotO (rtextS st (L : Int)).1 = x0 at *
      refine ⟨?_, by rw [List.length_cons, h2], ?_⟩
      · rw [List.flatMap_cons, ← h5, List.append_assoc]
        exact h4
      · intro x hx
        rcases List.mem_cons.1 hx with h8 | h8
        · rw [h8]; exact ⟨h6, h7⟩
        · exact h3 x h8
    · rw [gOps_bad hc] at h
      have h2 := congrArg (fun q => q.2.2) h
      exact Bool.noConfusion h2
/-- a frame's bytes are read back -/
theorem fr_put (x : NFrame) (hx : x.ok) (gx : ∀ p ∈ x.ops, p.1.ok) (mx : mayF x) : frIs (putF x) ∧ (frR (putF x)).1 = opsOf x.ops ∧ ∀ ps, frHead (putF x) ps = { x with ops := ps } := by
  have m1 := mx.1; have m2 := mx.2.1; have m3 := mx.2.2.1; have m6 := may_len mx
  have hop : Crc.opens (putF x) = bodyF x := Crc.opens_sealed _
  have hod : Crc.opened (putF x) = true := Crc.opened_sealed _
  have eb : bodyF x = numF x.kind ++ (numF x.src ++ (numF x.dst ++ (vecF x.have_ ++ (numF x.ops.length ++ textsF x.ops)))) := by
    simp only [bodyF, List.append_assoc]
    simp only [vecF, List.flatMap_cons, List.flatMap_nil, List.append_assoc, List.nil_append, List.append_nil]
  have hK : frK (putF x) = (x.kind, some (numF x.src ++ (numF x.dst ++ (vecF x.have_ ++ (numF x.ops.length ++ textsF x.ops))))) := by
    unfold frK; rw [hop, eb]; exact rnum_nm _ 1 (by omega) (by omega) _
  have hS : frS (putF x) = (x.src, some (numF x.dst ++ (vecF x.have_ ++ (numF x.ops.length ++ textsF x.ops)))) := by
    unfold frS; rw [hK]; exact rnum_nm _ 7 (by omega) (by omega) _
  have hD : frD (putF x) = (x.dst, some (vecF x.have_ ++ (numF x.ops.length ++ textsF x.ops))) := by
    unfold frD; rw [hS]; exact rnum_nm _ 7 (by omega) (by omega) _
  have hV : rvecS (frD (putF x)).2 8 = (x.have_, some (numF x.ops.length ++ textsF x.ops)) := by
    rw [hD, rvec_vec x.have_ hx.have_ _ 8 (by rw [hx.have8]; omega), List.take_of_length_le (by rw [hx.have8]; omega), List.drop_of_length_le (by rw [hx.have8]; omega)]
    rfl
  have hN : frN (putF x) = (x.ops.length, some (textsF x.ops)) := by
    unfold frN; rw [hV]; exact rnum_nm _ 64 m6 (by omega) _
  have hR : frR (putF x) = (opsOf x.ops, some [], true) := by
    unfold frR
    rw [hN, hod, hop]
    have h := gOps_put (bodyF x).length [] x.ops (fun p hp => ⟨gx p hp, may_ops mx p hp⟩) (by rw [eb]; simp only [List.length_append]; omega)
    rw [List.append_nil] at h
    exact h
  have hH : ∀ ps, frHead (putF x) ps = { x with ops := ps } := fun ps => by
    unfold frHead
    rw [vecZ_of hV, hK, hS, hD]
  refine ⟨⟨by rw [hR], by rw [hR], fun ps hps => ?_⟩, by rw [hR], hH⟩
  rw [hR] at hps
  rw [hH]
  exact may_same (x := x) ⟨rfl, rfl, rfl, rfl, hps.symm⟩ mx
/-- what is read of a frame is its bytes -/
theorem fr_back (l : List UInt8) (h : frIs l) (ps : List POp) (hps : opsOf ps = (frR l).1) : putF (frHead l ps) = l ∧ ∀ p ∈ ps, p.1.ok ∧ p.1.lines.length ≤ 16 := by
  obtain ⟨h1, h2, h3⟩ := h
  have hod : Crc.opened l = true := by
    cases ho : Crc.opened l with
    | true => rfl
    | false =>
      unfold frR at h1
      rw [ho, gOps_no] at h1
      cases h1
  obtain ⟨s, rfl⟩ := (Crc.opened_iff l).1 hod
  have hop : Crc.opens (Crc.sealed s) = s := Crc.opens_sealed s
  have hR : frR (Crc.sealed s) = ((frR (Crc.sealed s)).1, some [], true) := by
    rw [← h2, ← h1]
  have hR2 := hR
  conv at hR2 => lhs; unfold frR
  rw [hod] at hR2
  obtain ⟨g1, g2, g3⟩ := gOps_some _ _ _ hR2
  rw [List.append_nil] at g1
  have a5 := num_some g1
  have a4 := vec_some a5
  have a3 := num_some a4
  have a2 := num_some a3
  have a1 := num_some a2
  rw [hop] at a1
  injection a1 with a1
  refine ⟨?_, fun p hp => g3 p.1 (by rw [← hps]; exact List.mem_map_of_mem hp)⟩
  unfold putF
  congr 1
  have hlen : ps.length = (rnumS (rvecS (frD (Crc.sealed s)).2 8).2 64).1 := by
    have : (opsOf ps).length = (frN (Crc.sealed s)).1 := by rw [hps]; exact g2
    rw [opsOf, List.length_map] at this
    exact this
  rw [bodyF, textsF_ops]
  show vecF [(frK _).1, (frS _).1, (frD _).1] ++ vecF (vecZ (frD _).2) ++ numF ps.length ++ (opsOf ps).flatMap _ = s
  rw [hps, hlen]
  simp only [vecF, List.flatMap_cons, List.flatMap_nil, List.append_assoc, List.nil_append, List.append_nil]
  simp only [vecF] at a1
  refine Eq.trans ?_ a1.symm
  unfold frD frS frK
  rw [hop]
end Go.Proofs.Ytfojjklohbiffaa
/- Frames: great, bad, the known answers (head). -/
namespace Tran
open Go Go.RowKit
theorem wpList_load_row_if {P : Program} {ops : Array Oper} {rest : List Oper} {o : Oper} {a : Act} {w : World} {Q : Exit → Act → World → Prop} (hw : Region.wanted o (yielded ops a.tmps) = true) (ty : TypeId) (x : Operand) (ho : o.op = .load ty x)
    (g : Nat) (hx : a.eval x = .pointer (some ⟨g, 0, none⟩)) (t : TypeId) (cs : Array Value) (fr : Nat × Nat) (d : TypeDesc) (hg : w.heap[g]? = some (.cells cs t fr))
    (hu : P.underlying ty = some d) (hd : (match d with | .struct _ | .array _ _ => true | _ => false) = true) (hi : (P.info? ty).map (·.size) = some cs.size)
    (h : wpList P ops Q rest (a.put o.dst (.agg cs)) w) : wpList P ops Q (o :: rest) a w := by
  refine wpList_step fun K hK => ?_
  rw [if_pos hw]
  exact wp_load_row ty x ho g hx t cs fr d hg hu hd hi (hK _ _ h)
end Tran
namespace Go.Proofs.Ytfojjklohbiffaa
open Go.RowKit Tran Tran.Wire
set_option linter.unusedVariables false
set_option linter.unusedSimpArgs false
set_option maxRecDepth 100000 in
set_option maxHeartbeats 4000000 in
theorem great06_any (w : World) (x : NFrame) (ov : Value) (hx : x.ok) (hO : Ops w ov x.ops) : Calls Try.prog 42 #[.agg (frA x ov)] w fun e w' => (∃ r : Bool, e = .returned (.bool r)) ∧ Below w.heap.size w w' := by
  have k0 := Blk.new w 57 (frA x ov)
  have hb := (Below.refl w.heap.size w).alloc (Nat.le_refl _) (.cells (frA x ov) 57)
  obtain ⟨A, cap, rfl, hrd, hlen, hgood⟩ := hO
  have c11 := (k0.cell 11).trans (fr_c11 x _ hx.have8)
  have HA := Lib.hid (fun k (hk : k < x.ops.length) => op_at (hrd.later hb) (fun p hp => ⟨(hgood p hp).1.later hb, (hgood p hp).2⟩) hk)
  have HG := Lib.hid hgood
  have HB := Lib.hid hb
  obtain ⟨n, hn⟩ : ∃ n, x.ops.length = n := ⟨_, rfl⟩
  have HN := Lib.hid hn
  rw [hn] at c11 hlen
  clear k0 hb hrd hgood hn hx
  generalize hX : frA x (.slice A x.ops.length cap) = X at *
  rw [HN.out] at hX
  rw [hX] at c11
  clear hX
  generalize hW : w.alloc (.cells X 57) = W at *
  have HW := Lib.hid hW
  clear hW
  go_enter Try.func42, Try.ntmps42
  go_wp2_with fail
  rw [HW.out]
  go_loopw [3, 4] (fun m i wr => ∃ (k : Nat) (z : Int), k ≤ n ∧ i = .int .i64 k ∧ m = .int .i64 z ∧ wr = W) (fun _ i _ => n - (intOf i).toNat)
  case atStart => exact ⟨0, 0, by omega, rfl, rfl, rfl⟩
  case round =>
    obtain ⟨k, z, hk, rfl, rfl, rfl⟩ := hrel
    by_cases hlt : k < n
    · have hk2 : k < x.ops.length := by have := HN.out; omega
      obtain ⟨ad, rfl, hc⟩ := HA.out k hk2
      have hg := HG.out _ (List.getElem_mem hk2)
      generalize x.ops[k] = q at *
      obtain ⟨y, ly⟩ := q
      obtain ⟨B, cb, hly, _, hll⟩ := hg.1
      simp only at hc hly hll
      have c28 := hc 28 _ (op_c28 y ly hg.2.dep8)
      rw [add_at _ _ _ (by omega), hly] at c28
      have hix := ix55 (W := wr) (ad := ad) (c := cap) hlt hlen
      clear hc hg hly hk2
      go_wp2_with fail
      go_roundw
      case rel => exact ⟨k + 1, _, hlt, by go_num, rfl, by simp⟩
      case measure => simp [intOf]; omega
    · by_cases h1 : 100 < n
      · have hd : decide ((100 : Int) < (n : Int)) = true := decide_eq_true (by omega)
        go_wp2_with fail
        go_ret
        exact ⟨⟨_, rfl⟩, HB.out⟩
      · have hd : decide ((100 : Int) < (n : Int)) = false := decide_eq_false (by omega)
        go_wp2_with fail
        go_ret
        exact ⟨⟨_, rfl⟩, HB.out⟩
set_option maxRecDepth 100000 in
set_option maxHeartbeats 4000000 in
theorem bad06_any (w : World) (x : NFrame) (ov : Value) (hx : x.ok) (hO : Ops w ov x.ops) (hm : ¬ mayF x) : Calls Try.prog 90 #[.agg (frA x ov)] w fun e w' => e = .returned (.bool true) ∧ Below w.heap.size w w' := by
  have k0 := Blk.new w 57 (frA x ov)
  have hb := (Below.refl w.heap.size w).alloc (Nat.le_refl _) (.cells (frA x ov) 57)
  have C := Lib.hid (fun W (h : Below w.heap.size w W) => putfr_no W x ov hx (hO.later h) hm)
  have M := Lib.hid (fun W (h : Below w.heap.size w W) => may_any W x ov hx (hO.later h))
  have HM := Lib.hid hm
  have K0 := Lib.hid k0
  have HB := Lib.hid hb
  have HS := Lib.hid (frA_size x ov hx.have8)
  clear hx hO hm k0 hb
  generalize frA x ov = X at *
  go_enter Try.func90, Try.ntmps90
  go_wp2_with (refine wpList_load_row rfl 57 _ rfl w.heap.size rfl 57 X (0, 0) _ K0.out Try.underlying57 rfl (by rw [HS.out]; exact size57) ?_)
  refine (C.out _ HB.out).mono ?_
  rintro e w1 ⟨rfl, hb1⟩
  have K1 := Lib.hid (K0.out.below hb1 K0.out.lt)
  have HB1 := Lib.hid (HB.out.trans (hb1.mono HB.out.size))
  clear hb1
  go_wp2_with (refine wpList_load_row_if (by rfl) 57 _ rfl w.heap.size rfl 57 X (0, 0) _ K1.out Try.underlying57 rfl (by rw [HS.out]; exact size57) ?_)
  refine (M.out _ HB1.out).mono ?_
  rintro e w2 ⟨r, rfl, hr, hb2⟩
  have HB2 := Lib.hid (HB1.out.trans (hb2.mono HB1.out.size))
  have HR := Lib.hid hr
  clear hr hb2
  cases r
  · go_wp2_with fail
    go_ret
    exact ⟨rfl, HB2.out⟩
  · exact absurd (HR.out.1 rfl) HM.out
end Go.Proofs.Ytfojjklohbiffaa
