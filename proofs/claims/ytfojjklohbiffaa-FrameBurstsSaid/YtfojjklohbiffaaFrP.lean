/- Frames: plain: bytes of unlike frames are not the same. -/
import Derived.Test.YtfojjklohbiffaaFrE
import Derived.Test.YtfojjklohbiffaaFrD
import Derived.Test.YtfojjklohbiffaaBurst
namespace Go.Proofs.Ytfojjklohbiffaa
open Go.RowKit Tran Tran.Wire
set_option linter.unusedVariables false
set_option linter.unusedSimpArgs false
theorem numF_cancel {a b : Nat} (ha : a < 18446744073709551616) (hb : b < 18446744073709551616) {r s : List UInt8} (h : numF a ++ r = numF b ++ s) : a = b ∧ r = s := by
  have h1 := rnum_nm a 18446744073709551615 (by omega) (by omega) r
  rw [h, rnum_nm b 18446744073709551615 (by omega) (by omega) s] at h1
  injection h1 with h1 h2
  injection h2 with h2
  exact ⟨h1.symm, h2.symm⟩
theorem vecF_cancel : ∀ {xs ys : List Nat} {r s : List UInt8}, xs.length = ys.length → (∀ x ∈ xs, x < 4294967296) → (∀ y ∈ ys, y < 4294967296) → vecF xs ++ r = vecF ys ++ s → xs = ys ∧ r = s
  | [], [], r, s, _, _, _, h => ⟨rfl, by simpa [vecF] using h⟩
  | x :: xs, y :: ys, r, s, hl, hx, hy, h => by
    simp only [vecF, List.flatMap_cons, List.append_assoc] at h
    obtain ⟨rfl, h2⟩ := numF_cancel (by have := hx x (by simp); omega) (by have := hy y (by simp); omega) h
    obtain ⟨rfl, h3⟩ := vecF_cancel (xs := xs) (ys := ys) (by simpa using hl) (fun z hz => hx z (by simp [hz])) (fun z hz => hy z (by simp [hz])) h2
    exact ⟨rfl, h3⟩
  | [], _ :: _, _, _, hl, _, _, _ => by simp at hl
  | _ :: _, [], _, _, hl, _, _, _ => by simp at hl
theorem textF_cancel {u v r s : List UInt8} (hu : u.length < 18446744073709551616) (hv : v.length < 18446744073709551616) (h : textF u ++ r = textF v ++ s) : u = v ∧ r = s := by
  simp only [textF, List.append_assoc] at h
  obtain ⟨h1, h2⟩ := numF_cancel hu hv h
  exact List.append_inj h2 h1
theorem textsF_cancel (ps : List POp) : ∀ qs : List POp, ps.length = qs.length → (∀ p ∈ ps, p.1.ok ∧ p.1.lines.length ≤ 16) → (∀ q ∈ qs, q.1.ok ∧ q.1.lines.length ≤ 16) → textsF ps = textsF qs → opsOf ps = opsOf qs := by
  induction ps with
  | nil =>
    intro qs hl _ _ _
    cases qs with
    | nil => rfl
    | cons q qs => simp at hl
  | cons p ps ih =>
    intro qs hl hp hq h
    cases qs with
    | nil => simp at hl
    | cons q qs =>
      obtain ⟨p1, p2⟩ := hp p (by simp)
      obtain ⟨q1, q2⟩ := hq q (by simp)
      have l1 := putO_len p.1 p1 p2
      have l2 := putO_len q.1 q1 q2
      rw [textsF, textsF, List.flatMap_cons, List.flatMap_cons] at h
      obtain ⟨h1, h2⟩ := textF_cancel (by omega) (by omega) h
      have h1' : putO p.1 ++ [] = putO q.1 ++ [] := by rw [h1]
      obtain ⟨h3, _⟩ := putO_inj p1 q1 p2 q2 h1'
      have h4 := ih qs (by simpa using hl) (fun z hz => hp z (List.mem_cons_of_mem _ hz)) (fun z hz => hq z (List.mem_cons_of_mem _ hz)) h2
      rw [opsOf, opsOf] at h4
      rw [opsOf, opsOf, List.map_cons, List.map_cons, h3, h4]
theorem sealed_inj {a b : List UInt8} (h : Crc.sealed a = Crc.sealed b) : a = b := by
  have := Crc.opens_sealed a
  rw [h, Crc.opens_sealed] at this
  exact this.symm
theorem textsF_ops (ps : List POp) : textsF ps = (opsOf ps).flatMap fun x => textF (putO x) := by
  simp [textsF, opsOf, List.flatMap_map]
theorem may_ops {x : NFrame} (h : mayF x) : ∀ p ∈ x.ops, p.1.lines.length ≤ 16 := fun p hp => by
  rcases Nat.lt_or_ge 16 p.1.lines.length with h2 | h2
  · exact absurd ⟨p, hp, h2⟩ h.2.2.2.2.2.2
  · exact h2
/-- the same bytes, the same frame -/
theorem putF_same {x y : NFrame} (hx : x.ok) (hy : y.ok) (gx : ∀ p ∈ x.ops, p.1.ok) (gy : ∀ p ∈ y.ops, p.1.ok) (mx : mayF x) (my : mayF y) : putF x = putF y ↔ sameF x y := by
  constructor
  · intro h
    have h := sealed_inj h
    simp only [bodyF, List.append_assoc] at h
    have k1 := hx.kind; have k2 := hx.src; have k3 := hx.dst
    have j1 := hy.kind; have j2 := hy.src; have j3 := hy.dst
    obtain ⟨h1, h⟩ := vecF_cancel (xs := [x.kind, x.src, x.dst]) (ys := [y.kind, y.src, y.dst]) rfl (by simp; omega) (by simp; omega) h
    obtain ⟨h2, h⟩ := vecF_cancel (hx.have8.trans hy.have8.symm) hx.have_ hy.have_ h
    have n1 := mx.2.2.2.2.2.1
    have n2 := my.2.2.2.2.2.1
    obtain ⟨h3, h⟩ := numF_cancel (by omega) (by omega) h
    have h4 := textsF_cancel _ _ h3 (fun p hp => ⟨gx p hp, may_ops mx p hp⟩) (fun p hp => ⟨gy p hp, may_ops my p hp⟩) h
    simp only [List.cons.injEq, and_true] at h1
    exact ⟨h1.1, h1.2.1, h1.2.2, h2, h4⟩
  · rintro ⟨h1, h2, h3, h4, h5⟩
    unfold putF bodyF
    rw [textsF_ops, textsF_ops, h1, h2, h3, h4, h5, ops_len h5]
end Go.Proofs.Ytfojjklohbiffaa
