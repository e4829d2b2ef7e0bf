/- Operations: their bytes and back, plain. -/
import Derived.Test.YtfojjklohbiffaaDoorOpE
import Derived.Test.YtfojjklohbiffaaDoorWireQ
import Derived.Test.YtfojjklohbiffaaDoorWireK
namespace Go.Proofs.YtfojjklohbiffaaDoor
open Go.RowKit Tran Tran.Wire
set_option linter.unusedVariables false
set_option linter.unusedSimpArgs false
theorem rnum_nm (n m : Nat) (hn : n ≤ m) (h64 : n < 2 ^ 64) (x : List UInt8) : rnumS (some (numF n ++ x)) m = (n, some x) := by
  unfold rnumS
  rw [numS_numF n h64 x]
  simp [hn]
theorem dotZ_of {st : Option (List UInt8)} {r n : Nat} {t : List UInt8} (h : rdotS st = ((r, n), some t)) : dotZ st = (r, n) := by simp [dotZ, h]
theorem vecZ_of {st : Option (List UInt8)} {xs : List Nat} {t : List UInt8} (h : rvecS st 8 = (xs, some t)) : vecZ st = xs := by simp [vecZ, h]
theorem num_some {st : Option (List UInt8)} {m : Nat} {l : List UInt8} (h : (rnumS st m).2 = some l) : st = some (numF (rnumS st m).1 ++ l) :=
  (rnumS_some (x := (rnumS st m).1) (Prod.ext rfl h)).1
theorem dot_some {st : Option (List UInt8)} {l : List UInt8} (h : (rdotS st).2 = some l) : st = some (dotF (dotZ st).1 (dotZ st).2 ++ l) := by
  have h2 := num_some h
  have h1 := num_some h2
  have e : dotZ st = (rdotS st).1 := by unfold dotZ; rw [h]; rfl
  rw [e]
  refine h1.trans ?_
  simp [dotF, rdotS, List.append_assoc]
theorem vec_back (st : Option (List UInt8)) : ∀ (k : Nat) {l : List UInt8}, (rvecS st k).2 = some l → st = some (vecF (rvecS st k).1 ++ l)
  | 0, l, h => by simpa [rvecS, vecF] using h
  | k + 1, l, h => by
    have h1 := vec_back st k (num_some h)
    refine h1.trans ?_
    simp [rvecS, vecF, List.append_assoc]
theorem vec_some {st : Option (List UInt8)} {l : List UInt8} (h : (rvecS st 8).2 = some l) : st = some (vecF (vecZ st) ++ l) := by
  have e : vecZ st = (rvecS st 8).1 := by unfold vecZ; rw [h]; rfl
  rw [e]
  exact vec_back st 8 h
theorem lines_some (st : Option (List UInt8)) : ∀ (k : Nat) {l : List UInt8}, (rdLines st k).2 = some l → st = some (linesF (rdLines st k).1 ++ l)
  | 0, l, h => by simpa [rdLines, linesF] using h
  | k + 1, l, h => by
    have h2 := dot_some h
    have h1 := dot_some h2
    have h0 := lines_some st k h1
    refine h0.trans ?_
    simp [rdLines, linesF, rdClaim, List.append_assoc]
theorem rdot_dot (r n : Nat) (hr : r < 256) (hn : n < 4294967296) (x : List UInt8) : rdotS (some (dotF r n ++ x)) = ((r, n), some x) := by
  have h1 : rnumS (some (dotF r n ++ x)) 255 = (r, some (numF n ++ x)) := by
    rw [dotF, List.append_assoc]; exact rnum_nm r 255 (by omega) (by omega) _
  have h2 := rnum_nm n 4294967295 (by omega) (by omega) x
  simp [rdotS, h1, h2]
theorem rvec_vec (xs : List Nat) (h : ∀ y ∈ xs, y < 4294967296) (x : List UInt8) : ∀ k, k ≤ xs.length → rvecS (some (vecF xs ++ x)) k = (xs.take k, some (vecF (xs.drop k) ++ x))
  | 0, _ => by simp [rvecS]
  | k + 1, hk => by
    have hk' : k < xs.length := hk
    have e : xs.drop k = xs[k] :: xs.drop (k + 1) := List.drop_eq_getElem_cons hk'
    have hy := h xs[k] (List.getElem_mem hk')
    have h1 := rnum_nm xs[k] 4294967295 (by omega) (by omega) (vecF (xs.drop (k + 1)) ++ x)
    have e3 : vecF (xs.drop k) ++ x = numF xs[k] ++ (vecF (xs.drop (k + 1)) ++ x) := by rw [e]; simp only [vecF, List.flatMap_cons, List.append_assoc]
    rw [rvecS, rvec_vec xs h x k (by omega)]
    simp only [e3, h1]
    rw [List.take_succ_eq_append_getElem hk']
theorem rdLines_lines (ls : List NClaim) (h : ∀ c ∈ ls, c.ok) (x : List UInt8) : ∀ k, k ≤ ls.length → rdLines (some (linesF ls ++ x)) k = (ls.take k, some (linesF (ls.drop k) ++ x))
  | 0, _ => by simp [rdLines]
  | k + 1, hk => by
    have hk' : k < ls.length := hk
    have e : ls.drop k = ls[k] :: ls.drop (k + 1) := List.drop_eq_getElem_cons hk'
    obtain ⟨o1, o2, o3, o4⟩ := h ls[k] (List.getElem_mem hk')
    have e2 : linesF (ls.drop k) ++ x = dotF ls[k].lr ls[k].ln ++ (dotF ls[k].vr ls[k].vn ++ (linesF (ls.drop (k + 1)) ++ x)) := by
      rw [e]; simp only [linesF, List.flatMap_cons, List.append_assoc]
    have h1 := rdot_dot ls[k].lr ls[k].ln o1 o2 (dotF ls[k].vr ls[k].vn ++ (linesF (ls.drop (k + 1)) ++ x))
    have h2 := rdot_dot ls[k].vr ls[k].vn o3 o4 (linesF (ls.drop (k + 1)) ++ x)
    simp only [rdLines, rdLines_lines ls h x k (by omega), rdClaim, rdClaimS, e2, h1, h2, dotZ_of h1, dotZ_of h2]
    rw [List.take_succ_eq_append_getElem hk']
theorem rdO_of (x : NOp) {st : Option (List UInt8)} {t1 t2 t3 t4 t5 t6 t7 t8 t9 t10 t11 t12 t13 t14 t15 t16 t17 tl : List UInt8} (h1 : rdotS st = ((x.dr, x.dn), some t1)) (h2 : rvecS (some t1) 8 = (x.dep, some t2))
    (h3 : rnumS (some t2) 18446744073709551615 = (x.time, some t3)) (h4 : rnumS (some t3) 4294967295 = (x.who, some t4)) (h5 : rdotS (some t4) = ((x.cr, x.cn), some t5)) (h6 : rnumS (some t5) 255 = (x.kind, some t6))
    (h7 : rdotS (some t6) = ((x.er, x.en), some t7)) (h8 : rnumS (some t7) 4294967295 = (x.dest, some t8)) (h9 : rnumS (some t8) 255 = (x.roles, some t9)) (h10 : rnumS (some t9) 255 = (x.depth, some t10))
    (h11 : rnumS (some t10) 18446744073709551615 = (x.cap, some t11)) (h12 : rdotS (some t11) = ((x.ar, x.an), some t12)) (h13 : rdotS (some t12) = ((x.vr, x.vn), some t13)) (h14 : rnumS (some t13) 4294967295 = (x.item, some t14))
    (h15 : rnumS (some t14) 4294967295 = (x.qty, some t15)) (h16 : rnumS (some t15) 4294967295 = (x.price, some t16)) (h17 : rnumS (some t16) 16 = (x.lines.length, some t17)) (h18 : rdLines (some t17) x.lines.length = (x.lines, some tl)) :
    rdO st = (x, some tl) := by
  simp only [rdO, dotZ_of h1, h1, vecZ_of h2, h2, h3, h4, dotZ_of h5, h5, h6, dotZ_of h7, h7, h8, h9, h10, h11, dotZ_of h12, h12, dotZ_of h13, h13, h14, h15, h16, h17, h18]
theorem putO_split (x : NOp) (r : List UInt8) : putO x ++ r = dotF x.dr x.dn ++ (vecF x.dep ++ (numF x.time ++ (numF x.who ++ (dotF x.cr x.cn ++ (numF x.kind ++ (dotF x.er x.en ++ (numF x.dest ++ (numF x.roles ++ (numF x.depth ++ (numF x.cap ++ (dotF x.ar x.an ++ (dotF x.vr x.vn ++ (numF x.item ++ (numF x.qty ++ (numF x.price ++ (numF x.lines.length ++ (linesF x.lines ++ r))))))))))))))))) := by
  simp only [putO, List.append_assoc]
  simp only [vecF, List.flatMap_cons, List.flatMap_nil, List.append_assoc, List.nil_append, List.append_nil]
/-- an operation's bytes are read back -/
theorem rdO_put (x : NOp) (hx : x.ok) (hl : x.lines.length ≤ 16) (r : List UInt8) : rdO (some (putO x ++ r)) = (x, some r) := by
  rw [putO_split]
  refine rdO_of x (t17 := linesF x.lines ++ r) (rdot_dot _ _ hx.dr hx.dn _) ?_ (rnum_nm _ _ (by have := hx.time; omega) (by have := hx.time; omega) _) (rnum_nm _ _ (by have := hx.who; omega) (by have := hx.who; omega) _) (rdot_dot _ _ hx.cr hx.cn _)
    (rnum_nm _ _ (by have := hx.kind; omega) (by have := hx.kind; omega) _) (rdot_dot _ _ hx.er hx.en _) (rnum_nm _ _ (by have := hx.dest; omega) (by have := hx.dest; omega) _) (rnum_nm _ _ (by have := hx.roles; omega) (by have := hx.roles; omega) _)
    (rnum_nm _ _ (by have := hx.depth; omega) (by have := hx.depth; omega) _) (rnum_nm _ _ (by have := hx.cap; omega) (by have := hx.cap; omega) _) (rdot_dot _ _ hx.ar hx.an _) (rdot_dot _ _ hx.vr hx.vn _)
    (rnum_nm _ _ (by have := hx.item; omega) (by have := hx.item; omega) _) (rnum_nm _ _ (by have := hx.qty; omega) (by have := hx.qty; omega) _) (rnum_nm _ _ (by have := hx.price; omega) (by have := hx.price; omega) _)
    (rnum_nm _ _ hl (by omega) _) ?_
  · have h := rvec_vec x.dep hx.dep (numF x.time ++ (numF x.who ++ (dotF x.cr x.cn ++ (numF x.kind ++ (dotF x.er x.en ++ (numF x.dest ++ (numF x.roles ++ (numF x.depth ++ (numF x.cap ++ (dotF x.ar x.an ++ (dotF x.vr x.vn ++ (numF x.item ++ (numF x.qty ++ (numF x.price ++ (numF x.lines.length ++ (linesF x.lines ++ r)))))))))))))))) 8 (by rw [hx.dep8]; omega)
    rw [h, List.take_of_length_le (by rw [hx.dep8]; omega), List.drop_of_length_le (by rw [hx.dep8]; omega)]
    rfl
  · rw [rdLines_lines x.lines hx.lines r _ (Nat.le_refl _), List.take_length, List.drop_length]
    rfl
theorem putO_inj {x y : NOp} (hx : x.ok) (hy : y.ok) (hxl : x.lines.length ≤ 16) (hyl : y.lines.length ≤ 16) {r s : List UInt8} (h : putO x ++ r = putO y ++ s) : x = y ∧ r = s := by
  have h1 := rdO_put x hx hxl r
  rw [h, rdO_put y hy hyl s] at h1
  injection h1 with h1 h2
  injection h2 with h2
  exact ⟨h1.symm, h2.symm⟩
set_option maxRecDepth 100000 in
/-- what is read is an operation's bytes -/
theorem rdO_some {st : Option (List UInt8)} {l : List UInt8} (h : (rdO st).2 = some l) : st = some (putO (rdO st).1 ++ l) := by
  unfold rdO at h
  simp only at h
  have a17 := lines_some _ _ h
  have a16 := num_some a17
  have a15 := num_some a16
  have a14 := num_some a15
  have a13 := num_some a14
  have a12 := dot_some a13
  have a11 := dot_some a12
  have a10 := num_some a11
  have a9 := num_some a10
  have a8 := num_some a9
  have a7 := num_some a8
  have a6 := dot_some a7
  have a5 := num_some a6
  have a4 := dot_some a5
  have a3 := num_some a4
  have a2 := num_some a3
  have a1 := vec_some a2
  have a0 := dot_some a1
  rw [putO_split]
  refine a0.trans ?_
  unfold rdO
  simp only [rdLines_len]
theorem putO_len (x : NOp) (hx : x.ok) (hl : x.lines.length ≤ 16) : (putO x).length ≤ 900 := by
  have q1 := dotF_len x.dr x.dn hx.dr hx.dn
  have q2 := vecF_le x.dep (fun n hn => by have := hx.dep n hn; omega)
  have q3 := vecF_len2 [x.time, x.who] (by have h1 := hx.time; have h2 := hx.who; simp; omega)
  have q4 := dotF_len x.cr x.cn hx.cr hx.cn
  have q5 := vecF_len2 [x.kind] (by have h1 := hx.kind; simp; omega)
  have q6 := dotF_len x.er x.en hx.er hx.en
  have q7 := vecF_len2 [x.dest, x.roles, x.depth, x.cap] (by have h1 := hx.dest; have h2 := hx.roles; have h3 := hx.depth; have h4 := hx.cap; simp; omega)
  have q8 := dotF_len x.ar x.an hx.ar hx.an
  have q9 := dotF_len x.vr x.vn hx.vr hx.vn
  have q10 := vecF_len2 [x.item, x.qty, x.price, x.lines.length] (by have h1 := hx.item; have h2 := hx.qty; have h3 := hx.price; simp; omega)
  have q11 := linesF_len x.lines hx.lines
  rw [hx.dep8] at q2
  simp only [List.length_cons, List.length_nil] at q3 q5 q7 q10
  simp only [putO, List.length_append]
  omega
end Go.Proofs.YtfojjklohbiffaaDoor
