/- Operations: op.Put. -/
import Derived.Test.YtfojjklohbiffaaDoorOpB
import Derived.Test.YtfojjklohbiffaaDoorWireB
namespace Go.Proofs.YtfojjklohbiffaaDoor
open Go.RowKit Tran Tran.Wire
set_option linter.unusedVariables false
def linesF (ls : List NClaim) : List UInt8 := ls.flatMap fun c => dotF c.lr c.ln ++ dotF c.vr c.vn
/-- an operation's bytes -/
def putO (x : NOp) : List UInt8 :=
  dotF x.dr x.dn ++ vecF x.dep ++ vecF [x.time, x.who] ++ dotF x.cr x.cn ++ vecF [x.kind] ++ dotF x.er x.en ++ vecF [x.dest, x.roles, x.depth, x.cap] ++ dotF x.ar x.an ++ dotF x.vr x.vn ++ vecF [x.item, x.qty, x.price, x.lines.length] ++ linesF x.lines
def putOR (x : NOp) : Value := if 16 < x.lines.length then .tuple #[.string ⟨#[]⟩, .int .i64 3] else .tuple #[.string ⟨(putO x).toArray⟩, .int .i64 0]
theorem dotF_len (r n : Nat) (hr : r < 256) (hn : n < 4294967296) : (dotF r n).length ≤ 18 := by
  have h1 := (numF_len r (by omega)).1
  have h2 := (numF_len n (by omega)).1
  simp only [dotF, List.length_append]; omega
theorem linesF_len (ls : List NClaim) (h : ∀ c ∈ ls, c.ok) : (linesF ls).length ≤ 36 * ls.length := by
  induction ls with
  | nil => simp [linesF]
  | cons c ls ih =>
    have hc := h c List.mem_cons_self
    have h1 := dotF_len c.lr c.ln hc.1 hc.2.1
    have h2 := dotF_len c.vr c.vn hc.2.2.1 hc.2.2.2
    have h3 := ih fun d hd => h d (List.mem_cons_of_mem _ hd)
    simp only [linesF, List.flatMap_cons, List.length_append, List.length_cons] at h3 ⊢
    omega
theorem linesF_snoc (ls : List NClaim) (k : Nat) (h : k < ls.length) : linesF (ls.take (k + 1)) = linesF (ls.take k) ++ dotF ls[k].lr ls[k].ln ++ dotF ls[k].vr ls[k].vn := by
  rw [List.take_succ_eq_append_getElem h, linesF, List.flatMap_append]; simp [linesF]
theorem vecF_len2 (ns : List Nat) (h : ∀ n ∈ ns, n < 18446744073709551616) : (vecF ns).length ≤ 9 * ns.length := vecF_le ns h
theorem line_at {w : World} {A : Option Addr} {ls : List NClaim} (h : Rd w A ls.length 4 (ls.flatMap claimF)) {k : Nat} (hk : k < ls.length) :
    ∃ ad, A = some ad ∧ ∀ j u, (claimA ls[k])[j]? = some u → w.cell? ((ad.add (k * 4)).add j) = some u := by
  obtain ⟨ad, h1, h2⟩ := rd_cells (fun x _ => claimF_len x) h hk
  exact ⟨ad, h1, fun j u hu => h2 j u (by rw [← claimA_list]; simpa using hu)⟩
theorem OpW.start (w : World) (x : NOp) (lv : Value) : OpW w x lv (((w.alloc (.cells (opA x lv) 30)).alloc (.cells #[.slice none 0 0, .bool true] 89)).alloc (.cells #[.pointer (some ⟨w.heap.size + 1, 0, none⟩)] 55)) [] := by
  have k0 := ((Blk.new w 30 (opA x lv)).alloc (.cells #[.slice none 0 0, .bool true] 89)).alloc (.cells #[.pointer (some ⟨w.heap.size + 1, 0, none⟩)] 55)
  have k1 := (Blk.new (w.alloc (.cells (opA x lv) 30)) 89 #[.slice none 0 0, .bool true]).alloc (.cells #[.pointer (some ⟨w.heap.size + 1, 0, none⟩)] 55)
  have k2 := Blk.new ((w.alloc (.cells (opA x lv) 30)).alloc (.cells #[.slice none 0 0, .bool true] 89)) 55 #[.pointer (some ⟨w.heap.size + 1, 0, none⟩)]
  simp only [World.size_alloc] at k1 k2
  exact ⟨k0, k2, (((Below.refl _ w).alloc (Nat.le_refl _) _).alloc (by simp) _).alloc (by simp; omega) _, by simp, .slice none 0 0, ⟨k1, Nat.le_refl _, Own.nil _ _ _ _⟩, fun k e => by simp [blkOf] at e⟩
set_option maxRecDepth 100000 in
set_option maxHeartbeats 1000000 in
theorem putO_long (w : World) (x : NOp) (lv : Value) (h8 : x.dep.length = 8) (hL : Lns w lv x.lines) (hlen : 16 < x.lines.length) : Calls Tryd.prog 12 #[.agg (opA x lv)] w fun e w' => e = .returned (putOR x) ∧ Below w.heap.size w w' := by
  obtain ⟨A, cap, rfl, hr, hll⟩ := hL
  have HR := Lib.hid (show putOR x = .tuple #[.string ⟨#[]⟩, .int .i64 3] by unfold putOR; rw [if_pos hlen])
  have k0 := Blk.new w 30 (opA x (.slice A x.lines.length cap))
  have c28 := (k0.cell 28).trans (op_c28 x _ h8)
  clear k0 hr h8
  go_enter Tryd.func12, Tryd.ntmps12
  go_wp2_with fail
  go_ret2
  rw [HR.out]
  exact ⟨rfl, (Below.refl _ _).alloc (Nat.le_refl _) _⟩
set_option maxRecDepth 100000 in
set_option maxHeartbeats 32000000 in
theorem putO_short (w : World) (x : NOp) (lv : Value) (hx : x.ok) (hL : Lns w lv x.lines) (hlen : x.lines.length ≤ 16) : Calls Tryd.prog 12 #[.agg (opA x lv)] w fun e w' => e = .returned (putOR x) ∧ Below w.heap.size w w' := by
  obtain ⟨A, cap, rfl, hr, hll⟩ := hL
  have HR := Lib.hid (show putOR x = .tuple #[.string ⟨(putO x).toArray⟩, .int .i64 0] by unfold putOR; rw [if_neg (by omega)])
  have HO := Lib.hid (show putO x = dotF x.dr x.dn ++ vecF x.dep ++ vecF [x.time, x.who] ++ dotF x.cr x.cn ++ vecF [x.kind] ++ dotF x.er x.en ++ vecF [x.dest, x.roles, x.depth, x.cap] ++ dotF x.ar x.an ++ dotF x.vr x.vn ++ vecF [x.item, x.qty, x.price, x.lines.length] ++ linesF x.lines from rfl)
  have HX := Lib.hid hx
  have h8 := hx.dep8
  have hvs : (vecA x.dep).size = 8 := by rw [vecA_size]; exact h8
  have k0 := Blk.new w 30 (opA x (.slice A x.lines.length cap))
  have c28 := (k0.cell 28).trans (op_c28 x _ h8)
  have S0 := OpW.start w x (.slice A x.lines.length cap)
  have OPC := Lib.hid (fun W l (h : OpW w x (.slice A x.lines.length cap) W l) i => h.k0.cell i)
  have HLN := Lib.hid (fun W l (h : OpW w x (.slice A x.lines.length cap) W l) k (hk : k < x.lines.length) => line_at (hr.later h.b) hk)
  have HS := Lib.hid (linesF_snoc x.lines)
  have HLE := Lib.hid (fun k => show (linesF (x.lines.take k)).length ≤ 36 * 16 by
    have h1 := linesF_len (x.lines.take k) fun c hc => hx.lines c (List.mem_of_mem_take hc)
    rw [List.length_take] at h1; omega)
  have HCK := Lib.hid (fun k (hk : k < x.lines.length) => hx.lines x.lines[k] (List.getElem_mem hk))
  have q1 := dotF_len x.dr x.dn hx.dr hx.dn
  have q2 := vecF_le x.dep (fun n hn => by have := hx.dep n hn; omega)
  have q3 := vecF_len2 [x.time, x.who] (by have h1 := hx.time; have h2 := hx.who; simp; omega)
  have q4 := dotF_len x.cr x.cn hx.cr hx.cn
  have q5 := vecF_len2 [x.kind] (by have h1 := hx.kind; simp; omega)
  have q6 := dotF_len x.er x.en hx.er hx.en
  have q7 := vecF_len2 [x.dest, x.roles, x.depth, x.cap] (by have h1 := hx.dest; have h2 := hx.roles; have h3 := hx.depth; have h4 := hx.cap; simp; omega)
  have q8 := dotF_len x.ar x.an hx.ar hx.an
  have q9 := dotF_len x.vr x.vn hx.vr hx.vn
  have q10 := vecF_len2 [x.item, x.qty, x.price, x.lines.length] (by have h1 := hx.item; have h2 := hx.qty; have h3 := hx.price; simp; omega)
  simp only [List.length_cons, List.length_nil] at q3 q5 q7 q10
  have b1 := hx.who
  have b2 := hx.kind
  have b3 := hx.dest
  have b4 := hx.roles
  have b5 := hx.depth
  have b6 := hx.item
  have b7 := hx.qty
  have b8 := hx.price
  have H8 := Lib.hid h8
  have HVS := Lib.hid hvs
  rw [h8] at q2
  clear k0 hr hx h8 hvs
  go_enter Tryd.func12, Tryd.ntmps12
  go_wp2_with fail
  refine (wnew_any _).mono ?_
  rintro e w1 ⟨rfl, hw1⟩
  subst hw1
  simp only [World.size_alloc]
  have c0 := (OPC.out _ _ S0 0).trans (op_c0 x _)
  have c1 := (OPC.out _ _ S0 1).trans (op_c1 x _)
  go_wp2_with fail
  refine (S0.dot (by simp) x.dr x.dn HX.out.dr HX.out.dn).mono ?_
  rintro e w1 ⟨rfl, h, _⟩
  rw [List.nil_append] at h
  clear S0 c0 c1 c28
  have bx : _ = some (Value.pointer (some ⟨w.heap.size + 1, 0, none⟩)) := h.k2.cell 0
  have HH := Lib.hid h
  clear h
  go_wp2_with (refine wpList_load_cells rfl 26 _ rfl ⟨w.heap.size, 2, none⟩ rfl (vecA x.dep) _ (fun j u hj => by rw [lit_add]; exact (OPC.out _ _ HH.out (2 + j)).trans (op_c2 x _ j u (by simpa [vecA] using hj))) Tryd.underlying26 rfl (by rw [HVS.out]; exact size54) ?_)
  refine (HH.out.vec (by (try simp only [List.length_append]); omega) x.dep H8.out HX.out.dep).mono ?_
  rintro e w2 ⟨rfl, h, _⟩
  clear HH bx
  have c10 := (OPC.out _ _ h 10).trans (op_c10 x _ H8.out)
  have c11 := (OPC.out _ _ h 11).trans (op_c11 x _ H8.out)
  have HH := Lib.hid h
  clear h
  go_wp2_with fail
  refine (HH.out.nums (by (try simp only [List.length_append]); omega) [x.time, x.who] (by have h1 := HX.out.time; simp; omega) (by simp) _ rfl 2 rfl).mono ?_
  rintro e w3 ⟨rfl, h, _⟩
  clear HH c10 c11
  have c12 := (OPC.out _ _ h 12).trans (op_c12 x _ H8.out)
  have c13 := (OPC.out _ _ h 13).trans (op_c13 x _ H8.out)
  have bx : _ = some (Value.pointer (some ⟨w.heap.size + 1, 0, none⟩)) := h.k2.cell 0
  have HH := Lib.hid h
  clear h
  go_wp2_with fail
  refine (HH.out.dot (by (try simp only [List.length_append]); omega) x.cr x.cn HX.out.cr HX.out.cn).mono ?_
  rintro e w4 ⟨rfl, h, _⟩
  clear HH c12 c13 bx
  have c14 := (OPC.out _ _ h 14).trans (op_c14 x _ H8.out)
  have HH := Lib.hid h
  clear h
  go_wp2_with fail
  refine (HH.out.nums (by (try simp only [List.length_append]); omega) [x.kind] (by simp; omega) (by simp) _ rfl 1 rfl).mono ?_
  rintro e w5 ⟨rfl, h, _⟩
  clear HH c14
  have c15 := (OPC.out _ _ h 15).trans (op_c15 x _ H8.out)
  have c16 := (OPC.out _ _ h 16).trans (op_c16 x _ H8.out)
  have bx : _ = some (Value.pointer (some ⟨w.heap.size + 1, 0, none⟩)) := h.k2.cell 0
  have HH := Lib.hid h
  clear h
  go_wp2_with fail
  refine (HH.out.dot (by (try simp only [List.length_append]); omega) x.er x.en HX.out.er HX.out.en).mono ?_
  rintro e w6 ⟨rfl, h, _⟩
  clear HH c15 c16 bx
  have c17 := (OPC.out _ _ h 17).trans (op_c17 x _ H8.out)
  have c18 := (OPC.out _ _ h 18).trans (op_c18 x _ H8.out)
  have c19 := (OPC.out _ _ h 19).trans (op_c19 x _ H8.out)
  have c20 := (OPC.out _ _ h 20).trans (op_c20 x _ H8.out)
  have HH := Lib.hid h
  clear h
  go_wp2_with fail
  refine (HH.out.nums (by (try simp only [List.length_append]); omega) [x.dest, x.roles, x.depth, x.cap] (by have h1 := HX.out.cap; simp; omega) (by simp) _ rfl 4 rfl).mono ?_
  rintro e w7 ⟨rfl, h, _⟩
  clear HH c17 c18 c19 c20
  have c21 := (OPC.out _ _ h 21).trans (op_c21 x _ H8.out)
  have c22 := (OPC.out _ _ h 22).trans (op_c22 x _ H8.out)
  have bx : _ = some (Value.pointer (some ⟨w.heap.size + 1, 0, none⟩)) := h.k2.cell 0
  have HH := Lib.hid h
  clear h
  go_wp2_with fail
  refine (HH.out.dot (by (try simp only [List.length_append]); omega) x.ar x.an HX.out.ar HX.out.an).mono ?_
  rintro e w8 ⟨rfl, h, _⟩
  clear HH c21 c22 bx
  have c23 := (OPC.out _ _ h 23).trans (op_c23 x _ H8.out)
  have c24 := (OPC.out _ _ h 24).trans (op_c24 x _ H8.out)
  have bx : _ = some (Value.pointer (some ⟨w.heap.size + 1, 0, none⟩)) := h.k2.cell 0
  have HH := Lib.hid h
  clear h
  go_wp2_with fail
  refine (HH.out.dot (by (try simp only [List.length_append]); omega) x.vr x.vn HX.out.vr HX.out.vn).mono ?_
  rintro e w9 ⟨rfl, h, _⟩
  clear HH c23 c24 bx
  have c25 := (OPC.out _ _ h 25).trans (op_c25 x _ H8.out)
  have c26 := (OPC.out _ _ h 26).trans (op_c26 x _ H8.out)
  have c27 := (OPC.out _ _ h 27).trans (op_c27 x _ H8.out)
  have c28 := (OPC.out _ _ h 28).trans (op_c28 x _ H8.out)
  have HH := Lib.hid h
  clear h
  go_wp2_with fail
  refine (HH.out.nums (by (try simp only [List.length_append]); omega) [x.item, x.qty, x.price, x.lines.length] (by simp; omega) (by simp) _ rfl 4 rfl).mono ?_
  rintro e w10 ⟨rfl, h, _⟩
  clear HH c25 c26 c27 c28
  have c28 := (OPC.out _ _ h 28).trans (op_c28 x _ H8.out)
  obtain ⟨pre, hpre⟩ : ∃ pre, pre = dotF x.dr x.dn ++ vecF x.dep ++ vecF [x.time, x.who] ++ dotF x.cr x.cn ++ vecF [x.kind] ++ dotF x.er x.en ++ vecF [x.dest, x.roles, x.depth, x.cap] ++ dotF x.ar x.an ++ dotF x.vr x.vn ++ vecF [x.item, x.qty, x.price, x.lines.length] := ⟨_, rfl⟩
  have hpl : pre.length ≤ 300 := by rw [hpre]; simp only [List.length_append]; omega
  rw [← hpre] at HO h
  have HH := Lib.hid h
  clear h hpre q1 q2 q3 q4 q5 q6 q7 q8 q9 q10 b1 b2 b3 b4 b5 b6 b7 b8
  go_wp2_with fail
  go_loopw [85] (fun i wr => ∃ k : Nat, k ≤ x.lines.length ∧ i = .int .i64 k ∧ OpW w x (.slice A x.lines.length cap) wr (pre ++ linesF (x.lines.take k))) (fun i _ => x.lines.length - (intOf i).toNat)
  case atStart => exact ⟨0, by omega, rfl, by simpa [linesF] using HH.out⟩
  case round =>
    obtain ⟨k, hk, rfl, h⟩ := hrel
    clear HH c28
    have hle := HLE.out k
    by_cases hlt : k < x.lines.length
    · obtain ⟨ad, rfl, hc⟩ := HLN.out _ _ h k hlt
      obtain ⟨o1, o2, o3, o4⟩ := HCK.out k hlt
      have HS2 := Lib.hid (HS.out k hlt)
      generalize x.lines[k] = c at *
      have q1 := dotF_len c.lr c.ln o1 o2
      have hb := ((Below.refl wr.heap.size wr).alloc (Nat.le_refl _) (.cells #[.int .u8 0, .int .u32 0, .int .u8 0, .int .u32 0] 63))
      have kn := Blk.new wr 63 #[.int .u8 0, .int .u32 0, .int .u8 0, .int .u32 0]
      have HC := Lib.hid (fun j u (hj : (claimA c)[j]? = some u) => (hb.cell (p := (ad.add (k * 4)).add j) (World.block_lt_of_cell? wr _ (hc j u hj))).trans (hc j u hj))
      have hc0 := hc
      have HC0 := Lib.hid hc0
      have b2 := below_setRow hb (Nat.le_refl _) (claimA c)
      have kr := kn.row (claimA c)
      have h2 := h.below b2
      have bx : _ = some (Value.pointer (some ⟨w.heap.size + 1, 0, none⟩)) := h2.k2.cell 0
      have r0 : _ = some (Value.int .u8 (c.lr : Int)) := kr.cell 0
      have r1 : _ = some (Value.int .u32 (c.ln : Int)) := kr.cell 1
      have KR := Lib.hid kr
      have KN := Lib.hid kn
      have H2 := Lib.hid h2
      clear hc hc0 h b2 kr kn h2 hb
      go_wp2_with (first
        | (refine wpList_load_cells rfl 63 _ rfl (ad.add (k * 4)) rfl (claimA c) _ (fun j u hj => HC0.out j u hj) Tryd.underlying63 rfl size177 ?_)
        | (refine wpList_load_cells rfl 63 _ rfl (ad.add (k * 4)) rfl (claimA c) _ (fun j u hj => HC.out j u hj) Tryd.underlying63 rfl size177 ?_)
        | (refine wpList_store_row rfl 63 _ _ rfl wr.heap.size (claimA c) rfl rfl 63 #[.int .u8 0, .int .u32 0, .int .u8 0, .int .u32 0] KN.out size177 rfl (by simp [claimA, Value.oneCell']) ?_))
      refine (H2.out.dot (by simp only [List.length_append]; omega) c.lr c.ln o1 o2).mono ?_
      rintro e w12 ⟨rfl, h3, hk3⟩
      have kr := hk3 _ _ _ KR.out (by decide) (by decide)
      have r2 : _ = some (Value.int .u8 (c.vr : Int)) := kr.cell 2
      have r3 : _ = some (Value.int .u32 (c.vn : Int)) := kr.cell 3
      have bx : _ = some (Value.pointer (some ⟨w.heap.size + 1, 0, none⟩)) := h3.k2.cell 0
      have H3 := Lib.hid h3
      clear KR KN H2 HC0 HC r0 r1 kr h3 hk3
      go_wp2_with fail
      refine (H3.out.dot (by simp only [List.length_append]; omega) c.vr c.vn o3 o4).mono ?_
      rintro e w13 ⟨rfl, h4, _⟩
      rw [List.append_assoc, List.append_assoc, ← List.append_assoc (linesF _), ← HS2.out] at h4
      go_wp2
      go_roundw
      case rel => exact ⟨k + 1, hlt, by go_num, h4⟩
      case measure => simp [intOf]; omega
    · have e : x.lines.take k = x.lines := List.take_of_length_le (by omega)
      rw [e, ← HO.out] at h
      clear e hle
      have bx : _ = some (Value.pointer (some ⟨w.heap.size + 1, 0, none⟩)) := h.k2.cell 0
      obtain ⟨v, hw, _⟩ := h.ex
      have Y := Lib.hid (bytes_any hw)
      have hb := Lib.hid h.b
      clear h hw
      go_wp2_with fail
      refine Y.out.mono ?_
      rintro e w14 ⟨rfl, rfl⟩
      go_wp2_with fail
      go_ret2
      rw [HR.out]
      exact ⟨rfl, hb.out⟩
theorem putO_any (w : World) (x : NOp) (lv : Value) (hx : x.ok) (hL : Lns w lv x.lines) : Calls Tryd.prog 12 #[.agg (opA x lv)] w fun e w' => e = .returned (putOR x) ∧ Below w.heap.size w w' := by
  by_cases h : 16 < x.lines.length
  · exact putO_long w x lv hx.dep8 hL h
  · exact putO_short w x lv hx hL (by omega)
end Go.Proofs.YtfojjklohbiffaaDoor
