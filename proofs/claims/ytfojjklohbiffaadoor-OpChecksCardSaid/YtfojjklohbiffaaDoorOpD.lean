/- Operations: the document's Put. -/
import Derived.Test.YtfojjklohbiffaaDoorOpC
import Derived.Test.YtfojjklohbiffaaDoorWireG
import Derived.Test.YtfojjklohbiffaaDoorQui
namespace Go.Proofs.YtfojjklohbiffaaDoor
open Go.RowKit Tran Tran.Wire
set_option linter.unusedVariables false
/-- the worlds within the document's Put -/
structure TPI (w : World) (x : NOp) (lv : Value) (W : World) : Prop where
  b : Below w.heap.size w W
  k0 : Blk W w.heap.size 30 (opA x lv)
  k1 : Blk W (w.heap.size + 1) 27 (u64s [x.dest, x.roles, x.depth, x.cap]).toArray
theorem TPI.next {w : World} {x : NOp} {lv : Value} (W W' : World) (h : TPI w x lv W) (k : Below W.heap.size W W') : TPI w x lv W' :=
  ⟨h.b.trans (k.mono h.b.size), h.k0.below k h.k0.lt, h.k1.below k h.k1.lt⟩
theorem TPI.drew {w W : World} {x : NOp} {lv : Value} (h : TPI w x lv W) : TPI w x lv W.drew := ⟨below_drew h.b, h.k0, h.k1⟩
theorem TPI.start (w : World) (x : NOp) (lv : Value) : TPI w x lv ((w.alloc (.cells (opA x lv) 30)).alloc (.cells (u64s [x.dest, x.roles, x.depth, x.cap]).toArray 27)) := by
  have k0 := (Blk.new w 30 (opA x lv)).alloc (.cells (u64s [x.dest, x.roles, x.depth, x.cap]).toArray 27)
  have k1 := Blk.new (w.alloc (.cells (opA x lv) 30)) 27 (u64s [x.dest, x.roles, x.depth, x.cap]).toArray
  simp only [World.size_alloc] at k1
  exact ⟨((Below.refl _ w).alloc (Nat.le_refl _) _).alloc (by simp) _, k0, k1⟩
set_option maxRecDepth 100000 in
set_option maxHeartbeats 1000000 in
theorem tputO_long (w : World) (x : NOp) (lv : Value) (h8 : x.dep.length = 8) (hL : Lns w lv x.lines) (hlen : 16 < x.lines.length) : Calls Tryd.prog 13 #[.agg (opA x lv)] w fun e w' => e = .returned (putOR x) ∧ Below w.heap.size w w' := by
  obtain ⟨A, cap, rfl, hr, hll⟩ := hL
  have HR := Lib.hid (show putOR x = .tuple #[.string ⟨#[]⟩, .int .i64 3] by unfold putOR; rw [if_pos hlen])
  have k0 := Blk.new w 30 (opA x (.slice A x.lines.length cap))
  have c28 := (k0.cell 28).trans (op_c28 x _ h8)
  clear k0 hr h8
  go_enter Tryd.func13, Tryd.ntmps13
  go_wp2_with fail
  go_ret2
  rw [HR.out]
  exact ⟨rfl, (Below.refl _ _).alloc (Nat.le_refl _) _⟩
theorem addr_add0 (a : Addr) : a.add 0 = a := by unfold Addr.add; simp
theorem str_cat (a b : List UInt8) : (⟨a.toArray⟩ ++ ⟨b.toArray⟩ : ByteArray) = ⟨(a ++ b).toArray⟩ := str_app _ _
set_option maxRecDepth 100000 in
set_option maxHeartbeats 32000000 in
theorem tputO_short (w : World) (x : NOp) (lv : Value) (hx : x.ok) (hL : Lns w lv x.lines) (hlen : x.lines.length ≤ 16) : Calls Tryd.prog 13 #[.agg (opA x lv)] w fun e w' => e = .returned (putOR x) ∧ Below w.heap.size w w' := by
  obtain ⟨A, cap, rfl, hr, hll⟩ := hL
  have HR := Lib.hid (show putOR x = .tuple #[.string ⟨(putO x).toArray⟩, .int .i64 0] by unfold putOR; rw [if_neg (by omega)])
  have HO := Lib.hid (show putO x = dotF x.dr x.dn ++ vecF x.dep ++ vecF [x.time, x.who] ++ dotF x.cr x.cn ++ vecF [x.kind] ++ dotF x.er x.en ++ vecF [x.dest, x.roles, x.depth, x.cap] ++ dotF x.ar x.an ++ dotF x.vr x.vn ++ vecF [x.item, x.qty, x.price, x.lines.length] ++ linesF x.lines from rfl)
  have h8 := hx.dep8
  have hvs : (vecA x.dep).size = 8 := by rw [vecA_size]; exact h8
  have S0 := TPI.start w x (.slice A x.lines.length cap)
  have k0 := Blk.new w 30 (opA x (.slice A x.lines.length cap))
  have c28 := (k0.cell 28).trans (op_c28 x _ h8)
  have c17 := (k0.cell 17).trans (op_c17 x _ h8)
  have c18 := (k0.cell 18).trans (op_c18 x _ h8)
  have c19 := (k0.cell 19).trans (op_c19 x _ h8)
  have c20 := (k0.cell 20).trans (op_c20 x _ h8)
  have D1 := Lib.hid (tdot_any x.dr x.dn hx.dr hx.dn)
  have D2 := Lib.hid (tvec_any x.dep h8 hx.dep)
  have D3 := Lib.hid (tnum_any x.time hx.time)
  have D4 := Lib.hid (tnum_any x.who (by have := hx.who; omega))
  have D5 := Lib.hid (tdot_any x.cr x.cn hx.cr hx.cn)
  have D6 := Lib.hid (tnum_any x.kind (by have := hx.kind; omega))
  have D7 := Lib.hid (tdot_any x.er x.en hx.er hx.en)
  have q1 := dotF_len x.dr x.dn hx.dr hx.dn
  have q2 := vecF_le x.dep (fun n hn => by have := hx.dep n hn; omega)
  have q3 := (numF_len x.time hx.time).1
  have q4 := (numF_len x.who (by have := hx.who; omega)).1
  have q5 := dotF_len x.cr x.cn hx.cr hx.cn
  have q6 := (numF_len x.kind (by have := hx.kind; omega)).1
  have q7 := dotF_len x.er x.en hx.er hx.en
  rw [h8] at q2
  have r1 := dotF_len x.ar x.an hx.ar hx.an
  have r2 := dotF_len x.vr x.vn hx.vr hx.vn
  have r3 := (numF_len x.item (by have := hx.item; omega)).1
  have r4 := (numF_len x.qty (by have := hx.qty; omega)).1
  have r5 := (numF_len x.price (by have := hx.price; omega)).1
  have r6 := (numF_len x.lines.length (by omega)).1
  have E1 := Lib.hid (tdot_any x.ar x.an hx.ar hx.an)
  have E2 := Lib.hid (tdot_any x.vr x.vn hx.vr hx.vn)
  have E3 := Lib.hid (tnum_any x.item (by have := hx.item; omega))
  have E4 := Lib.hid (tnum_any x.qty (by have := hx.qty; omega))
  have E5 := Lib.hid (tnum_any x.price (by have := hx.price; omega))
  have E6 := Lib.hid (tnum_any x.lines.length (by omega))
  have HLN := Lib.hid (fun W (h : TPI w x (.slice A x.lines.length cap) W) k (hk : k < x.lines.length) => line_at (hr.later h.b) hk)
  have HS := Lib.hid (linesF_snoc x.lines)
  have HLE := Lib.hid (fun k => show (linesF (x.lines.take k)).length ≤ 36 * 16 by
    have h1 := linesF_len (x.lines.take k) fun c hc => hx.lines c (List.mem_of_mem_take hc)
    rw [List.length_take] at h1; omega)
  have HCK := Lib.hid (fun k (hk : k < x.lines.length) => hx.lines x.lines[k] (List.getElem_mem hk))
  have HLL := Lib.hid hll
  have b6 := hx.item
  have b7 := hx.qty
  have b8 := hx.price
  have b1 := hx.who
  have b2 := hx.kind
  have b3 := hx.dest
  have b4 := hx.roles
  have b5 := hx.depth
  have w1 : IntKind.u64.wrap (x.who : Int) = x.who := IntWalk.u64_in _ (by omega)
  have w2 : IntKind.u64.wrap (x.kind : Int) = x.kind := IntWalk.u64_in _ (by omega)
  have hd16 : decide ((16 : Int) < (x.lines.length : Nat)) = false := decide_eq_false (by omega)
  have S0 := Lib.hid S0
  have HX := Lib.hid hx
  have H8 := Lib.hid h8
  have HVS := Lib.hid hvs
  clear k0 hr hx h8 hvs hll
  go_enter Tryd.func13, Tryd.ntmps13
  go_wp2_with fail
  refine wp_region_cls (TPI w x (.slice A x.lines.length cap)) (by kernel_rfl) (by kernel_rfl) (TPI.drew S0.out) (fun hne => ?_)
  have f0 : ∀ y : Tran.Sub (TPI w x (.slice A x.lines.length cap)), y.w.cell? ⟨w.heap.size, 0, none⟩ = some (.int .u8 (x.dr : Int)) := fun y => (y.h.k0.cell 0).trans (op_c0 x _)
  have f1 : ∀ y : Tran.Sub (TPI w x (.slice A x.lines.length cap)), y.w.cell? ⟨w.heap.size, 1, none⟩ = some (.int .u32 (x.dn : Int)) := fun y => (y.h.k0.cell 1).trans (op_c1 x _)
  have f2 := Lib.hid (fun (W : World) (y : TPI w x (.slice A x.lines.length cap) W) => run_load_cells (P := Tryd.prog) W ⟨w.heap.size, 2, none⟩ 26 (vecA x.dep) _ (fun j u hj => by rw [lit_add]; exact (y.k0.cell (2 + j)).trans (op_c2 x _ j u (by simpa [vecA] using hj))) Tryd.underlying26 rfl (by rw [HVS.out]; exact size54))
  have f10 : ∀ y : Tran.Sub (TPI w x (.slice A x.lines.length cap)), y.w.cell? ⟨w.heap.size, 10, none⟩ = some (.int .u64 (x.time : Int)) := fun y => (y.h.k0.cell 10).trans (op_c10 x _ H8.out)
  have f11 : ∀ y : Tran.Sub (TPI w x (.slice A x.lines.length cap)), y.w.cell? ⟨w.heap.size, 11, none⟩ = some (.int .u32 (x.who : Int)) := fun y => (y.h.k0.cell 11).trans (op_c11 x _ H8.out)
  have f12 : ∀ y : Tran.Sub (TPI w x (.slice A x.lines.length cap)), y.w.cell? ⟨w.heap.size, 12, none⟩ = some (.int .u8 (x.cr : Int)) := fun y => (y.h.k0.cell 12).trans (op_c12 x _ H8.out)
  have f13 : ∀ y : Tran.Sub (TPI w x (.slice A x.lines.length cap)), y.w.cell? ⟨w.heap.size, 13, none⟩ = some (.int .u32 (x.cn : Int)) := fun y => (y.h.k0.cell 13).trans (op_c13 x _ H8.out)
  have f14 : ∀ y : Tran.Sub (TPI w x (.slice A x.lines.length cap)), y.w.cell? ⟨w.heap.size, 14, none⟩ = some (.int .u8 (x.kind : Int)) := fun y => (y.h.k0.cell 14).trans (op_c14 x _ H8.out)
  have f15 : ∀ y : Tran.Sub (TPI w x (.slice A x.lines.length cap)), y.w.cell? ⟨w.heap.size, 15, none⟩ = some (.int .u8 (x.er : Int)) := fun y => (y.h.k0.cell 15).trans (op_c15 x _ H8.out)
  have f16 : ∀ y : Tran.Sub (TPI w x (.slice A x.lines.length cap)), y.w.cell? ⟨w.heap.size, 16, none⟩ = some (.int .u32 (x.en : Int)) := fun y => (y.h.k0.cell 16).trans (op_c16 x _ H8.out)
  repeat (first | (go_big_quiet_want; refine quiet_load_sub 26 _ rfl ⟨w.heap.size, 2, none⟩ rfl (vecA x.dep) f2.out ?_; go_simp; go_big_quiet_on) | go_big_quiet_step ((first | (go_at_call 33; ((with_reducible refine call_cls _ D1.out TPI.next))) | (go_at_call 34; ((with_reducible refine call_cls _ D2.out TPI.next))) | (go_at_call 35; ((with_reducible refine call_cls _ D3.out TPI.next))) | (go_at_call 35; ((with_reducible refine call_cls _ D4.out TPI.next))) | (go_at_call 33; ((with_reducible refine call_cls _ D5.out TPI.next))) | (go_at_call 35; ((with_reducible refine call_cls _ D6.out TPI.next))) | (go_at_call 33; ((with_reducible refine call_cls _ D7.out TPI.next))))))
  refine wpQuiet_nil ?_
  refine sub_all fun wq IQ => ?_
  clear hne f0 f1 f2 f10 f11 f12 f13 f14 f15 f16 D1 D2 D3 D4 D5 D6 D7 c28 c17 c18 c19 c20 w1 w2
  simp only [str_cat]
  generalize e1 : dotF x.dr x.dn ++ vecF x.dep = s1
  generalize e2 : s1 ++ numF x.time = s2
  generalize e3 : s2 ++ numF x.who = s3
  generalize e4 : s3 ++ dotF x.cr x.cn = s4
  generalize e5 : s4 ++ numF x.kind = s5
  generalize e6 : s5 ++ dotF x.er x.en = p1
  have hp1 : p1 = dotF x.dr x.dn ++ vecF x.dep ++ numF x.time ++ numF x.who ++ dotF x.cr x.cn ++ numF x.kind ++ dotF x.er x.en := by rw [e1, e2, e3, e4, e5, e6]
  have hl1 : p1.length ≤ 200 := by rw [hp1]; simp only [List.length_append]; omega
  have HP1 := Lib.hid hp1
  clear e1 e2 e3 e4 e5 e6
  have IQ := Lib.hid IQ
  clear hp1 q1 q2 q3 q4 q5 q6 q7 S0
  have HN := Lib.hid (fun W (h : TPI w x (.slice A x.lines.length cap) W) k (hk : k < 4) => show W.cell? ⟨w.heap.size + 1, k, none⟩ = some (.int .u64 (([x.dest, x.roles, x.depth, x.cap].getD k 0 : Nat) : Int)) by
    refine (h.k1.cell k).trans ?_
    rw [List.getElem?_toArray, u64s_get (by simpa using hk), List.getD_eq_getElem?_getD, List.getElem?_eq_getElem (by simpa using hk)]; rfl)
  have HNB := Lib.hid (fun k (hk : k < 4) => show [x.dest, x.roles, x.depth, x.cap].getD k 0 < 2 ^ 64 by
    have e : k = 0 ∨ k = 1 ∨ k = 2 ∨ k = 3 := by omega
    have := HX.out.cap
    rcases e with rfl | rfl | rfl | rfl <;> simp only [List.getD_cons_zero, List.getD_cons_succ] <;> omega)
  have HNS := Lib.hid (fun k (hk : k < 4) => show vecF ([x.dest, x.roles, x.depth, x.cap].take (k + 1)) = vecF ([x.dest, x.roles, x.depth, x.cap].take k) ++ numF ([x.dest, x.roles, x.depth, x.cap].getD k 0) by
    rw [vecF_snoc _ k (by simpa using hk), List.getD_eq_getElem?_getD, List.getElem?_eq_getElem (by simpa using hk)]; rfl)
  have HNL := Lib.hid (fun k => show (vecF ([x.dest, x.roles, x.depth, x.cap].take k)).length ≤ 36 by
    have h := vecF_le ([x.dest, x.roles, x.depth, x.cap].take k) (fun n hn => by
      have h2 := List.mem_of_mem_take hn
      have := HX.out.cap
      simp at h2; omega)
    rw [List.length_take] at h; simp at h; omega)
  go_wp2_with fail
  go_loopw [5, 6] (fun s i wr => ∃ k : Nat, k ≤ 4 ∧ i = .int .i64 k ∧ s = .string ⟨(p1 ++ vecF ([x.dest, x.roles, x.depth, x.cap].take k)).toArray⟩ ∧ TPI w x (.slice A x.lines.length cap) wr) (fun _ i _ => 4 - (intOf i).toNat)
  case atStart => exact ⟨0, by omega, rfl, by simp [vecF], IQ.out⟩
  case round =>
    obtain ⟨k, hk, rfl, rfl, h⟩ := hrel
    clear IQ
    have hnl := HNL.out k
    have H := Lib.hid h
    by_cases hlt : k < 4
    · have hc := HN.out _ h k hlt
      have N := Lib.hid (tnum_any _ (HNB.out k hlt))
      have hs := Lib.hid (HNS.out k hlt)
      have hn9 := (numF_len _ (HNB.out k hlt)).1
      generalize vecF ([x.dest, x.roles, x.depth, x.cap].take k) = z at *
      generalize [x.dest, x.roles, x.depth, x.cap].getD k 0 = y at *
      clear h
      go_wp2_with fail
      refine (N.out _).mono ?_
      rintro e w2 ⟨rfl, d2⟩
      have h2 := TPI.next _ _ H.out d2
      go_wp2_with fail
      go_roundw
      case rel =>
        exact ⟨k + 1, hlt, by go_num, by rw [hs.out, str_cat, List.append_assoc], h2⟩
      case measure => simp [intOf]; omega
    · have e : [x.dest, x.roles, x.depth, x.cap].take k = [x.dest, x.roles, x.depth, x.cap] := List.take_of_length_le (by simp; omega)
      rw [e] at hnl ⊢
      clear e h
      have hpl : (p1 ++ vecF [x.dest, x.roles, x.depth, x.cap]).length ≤ 236 := by rw [List.length_append]; omega
      have HP2 := Lib.hid (show p1 ++ vecF [x.dest, x.roles, x.depth, x.cap] = p1 ++ vecF [x.dest, x.roles, x.depth, x.cap] from rfl)
      have hp2 : ∃ p2, p1 ++ vecF [x.dest, x.roles, x.depth, x.cap] = p2 := ⟨_, rfl⟩
      obtain ⟨p2, hp2⟩ := hp2
      rw [hp2] at hpl ⊢
      replace HP2 := Lib.hid hp2
      have w1 : IntKind.u64.wrap (x.item : Int) = x.item := IntWalk.u64_in _ (by omega)
      have w2 : IntKind.u64.wrap (x.qty : Int) = x.qty := IntWalk.u64_in _ (by omega)
      have w3 : IntKind.u64.wrap (x.price : Int) = x.price := IntWalk.u64_in _ (by omega)
      have w4 : IntKind.u64.wrap ((x.lines.length : Nat) : Int) = x.lines.length := IntWalk.u64_in _ (by omega)
      clear hp2 hnl HN HNB HNS HNL
      go_wp2_with fail
      refine wp_region_cls (TPI w x (.slice A x.lines.length cap)) (by kernel_rfl) (by kernel_rfl) (TPI.drew H.out) (fun hne => ?_)
      have f21 : ∀ y : Tran.Sub (TPI w x (.slice A x.lines.length cap)), y.w.cell? ⟨w.heap.size, 21, none⟩ = some (.int .u8 (x.ar : Int)) := fun y => (y.h.k0.cell 21).trans (op_c21 x _ H8.out)
      have f22 : ∀ y : Tran.Sub (TPI w x (.slice A x.lines.length cap)), y.w.cell? ⟨w.heap.size, 22, none⟩ = some (.int .u32 (x.an : Int)) := fun y => (y.h.k0.cell 22).trans (op_c22 x _ H8.out)
      have f23 : ∀ y : Tran.Sub (TPI w x (.slice A x.lines.length cap)), y.w.cell? ⟨w.heap.size, 23, none⟩ = some (.int .u8 (x.vr : Int)) := fun y => (y.h.k0.cell 23).trans (op_c23 x _ H8.out)
      have f24 : ∀ y : Tran.Sub (TPI w x (.slice A x.lines.length cap)), y.w.cell? ⟨w.heap.size, 24, none⟩ = some (.int .u32 (x.vn : Int)) := fun y => (y.h.k0.cell 24).trans (op_c24 x _ H8.out)
      have f25 : ∀ y : Tran.Sub (TPI w x (.slice A x.lines.length cap)), y.w.cell? ⟨w.heap.size, 25, none⟩ = some (.int .u32 (x.item : Int)) := fun y => (y.h.k0.cell 25).trans (op_c25 x _ H8.out)
      have f26 : ∀ y : Tran.Sub (TPI w x (.slice A x.lines.length cap)), y.w.cell? ⟨w.heap.size, 26, none⟩ = some (.int .u32 (x.qty : Int)) := fun y => (y.h.k0.cell 26).trans (op_c26 x _ H8.out)
      have f27 : ∀ y : Tran.Sub (TPI w x (.slice A x.lines.length cap)), y.w.cell? ⟨w.heap.size, 27, none⟩ = some (.int .u32 (x.price : Int)) := fun y => (y.h.k0.cell 27).trans (op_c27 x _ H8.out)
      have f28 : ∀ y : Tran.Sub (TPI w x (.slice A x.lines.length cap)), y.w.cell? ⟨w.heap.size, 28, none⟩ = some (.slice A x.lines.length cap) := fun y => (y.h.k0.cell 28).trans (op_c28 x _ H8.out)
      repeat (go_big_quiet_step ((first | (go_at_call 33; ((with_reducible refine call_cls _ E1.out TPI.next))) | (go_at_call 33; ((with_reducible refine call_cls _ E2.out TPI.next))) | (go_at_call 35; ((with_reducible refine call_cls _ E3.out TPI.next))) | (go_at_call 35; ((with_reducible refine call_cls _ E4.out TPI.next))) | (go_at_call 35; ((with_reducible refine call_cls _ E5.out TPI.next))) | (go_at_call 35; ((with_reducible refine call_cls _ E6.out TPI.next))))))
      refine wpQuiet_nil ?_
      refine sub_all fun wq IQ => ?_
      clear hne f21 f22 f23 f24 f25 f26 f27 f28 E1 E2 E3 E4 E5 E6 w1 w2 w3 w4 H
      simp only [str_cat]
      generalize e1 : p2 ++ dotF x.ar x.an = s1
      generalize e2 : s1 ++ dotF x.vr x.vn = s2
      generalize e3 : s2 ++ numF x.item = s3
      generalize e4 : s3 ++ numF x.qty = s4
      generalize e5 : s4 ++ numF x.price = s5
      generalize e6 : s5 ++ numF x.lines.length = p3
      have hp3 : p3 = p2 ++ dotF x.ar x.an ++ dotF x.vr x.vn ++ numF x.item ++ numF x.qty ++ numF x.price ++ numF x.lines.length := by rw [e1, e2, e3, e4, e5, e6]
      have hl3 : p3.length ≤ 400 := by rw [hp3]; simp only [List.length_append]; omega
      have HO2 := Lib.hid (show putO x = p3 ++ linesF x.lines by
        rw [HO.out, hp3, ← HP2.out, HP1.out]
        simp [vecF])
      have IQ := Lib.hid IQ
      clear e1 e2 e3 e4 e5 e6 hp3 r1 r2 r3 r4 r5 r6 HO HP1 HP2 hpl hl1 b1 b2 b3 b4 b5 b6 b7 b8
      go_wp2_with fail
      go_loopw [5, 7] (fun s i wr => ∃ k : Nat, k ≤ x.lines.length ∧ i = .int .i64 k ∧ s = .string ⟨(p3 ++ linesF (x.lines.take k)).toArray⟩ ∧ TPI w x (.slice A x.lines.length cap) wr) (fun _ i _ => x.lines.length - (intOf i).toNat)
      case atStart => exact ⟨0, by omega, rfl, by simp [linesF], IQ.out⟩
      case round =>
        obtain ⟨k, hk, rfl, rfl, h⟩ := hrel
        clear IQ
        have hnl := HLE.out k
        have H := Lib.hid h
        have c28 := (h.k0.cell 28).trans (op_c28 x _ H8.out)
        by_cases hlt : k < x.lines.length
        · obtain ⟨ad, rfl, hc⟩ := HLN.out _ h k hlt
          obtain ⟨o1, o2, o3, o4⟩ := HCK.out k hlt
          have HS2 := Lib.hid (HS.out k hlt)
          have G1 := Lib.hid (tdot_any x.lines[k].lr x.lines[k].ln o1 o2)
          have G2 := Lib.hid (tdot_any x.lines[k].vr x.lines[k].vn o3 o4)
          have q1 := dotF_len _ _ o1 o2
          have q2 := dotF_len _ _ o3 o4
          have HC := Lib.hid (fun (y : Tran.Sub (TPI w x (.slice (some ad) x.lines.length cap))) j u (hj : (claimA x.lines[k])[j]? = some u) => show y.w.cell? ((ad.add (k * 4)).add j) = some u by
            obtain ⟨ad2, e2, h2⟩ := HLN.out _ y.h k hlt
            injection e2 with e2
            subst e2
            exact h2 j u hj)
          generalize x.lines[k] = c at *
          generalize linesF (x.lines.take k) = z at *
          clear h hc
          go_wp2_with fail
          refine wp_region_cls (TPI w x (.slice (some ad) x.lines.length cap)) (by kernel_rfl) (by kernel_rfl) (TPI.drew H.out) (fun hne => ?_)
          have f28 : ∀ y : Tran.Sub (TPI w x (.slice (some ad) x.lines.length cap)), y.w.cell? ⟨w.heap.size, 28, none⟩ = some (.slice (some ad) x.lines.length cap) := fun y => (y.h.k0.cell 28).trans (op_c28 x _ H8.out)
          have g0 : ∀ y : Tran.Sub (TPI w x (.slice (some ad) x.lines.length cap)), y.w.cell? (ad.add (k * 4)) = some (.int .u8 (c.lr : Int)) := fun y => by have h := HC.out y 0 _ rfl; rwa [addr_add0] at h
          have g1 : ∀ y : Tran.Sub (TPI w x (.slice (some ad) x.lines.length cap)), y.w.cell? ⟨(ad.add (k * 4)).block, (ad.add (k * 4)).off + 1, none⟩ = some (.int .u32 (c.ln : Int)) := fun y => by have h := HC.out y 1 _ rfl; rwa [add_at _ _ _ (by omega)] at h
          have g2 : ∀ y : Tran.Sub (TPI w x (.slice (some ad) x.lines.length cap)), y.w.cell? ⟨(ad.add (k * 4)).block, (ad.add (k * 4)).off + 2, none⟩ = some (.int .u8 (c.vr : Int)) := fun y => by have h := HC.out y 2 _ rfl; rwa [add_at _ _ _ (by omega)] at h
          have g3 : ∀ y : Tran.Sub (TPI w x (.slice (some ad) x.lines.length cap)), y.w.cell? ⟨(ad.add (k * 4)).block, (ad.add (k * 4)).off + 2 + 1, none⟩ = some (.int .u32 (c.vn : Int)) := fun y => by have h := HC.out y 3 _ rfl; rwa [add_at _ _ _ (by omega)] at h
          repeat (go_big_quiet_step ((first | (go_at_call 33; ((with_reducible refine call_cls _ G1.out TPI.next))) | (go_at_call 33; ((with_reducible refine call_cls _ G2.out TPI.next))))))
          refine wpQuiet_nil ?_
          refine sub_all fun wq IQ => ?_
          clear hne f28 g0 g1 g2 g3
          go_wp2
          go_roundw
          case rel => exact ⟨k + 1, hlt, by go_num, by rw [HS2.out, str_cat, str_cat, List.append_assoc, List.append_assoc, List.append_assoc], IQ⟩
          case measure => simp [intOf]; omega
        · have e : x.lines.take k = x.lines := List.take_of_length_le (by omega)
          rw [e, ← HO2.out]
          clear e hnl h
          go_wp2
          go_ret2
          rw [HR.out]
          exact ⟨rfl, H.out.b⟩
theorem tputO_any (w : World) (x : NOp) (lv : Value) (hx : x.ok) (hL : Lns w lv x.lines) : Calls Tryd.prog 13 #[.agg (opA x lv)] w fun e w' => e = .returned (putOR x) ∧ Below w.heap.size w w' := by
  by_cases h : 16 < x.lines.length
  · exact tputO_long w x lv hx.dep8 hL h
  · exact tputO_short w x lv hx hL (by omega)
end Go.Proofs.YtfojjklohbiffaaDoor
