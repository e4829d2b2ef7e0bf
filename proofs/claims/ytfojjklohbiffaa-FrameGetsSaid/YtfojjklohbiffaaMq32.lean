/- Frames: the document's Put. -/
import Derived.Test.YtfojjklohbiffaaMq14
import Derived.Test.YtfojjklohbiffaaMq24
import Derived.Test.YtfojjklohbiffaaMq31
namespace Tran
open Go Go.RowKit
theorem fin_of {P : Program} {ops : Array Oper} {Q : Exit → Act → World → Prop} {S T : World → Prop} {fuel : Nat} {listed : Array Bool} {a : Act} {w : World} (F : Nat → Act) (h : ∀ gs W, T W → Q .normal (F gs) W)
    (k : (∀ gs W, T W → Q .normal (F gs) W) → wpAnyH P .any ops Q S fuel listed a w) : wpAnyH P .any ops Q S fuel listed a w := k h
theorem exec_conv {P : Program} {o : Oper} {a : Act} {w w' : World} (s d : TypeId) (x : Operand) (ho : o.op = .convert s d x) {u v : Value} (hx : a.eval x = u) (hr : (convert s d u).run P w = .ok v w') : (execOp a.eval o).run P w = .ok (.value v) w' := by
  unfold execOp
  simp only [ho, hx, Sem.run_bind, hr, Result.andThen_ok]
  rfl
theorem exec_len {P : Program} {o : Oper} {a : Act} {w : World} {x : Operand} {t : TypeId} (ho : o.op = .call { callee := .builtin .len, args := #[x], argTypes := #[t] }) {A : Option Addr} {n c : Nat} (hx : a.eval x = .slice A n c) (hl : (Builtin.len_ #[t] o.type #[.slice A n c]).run P w = .ok (.int .i64 (n : Int)) w) :
    (execOp a.eval o).run P w = .ok (.value (.int .i64 (n : Int))) w := by
  generalize a.eval = ev at *
  unfold execOp
  simp [ho, resolve, invoke, builtin, hx, hl, go_sem]
end Tran
namespace Go.Proofs.Ytfojjklohbiffaa
open Go.RowKit Tran Tran.Wire
set_option linter.unusedVariables false
set_option linter.unusedSimpArgs false
theorem cat9 (a b : List UInt8) (h : a.length + b.length ≤ 1000000) (W : World) : (binOp .add 9 (.string ⟨a.toArray⟩) (.string ⟨b.toArray⟩)).run Try.prog W = .ok (.string ⟨(a ++ b).toArray⟩) W := by
  rw [← str_cat]
  go_simp
  omega
theorem len55 (W : World) (ty : TypeId) (A : Option Addr) (n c : Nat) : (Builtin.len_ #[55] ty #[.slice A n c]).run Try.prog W = .ok (.int .i64 (n : Int)) W := by go_simp
theorem bs35 (W : World) (a b c : Int) : (Instr.buildSlice 35 3 #[(0, .int .u8 a), (1, .int .u8 b), (2, .int .u8 c)]).run Try.prog W = .ok (.slice (some ⟨W.heap.size, 0, none⟩) 3 3) (W.alloc (.cells #[.int .u8 a, .int .u8 b, .int .u8 c] 5)) := by go_simp
theorem cv35 (W : World) (g : Nat) (cs : Array Value) (z : List UInt8) (k : Blk W g 5 cs) (h : cs = (bc z).toArray) (h3 : z.length = 3) : (convert 35 9 (.slice (some ⟨g, 0, none⟩) 3 3)).run Try.prog W = .ok (.string ⟨z.toArray⟩) W := by
  subst h
  refine run_string_of W 35 9 5 (some ⟨g, 0, none⟩) 3 3 z Try.underlying35 Try.underlying5 Try.underlying9 ⟨by rw [bc_length, h3], fun _ => ⟨_, rfl, fun j v hv => ?_⟩⟩
  rw [lit_add, Nat.zero_add]
  exact (k.cell j).trans (by simpa using hv)
theorem cv3 (n : Nat) (h : n ≤ 1000000) (W : World) : (convert 3 80 (.int .i64 (n : Int))).run Try.prog W = .ok (.int .u64 (n : Int)) W := by
  have hw : IntKind.u64.wrap (n : Int) = n := IntWalk.u64_in _ (by omega)
  go_simp
theorem en92 (args : Array Value) (W : World) : (callFunc 92 args).run Try.prog W = .ok (.enter 92 args) W := enters_of Try.func92 (by kernel_rfl) rfl args W
theorem en93 (args : Array Value) (W : World) : (callFunc 93 args).run Try.prog W = .ok (.enter 93 args) W := enters_of Try.func93 (by kernel_rfl) rfl args W
set_option maxRecDepth 100000 in
theorem tputfr_no (w : World) (x : NFrame) (ov : Value) (hx : x.ok) (hO : Ops w ov x.ops) (hm : ¬ mayF x) : Calls Try.prog 45 #[.agg (frA x ov)] w fun e w' => e = .returned (.tuple #[.string ⟨#[]⟩, .int .i64 2]) ∧ Below w.heap.size w w' := by
  have k0 := Blk.new w 57 (frA x ov)
  have hb := (Below.refl w.heap.size w).alloc (Nat.le_refl _) (.cells (frA x ov) 57)
  have C := Lib.hid (tmay_any (w.alloc (.cells (frA x ov) 57)) x ov hx (hO.later hb))
  have HB := Lib.hid hb
  have K0 := Lib.hid k0
  have HS := Lib.hid (frA_size x ov hx.have8)
  have HM := Lib.hid hm
  clear hO hx hm k0 hb
  generalize frA x ov = X at *
  go_enter Try.func45, Try.ntmps45
  go_wp2_with (refine wpList_load_row rfl 57 _ rfl w.heap.size rfl 57 X (0, 0) _ K0.out Try.underlying57 rfl (by rw [HS.out]; exact size57) ?_)
  refine C.out.mono ?_
  rintro e w1 ⟨r, rfl, hr, hb1⟩
  have HB1 := Lib.hid (HB.out.trans (hb1.mono HB.out.size))
  have HR := Lib.hid hr
  clear hr hb1
  cases r
  · go_wp2_with fail
    go_ret2
    exact ⟨rfl, HB1.out⟩
  · exact absurd (HR.out.1 rfl) HM.out
theorem small3 {x : NFrame} (hm : mayF x) : (vecF [x.kind, x.src, x.dst]).length = 3 ∧ #[Value.int .u8 (x.kind : Int), .int .u8 (x.src : Int), .int .u8 (x.dst : Int)] = (bc (vecF [x.kind, x.src, x.dst])).toArray := by
  obtain ⟨h1, h2, h3, _⟩ := hm
  have n1 : numF x.kind = [UInt8.ofNat x.kind] := by unfold numF; rw [if_pos (by omega)]
  have n2 : numF x.src = [UInt8.ofNat x.src] := by unfold numF; rw [if_pos (by omega)]
  have n3 : numF x.dst = [UInt8.ofNat x.dst] := by unfold numF; rw [if_pos (by omega)]
  have e : vecF [x.kind, x.src, x.dst] = [UInt8.ofNat x.kind, UInt8.ofNat x.src, UInt8.ofNat x.dst] := by simp [vecF, n1, n2, n3]
  rw [e]
  refine ⟨rfl, ?_⟩
  simp [bc]
  omega
set_option maxRecDepth 100000 in
set_option maxHeartbeats 16000000 in
theorem tputfr_yes (w : World) (x : NFrame) (ov : Value) (hx : x.ok) (hO : Ops w ov x.ops) (hm : mayF x) : Calls Try.prog 45 #[.agg (frA x ov)] w fun e w' => e = .returned (.tuple #[.string ⟨(putF x).toArray⟩, .int .i64 0]) ∧ Below w.heap.size w w' := by
  have k0 := Blk.new w 57 (frA x ov)
  have hb := (Below.refl w.heap.size w).alloc (Nat.le_refl _) (.cells (frA x ov) 57)
  have C := Lib.hid (tmay_any (w.alloc (.cells (frA x ov) 57)) x ov hx (hO.later hb))
  obtain ⟨A, cap, rfl, hrd, hlen, hgood⟩ := hO
  have F0 := Lib.hid (fun W (h : Blk W w.heap.size 57 (frA x (.slice A x.ops.length cap))) => (h.cell 0).trans (fr_c0 x _))
  have F1 := Lib.hid (fun W (h : Blk W w.heap.size 57 (frA x (.slice A x.ops.length cap))) => (h.cell 1).trans (fr_c1 x _))
  have F2 := Lib.hid (fun W (h : Blk W w.heap.size 57 (frA x (.slice A x.ops.length cap))) => (h.cell 2).trans (fr_c2 x _))
  have F3 := Lib.hid (fun W (h : Blk W w.heap.size 57 (frA x (.slice A x.ops.length cap))) => ld54 x.have_ hx.have8 (fun j u hj => (h.cell (3 + j)).trans (fr_c3 x _ j u hj)))
  have F11 := Lib.hid (fun W (h : Blk W w.heap.size 57 (frA x (.slice A x.ops.length cap))) => (h.cell 11).trans (fr_c11 x _ hx.have8))
  have HTL := Lib.hid (fun k => show (textsF (x.ops.take k)).length ≤ 909 * 64 by
    have h1 := textsF_len (x.ops.take k) (fun p hp => hgood p (List.mem_of_mem_take hp)) (fun ⟨p, hp, h⟩ => hm.2.2.2.2.2.2 ⟨p, List.mem_of_mem_take hp, h⟩)
    have h2 := hm.2.2.2.2.2.1
    rw [List.length_take] at h1; omega)
  have HTS := Lib.hid (textsF_snoc x.ops)
  have HA := Lib.hid (fun W (hb : Below w.heap.size w W) k (hk : k < x.ops.length) => op_at (hrd.later hb) (fun p hp => ⟨(hgood p hp).1.later hb, (hgood p hp).2⟩) hk)
  have HG := Lib.hid hgood
  have HL := Lib.hid hm
  have H64 := hm.2.2.2.2.2.1
  have HB := Lib.hid hb
  have K0 := Lib.hid k0
  have HS := Lib.hid (frA_size x (.slice A x.ops.length cap) hx.have8)
  have hq2 := vecF_le x.have_ (fun n hn => by have := hx.have_ n hn; omega)
  rw [hx.have8] at hq2
  have HP := Lib.hid (show putF x = Crc.sealed (vecF [x.kind, x.src, x.dst] ++ vecF x.have_ ++ numF x.ops.length ++ textsF x.ops) from rfl)
  have hn9 := (numF_len x.ops.length (by omega)).1
  obtain ⟨hz3, hbc⟩ := small3 hm
  have CV := Lib.hid (fun W => tvec_any x.have_ hx.have8 hx.have_ W)
  have CN := Lib.hid (fun W => tnum_any x.ops.length (by omega) W)
  have HBC := Lib.hid hbc
  have HZ3 := Lib.hid hz3
  clear hrd hgood hx hm k0 hb hbc
  generalize frA x (.slice A x.ops.length cap) = X at *
  obtain ⟨n, hn⟩ : ∃ n, x.ops.length = n := ⟨_, rfl⟩
  have HN := Lib.hid hn
  rw [hn] at HP F11 hlen H64 hn9 CN
  clear hn
  generalize vecF [x.kind, x.src, x.dst] = z at *
  generalize vecF x.have_ = vh at *
  generalize numF n = nn at *
  have J1 := Lib.hid (fun W => cat9 z vh (by omega) W)
  have J2 := Lib.hid (fun W => cat9 (z ++ vh) nn (by rw [List.length_append]; omega) W)
  have hl3 : (z ++ vh ++ nn).length ≤ 200 := by simp only [List.length_append]; omega
  go_enter Try.func45, Try.ntmps45
  go_wp2_with (refine wpList_load_row rfl 57 _ rfl w.heap.size rfl 57 X (0, 0) _ K0.out Try.underlying57 rfl (by rw [HS.out]; exact size57) ?_)
  refine C.out.mono ?_
  rintro e w1 ⟨r, rfl, hr, hb1⟩
  have HB1 := Lib.hid (HB.out.trans (hb1.mono HB.out.size))
  have K1 := Lib.hid (K0.out.below hb1 K0.out.lt)
  have HR := Lib.hid hr
  clear hr hb1
  cases r
  · exact absurd (HR.out.2 HL.out) (by simp)
  clear HR C K0 HB
  go_wp2_with fail
  refine reg_begin_ (fun W => Blk W w.heap.size 57 X ∧ Below w.heap.size w W) (by kernel_rfl) ?_
  intro A0 hA
  have h1 : A0.eval (.tmp 1) = .pointer (some ⟨w.heap.size, 0, none⟩) := by rw [hA]; rfl
  have hsz : A0.tmps.size = 51 := by rw [hA]; rfl
  have hA := Lib.hid hA
  have hS : Blk w1.drew w.heap.size 57 X ∧ Below w.heap.size w w1.drew := ⟨K1.out.drew, below_drew HB1.out⟩
  refine reg_take (some 11) (i := 0) (.pointer (some ⟨w.heap.size, 0, none⟩)) rfl rfl (by kernel_rfl) (fun _ _ _ h => h) (by rfl) (fun W hW => exec_addr 57 _ 0 rfl h1 (fb0)) hS ?_
  refine reg_take (some 12) (i := 1) (.int .u8 (x.kind : Int)) rfl rfl (by kernel_rfl) (fun _ _ _ h => h) (by rfl) (fun W hW => exec_load1 5 _ rfl (ev_eq (by (try simp only [Act.size_put]); rw [hsz]; decide)) (ld5 (F0.out W hW.1))) hS ?_
  refine reg_take (some 13) (i := 2) (.pointer (some ⟨w.heap.size, 1, none⟩)) rfl rfl (by kernel_rfl) (fun _ _ _ h => h) (by rfl) (fun W hW => exec_addr 57 _ 1 rfl (ev_ne (by rfl) (ev_ne (by rfl) h1)) (fb1)) hS ?_
  refine reg_take (some 14) (i := 3) (.int .u8 (x.src : Int)) rfl rfl (by kernel_rfl) (fun _ _ _ h => h) (by rfl) (fun W hW => exec_load1 5 _ rfl (ev_eq (by (try simp only [Act.size_put]); rw [hsz]; decide)) (ld5 (F1.out W hW.1))) hS ?_
  refine reg_take (some 15) (i := 4) (.pointer (some ⟨w.heap.size, 2, none⟩)) rfl rfl (by kernel_rfl) (fun _ _ _ h => h) (by rfl) (fun W hW => exec_addr 57 _ 2 rfl (ev_ne (by rfl) (ev_ne (by rfl) (ev_ne (by rfl) (ev_ne (by rfl) h1)))) (fb2)) hS ?_
  refine reg_take (some 16) (i := 5) (.int .u8 (x.dst : Int)) rfl rfl (by kernel_rfl) (fun _ _ _ h => h) (by rfl) (fun W hW => exec_load1 5 _ rfl (ev_eq (by (try simp only [Act.size_put]); rw [hsz]; decide)) (ld5 (F2.out W hW.1))) hS ?_
  refine reg_take (some 19) (i := 8) (.pointer (some ⟨w.heap.size, 3, none⟩)) rfl rfl (by kernel_rfl) (fun _ _ _ h => h) (by rfl) (fun W hW => exec_addr 57 _ 3 rfl (ev_ne (by rfl) (ev_ne (by rfl) (ev_ne (by rfl) (ev_ne (by rfl) (ev_ne (by rfl) (ev_ne (by rfl) h1)))))) (fb3)) hS ?_
  refine reg_take (some 20) (i := 9) (.agg (vecA x.have_)) rfl rfl (by kernel_rfl) (fun _ _ _ h => h) (by rfl) (fun W hW => exec_load1 54 _ rfl (ev_eq (by (try simp only [Act.size_put]); rw [hsz]; decide)) (F3.out W hW.1)) hS ?_
  refine reg_take (some 23) (i := 12) (.pointer (some ⟨w.heap.size, 11, none⟩)) rfl rfl (by kernel_rfl) (fun _ _ _ h => h) (by rfl) (fun W hW => exec_addr 57 _ 4 rfl (ev_ne (by rfl) (ev_ne (by rfl) (ev_ne (by rfl) (ev_ne (by rfl) (ev_ne (by rfl) (ev_ne (by rfl) (ev_ne (by rfl) (ev_ne (by rfl) h1)))))))) (fb4)) hS ?_
  refine reg_take (some 24) (i := 13) (.slice A n cap) rfl rfl (by kernel_rfl) (fun _ _ _ h => h) (by rfl) (fun W hW => exec_load1 55 _ rfl (ev_eq (by (try simp only [Act.size_put]); rw [hsz]; decide)) (ld55 (F11.out W hW.1))) hS ?_
  refine reg_take (some 25) (i := 14) (.int .i64 (n : Int)) rfl rfl (by kernel_rfl) (fun _ _ _ h => h) (by rfl) (fun W hW => exec_len rfl (ev_eq (by (try simp only [Act.size_put]); rw [hsz]; decide)) (len55 _ _ _ _ _)) hS ?_
  refine reg_take (some 26) (i := 15) (.int .u64 (n : Int)) rfl rfl (by kernel_rfl) (fun _ _ _ h => h) (by rfl) (fun W hW => exec_conv 3 80 _ rfl (ev_eq (by (try simp only [Act.size_put]); rw [hsz]; decide)) (cv3 n (by omega) W)) hS ?_
  refine fin_of (T := fun W => Blk W w.heap.size 57 X ∧ Below w.heap.size w W) (fun gs => (((((((((((((((((((A0.put (some 11) (.pointer (some ⟨w.heap.size, 0, none⟩))).put (some 12) (.int .u8 (x.kind : Int))).put (some 13) (.pointer (some ⟨w.heap.size, 1, none⟩))).put (some 14) (.int .u8 (x.src : Int))).put (some 15) (.pointer (some ⟨w.heap.size, 2, none⟩))).put (some 16) (.int .u8 (x.dst : Int))).put (some 19) (.pointer (some ⟨w.heap.size, 3, none⟩))).put (some 20) (.agg (vecA x.have_))).put (some 23) (.pointer (some ⟨w.heap.size, 11, none⟩))).put (some 24) (.slice A n cap)).put (some 25) (.int .i64 (n : Int))).put (some 26) (.int .u64 (n : Int))).put (some 17) (.slice (some ⟨gs, 0, none⟩) 3 3)).put (some 18) (.string ⟨z.toArray⟩)).put (some 21) (.string ⟨vh.toArray⟩)).put (some 22) (.string ⟨(z ++ vh).toArray⟩)).put (some 27) (.string ⟨nn.toArray⟩)).put (some 28) (.string ⟨(z ++ vh ++ nn).toArray⟩)).put (some 4) (.string ⟨(z ++ vh ++ nn).toArray⟩))) ?_ (fun fin => ?_)
  · intro gs W hW
    have K2 := Lib.hid hW.1
    have HB2 := Lib.hid hW.2
    rw [hA.out]
    simp only [Act.put, List.setIfInBounds_toArray, List.set_cons_zero, List.set_cons_succ]
    clear hS hW hsz h1 hA J1 J2 CV CN HBC HZ3 hz3 hq2 hn9
    generalize z ++ vh ++ nn = z3 at *
    have f11 := F11.out _ K2.out
    go_wp2_with fail
    go_loopw [5, 4, 6, 7, 36] (fun i t a b c wr => ∃ k : Nat, k ≤ n ∧ i = .int .i64 k ∧ t = .string ⟨(z3 ++ textsF (x.ops.take k)).toArray⟩ ∧ Blk wr w.heap.size 57 X ∧ Below w.heap.size w wr) (fun i _ _ _ _ _ => n - (intOf i).toNat)
    case atStart => exact ⟨0, by omega, rfl, by simp [textsF], K2.out, HB2.out⟩
    case round =>
      obtain ⟨k, hk, rfl, rfl, hK, hBw⟩ := hrel
      clear f11 K2 HB2
      have KW := Lib.hid hK
      have HBW := Lib.hid hBw
      have f11 := F11.out _ hK
      have htl := HTL.out k
      clear hK hBw
      by_cases hlt : k < n
      · have hk2 : k < x.ops.length := by have := HN.out; omega
        obtain ⟨ad, rfl, hc⟩ := HA.out _ HBW.out k hk2
        have hg := HG.out _ (List.getElem_mem hk2)
        have hts := Lib.hid (HTS.out k hk2)
        have h16 : x.ops[k].1.lines.length ≤ 16 := by
          rcases Nat.lt_or_ge 16 x.ops[k].1.lines.length with h | h
          · exact absurd ⟨_, List.getElem_mem hk2, h⟩ HL.out.2.2.2.2.2.2
          · exact h
        generalize x.ops[k] = q at *
        obtain ⟨y, ly⟩ := q
        simp only at hc h16 hts
        generalize textsF (x.ops.take k) = zt at *
        have HC := Lib.hid hc
        have HSY := Lib.hid (opA_size y ly hg.2.dep8)
        have hpl := putO_len y hg.2 h16
        have hix := ix55 (W := wr) (ad := ad) (c := cap) hlt hlen
        have CP := Lib.hid (tputO_any wr y ly hg.2 (hg.1.later HBW.out))
        rw [show putOR y = .tuple #[.string ⟨(putO y).toArray⟩, .int .i64 0] by unfold putOR; rw [if_neg (by omega)]] at CP
        have CT := Lib.hid (fun W => ttext_any (putO y) (by omega) W)
        have htx := textF_le (putO y) (by omega)
        clear hc hg hk2
        generalize opA y ly = Y at *
        generalize textF (putO y) = tx at *
        go_wp2_with (refine wpList_load_cells rfl 122 _ rfl (ad.add (k * 29)) rfl Y _ (fun j u hj => HC.out j u hj) Try.underlying122 rfl (by rw [HSY.out]; exact size122) ?_)
        refine CP.out.mono ?_
        rintro e w5 ⟨rfl, hb5⟩
        have K5 := Lib.hid (KW.out.below hb5 KW.out.lt)
        have HB5 := Lib.hid (HBW.out.trans (hb5.mono HBW.out.size))
        clear hb5
        go_wp2_with fail
        refine (CT.out _).mono ?_
        rintro e w6 ⟨rfl, hb6⟩
        have K6 := Lib.hid (K5.out.below hb6 K5.out.lt)
        have HB6 := Lib.hid (HB5.out.trans (hb6.mono HB5.out.size))
        clear hb6
        have hlz : (z3 ++ zt).length ≤ 100000 := by rw [List.length_append]; omega
        go_wp2_with fail
        go_roundw
        case rel =>
          refine ⟨k + 1, hlt, by go_num, ?_, K6.out, HB6.out⟩
          rw [hts.out, str_cat, List.append_assoc]
        case measure => simp [intOf]; omega
      · have e : x.ops.take k = x.ops := List.take_of_length_le (by have := HN.out; omega)
        rw [e] at htl ⊢
        clear e
        have CS := Lib.hid (refseal_l (z3 ++ textsF x.ops) (by rw [List.length_append]; omega))
        generalize z3 ++ textsF x.ops = z4 at *
        go_wp2_with fail
        refine (CS.out _).mono ?_
        rintro e w6 ⟨rfl, hb6⟩
        have HB6 := Lib.hid (HBW.out.trans (hb6.mono HBW.out.size))
        clear hb6
        go_wp2_with fail
        go_ret2
        exact ⟨by rw [HP.out]; rfl, HB6.out⟩
  refine reg_two (i := 6) (j := 10) (by kernel_rfl) ?_ ?_
  ·
    have hba := (Below.refl w1.drew.heap.size w1.drew).alloc (Nat.le_refl _) (.cells #[.int .u8 (x.kind : Int), .int .u8 (x.src : Int), .int .u8 (x.dst : Int)] 5)
    have hN := Lib.hid (Blk.new w1.drew 5 (#[.int .u8 (x.kind : Int), .int .u8 (x.src : Int), .int .u8 (x.dst : Int)] : Array Value))
    have hS : _ ∧ _ := ⟨hS.1.below hba hS.1.lt, hS.2.trans (hba.mono hS.2.size)⟩
    refine op_run (some 17) (v := .slice (some ⟨w1.drew.heap.size, 0, none⟩) 3 3) rfl rfl (by rfl) (exec_bsl 35 3 _ rfl (vs := #[(0, .int .u8 (x.kind : Int)), (1, .int .u8 (x.src : Int)), (2, .int .u8 (x.dst : Int))]) (by simp only [List.map_toArray, List.map_cons, List.map_nil]; rw [(show Act.eval _ (.tmp 12) = _ from (ev_ne (by rfl) (ev_ne (by rfl) (ev_ne (by rfl) (ev_ne (by rfl) (ev_ne (by rfl) (ev_ne (by rfl) (ev_ne (by rfl) (ev_ne (by rfl) (ev_ne (by rfl) (ev_ne (by rfl) (ev_eq (by (try simp only [Act.size_put]); rw [hsz]; decide))))))))))))), (show Act.eval _ (.tmp 14) = _ from (ev_ne (by rfl) (ev_ne (by rfl) (ev_ne (by rfl) (ev_ne (by rfl) (ev_ne (by rfl) (ev_ne (by rfl) (ev_ne (by rfl) (ev_ne (by rfl) (ev_eq (by (try simp only [Act.size_put]); rw [hsz]; decide))))))))))), (show Act.eval _ (.tmp 16) = _ from (ev_ne (by rfl) (ev_ne (by rfl) (ev_ne (by rfl) (ev_ne (by rfl) (ev_ne (by rfl) (ev_ne (by rfl) (ev_eq (by (try simp only [Act.size_put]); rw [hsz]; decide)))))))))]) (bs35 w1.drew _ _ _)) hS ?_
    refine reg_two (i := 7) (j := 10) (by kernel_rfl) ?_ ?_
    ·
      refine op_run (some 18) (v := .string ⟨z.toArray⟩) rfl rfl (by rfl) (exec_conv 35 9 _ rfl (ev_eq (by (try simp only [Act.size_put]); rw [hsz]; decide)) (cv35 _ _ _ z hN.out HBC.out HZ3.out)) hS ?_
      refine reg_call (some 21) (i := 10) rfl rfl (by kernel_rfl) (by rfl) (exec_call0 rfl rfl (map1 (ev_ne (by rfl) (ev_ne (by rfl) (ev_ne (by rfl) (ev_ne (by rfl) (ev_ne (by rfl) (ev_ne (by rfl) (ev_eq (by (try simp only [Act.size_put]); rw [hsz]; decide))))))))) en92) ?_
      refine (CV.out _).mono ?_
      rintro _ Wv1 ⟨rfl, hb⟩
      have hS : _ ∧ _ := ⟨hS.1.below hb hS.1.lt, hS.2.trans (hb.mono hS.2.size)⟩
      have hN := Lib.hid (hN.out.below hb hN.out.lt)
      refine ⟨_, rfl, hS, ?_⟩
      refine reg_take (some 22) (i := 11) (.string ⟨(z ++ vh).toArray⟩) rfl rfl (by kernel_rfl) (fun _ _ _ h => h) (by rfl) (fun W hW => exec_bin .add 9 9 _ _ rfl (ev_ne (by rfl) (ev_eq (by (try simp only [Act.size_put]); rw [hsz]; decide))) (ev_eq (by (try simp only [Act.size_put]); rw [hsz]; decide)) (by simp [eqGuard]) (J1.out W)) hS ?_
      refine reg_call (some 27) (i := 16) rfl rfl (by kernel_rfl) (by rfl) (exec_call0 rfl rfl (map1 (ev_ne (by rfl) (ev_ne (by rfl) (ev_ne (by rfl) (ev_ne (by rfl) (ev_eq (by (try simp only [Act.size_put]); rw [hsz]; decide))))))) en93) ?_
      refine (CN.out _).mono ?_
      rintro _ Wv2 ⟨rfl, hb⟩
      have hS : _ ∧ _ := ⟨hS.1.below hb hS.1.lt, hS.2.trans (hb.mono hS.2.size)⟩
      have hN := Lib.hid (hN.out.below hb hN.out.lt)
      refine ⟨_, rfl, hS, ?_⟩
      refine reg_take (some 28) (i := 17) (.string ⟨(z ++ vh ++ nn).toArray⟩) rfl rfl (by kernel_rfl) (fun _ _ _ h => h) (by rfl) (fun W hW => exec_bin .add 9 9 _ _ rfl (ev_ne (by rfl) (ev_eq (by (try simp only [Act.size_put]); rw [hsz]; decide))) (ev_eq (by (try simp only [Act.size_put]); rw [hsz]; decide)) (by simp [eqGuard]) (J2.out W)) hS ?_
      refine reg_run (some 4) (i := 18) (v := .string ⟨(z ++ vh ++ nn).toArray⟩) rfl rfl (by kernel_rfl) (by rfl) (exec_assign _ rfl (ev_eq (by (try simp only [Act.size_put]); rw [hsz]; decide))) hS ?_
      refine reg_end (by kernel_rfl) ?_
      have he : (((((((((((((((((((A0.put (some 11) (.pointer (some ⟨w.heap.size, 0, none⟩))).put (some 12) (.int .u8 (x.kind : Int))).put (some 13) (.pointer (some ⟨w.heap.size, 1, none⟩))).put (some 14) (.int .u8 (x.src : Int))).put (some 15) (.pointer (some ⟨w.heap.size, 2, none⟩))).put (some 16) (.int .u8 (x.dst : Int))).put (some 19) (.pointer (some ⟨w.heap.size, 3, none⟩))).put (some 20) (.agg (vecA x.have_))).put (some 23) (.pointer (some ⟨w.heap.size, 11, none⟩))).put (some 24) (.slice A n cap)).put (some 25) (.int .i64 (n : Int))).put (some 26) (.int .u64 (n : Int))).put (some 17) (.slice (some ⟨w1.drew.heap.size, 0, none⟩) 3 3)).put (some 18) (.string ⟨z.toArray⟩)).put (some 21) (.string ⟨vh.toArray⟩)).put (some 22) (.string ⟨(z ++ vh).toArray⟩)).put (some 27) (.string ⟨nn.toArray⟩)).put (some 28) (.string ⟨(z ++ vh ++ nn).toArray⟩)).put (some 4) (.string ⟨(z ++ vh ++ nn).toArray⟩)) = (((((((((((((((((((A0.put (some 11) (.pointer (some ⟨w.heap.size, 0, none⟩))).put (some 12) (.int .u8 (x.kind : Int))).put (some 13) (.pointer (some ⟨w.heap.size, 1, none⟩))).put (some 14) (.int .u8 (x.src : Int))).put (some 15) (.pointer (some ⟨w.heap.size, 2, none⟩))).put (some 16) (.int .u8 (x.dst : Int))).put (some 19) (.pointer (some ⟨w.heap.size, 3, none⟩))).put (some 20) (.agg (vecA x.have_))).put (some 23) (.pointer (some ⟨w.heap.size, 11, none⟩))).put (some 24) (.slice A n cap)).put (some 25) (.int .i64 (n : Int))).put (some 26) (.int .u64 (n : Int))).put (some 17) (.slice (some ⟨w1.drew.heap.size, 0, none⟩) 3 3)).put (some 18) (.string ⟨z.toArray⟩)).put (some 21) (.string ⟨vh.toArray⟩)).put (some 22) (.string ⟨(z ++ vh).toArray⟩)).put (some 27) (.string ⟨nn.toArray⟩)).put (some 28) (.string ⟨(z ++ vh ++ nn).toArray⟩)).put (some 4) (.string ⟨(z ++ vh ++ nn).toArray⟩)) := by rw [hA.out] <;> simp only [Act.put, List.setIfInBounds_toArray, List.set_cons_zero, List.set_cons_succ]
      rw [he]
      exact fin _ _ hS
    ·
      refine op_call (some 21) rfl rfl (by rfl) (exec_call0 rfl rfl (map1 (ev_ne (by rfl) (ev_ne (by rfl) (ev_ne (by rfl) (ev_ne (by rfl) (ev_ne (by rfl) (ev_eq (by (try simp only [Act.size_put]); rw [hsz]; decide)))))))) en92) ?_
      refine (CV.out _).mono ?_
      rintro _ Wv3 ⟨rfl, hb⟩
      have hS : _ ∧ _ := ⟨hS.1.below hb hS.1.lt, hS.2.trans (hb.mono hS.2.size)⟩
      have hN := Lib.hid (hN.out.below hb hN.out.lt)
      refine ⟨_, rfl, hS, ?_⟩
      refine reg_two (i := 7) (j := 16) (by kernel_rfl) ?_ ?_
      ·
        refine op_run (some 18) (v := .string ⟨z.toArray⟩) rfl rfl (by rfl) (exec_conv 35 9 _ rfl (ev_ne (by rfl) (ev_eq (by (try simp only [Act.size_put]); rw [hsz]; decide))) (cv35 _ _ _ z hN.out HBC.out HZ3.out)) hS ?_
        refine reg_take (some 22) (i := 11) (.string ⟨(z ++ vh).toArray⟩) rfl rfl (by kernel_rfl) (fun _ _ _ h => h) (by rfl) (fun W hW => exec_bin .add 9 9 _ _ rfl (ev_eq (by (try simp only [Act.size_put]); rw [hsz]; decide)) (ev_ne (by rfl) (ev_eq (by (try simp only [Act.size_put]); rw [hsz]; decide))) (by simp [eqGuard]) (J1.out W)) hS ?_
        refine reg_call (some 27) (i := 16) rfl rfl (by kernel_rfl) (by rfl) (exec_call0 rfl rfl (map1 (ev_ne (by rfl) (ev_ne (by rfl) (ev_ne (by rfl) (ev_ne (by rfl) (ev_eq (by (try simp only [Act.size_put]); rw [hsz]; decide))))))) en93) ?_
        refine (CN.out _).mono ?_
        rintro _ Wv4 ⟨rfl, hb⟩
        have hS : _ ∧ _ := ⟨hS.1.below hb hS.1.lt, hS.2.trans (hb.mono hS.2.size)⟩
        have hN := Lib.hid (hN.out.below hb hN.out.lt)
        refine ⟨_, rfl, hS, ?_⟩
        refine reg_take (some 28) (i := 17) (.string ⟨(z ++ vh ++ nn).toArray⟩) rfl rfl (by kernel_rfl) (fun _ _ _ h => h) (by rfl) (fun W hW => exec_bin .add 9 9 _ _ rfl (ev_ne (by rfl) (ev_eq (by (try simp only [Act.size_put]); rw [hsz]; decide))) (ev_eq (by (try simp only [Act.size_put]); rw [hsz]; decide)) (by simp [eqGuard]) (J2.out W)) hS ?_
        refine reg_run (some 4) (i := 18) (v := .string ⟨(z ++ vh ++ nn).toArray⟩) rfl rfl (by kernel_rfl) (by rfl) (exec_assign _ rfl (ev_eq (by (try simp only [Act.size_put]); rw [hsz]; decide))) hS ?_
        refine reg_end (by kernel_rfl) ?_
        have he : (((((((((((((((((((A0.put (some 11) (.pointer (some ⟨w.heap.size, 0, none⟩))).put (some 12) (.int .u8 (x.kind : Int))).put (some 13) (.pointer (some ⟨w.heap.size, 1, none⟩))).put (some 14) (.int .u8 (x.src : Int))).put (some 15) (.pointer (some ⟨w.heap.size, 2, none⟩))).put (some 16) (.int .u8 (x.dst : Int))).put (some 19) (.pointer (some ⟨w.heap.size, 3, none⟩))).put (some 20) (.agg (vecA x.have_))).put (some 23) (.pointer (some ⟨w.heap.size, 11, none⟩))).put (some 24) (.slice A n cap)).put (some 25) (.int .i64 (n : Int))).put (some 26) (.int .u64 (n : Int))).put (some 17) (.slice (some ⟨w1.drew.heap.size, 0, none⟩) 3 3)).put (some 21) (.string ⟨vh.toArray⟩)).put (some 18) (.string ⟨z.toArray⟩)).put (some 22) (.string ⟨(z ++ vh).toArray⟩)).put (some 27) (.string ⟨nn.toArray⟩)).put (some 28) (.string ⟨(z ++ vh ++ nn).toArray⟩)).put (some 4) (.string ⟨(z ++ vh ++ nn).toArray⟩)) = (((((((((((((((((((A0.put (some 11) (.pointer (some ⟨w.heap.size, 0, none⟩))).put (some 12) (.int .u8 (x.kind : Int))).put (some 13) (.pointer (some ⟨w.heap.size, 1, none⟩))).put (some 14) (.int .u8 (x.src : Int))).put (some 15) (.pointer (some ⟨w.heap.size, 2, none⟩))).put (some 16) (.int .u8 (x.dst : Int))).put (some 19) (.pointer (some ⟨w.heap.size, 3, none⟩))).put (some 20) (.agg (vecA x.have_))).put (some 23) (.pointer (some ⟨w.heap.size, 11, none⟩))).put (some 24) (.slice A n cap)).put (some 25) (.int .i64 (n : Int))).put (some 26) (.int .u64 (n : Int))).put (some 17) (.slice (some ⟨w1.drew.heap.size, 0, none⟩) 3 3)).put (some 18) (.string ⟨z.toArray⟩)).put (some 21) (.string ⟨vh.toArray⟩)).put (some 22) (.string ⟨(z ++ vh).toArray⟩)).put (some 27) (.string ⟨nn.toArray⟩)).put (some 28) (.string ⟨(z ++ vh ++ nn).toArray⟩)).put (some 4) (.string ⟨(z ++ vh ++ nn).toArray⟩)) := by rw [hA.out] <;> simp only [Act.put, List.setIfInBounds_toArray, List.set_cons_zero, List.set_cons_succ]
        rw [he]
        exact fin _ _ hS
      ·
        refine op_call (some 27) rfl rfl (by rfl) (exec_call0 rfl rfl (map1 (ev_ne (by rfl) (ev_ne (by rfl) (ev_eq (by (try simp only [Act.size_put]); rw [hsz]; decide))))) en93) ?_
        refine (CN.out _).mono ?_
        rintro _ Wv5 ⟨rfl, hb⟩
        have hS : _ ∧ _ := ⟨hS.1.below hb hS.1.lt, hS.2.trans (hb.mono hS.2.size)⟩
        have hN := Lib.hid (hN.out.below hb hN.out.lt)
        refine ⟨_, rfl, hS, ?_⟩
        refine reg_run (some 18) (i := 7) (v := .string ⟨z.toArray⟩) rfl rfl (by kernel_rfl) (by rfl) (exec_conv 35 9 _ rfl (ev_ne (by rfl) (ev_ne (by rfl) (ev_eq (by (try simp only [Act.size_put]); rw [hsz]; decide)))) (cv35 _ _ _ z hN.out HBC.out HZ3.out)) hS ?_
        refine reg_take (some 22) (i := 11) (.string ⟨(z ++ vh).toArray⟩) rfl rfl (by kernel_rfl) (fun _ _ _ h => h) (by rfl) (fun W hW => exec_bin .add 9 9 _ _ rfl (ev_eq (by (try simp only [Act.size_put]); rw [hsz]; decide)) (ev_ne (by rfl) (ev_ne (by rfl) (ev_eq (by (try simp only [Act.size_put]); rw [hsz]; decide)))) (by simp [eqGuard]) (J1.out W)) hS ?_
        refine reg_take (some 28) (i := 17) (.string ⟨(z ++ vh ++ nn).toArray⟩) rfl rfl (by kernel_rfl) (fun _ _ _ h => h) (by rfl) (fun W hW => exec_bin .add 9 9 _ _ rfl (ev_eq (by (try simp only [Act.size_put]); rw [hsz]; decide)) (ev_ne (by rfl) (ev_ne (by rfl) (ev_eq (by (try simp only [Act.size_put]); rw [hsz]; decide)))) (by simp [eqGuard]) (J2.out W)) hS ?_
        refine reg_run (some 4) (i := 18) (v := .string ⟨(z ++ vh ++ nn).toArray⟩) rfl rfl (by kernel_rfl) (by rfl) (exec_assign _ rfl (ev_eq (by (try simp only [Act.size_put]); rw [hsz]; decide))) hS ?_
        refine reg_end (by kernel_rfl) ?_
        have he : (((((((((((((((((((A0.put (some 11) (.pointer (some ⟨w.heap.size, 0, none⟩))).put (some 12) (.int .u8 (x.kind : Int))).put (some 13) (.pointer (some ⟨w.heap.size, 1, none⟩))).put (some 14) (.int .u8 (x.src : Int))).put (some 15) (.pointer (some ⟨w.heap.size, 2, none⟩))).put (some 16) (.int .u8 (x.dst : Int))).put (some 19) (.pointer (some ⟨w.heap.size, 3, none⟩))).put (some 20) (.agg (vecA x.have_))).put (some 23) (.pointer (some ⟨w.heap.size, 11, none⟩))).put (some 24) (.slice A n cap)).put (some 25) (.int .i64 (n : Int))).put (some 26) (.int .u64 (n : Int))).put (some 17) (.slice (some ⟨w1.drew.heap.size, 0, none⟩) 3 3)).put (some 21) (.string ⟨vh.toArray⟩)).put (some 27) (.string ⟨nn.toArray⟩)).put (some 18) (.string ⟨z.toArray⟩)).put (some 22) (.string ⟨(z ++ vh).toArray⟩)).put (some 28) (.string ⟨(z ++ vh ++ nn).toArray⟩)).put (some 4) (.string ⟨(z ++ vh ++ nn).toArray⟩)) = (((((((((((((((((((A0.put (some 11) (.pointer (some ⟨w.heap.size, 0, none⟩))).put (some 12) (.int .u8 (x.kind : Int))).put (some 13) (.pointer (some ⟨w.heap.size, 1, none⟩))).put (some 14) (.int .u8 (x.src : Int))).put (some 15) (.pointer (some ⟨w.heap.size, 2, none⟩))).put (some 16) (.int .u8 (x.dst : Int))).put (some 19) (.pointer (some ⟨w.heap.size, 3, none⟩))).put (some 20) (.agg (vecA x.have_))).put (some 23) (.pointer (some ⟨w.heap.size, 11, none⟩))).put (some 24) (.slice A n cap)).put (some 25) (.int .i64 (n : Int))).put (some 26) (.int .u64 (n : Int))).put (some 17) (.slice (some ⟨w1.drew.heap.size, 0, none⟩) 3 3)).put (some 18) (.string ⟨z.toArray⟩)).put (some 21) (.string ⟨vh.toArray⟩)).put (some 22) (.string ⟨(z ++ vh).toArray⟩)).put (some 27) (.string ⟨nn.toArray⟩)).put (some 28) (.string ⟨(z ++ vh ++ nn).toArray⟩)).put (some 4) (.string ⟨(z ++ vh ++ nn).toArray⟩)) := by rw [hA.out] <;> simp only [Act.put, List.setIfInBounds_toArray, List.set_cons_zero, List.set_cons_succ]
        rw [he]
        exact fin _ _ hS
  ·
    refine op_call (some 21) rfl rfl (by rfl) (exec_call0 rfl rfl (map1 (ev_ne (by rfl) (ev_ne (by rfl) (ev_ne (by rfl) (ev_ne (by rfl) (ev_eq (by (try simp only [Act.size_put]); rw [hsz]; decide))))))) en92) ?_
    refine (CV.out _).mono ?_
    rintro _ Wv6 ⟨rfl, hb⟩
    have hS : _ ∧ _ := ⟨hS.1.below hb hS.1.lt, hS.2.trans (hb.mono hS.2.size)⟩
    refine ⟨_, rfl, hS, ?_⟩
    refine reg_two (i := 6) (j := 16) (by kernel_rfl) ?_ ?_
    ·
      have hba := (Below.refl Wv6.heap.size Wv6).alloc (Nat.le_refl _) (.cells #[.int .u8 (x.kind : Int), .int .u8 (x.src : Int), .int .u8 (x.dst : Int)] 5)
      have hN := Lib.hid (Blk.new Wv6 5 (#[.int .u8 (x.kind : Int), .int .u8 (x.src : Int), .int .u8 (x.dst : Int)] : Array Value))
      have hS : _ ∧ _ := ⟨hS.1.below hba hS.1.lt, hS.2.trans (hba.mono hS.2.size)⟩
      refine op_run (some 17) (v := .slice (some ⟨Wv6.heap.size, 0, none⟩) 3 3) rfl rfl (by rfl) (exec_bsl 35 3 _ rfl (vs := #[(0, .int .u8 (x.kind : Int)), (1, .int .u8 (x.src : Int)), (2, .int .u8 (x.dst : Int))]) (by simp only [List.map_toArray, List.map_cons, List.map_nil]; rw [(show Act.eval _ (.tmp 12) = _ from (ev_ne (by rfl) (ev_ne (by rfl) (ev_ne (by rfl) (ev_ne (by rfl) (ev_ne (by rfl) (ev_ne (by rfl) (ev_ne (by rfl) (ev_ne (by rfl) (ev_ne (by rfl) (ev_ne (by rfl) (ev_ne (by rfl) (ev_eq (by (try simp only [Act.size_put]); rw [hsz]; decide)))))))))))))), (show Act.eval _ (.tmp 14) = _ from (ev_ne (by rfl) (ev_ne (by rfl) (ev_ne (by rfl) (ev_ne (by rfl) (ev_ne (by rfl) (ev_ne (by rfl) (ev_ne (by rfl) (ev_ne (by rfl) (ev_ne (by rfl) (ev_eq (by (try simp only [Act.size_put]); rw [hsz]; decide)))))))))))), (show Act.eval _ (.tmp 16) = _ from (ev_ne (by rfl) (ev_ne (by rfl) (ev_ne (by rfl) (ev_ne (by rfl) (ev_ne (by rfl) (ev_ne (by rfl) (ev_ne (by rfl) (ev_eq (by (try simp only [Act.size_put]); rw [hsz]; decide))))))))))]) (bs35 Wv6 _ _ _)) hS ?_
      refine reg_two (i := 7) (j := 16) (by kernel_rfl) ?_ ?_
      ·
        refine op_run (some 18) (v := .string ⟨z.toArray⟩) rfl rfl (by rfl) (exec_conv 35 9 _ rfl (ev_eq (by (try simp only [Act.size_put]); rw [hsz]; decide)) (cv35 _ _ _ z hN.out HBC.out HZ3.out)) hS ?_
        refine reg_take (some 22) (i := 11) (.string ⟨(z ++ vh).toArray⟩) rfl rfl (by kernel_rfl) (fun _ _ _ h => h) (by rfl) (fun W hW => exec_bin .add 9 9 _ _ rfl (ev_eq (by (try simp only [Act.size_put]); rw [hsz]; decide)) (ev_ne (by rfl) (ev_ne (by rfl) (ev_eq (by (try simp only [Act.size_put]); rw [hsz]; decide)))) (by simp [eqGuard]) (J1.out W)) hS ?_
        refine reg_call (some 27) (i := 16) rfl rfl (by kernel_rfl) (by rfl) (exec_call0 rfl rfl (map1 (ev_ne (by rfl) (ev_ne (by rfl) (ev_ne (by rfl) (ev_ne (by rfl) (ev_eq (by (try simp only [Act.size_put]); rw [hsz]; decide))))))) en93) ?_
        refine (CN.out _).mono ?_
        rintro _ Wv7 ⟨rfl, hb⟩
        have hS : _ ∧ _ := ⟨hS.1.below hb hS.1.lt, hS.2.trans (hb.mono hS.2.size)⟩
        have hN := Lib.hid (hN.out.below hb hN.out.lt)
        refine ⟨_, rfl, hS, ?_⟩
        refine reg_take (some 28) (i := 17) (.string ⟨(z ++ vh ++ nn).toArray⟩) rfl rfl (by kernel_rfl) (fun _ _ _ h => h) (by rfl) (fun W hW => exec_bin .add 9 9 _ _ rfl (ev_ne (by rfl) (ev_eq (by (try simp only [Act.size_put]); rw [hsz]; decide))) (ev_eq (by (try simp only [Act.size_put]); rw [hsz]; decide)) (by simp [eqGuard]) (J2.out W)) hS ?_
        refine reg_run (some 4) (i := 18) (v := .string ⟨(z ++ vh ++ nn).toArray⟩) rfl rfl (by kernel_rfl) (by rfl) (exec_assign _ rfl (ev_eq (by (try simp only [Act.size_put]); rw [hsz]; decide))) hS ?_
        refine reg_end (by kernel_rfl) ?_
        have he : (((((((((((((((((((A0.put (some 11) (.pointer (some ⟨w.heap.size, 0, none⟩))).put (some 12) (.int .u8 (x.kind : Int))).put (some 13) (.pointer (some ⟨w.heap.size, 1, none⟩))).put (some 14) (.int .u8 (x.src : Int))).put (some 15) (.pointer (some ⟨w.heap.size, 2, none⟩))).put (some 16) (.int .u8 (x.dst : Int))).put (some 19) (.pointer (some ⟨w.heap.size, 3, none⟩))).put (some 20) (.agg (vecA x.have_))).put (some 23) (.pointer (some ⟨w.heap.size, 11, none⟩))).put (some 24) (.slice A n cap)).put (some 25) (.int .i64 (n : Int))).put (some 26) (.int .u64 (n : Int))).put (some 21) (.string ⟨vh.toArray⟩)).put (some 17) (.slice (some ⟨Wv6.heap.size, 0, none⟩) 3 3)).put (some 18) (.string ⟨z.toArray⟩)).put (some 22) (.string ⟨(z ++ vh).toArray⟩)).put (some 27) (.string ⟨nn.toArray⟩)).put (some 28) (.string ⟨(z ++ vh ++ nn).toArray⟩)).put (some 4) (.string ⟨(z ++ vh ++ nn).toArray⟩)) = (((((((((((((((((((A0.put (some 11) (.pointer (some ⟨w.heap.size, 0, none⟩))).put (some 12) (.int .u8 (x.kind : Int))).put (some 13) (.pointer (some ⟨w.heap.size, 1, none⟩))).put (some 14) (.int .u8 (x.src : Int))).put (some 15) (.pointer (some ⟨w.heap.size, 2, none⟩))).put (some 16) (.int .u8 (x.dst : Int))).put (some 19) (.pointer (some ⟨w.heap.size, 3, none⟩))).put (some 20) (.agg (vecA x.have_))).put (some 23) (.pointer (some ⟨w.heap.size, 11, none⟩))).put (some 24) (.slice A n cap)).put (some 25) (.int .i64 (n : Int))).put (some 26) (.int .u64 (n : Int))).put (some 17) (.slice (some ⟨Wv6.heap.size, 0, none⟩) 3 3)).put (some 18) (.string ⟨z.toArray⟩)).put (some 21) (.string ⟨vh.toArray⟩)).put (some 22) (.string ⟨(z ++ vh).toArray⟩)).put (some 27) (.string ⟨nn.toArray⟩)).put (some 28) (.string ⟨(z ++ vh ++ nn).toArray⟩)).put (some 4) (.string ⟨(z ++ vh ++ nn).toArray⟩)) := by rw [hA.out] <;> simp only [Act.put, List.setIfInBounds_toArray, List.set_cons_zero, List.set_cons_succ]
        rw [he]
        exact fin _ _ hS
      ·
        refine op_call (some 27) rfl rfl (by rfl) (exec_call0 rfl rfl (map1 (ev_ne (by rfl) (ev_ne (by rfl) (ev_eq (by (try simp only [Act.size_put]); rw [hsz]; decide))))) en93) ?_
        refine (CN.out _).mono ?_
        rintro _ Wv8 ⟨rfl, hb⟩
        have hS : _ ∧ _ := ⟨hS.1.below hb hS.1.lt, hS.2.trans (hb.mono hS.2.size)⟩
        have hN := Lib.hid (hN.out.below hb hN.out.lt)
        refine ⟨_, rfl, hS, ?_⟩
        refine reg_run (some 18) (i := 7) (v := .string ⟨z.toArray⟩) rfl rfl (by kernel_rfl) (by rfl) (exec_conv 35 9 _ rfl (ev_ne (by rfl) (ev_eq (by (try simp only [Act.size_put]); rw [hsz]; decide))) (cv35 _ _ _ z hN.out HBC.out HZ3.out)) hS ?_
        refine reg_take (some 22) (i := 11) (.string ⟨(z ++ vh).toArray⟩) rfl rfl (by kernel_rfl) (fun _ _ _ h => h) (by rfl) (fun W hW => exec_bin .add 9 9 _ _ rfl (ev_eq (by (try simp only [Act.size_put]); rw [hsz]; decide)) (ev_ne (by rfl) (ev_ne (by rfl) (ev_ne (by rfl) (ev_eq (by (try simp only [Act.size_put]); rw [hsz]; decide))))) (by simp [eqGuard]) (J1.out W)) hS ?_
        refine reg_take (some 28) (i := 17) (.string ⟨(z ++ vh ++ nn).toArray⟩) rfl rfl (by kernel_rfl) (fun _ _ _ h => h) (by rfl) (fun W hW => exec_bin .add 9 9 _ _ rfl (ev_eq (by (try simp only [Act.size_put]); rw [hsz]; decide)) (ev_ne (by rfl) (ev_ne (by rfl) (ev_eq (by (try simp only [Act.size_put]); rw [hsz]; decide)))) (by simp [eqGuard]) (J2.out W)) hS ?_
        refine reg_run (some 4) (i := 18) (v := .string ⟨(z ++ vh ++ nn).toArray⟩) rfl rfl (by kernel_rfl) (by rfl) (exec_assign _ rfl (ev_eq (by (try simp only [Act.size_put]); rw [hsz]; decide))) hS ?_
        refine reg_end (by kernel_rfl) ?_
        have he : (((((((((((((((((((A0.put (some 11) (.pointer (some ⟨w.heap.size, 0, none⟩))).put (some 12) (.int .u8 (x.kind : Int))).put (some 13) (.pointer (some ⟨w.heap.size, 1, none⟩))).put (some 14) (.int .u8 (x.src : Int))).put (some 15) (.pointer (some ⟨w.heap.size, 2, none⟩))).put (some 16) (.int .u8 (x.dst : Int))).put (some 19) (.pointer (some ⟨w.heap.size, 3, none⟩))).put (some 20) (.agg (vecA x.have_))).put (some 23) (.pointer (some ⟨w.heap.size, 11, none⟩))).put (some 24) (.slice A n cap)).put (some 25) (.int .i64 (n : Int))).put (some 26) (.int .u64 (n : Int))).put (some 21) (.string ⟨vh.toArray⟩)).put (some 17) (.slice (some ⟨Wv6.heap.size, 0, none⟩) 3 3)).put (some 27) (.string ⟨nn.toArray⟩)).put (some 18) (.string ⟨z.toArray⟩)).put (some 22) (.string ⟨(z ++ vh).toArray⟩)).put (some 28) (.string ⟨(z ++ vh ++ nn).toArray⟩)).put (some 4) (.string ⟨(z ++ vh ++ nn).toArray⟩)) = (((((((((((((((((((A0.put (some 11) (.pointer (some ⟨w.heap.size, 0, none⟩))).put (some 12) (.int .u8 (x.kind : Int))).put (some 13) (.pointer (some ⟨w.heap.size, 1, none⟩))).put (some 14) (.int .u8 (x.src : Int))).put (some 15) (.pointer (some ⟨w.heap.size, 2, none⟩))).put (some 16) (.int .u8 (x.dst : Int))).put (some 19) (.pointer (some ⟨w.heap.size, 3, none⟩))).put (some 20) (.agg (vecA x.have_))).put (some 23) (.pointer (some ⟨w.heap.size, 11, none⟩))).put (some 24) (.slice A n cap)).put (some 25) (.int .i64 (n : Int))).put (some 26) (.int .u64 (n : Int))).put (some 17) (.slice (some ⟨Wv6.heap.size, 0, none⟩) 3 3)).put (some 18) (.string ⟨z.toArray⟩)).put (some 21) (.string ⟨vh.toArray⟩)).put (some 22) (.string ⟨(z ++ vh).toArray⟩)).put (some 27) (.string ⟨nn.toArray⟩)).put (some 28) (.string ⟨(z ++ vh ++ nn).toArray⟩)).put (some 4) (.string ⟨(z ++ vh ++ nn).toArray⟩)) := by rw [hA.out] <;> simp only [Act.put, List.setIfInBounds_toArray, List.set_cons_zero, List.set_cons_succ]
        rw [he]
        exact fin _ _ hS
    ·
      refine op_call (some 27) rfl rfl (by rfl) (exec_call0 rfl rfl (map1 (ev_ne (by rfl) (ev_eq (by (try simp only [Act.size_put]); rw [hsz]; decide)))) en93) ?_
      refine (CN.out _).mono ?_
      rintro _ Wv9 ⟨rfl, hb⟩
      have hS : _ ∧ _ := ⟨hS.1.below hb hS.1.lt, hS.2.trans (hb.mono hS.2.size)⟩
      refine ⟨_, rfl, hS, ?_⟩
      have hba := (Below.refl Wv9.heap.size Wv9).alloc (Nat.le_refl _) (.cells #[.int .u8 (x.kind : Int), .int .u8 (x.src : Int), .int .u8 (x.dst : Int)] 5)
      have hN := Lib.hid (Blk.new Wv9 5 (#[.int .u8 (x.kind : Int), .int .u8 (x.src : Int), .int .u8 (x.dst : Int)] : Array Value))
      have hS : _ ∧ _ := ⟨hS.1.below hba hS.1.lt, hS.2.trans (hba.mono hS.2.size)⟩
      refine reg_run (some 17) (i := 6) (v := .slice (some ⟨Wv9.heap.size, 0, none⟩) 3 3) rfl rfl (by kernel_rfl) (by rfl) (exec_bsl 35 3 _ rfl (vs := #[(0, .int .u8 (x.kind : Int)), (1, .int .u8 (x.src : Int)), (2, .int .u8 (x.dst : Int))]) (by simp only [List.map_toArray, List.map_cons, List.map_nil]; rw [(show Act.eval _ (.tmp 12) = _ from (ev_ne (by rfl) (ev_ne (by rfl) (ev_ne (by rfl) (ev_ne (by rfl) (ev_ne (by rfl) (ev_ne (by rfl) (ev_ne (by rfl) (ev_ne (by rfl) (ev_ne (by rfl) (ev_ne (by rfl) (ev_ne (by rfl) (ev_ne (by rfl) (ev_eq (by (try simp only [Act.size_put]); rw [hsz]; decide))))))))))))))), (show Act.eval _ (.tmp 14) = _ from (ev_ne (by rfl) (ev_ne (by rfl) (ev_ne (by rfl) (ev_ne (by rfl) (ev_ne (by rfl) (ev_ne (by rfl) (ev_ne (by rfl) (ev_ne (by rfl) (ev_ne (by rfl) (ev_ne (by rfl) (ev_eq (by (try simp only [Act.size_put]); rw [hsz]; decide))))))))))))), (show Act.eval _ (.tmp 16) = _ from (ev_ne (by rfl) (ev_ne (by rfl) (ev_ne (by rfl) (ev_ne (by rfl) (ev_ne (by rfl) (ev_ne (by rfl) (ev_ne (by rfl) (ev_ne (by rfl) (ev_eq (by (try simp only [Act.size_put]); rw [hsz]; decide)))))))))))]) (bs35 Wv9 _ _ _)) hS ?_
      refine reg_run (some 18) (i := 7) (v := .string ⟨z.toArray⟩) rfl rfl (by kernel_rfl) (by rfl) (exec_conv 35 9 _ rfl (ev_eq (by (try simp only [Act.size_put]); rw [hsz]; decide)) (cv35 _ _ _ z hN.out HBC.out HZ3.out)) hS ?_
      refine reg_take (some 22) (i := 11) (.string ⟨(z ++ vh).toArray⟩) rfl rfl (by kernel_rfl) (fun _ _ _ h => h) (by rfl) (fun W hW => exec_bin .add 9 9 _ _ rfl (ev_eq (by (try simp only [Act.size_put]); rw [hsz]; decide)) (ev_ne (by rfl) (ev_ne (by rfl) (ev_ne (by rfl) (ev_eq (by (try simp only [Act.size_put]); rw [hsz]; decide))))) (by simp [eqGuard]) (J1.out W)) hS ?_
      refine reg_take (some 28) (i := 17) (.string ⟨(z ++ vh ++ nn).toArray⟩) rfl rfl (by kernel_rfl) (fun _ _ _ h => h) (by rfl) (fun W hW => exec_bin .add 9 9 _ _ rfl (ev_eq (by (try simp only [Act.size_put]); rw [hsz]; decide)) (ev_ne (by rfl) (ev_ne (by rfl) (ev_ne (by rfl) (ev_eq (by (try simp only [Act.size_put]); rw [hsz]; decide))))) (by simp [eqGuard]) (J2.out W)) hS ?_
      refine reg_run (some 4) (i := 18) (v := .string ⟨(z ++ vh ++ nn).toArray⟩) rfl rfl (by kernel_rfl) (by rfl) (exec_assign _ rfl (ev_eq (by (try simp only [Act.size_put]); rw [hsz]; decide))) hS ?_
      refine reg_end (by kernel_rfl) ?_
      have he : (((((((((((((((((((A0.put (some 11) (.pointer (some ⟨w.heap.size, 0, none⟩))).put (some 12) (.int .u8 (x.kind : Int))).put (some 13) (.pointer (some ⟨w.heap.size, 1, none⟩))).put (some 14) (.int .u8 (x.src : Int))).put (some 15) (.pointer (some ⟨w.heap.size, 2, none⟩))).put (some 16) (.int .u8 (x.dst : Int))).put (some 19) (.pointer (some ⟨w.heap.size, 3, none⟩))).put (some 20) (.agg (vecA x.have_))).put (some 23) (.pointer (some ⟨w.heap.size, 11, none⟩))).put (some 24) (.slice A n cap)).put (some 25) (.int .i64 (n : Int))).put (some 26) (.int .u64 (n : Int))).put (some 21) (.string ⟨vh.toArray⟩)).put (some 27) (.string ⟨nn.toArray⟩)).put (some 17) (.slice (some ⟨Wv9.heap.size, 0, none⟩) 3 3)).put (some 18) (.string ⟨z.toArray⟩)).put (some 22) (.string ⟨(z ++ vh).toArray⟩)).put (some 28) (.string ⟨(z ++ vh ++ nn).toArray⟩)).put (some 4) (.string ⟨(z ++ vh ++ nn).toArray⟩)) = (((((((((((((((((((A0.put (some 11) (.pointer (some ⟨w.heap.size, 0, none⟩))).put (some 12) (.int .u8 (x.kind : Int))).put (some 13) (.pointer (some ⟨w.heap.size, 1, none⟩))).put (some 14) (.int .u8 (x.src : Int))).put (some 15) (.pointer (some ⟨w.heap.size, 2, none⟩))).put (some 16) (.int .u8 (x.dst : Int))).put (some 19) (.pointer (some ⟨w.heap.size, 3, none⟩))).put (some 20) (.agg (vecA x.have_))).put (some 23) (.pointer (some ⟨w.heap.size, 11, none⟩))).put (some 24) (.slice A n cap)).put (some 25) (.int .i64 (n : Int))).put (some 26) (.int .u64 (n : Int))).put (some 17) (.slice (some ⟨Wv9.heap.size, 0, none⟩) 3 3)).put (some 18) (.string ⟨z.toArray⟩)).put (some 21) (.string ⟨vh.toArray⟩)).put (some 22) (.string ⟨(z ++ vh).toArray⟩)).put (some 27) (.string ⟨nn.toArray⟩)).put (some 28) (.string ⟨(z ++ vh ++ nn).toArray⟩)).put (some 4) (.string ⟨(z ++ vh ++ nn).toArray⟩)) := by rw [hA.out] <;> simp only [Act.put, List.setIfInBounds_toArray, List.set_cons_zero, List.set_cons_succ]
      rw [he]
      exact fin _ _ hS
end Go.Proofs.Ytfojjklohbiffaa
