/- Items read one behind the other: the worlds between. -/
import Derived.Test.YtfojjklohbiffaaItemsD
import Derived.Test.YtfojjklohbiffaaWireJ
namespace Go.Proofs.Ytfojjklohbiffaa
open Go.RowKit Tran Tran.Wire
set_option linter.unusedVariables false
/-- the worlds at a round's head: the reader is the first new block, the document's row the second -/
structure RI (w : World) (st : Option (List UInt8)) (W : World) : Prop where
  rd : RdP W (some ⟨w.heap.size, 0, none⟩) st
  k1 : Blk W (w.heap.size + 1) 89 (rowC st)
  b : Below w.heap.size w W
/-- behind the reading of an item: what was read lies in block g -/
structure RJ (w : World) (st st' : Option (List UInt8)) (g : Nat) (W : World) : Prop where
  rd : RdP W (some ⟨w.heap.size, 0, none⟩) st'
  k1 : Blk W (w.heap.size + 1) 89 (rowC st)
  k8 : Blk W g 89 (rowC st')
  b : Below w.heap.size w W
  ne : g ≠ w.heap.size + 1
theorem rj_after {w wr w4 : World} {st st' : Option (List UInt8)} (I : RI w st wr) (r : Rdd wr.drew w4 (some ⟨w.heap.size, 0, none⟩) st') {u : Array Value} (hu : rowC st' = u) : RJ w st st' w4.heap.size (w4.alloc (.cells u 89)) := by
  have hs := r.ch.size
  have hs : wr.heap.size ≤ w4.heap.size := hs
  have d := (Below.refl w4.heap.size w4).alloc (Nat.le_refl _) (.cells u 89)
  have k := I.k1.drew.chg r.ch (fun e => by injection e with e; injection e with e; omega)
  refine ⟨r.rd.below d, k.below d k.lt, hu ▸ Blk.new w4 89 _, ?_, ?_⟩
  · have b := (below_drew I.b).trans (r.toBelow (Nat.le_refl _) I.b.size)
    exact b.trans (d.mono b.size)
  · have := I.k1.lt; omega
theorem rj_before {w wr w5 : World} {st st' : Option (List UInt8)} (I : RI w st wr) {F : Array Value} (hF : F.size = 2) (r : Rdd (wr.alloc (.cells F 89)).drew w5 (some ⟨w.heap.size, 0, none⟩) st') {a b : Value} (hu : rowC st' = #[a, b]) :
    RJ w st st' wr.heap.size ((w5.setCell ⟨wr.heap.size, 0, none⟩ a).setCell ⟨wr.heap.size, 1, none⟩ b) := by
  have L := I.k1.lt
  have hk5 := (Blk.new wr 89 F).drew.chg r.ch (fun e => by injection e with e; injection e with e; omega)
  have k := (I.k1.alloc (.cells F 89)).drew.chg r.ch (fun e => by injection e with e; injection e with e; omega)
  refine ⟨(r.rd.far (q := ⟨wr.heap.size, 0, none⟩) (fun g e => by injection e with e; injection e with e; show g ≠ wr.heap.size; omega) a).far (q := ⟨wr.heap.size, 1, none⟩) (fun g e => by injection e with e; injection e with e; show g ≠ wr.heap.size; omega) b,
    (k.far (p := ⟨wr.heap.size, 0, none⟩) (show w.heap.size + 1 ≠ wr.heap.size by omega) a).far (p := ⟨wr.heap.size, 1, none⟩) (show w.heap.size + 1 ≠ wr.heap.size by omega) b, ?_, ?_, by omega⟩
  · have := (hk5.set_ 0 a).set_ 1 b
    rw [hu]
    match F, hF with
    | ⟨[x, y]⟩, _ => exact this
  · have b1 := below_drew (I.b.alloc I.b.size (.cells F 89))
    exact ((b1.trans (r.toBelow (Nat.le_refl _) b1.size)).setCell (p := ⟨wr.heap.size, 0, none⟩) (show w.heap.size ≤ wr.heap.size by omega) a).setCell (p := ⟨wr.heap.size, 1, none⟩) (show w.heap.size ≤ wr.heap.size by omega) b
theorem rj_done {w wc : World} {st st' : Option (List UInt8)} {g : Nat} (J : RJ w st st' g wc) {a b : Value} (hu : rowC st' = #[a, b]) : RI w st' ((wc.setCell ⟨w.heap.size + 1, 0, none⟩ a).setCell ⟨w.heap.size + 1, 1, none⟩ b) := by
  refine ⟨(J.rd.far (q := ⟨w.heap.size + 1, 0, none⟩) (fun g e => by injection e with e; injection e with e; show g ≠ w.heap.size + 1; omega) a).far (q := ⟨w.heap.size + 1, 1, none⟩) (fun g e => by injection e with e; injection e with e; show g ≠ w.heap.size + 1; omega) b, ?_,
    (J.b.setCell (p := ⟨w.heap.size + 1, 0, none⟩) (show w.heap.size ≤ w.heap.size + 1 by omega) a).setCell (p := ⟨w.heap.size + 1, 1, none⟩) (show w.heap.size ≤ w.heap.size + 1 by omega) b⟩
  have := (J.k1.set_ 0 a).set_ 1 b
  rw [hu]
  obtain ⟨s, f, h⟩ := rowC_form st
  rw [h] at this
  exact this
theorem quiet_more {P : Program} {f : FuncId} {args : Array Value} {w : World} {n : Nat} {v : Value}
    (h : Calls P f args (w.drewN n) fun e w' => e = .returned v ∧ ∃ m, w' = (w.drewN n).drewN m) : Calls P f args (w.drewN n) fun e w' => e = .returned v ∧ ∃ m, w' = w.drewN m :=
  h.mono fun _ _ ⟨he, m, hm⟩ => ⟨he, n + m, by rw [hm, World.drewN_drewN]⟩
theorem add_zero_a (a : Addr) : a.add 0 = a := by simp [Addr.add]
theorem item_lit (x : NItem) (hx : x.ok) : ∃ x0 x1 x2 x3 x4 x5 x6 x7 : Nat, itemA x = #[.int .u8 (x.kind : Int), .int .u64 (x.n : Int), .string ⟨x.s.toArray⟩, .int .u8 (x.r : Int), .int .u32 (x.dn : Int), .int .u32 (x0 : Int), .int .u32 (x1 : Int), .int .u32 (x2 : Int), .int .u32 (x3 : Int), .int .u32 (x4 : Int), .int .u32 (x5 : Int), .int .u32 (x6 : Int), .int .u32 (x7 : Int), .int .u64 (x.most : Int)] := by
  have h8 := hx.2.2.2.2.2.1
  obtain ⟨kind, n, s, r, dn, xs, most⟩ := x
  match xs, h8 with
  | [x0, x1, x2, x3, x4, x5, x6, x7], _ => exact ⟨x0, x1, x2, x3, x4, x5, x6, x7, rfl⟩
end Go.Proofs.Ytfojjklohbiffaa
