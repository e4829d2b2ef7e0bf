/- A row's last step where only what lies below the call's first block is kept: arguments that hold no memory, or memory that is read again. Nothing of the program. -/
import Derived.Below
import Derived.ChangeSame
import Derived.WalkKit
import Derived.WalkLawsBesides
import Derived.Lib.Hide
import Derived.Deep.QuietTactic
import Derived.BigQuiet
import Derived.Lib.AppendStr
import Derived.Deep.Draws
import Derived.Deep.Slices
import Derived.Deep.Fields
import Derived.SizedLaws
import Derived.ProofKit
import Derived.OpenShut
import Derived.Test.YtfojjklohbiffaaProg
namespace Tran
open Go Go.RowKit Go.WideShapes Go.ChangeShapes
section
variable {H : Type} {enc : TypeId × Value → H} {P : Program}
theorem post_of_below {f : Func} {s : ChangeSpec} {apart fresh handsOn again : Bool} {W W' : World} {args : Array Value} {v : Value} {ds gs : List (DataW H)} {before pa pv : List MemPlace}
    (hW : DataW.Whole enc P f.params.toList s.vars apart W args.toList ds gs before)
    (hres : ∀ (b : Nat) (sp : Nat → Bool) (hd : Bool), DataW.TrodAll enc P W' b sp hd f.resultTypes.toList (v.resultList f.resultTypes.size) (s.fn H (ds ++ gs)).results [])
    (hargs : ∀ sp : Nat → Bool, (∀ p ∈ before, sp p.block = true) → DataW.TrodAll enc P W' 0 sp true f.params.toList args.toList (s.fn H (ds ++ gs)).args pa)
    (hvars : ∀ sp : Nat → Bool, (∀ p ∈ before, sp p.block = true) → DataW.TrodVars enc P W' sp s.vars (s.fn H (ds ++ gs)).vars pv)
    (hps : before = pa ++ pv) (hb : Below W.heap.size W W')
    (hok : ∀ (j : Nat) (t : TypeId) (r : Value), f.resultTypes[j]? = some t → (v.resultList f.resultTypes.size)[j]? = some r → Value.okWide P W' .any 0 t r) :
    s.post enc P f apart fresh handsOn again W args v W' := by
  have hlt : ∀ p ∈ before, p.block < W.heap.size := fun p hp => hW.lt p hp
  have hold : ∀ p ∈ before, (fun b => decide (b < W.heap.size)) p.block = true := fun p hp => by simpa using hlt p hp
  refine ⟨ds, gs, before, [], pa, pv, hW, hres _ _ _, hargs _ hold, hvars _ hold, World.keptBut_mono (fun p hp => ⟨hp, ?_⟩) (hb.frame (· ∈ before)), fun _ => ?_⟩
  · rw [hps, List.mem_append] at hp
    exact Or.inr hp
  · obtain ⟨_, _, _, _, _, hz, hn⟩ := hW
    refine ⟨hok, _, _, ([] ++ pa) ++ pv, ⟨[] ++ pa, pv, trodAll_append (hargs _ (fun _ _ => rfl)) (hres _ _ _), hvars _ (fun _ _ => rfl), rfl, ?_, ?_⟩, ?_⟩
    · intro b off hp
      have hin : MemPlace.cell b off ∈ before := by rw [hps]; simpa using hp
      rw [hb.frozen (hlt _ hin)]
      exact hz b off hin
    · intro ha
      have := hn ha
      rw [hps] at this
      simpa using this
    · intro p hp _
      rw [hps]
      simpa using hp
end
end Tran
/- Words on memory that the walks of this seat share: a block known whole; what lies below a block. Nothing of the program. -/
namespace Tran
open Go Go.RowKit

/-- block g is just the cells cs of type t, none frozen -/
def Blk (w : World) (g : Nat) (t : TypeId) (cs : Array Value) : Prop := w.heap[g]? = some (.cells cs t (0, 0))

section
variable {w w' : World} {g : Nat} {t : TypeId} {cs : Array Value}
theorem Blk.lt (h : Blk w g t cs) : g < w.heap.size := by
  rcases Nat.lt_or_ge g w.heap.size with hlt | hge
  · exact hlt
  · unfold Blk at h; rw [Array.getElem?_eq_none hge] at h; cases h
theorem Blk.cell (h : Blk w g t cs) (i : Nat) : w.cell? ⟨g, i, none⟩ = cs[i]? := cell_of_row w g i cs t (0, 0) h
theorem Blk.frozen (h : Blk w g t cs) (i : Nat) : w.frozen? ⟨g, i, none⟩ = false := by
  unfold Blk at h
  simp [World.frozen?, h]
theorem Blk.new (w : World) (t : TypeId) (cs : Array Value) : Blk (w.alloc (.cells cs t)) w.heap.size t cs := heap_alloc_new w _
theorem Blk.drew (h : Blk w g t cs) : Blk w.drew g t cs := h
theorem Blk.drewN (h : Blk w g t cs) (n : Nat) : Blk (w.drewN n) g t cs := h
theorem Blk.alloc (h : Blk w g t cs) (o : Obj) : Blk (w.alloc o) g t cs := (Below.heap_alloc w o g h.lt).trans h
theorem Blk.set_ (h : Blk w g t cs) (i : Nat) (u : Value) : Blk (w.setCell ⟨g, i, none⟩ u) g t (cs.setIfInBounds i u) := by
  unfold Blk at h ⊢
  simp [World.setCell, Array.getElem?_modify, h]
theorem Blk.far (h : Blk w g t cs) {p : Addr} (hp : g ≠ p.block) (u : Value) : Blk (w.setCell p u) g t cs := (Below.heap_setCell w p u g hp).trans h
theorem Blk.below {B : Nat} (h : Blk w g t cs) (hb : Below B w w') (hg : g < B) : Blk w' g t cs := (hb.block g hg).trans h
theorem Blk.grown {row : Option Nat} (h : Blk w g t cs) (hb : w.grownBy w' row) (hg : some g ≠ row) : Blk w' g t cs := (hb.block g h.lt hg).trans h
theorem Blk.row (h : Blk w g t cs) (ds : Array Value) : Blk (w.setRow g ds) g t ds := setRow_heap w g cs ds t (0, 0) h
theorem Blk.rowFar (h : Blk w g t cs) {k : Nat} (hk : g ≠ k) (ds : Array Value) : Blk (w.setRow k ds) g t cs := (setRow_other w k g ds hk).trans h
end
theorem below_setRow {B g : Nat} {w0 w : World} (hb : Below B w0 w) (hg : B ≤ g) (cs : Array Value) : Below B w0 (w.setRow g cs) :=
  ⟨hb.os, hb.tape, hb.output, by simpa using hb.size, fun k hk => (setRow_other w g k cs (by omega)).trans (hb.block k hk)⟩
theorem below_drewN {B : Nat} {a w : World} (h : Below B a w) (n : Nat) : Below B a (w.drewN n) := ⟨h.os, h.tape, h.output, h.size, h.block⟩
/-- from w to w' only blocks of S have changed, and new ones have come -/
structure Chg (S : Nat → Prop) (w w' : World) : Prop where
  os : w'.os = w.os
  tape : w'.tape = w.tape
  output : w'.output = w.output
  size : w.heap.size ≤ w'.heap.size
  block : ∀ k, k < w.heap.size → ¬ S k → w'.heap[k]? = w.heap[k]?
section
variable {S S' : Nat → Prop} {w0 w w' : World}
theorem Chg.refl (S : Nat → Prop) (w : World) : Chg S w w := ⟨rfl, rfl, rfl, Nat.le_refl _, fun _ _ _ => rfl⟩
theorem Chg.mono (h : Chg S w w') (hs : ∀ k, k < w.heap.size → S k → S' k) : Chg S' w w' := ⟨h.os, h.tape, h.output, h.size, fun k hk hn => h.block k hk fun hk' => hn (hs k hk hk')⟩
theorem Chg.then_ (h : Chg S w0 w) (k : Chg S' w w') (hs : ∀ k, k < w0.heap.size → S' k → S k) : Chg S w0 w' :=
  ⟨k.os.trans h.os, k.tape.trans h.tape, k.output.trans h.output, Nat.le_trans h.size k.size, fun i hi hn => (k.block i (Nat.lt_of_lt_of_le hi h.size) fun hk => hn (hs i hi hk)).trans (h.block i hi hn)⟩
theorem Chg.drew (h : Chg S w0 w) : Chg S w0 w.drew := ⟨h.os, h.tape, h.output, h.size, h.block⟩
theorem Chg.drewN (h : Chg S w0 w) (n : Nat) : Chg S w0 (w.drewN n) := ⟨h.os, h.tape, h.output, h.size, h.block⟩
theorem Chg.alloc (h : Chg S w0 w) (o : Obj) : Chg S w0 (w.alloc o) :=
  ⟨h.os, h.tape, h.output, Nat.le_trans h.size (by simp), fun i hi hn => (Below.heap_alloc w o i (Nat.lt_of_lt_of_le hi h.size)).trans (h.block i hi hn)⟩
theorem Chg.setCell (h : Chg S w0 w) {p : Addr} (hp : S p.block ∨ w0.heap.size ≤ p.block) (u : Value) : Chg S w0 (w.setCell p u) :=
  ⟨h.os, h.tape, h.output, by simpa [World.setCell] using h.size, fun i hi hn => (Below.heap_setCell w p u i (by
    rintro rfl
    rcases hp with hp | hp
    · exact hn hp
    · omega)).trans (h.block i hi hn)⟩
theorem Chg.setRow (h : Chg S w0 w) {g : Nat} (hp : S g ∨ w0.heap.size ≤ g) (cs : Array Value) : Chg S w0 (w.setRow g cs) :=
  ⟨h.os, h.tape, h.output, by simpa using h.size, fun i hi hn => (setRow_other w g i cs (by
    rintro rfl
    rcases hp with hp | hp
    · exact hn hp
    · omega)).trans (h.block i hi hn)⟩
theorem Chg.grown (h : Chg S w0 w) {row : Option Nat} (hg : w.grownBy w' row) (hr : ∀ k, row = some k → S k ∨ w0.heap.size ≤ k) : Chg S w0 w' :=
  ⟨hg.os.trans h.os, hg.tape.trans h.tape, hg.output.trans h.output, Nat.le_trans h.size hg.size, fun i hi hn => (hg.block i (Nat.lt_of_lt_of_le hi h.size) (fun e => by
    rcases hr i e.symm with hp | hp
    · exact hn hp
    · omega)).trans (h.block i hi hn)⟩
theorem Chg.below (h : Chg S w0 w) {B : Nat} (hb : Below B w w') (hB : w0.heap.size ≤ B) : Chg S w0 w' :=
  ⟨hb.os.trans h.os, hb.tape.trans h.tape, hb.output.trans h.output, Nat.le_trans h.size hb.size, fun i hi hn => (hb.block i (by omega)).trans (h.block i hi hn)⟩
theorem Chg.toBelow (h : Chg S w w') {B : Nat} (hB : B ≤ w.heap.size) (hs : ∀ k, k < w.heap.size → S k → B ≤ k) : Below B w w' :=
  ⟨h.os, h.tape, h.output, h.size, fun k hk => h.block k (by omega) fun hk' => by have := hs k (by omega) hk'; omega⟩
theorem Chg.of_below (hb : Below w.heap.size w w') : Chg S w w' := ⟨hb.os, hb.tape, hb.output, hb.size, fun k hk _ => hb.block k hk⟩
theorem Chg.cell (h : Chg S w w') {p : Addr} (hp : p.block < w.heap.size) (hn : ¬ S p.block) : w'.cell? p = w.cell? p := World.cell?_of_block (w := w) (h.block _ hp hn)
theorem Chg.frozen (h : Chg S w w') {p : Addr} (hp : p.block < w.heap.size) (hn : ¬ S p.block) : w'.frozen? p = w.frozen? p := World.frozen?_of_block (w := w) (h.block _ hp hn)
theorem Blk.chg {g : Nat} {t : TypeId} {cs : Array Value} (h : Blk w g t cs) (hc : Chg S w w') (hn : ¬ S g) : Blk w' g t cs := (hc.block g h.lt hn).trans h
end
theorem ret_int {k : IntKind} {a b : Int} (h : a = b) : Ending.returned (.int k a) = .returned (.int k b) := by rw [h]
theorem ret_str {a b : ByteArray} (h : a = b) : Ending.returned (.string a) = .returned (.string b) := by rw [h]
theorem str_app (s : ByteArray) (l : List UInt8) : s ++ ⟨l.toArray⟩ = ⟨(s.data.toList ++ l).toArray⟩ := by
  apply ByteArray.ext
  simp [ByteArray.data_append]
theorem str_mk (s : ByteArray) : s = ⟨s.data.toList.toArray⟩ := by apply ByteArray.ext; simp
theorem str_cut (l : List UInt8) (a b : Nat) : (⟨l.toArray⟩ : ByteArray).extract a b = ⟨((l.take b).drop a).toArray⟩ := by
  apply ByteArray.ext
  simp [ByteArray.data_extract, List.drop_take]
theorem str_take (l : List UInt8) (b : Nat) : (⟨l.toArray⟩ : ByteArray).extract 0 b = ⟨(l.take b).toArray⟩ := by rw [str_cut]; rfl
theorem quiet_left {P : Program} {f : FuncId} {args : Array Value} {w : World} {n : Nat} {v : Value}
    (h : Calls P f args (w.drewN n) fun e w' => e = .returned v ∧ w.drewN n = w') : Calls P f args (w.drewN n) fun e w' => e = .returned v ∧ ∃ m, w' = w.drewN m :=
  h.mono fun _ _ ⟨he, hm⟩ => ⟨he, n, hm.symm⟩
theorem quiet_add_left {P : Program} {f : FuncId} {args : Array Value} {w : World} {a n : Nat} {v : Value}
    (h : Calls P f args (w.drewN (a + n)) fun e w' => e = .returned v ∧ w.drewN (a + n) = w') :
    Calls P f args (w.drewN (a + n)) fun e w'' => e = .returned v ∧ ∃ m, w'' = w.drewN (a + m) :=
  h.mono fun _ _ ⟨he, hm⟩ => ⟨he, n, hm.symm⟩
/-- the worlds that meet I -/
def Sub (I : World → Prop) : Type := { w : World // I w }
def Sub.w {I : World → Prop} (x : Sub I) : World := x.1
theorem Sub.h {I : World → Prop} (x : Sub I) : I x.w := x.2
/-- a region that draws its order, whose operations answer alike in every world that meets I, and whose calls leave such worlds -/
theorem wp_region_cls {P : Program} {id : Nat} {Q : Exit → Act → World → Prop} {a : Act} {w : World} {l : List Oper} (I : World → Prop) (hm : P.follows .mixedOrders = true) (hB : Region.lexB .any l.toArray = true) (hI : I w.drew)
    (h : Nonempty (Sub I) → wpQuiet P l.toArray (fun w' => ∃ x : Sub I, w' = x.w) (fun a' => ∀ x : Sub I, Q .normal a' x.w) l a) : (Code.region id l.toArray true).wp P Q a w :=
  wp_region_quiet (C := fun w' => ∃ x : Sub I, w' = x.w) hm hB ⟨⟨_, hI⟩, rfl⟩ (by
    have h2 := h ⟨⟨_, hI⟩⟩
    have e : (fun a' => ∀ w', (∃ x : Sub I, w' = x.w) → Q .normal a' w') = (fun a' => ∀ x : Sub I, Q .normal a' x.w) := by
      funext a'; exact propext ⟨fun h x => h _ ⟨x, rfl⟩, fun h w' ⟨x, e⟩ => e ▸ h x⟩
    rw [e]; simpa using h2)
theorem call_cls {P : Program} {f : FuncId} {args : Array Value} {I : World → Prop} {v : Value} (x : Sub I)
    (h : ∀ W, Calls P f args W fun e w' => e = .returned v ∧ Below W.heap.size W w') (hI : ∀ W W', I W → Below W.heap.size W W' → I W') :
    Calls P f args x.w (fun e w'' => e = .returned v ∧ ∃ y : Sub I, w'' = y.w) :=
  (h x.w).mono fun _ w' ⟨he, hb⟩ => ⟨he, ⟨w', hI _ _ x.h hb⟩, rfl⟩
theorem call_cls_same {P : Program} {f : FuncId} {args : Array Value} {I : World → Prop} {v : Value} (x : Sub I)
    (h : ∀ W, Calls P f args W fun e w' => e = .returned v ∧ W = w') :
    Calls P f args x.w (fun e w'' => e = .returned v ∧ ∃ y : Sub I, w'' = y.w) :=
  (h x.w).mono fun _ _ ⟨he, hb⟩ => ⟨he, x, hb.symm⟩
theorem below_on {B : Nat} {w : World} (hB : B ≤ w.heap.size) : ∀ W W', Below B w W → Below W.heap.size W W' → Below B w W' :=
  fun _ _ h k => h.trans (k.mono (Nat.le_trans hB h.size))
end Tran
/- Words on slices that the walks of this seat share: a slice that reads as a list; a slice of the call's own; append onto it. Nothing of the program. -/
namespace Tran
open Go Go.RowKit

theorem block_of_add (a : Addr) (n : Nat) : (a.add n).block = a.block := by unfold Addr.add; split <;> rfl
theorem add_zero (g j : Nat) : (⟨g, 0, none⟩ : Addr).add j = ⟨g, j, none⟩ := by unfold Addr.add; split <;> simp_all

/-- a slice's n elements, of size cells each, read as the cells xs -/
def Rd (w : World) (A : Option Addr) (n size : Nat) (xs : List Value) : Prop :=
  xs.length = n * size ∧ (0 < n → ∃ ad, A = some ad ∧ ∀ j u, xs[j]? = some u → w.cell? (ad.add j) = some u)

/-- nothing of a row's cells is frozen -/
def Free (cur : Array Value) (fz : Nat × Nat) : Prop := fz = (0, 0) ∨ cur.size ≤ fz.1

/-- the block that a slice value keeps its elements in, if it can hold any -/
def blkOf : Value → Option Nat
  | .slice (some a) _ (_ + 1) => some a.block
  | _ => none

/-- a slice value of the call's own: n elements of type e, of size cells each: the cells xs -/
def Own (w : World) (B : Nat) (e : TypeId) (size : Nat) (v : Value) (n : Nat) (xs : List Value) : Prop :=
  xs.length = n * size ∧
  ((∃ A, v = .slice A 0 0 ∧ n = 0) ∨
   ∃ g cap cur fz, v = .slice (some ⟨g, 0, none⟩) n (cap + 1) ∧ B ≤ g ∧ w.heap[g]? = some (.cells cur e fz) ∧ Free cur fz ∧ n ≤ cap + 1 ∧ cap + 1 ≤ maxLen ∧ (cap + 1) * size ≤ cur.size ∧ cur.toList.take (n * size) = xs)

section
variable {w w' : World} {B : Nat} {e : TypeId} {size : Nat} {v : Value} {n : Nat} {xs : List Value}
theorem Own.nil (w : World) (B : Nat) (e : TypeId) (size : Nat) : Own w B e size (.slice none 0 0) 0 [] := ⟨by simp, .inl ⟨_, rfl, rfl⟩⟩
theorem Own.empty (w : World) (B : Nat) (e : TypeId) (size : Nat) (A : Option Addr) : Own w B e size (.slice A 0 0) 0 [] := ⟨by simp, .inl ⟨_, rfl, rfl⟩⟩
/-- a slice value over a row whose first cells are known -/
theorem Own.mk_ {g cap : Nat} {cur : Array Value} {fz : Nat × Nat} (hl : xs.length = n * size) (hb : B ≤ g) (hg : w.heap[g]? = some (.cells cur e fz)) (hf : Free cur fz) (hn : n ≤ cap) (hm : cap ≤ maxLen) (hs : cap * size ≤ cur.size) (ht : cur.toList.take (n * size) = xs) :
    Own w B e size (.slice (some ⟨g, 0, none⟩) n cap) n xs := by
  refine ⟨hl, ?_⟩
  cases cap with
  | zero => obtain rfl : n = 0 := by omega
            exact .inl ⟨_, rfl, rfl⟩
  | succ c => exact .inr ⟨g, c, cur, fz, rfl, hb, hg, hf, hn, hm, hs, ht⟩
theorem Own.of (h : w.ownsRow B e size v n xs) : Own w B e size v n xs := by
  rcases h.2 with ⟨rfl, rfl⟩ | ⟨g, cap, cur, rfl, hb, hg, h1, h2, h3, h4⟩
  · exact ⟨h.1, .inl ⟨_, rfl, rfl⟩⟩
  · exact Own.mk_ h.1 hb hg (.inl rfl) h1 h2 (Nat.le_of_eq h3.symm) h4
theorem Own.lt (h : Own w B e size v n xs) : ∀ k, blkOf v = some k → B ≤ k ∧ k < w.heap.size := by
  intro k hk
  rcases h.2 with ⟨A, rfl, _⟩ | ⟨g, cap, cur, fz, rfl, hb, hg, _⟩
  · cases A <;> simp [blkOf] at hk
  · simp [blkOf] at hk
    subst hk
    exact ⟨hb, (Array.getElem?_eq_some_iff.1 hg).1⟩
theorem Own.sameBlock (h : Own w B e size v n xs) (hk : ∀ g, blkOf v = some g → w'.heap[g]? = w.heap[g]?) : Own w' B e size v n xs := by
  refine ⟨h.1, ?_⟩
  rcases h.2 with hn | ⟨g, cap, cur, fz, rfl, hb, hgg, rest⟩
  · exact .inl hn
  · exact .inr ⟨g, cap, cur, fz, rfl, hb, (hk g (by simp [blkOf])).trans hgg, rest⟩
theorem Own.kept {row : Option Nat} (h : Own w B e size v n xs) (hg : w.grownBy w' row) (hne : blkOf v = none ∨ blkOf v ≠ row) : Own w' B e size v n xs :=
  h.sameBlock fun g hv => hg.block g (h.lt g hv).2 (by rcases hne with hn | hn <;> rw [hv] at hn <;> first | (cases hn; done) | exact hn)
theorem Own.alloc (h : Own w B e size v n xs) (o : Obj) : Own (w.alloc o) B e size v n xs := h.sameBlock fun g hv => Below.heap_alloc w o g (h.lt g hv).2
theorem Own.drew (h : Own w B e size v n xs) : Own w.drew B e size v n xs := h
theorem Own.drewN (h : Own w B e size v n xs) (k : Nat) : Own (w.drewN k) B e size v n xs := h
theorem Own.far (h : Own w B e size v n xs) {p : Addr} (hp : blkOf v ≠ some p.block) (u : Value) : Own (w.setCell p u) B e size v n xs :=
  h.sameBlock fun g hv => Below.heap_setCell w p u g (fun e => hp (by rw [hv, e]))
theorem Own.rowFar (h : Own w B e size v n xs) {k : Nat} (hp : blkOf v ≠ some k) (cs : Array Value) : Own (w.setRow k cs) B e size v n xs :=
  h.sameBlock fun g hv => setRow_other w k g cs (fun e => hp (by rw [hv, e]))
/-- a call that leaves everything below its first block -/
theorem Own.below {C : Nat} (h : Own w B e size v n xs) (hb : Below C w w') (hC : w.heap.size ≤ C) : Own w' B e size v n xs :=
  h.sameBlock fun g hv => hb.block g (by have := (h.lt g hv).2; omega)
theorem Own.chg {S : Nat → Prop} (h : Own w B e size v n xs) (hc : Chg S w w') (hn : ∀ g, blkOf v = some g → ¬ S g) : Own w' B e size v n xs :=
  h.sameBlock fun g hv => hc.block g (h.lt g hv).2 (hn g hv)
/-- blocks of other element types are other blocks -/
theorem Own.ne_ (h : Own w B e size v n xs) {g : Nat} {cs : Array Value} {t : TypeId} {fr : Nat × Nat} (hg : w.heap[g]? = some (.cells cs t fr)) (hne : e ≠ t) : blkOf v ≠ some g := by
  intro hv
  rcases h.2 with ⟨A, rfl, _⟩ | ⟨g', cap, cur, fz, rfl, hb, hgg, rest⟩
  · cases A <;> simp [blkOf] at hv
  · simp [blkOf] at hv
    subst hv
    rw [hg] at hgg
    injection hgg with hgg
    injection hgg with _ ht
    exact hne ht.symm
theorem Own.form (h : Own w B e size v n xs) (hn : 0 < n) : ∃ g cap, v = .slice (some ⟨g, 0, none⟩) n cap ∧ 0 < cap ∧ B ≤ g ∧ g < w.heap.size := by
  rcases h.2 with ⟨_, _, h0⟩ | ⟨g, cap, cur, fz, rfl, hb, hg, _⟩
  · omega
  · exact ⟨g, cap + 1, rfl, by omega, hb, (Array.getElem?_eq_some_iff.1 hg).1⟩
theorem Own.slice (h : Own w B e size v n xs) : ∃ A cap, v = .slice A n cap ∧ n ≤ cap ∧ cap ≤ maxLen ∧ Rd w A n size xs := by
  rcases h.2 with ⟨A, rfl, h0⟩ | ⟨g, cap, cur, fz, rfl, hb, hg, hf, hnc, hcm, hcs, ht⟩
  · subst h0; exact ⟨A, 0, rfl, Nat.le_refl _, Nat.zero_le _, h.1, fun hn => absurd hn (by omega)⟩
  · refine ⟨_, cap + 1, rfl, hnc, hcm, h.1, fun _ => ⟨_, rfl, fun j u hu => ?_⟩⟩
    rw [add_zero, cell_of_row w g j cur e fz hg]
    rw [← ht, List.getElem?_take] at hu
    split at hu
    · simpa using hu
    · cases hu
theorem Own.frozen {g cap : Nat} (h : Own w B e size (.slice (some ⟨g, 0, none⟩) n cap) n xs) (j : Nat) (hj : j < n * size) : w.frozen? ⟨g, j, none⟩ = false := by
  rcases h.2 with ⟨A, hv, h0⟩ | ⟨g', cap', cur, fz, hv, hb, hgg, hf, hnc, hcm, hcs, ht⟩
  · subst h0; omega
  · injection hv with h1 _ h3
    injection h1 with h1
    injection h1 with h1
    subst h1
    obtain ⟨lo, hi⟩ := fz
    simp only [World.frozen?, hgg, Bool.and_eq_false_iff, decide_eq_false_iff_not]
    rcases hf with hf | hf
    · injection hf with h1 h2; subst h1 h2; right; omega
    · left
      have := Nat.mul_le_mul_right size hnc
      simp only at hf; omega
theorem Own.cellAt {g cap : Nat} (h : Own w B e size (.slice (some ⟨g, 0, none⟩) n cap) n xs) {j : Nat} {u : Value} (hu : xs[j]? = some u) : w.cell? ⟨g, j, none⟩ = some u := by
  rcases h.2 with ⟨A, hv, h0⟩ | ⟨g', cap', cur, fz, hv, _, hg, _, _, _, _, ht⟩
  · have hl := h.1
    rw [h0, Nat.zero_mul] at hl
    rw [List.eq_nil_of_length_eq_zero hl] at hu
    simp at hu
  · injection hv with h1 _ h3
    injection h1 with h1
    injection h1 with h1
    subst h1
    rw [cell_of_row w _ j cur e fz hg]
    rw [← ht, List.getElem?_take] at hu
    split at hu
    · simpa using hu
    · cases hu
end

theorem Free.row {cur : Array Value} {fz : Nat × Nat} (h : Free cur fz) {cs : Array Value} (hs : cs.size = cur.size) : Free cs fz := by
  rcases h with h | h
  · exact .inl h
  · exact .inr (by omega)

/-- cells stored into a row of which nothing is frozen -/
theorem run_storeCells_free (P : Program) (g o : Nat) (t : TypeId) (fz : Nat × Nat) : ∀ (vs : List Value) (i : Nat) (cur : Array Value) (w : World), w.heap[g]? = some (.cells cur t fz) → Free cur fz → o + i + vs.length ≤ cur.size → (∀ v ∈ vs, v.oneCell' = true) →
    (storeCells ⟨g, o, none⟩ vs i).run P w = .ok () (w.setRow g (cur.toList.take (o + i) ++ vs ++ cur.toList.drop (o + i + vs.length)).toArray)
  | [], i, cur, w, hg, _, _, _ => by
    simp only [storeCells, List.append_nil, List.length_nil, Nat.add_zero, List.take_append_drop, Array.toArray_toList]
    rw [setRow_self w g cur t fz hg]
    rfl
  | v :: rest, i, cur, w, hg, hfz, hl, h1 => by
    have hi : o + i < cur.size := by simp at hl; omega
    have hadd : (⟨g, o, none⟩ : Addr).add i = ⟨g, o + i, none⟩ := by unfold Addr.add; split <;> simp_all
    have hcell : w.cell? ⟨g, o + i, none⟩ = some cur[o + i] := by simp [World.cell?, hg, hi]
    have hfro : w.frozen? ⟨g, o + i, none⟩ = false := by
      obtain ⟨lo, hi'⟩ := fz
      simp only [World.frozen?, hg, Bool.and_eq_false_iff, decide_eq_false_iff_not]
      rcases hfz with hf | hf
      · injection hf with h1 h2; subst h1 h2; right; omega
      · left; simp only at hf; omega
    have hst : (store ((⟨g, o, none⟩ : Addr).add i) v).run P w = .ok () (w.setRow g (cur.setIfInBounds (o + i) v)) := by
      rw [hadd, run_store P w _ v _ (h1 v (by simp)), hcell]
      simp [hfro, setCell_eq_setRow w g (o + i) cur t fz v hg]
    have ih := run_storeCells_free P g o t fz rest (i + 1) (cur.setIfInBounds (o + i) v) (w.setRow g (cur.setIfInBounds (o + i) v)) (setRow_heap w g cur _ t _ hg) (hfz.row (by simp)) (by simp at hl ⊢; omega) (fun x hx => h1 x (by simp [hx]))
    simp only [storeCells, Sem.run_bind, hst, Result.andThen_ok, ih, setRow_setRow]
    congr 3
    have e := list_seg_step cur.toList (o + i) v rest (by simp at hl ⊢; omega)
    simpa [Array.toList_setIfInBounds, Nat.add_assoc] using e

section
variable {P : Program} (w : World)
/-- append of a slice's elements onto a slice of the call's own -/
theorem run_append_Own (B : Nat) (t ty e : TypeId) (i : TypeInfo) (z : Value) (size bytes : Nat) (ht : P.underlying t = some (.slice e)) (hi : P.info? e = some i) (hz : i.zero = some z)
    (hsize : i.size = size) (hby : i.bytes = bytes) (hzs : z.cells.size = size) (hsz : 0 < size)
    (v : Value) (n : Nat) (xs : List Value) (hown : Own w B e size v n xs)
    (A : Option Addr) (m c : Nat) (news : List Value) (hr : Rd w A m size news) (h1 : ∀ u ∈ news, u.oneCell' = true)
    (h63 : n + m ≤ maxLen) (hbytes : (n + m) * bytes ≤ 140737488355328) (hbase : B ≤ w.heap.size) :
    ∃ v' w', (Builtin.append_ #[t, t] ty #[v, .slice A m c]).run P w = .ok v' w' ∧ Own w' B e size v' (n + m) (xs ++ news) ∧ w.grownBy w' (blkOf v) ∧ (blkOf v' = blkOf v ∨ blkOf v' = some w.heap.size) := by
  subst hsize
  subst hby
  have hsmall : n + m ≤ 9223372036854775807 := by simp only [maxLen] at h63; omega
  have hlen : (xs ++ news).length = (n + m) * i.size := by rw [List.length_append, hown.1, hr.1, Nat.add_mul]
  by_cases hm : m = 0
  · subst hm
    have hn : news = [] := List.eq_nil_of_length_eq_zero (by simpa using hr.1)
    subst hn
    refine ⟨v, w, ?_, by simpa using hown, World.grownBy.refl w _, .inl rfl⟩
    rcases hown.2 with ⟨A', rfl, rfl⟩ | ⟨g, cap, cur, fz, rfl, _, _, _, hnc, _⟩
    · cases A <;> cases A' <;> simp [Builtin.append_, run_underlying ht, Go.sizeOf, typeInfo, hi, Builtin.lenOf, Builtin.firstCells, loadCells, loadCellsFrom, storeCells]
    · cases A <;> simp [Builtin.append_, run_underlying ht, Go.sizeOf, typeInfo, hi, Builtin.lenOf, Builtin.firstCells, loadCells, loadCellsFrom, hnc, storeCells]
  · obtain ⟨a, rfl, hnews⟩ := hr.2 (by omega)
    have hl := hr.1
    obtain ⟨A', cap, rfl, hnc, hcm, hrd⟩ := hown.slice
    by_cases hroom : n + m ≤ cap
    · rcases hown.2 with ⟨_, hv, h0⟩ | ⟨g, cap', cur, fz, hv, hbg, hg, hfz, _, _, hcs, htake⟩
      · injection hv with _ _ hc0; omega
      · injection hv with hA _ hc0
        subst hA hc0
        have hfit : n * i.size + news.length ≤ cur.size := by rw [hl, ← Nat.add_mul]; exact Nat.le_trans (Nat.mul_le_mul_right _ hroom) hcs
        have hf := run_firstCells_some (P := P) w i.size m a m c news hl hnews
        have hst := run_storeCells_free P g (n * i.size) e fz news 0 cur w hg hfz (by simpa using hfit) h1
        simp only [Nat.add_zero] at hst
        have hrun : (Builtin.append_ #[t, t] ty #[.slice (some ⟨g, 0, none⟩) n (cap' + 1), .slice (some a) m c]).run P w =
            .ok (.slice (some ⟨g, 0, none⟩) (n + m) (cap' + 1)) (w.setRow g (cur.toList.take (n * i.size) ++ news ++ cur.toList.drop (n * i.size + news.length)).toArray) := by
          simp [Builtin.append_, run_underlying ht, Go.sizeOf, typeInfo, hi, Builtin.lenOf, hroom, hf, Addr.add_lit, hst]
        have hsz2 : (cur.toList.take (n * i.size) ++ news ++ cur.toList.drop (n * i.size + news.length)).toArray.size = cur.size := by
          simp only [List.size_toArray, List.length_append, List.length_take, List.length_drop, Array.length_toList]
          omega
        refine ⟨_, _, hrun, Own.mk_ hlen hbg (setRow_heap w g cur _ e _ hg) (hfz.row hsz2) hroom hcm (by rw [hsz2]; exact hcs) ?_, ⟨rfl, rfl, rfl, by simp, fun k _ hk => setRow_other w g k _ (fun e => hk (by simp [blkOf, e]))⟩, .inl rfl⟩
        rw [htake, ← hlen]
        exact List.take_left
    · have hge := grownCap_ge w (n + m) cap e
      have hcm2 : grownCap w (n + m) cap e ≤ maxLen := grownCap_le_maxLen w (n + m) cap e h63
      have hgr : ∀ (o : Obj) (row : Option Nat), w.grownBy (w.drew.alloc o) row := fun o row => ⟨rfl, rfl, rfl, by simp, fun k hk _ => Below.heap_alloc w.drew _ k hk⟩
      have hown2 : Own (w.drew.alloc (.cells (xs.toArray ++ news.toArray ++ Builtin.zeroCells z.cells (grownCap w (n + m) cap e - (n + m))) e)) B e i.size (.slice (some ⟨w.heap.size, 0, none⟩) (n + m) (grownCap w (n + m) cap e)) (n + m) (xs ++ news) := by
        refine Own.mk_ hlen hbase (Go.heap_alloc_new w.drew _) (.inl rfl) hge hcm2 (Nat.le_of_eq ?_) ?_
        · simp only [Array.size_append, List.size_toArray, size_zeroCells, hzs, hown.1, hl, ← Nat.add_mul]
          congr 1
          omega
        · simp only [Array.toList_append, List.append_assoc]
          rw [← List.append_assoc, ← hlen]
          exact List.take_left
      have hbk : blkOf (.slice (some ⟨w.heap.size, 0, none⟩) (n + m) (grownCap w (n + m) cap e)) = some w.heap.size := by
        obtain ⟨q, hq⟩ : ∃ q, grownCap w (n + m) cap e = q + 1 := ⟨grownCap w (n + m) cap e - 1, by omega⟩
        rw [hq]; rfl
      cases A' with
      | none =>
        rcases hown.2 with ⟨_, hv, h0⟩ | ⟨g, cap', cur, fz, hv, _⟩
        · injection hv with _ _ hc0
          subst h0 hc0
          have hx : xs = [] := List.eq_nil_of_length_eq_zero (by simpa using hown.1)
          subst hx
          have hr := run_append_nil (P := P) w t ty e i z ht hi hz a m c news hl hnews (by omega) (by omega) (by have hb := hbytes; simp only [Nat.zero_add] at hb; omega)
          simp only [Nat.zero_add, List.nil_append, Array.empty_append] at hown2 hbk hr ⊢
          exact ⟨_, _, hr, hown2, hgr _ _, .inr hbk⟩
        · injection hv with hA; cases hA
      | some ad =>
        have holds : ∀ j u, xs[j]? = some u → w.cell? (ad.add j) = some u := by
          intro j u hu
          rcases Nat.eq_zero_or_pos n with h0 | h0
          · have hx0 : xs = [] := List.eq_nil_of_length_eq_zero (by rw [hown.1, h0, Nat.zero_mul])
            rw [hx0] at hu; simp at hu
          · obtain ⟨ad', had, hcell⟩ := hrd.2 h0
            injection had with had
            subst had
            exact hcell j u hu
        have hr := run_append_grow (P := P) w t ty e i z ht hi hz ad n cap xs hown.1 holds a m c news hl hnews (by omega) (by omega) (growslice_fits (by omega) hbytes)
        exact ⟨_, _, hr, hown2, hgr _ _, .inr hbk⟩

theorem wp_append_Own {o : Oper} {a : Act} {K : Act → World → Prop} {Q : Exit → Act → World → Prop} (s x : Operand) (t : TypeId)
    (ho : o.op = .call { callee := .builtin .append, args := #[s, x], argTypes := #[t, t] })
    (B : Nat) (e : TypeId) (i : TypeInfo) (z : Value) (size bytes : Nat) (ht : P.underlying t = some (.slice e)) (hi : P.info? e = some i) (hz : i.zero = some z)
    (hsize : i.size = size) (hby : i.bytes = bytes) (hzs : z.cells.size = size) (hsz : 0 < size)
    (v : Value) (n : Nat) (xs : List Value) (hs : a.eval s = v) (hown : Own w B e size v n xs)
    (A : Option Addr) (m c : Nat) (news : List Value) (hx : a.eval x = .slice A m c) (hr : Rd w A m size news) (h1 : ∀ u ∈ news, u.oneCell' = true)
    (h63 : n + m ≤ maxLen) (hbytes : (n + m) * bytes ≤ 140737488355328) (hbase : B ≤ w.heap.size)
    (h : ∀ v' w', Own w' B e size v' (n + m) (xs ++ news) → w.grownBy w' (blkOf v) → (blkOf v' = blkOf v ∨ blkOf v' = some w.heap.size) → K (a.put o.dst v') w') : o.wp P a w K Q := by
  obtain ⟨v', w', hrun, h2, h3, h4⟩ := run_append_Own (P := P) w B t o.type e i z size bytes ht hi hz hsize hby hzs hsz v n xs hown A m c news hr h1 h63 hbytes hbase
  unfold Oper.wp execOp
  simp only [ho, resolve, invoke, builtin, Sem.run_bind, Sem.run_pure, Result.andThen_ok, List.map_toArray, List.map_cons, List.map_nil, hs, hx, hrun]
  exact h v' w' h2 h3 h4
theorem wpList_append_Own {ops : Array Oper} {rest : List Oper} {o : Oper} {a : Act} {Q : Exit → Act → World → Prop} (hgd : o.guard = none) (s x : Operand) (t : TypeId)
    (ho : o.op = .call { callee := .builtin .append, args := #[s, x], argTypes := #[t, t] })
    (B : Nat) (e : TypeId) (i : TypeInfo) (z : Value) (size bytes : Nat) (ht : P.underlying t = some (.slice e)) (hi : P.info? e = some i) (hz : i.zero = some z)
    (hsize : i.size = size) (hby : i.bytes = bytes) (hzs : z.cells.size = size) (hsz : 0 < size)
    (v : Value) (n : Nat) (xs : List Value) (hs : a.eval s = v) (hown : Own w B e size v n xs)
    (A : Option Addr) (m c : Nat) (news : List Value) (hx : a.eval x = .slice A m c) (hr : Rd w A m size news) (h1 : ∀ u ∈ news, u.oneCell' = true)
    (h63 : n + m ≤ maxLen) (hbytes : (n + m) * bytes ≤ 140737488355328) (hbase : B ≤ w.heap.size)
    (h : ∀ v' w', Own w' B e size v' (n + m) (xs ++ news) → w.grownBy w' (blkOf v) → (blkOf v' = blkOf v ∨ blkOf v' = some w.heap.size) → wpList P ops Q rest (a.put o.dst v') w') : wpList P ops Q (o :: rest) a w :=
  wpList_plain hgd fun _ hK => wp_append_Own w s x t ho B e i z size bytes ht hi hz hsize hby hzs hsz v n xs hs hown A m c news hx hr h1 h63 hbytes hbase fun v' w' h2 h3 h4 => hK _ _ (h v' w' h2 h3 h4)
end

section
variable {P : Program}
/-- as one step of a region that draws its order -/
theorem step_append_Own (w : World) {ops : Array Oper} {o : Oper} {a : Act} {K : Act → World → Prop} {Q : Exit → Act → World → Prop} {E : Prop} (hgd : o.guard = none) (s x : Operand) (t : TypeId)
    (ho : o.op = .call { callee := .builtin .append, args := #[s, x], argTypes := #[t, t] })
    (B : Nat) (e : TypeId) (i : TypeInfo) (z : Value) (size bytes : Nat) (ht : P.underlying t = some (.slice e)) (hi : P.info? e = some i) (hz : i.zero = some z)
    (hsize : i.size = size) (hby : i.bytes = bytes) (hzs : z.cells.size = size) (hsz : 0 < size)
    (v : Value) (n : Nat) (xs : List Value) (hs : a.eval s = v) (hown : Own w B e size v n xs)
    (A : Option Addr) (m c : Nat) (news : List Value) (hx : a.eval x = .slice A m c) (hr : Rd w A m size news) (h1 : ∀ u ∈ news, u.oneCell' = true)
    (h63 : n + m ≤ maxLen) (hbytes : (n + m) * bytes ≤ 140737488355328) (hbase : B ≤ w.heap.size)
    (h : ∀ v' w', Own w' B e size v' (n + m) (xs ++ news) → w.grownBy w' (blkOf v) → (blkOf v' = blkOf v ∨ blkOf v' = some w.heap.size) → K (a.put o.dst v') w') :
    if Region.wanted o (yielded ops a.tmps) = true then Oper.wp P o a w K Q else E := by
  have hw : Region.wanted o (yielded ops a.tmps) = true := by simp [Region.wanted, hgd]
  rw [if_pos hw]
  exact wp_append_Own w s x t ho B e i z size bytes ht hi hz hsize hby hzs hsz v n xs hs hown A m c news hx hr h1 h63 hbytes hbase h
end
theorem Rd.later {w w' : World} {A : Option Addr} {n size : Nat} {xs : List Value} (h : Rd w A n size xs) (hb : Below w.heap.size w w') : Rd w' A n size xs := by
  refine ⟨h.1, fun hn => ?_⟩
  obtain ⟨ad, rfl, hc⟩ := h.2 hn
  refine ⟨ad, rfl, fun j u hu => ?_⟩
  have := hc j u hu
  rw [hb.cell (by have := World.block_lt_of_cell? w _ this; exact this)]
  exact this
theorem Rd.take {w : World} {A : Option Addr} {n size : Nat} {xs : List Value} (h : Rd w A n size xs) {k : Nat} (hk : k ≤ n) : Rd w A k size (xs.take (k * size)) := by
  refine ⟨by rw [List.length_take, h.1]; exact Nat.min_eq_left (Nat.mul_le_mul_right _ hk), fun hn => ?_⟩
  obtain ⟨ad, rfl, hc⟩ := h.2 (by omega)
  refine ⟨ad, rfl, fun j u hu => ?_⟩
  rw [List.getElem?_take] at hu
  split at hu
  · exact hc j u hu
  · cases hu
theorem Rd.dropA {w : World} {ad : Addr} {n size : Nat} {xs : List Value} (h : Rd w (some ad) n size xs) {k : Nat} (hk : k ≤ n) {A : Option Addr} (hA : k < n → A = some (ad.add (k * size))) :
    Rd w A (n - k) size (xs.drop (k * size)) := by
  refine ⟨by rw [List.length_drop, h.1, Nat.sub_mul], fun hn => ⟨_, hA (by omega), fun j u hu => ?_⟩⟩
  obtain ⟨ad', had, hc⟩ := h.2 (by omega)
  injection had with had
  subst had
  rw [List.getElem?_drop] at hu
  have := hc _ u hu
  have e : (ad.add (k * size)).add j = ad.add (k * size + j) := by
    unfold Addr.add
    by_cases hi : k * size = 0 <;> by_cases hj : j = 0 <;> simp [hi, hj, Nat.add_assoc]
  rw [e]; exact this
/-- a slice's beginning, its room cut -/
theorem Own.cut {w : World} {B : Nat} {e : TypeId} {size g cap n : Nat} {xs : List Value} (h : Own w B e size (.slice (some ⟨g, 0, none⟩) n cap) n xs) {p : Nat} (hp : p ≤ n) :
    Own w B e size (.slice (some ⟨g, 0, none⟩) p p) p (xs.take (p * size)) := by
  have hl : (xs.take (p * size)).length = p * size := by
    rw [List.length_take, h.1]; exact Nat.min_eq_left (Nat.mul_le_mul_right _ hp)
  rcases h.2 with ⟨A, hv, h0⟩ | ⟨g', cap', cur, fz, hv, hb, hgg, hf, hnc, hcm, hcs, ht⟩
  · obtain rfl : p = 0 := by omega
    exact ⟨hl, .inl ⟨_, rfl, rfl⟩⟩
  · injection hv with h1 _ h3
    injection h1 with h1
    injection h1 with h1
    subst h1
    refine Own.mk_ hl hb hgg hf (Nat.le_refl _) (by omega) (Nat.le_trans (Nat.mul_le_mul_right _ (by omega)) hcs) ?_
    rw [← ht, List.take_take, Nat.min_eq_left (Nat.mul_le_mul_right _ hp)]
/-- what stands behind a place of a slice -/
theorem Rd.drop {w : World} {g n size : Nat} {xs : List Value} (h : Rd w (some ⟨g, 0, none⟩) n size xs) {k : Nat} (hk : k ≤ n) {A : Option Addr} (hA : k < n → A = some ⟨g, k * size, none⟩) :
    Rd w A (n - k) size (xs.drop (k * size)) := by
  refine ⟨by rw [List.length_drop, h.1, Nat.sub_mul], fun hn => ⟨_, hA (by omega), fun j u hu => ?_⟩⟩
  obtain ⟨ad, had, hc⟩ := h.2 (by omega)
  injection had with had
  subst had
  rw [List.getElem?_drop] at hu
  have := hc _ u hu
  rw [add_zero] at this
  rw [Addr.add_lit]; exact this
/-- one element of one cell, in a block that was just laid -/
theorem Rd.one (w : World) (x : Value) (t : TypeId) : Rd (w.alloc (.cells #[x] t)) (some ⟨w.heap.size, 0, none⟩) 1 1 [x] :=
  ⟨rfl, fun _ => ⟨_, rfl, fun j u hu => by
    cases j with
    | zero =>
      rw [add_zero, (Blk.new w t #[x]).cell]; simpa using hu
    | succ j => simp at hu⟩⟩
/-- a slice whose elements were just laid -/
theorem Own.lit (w : World) (e : TypeId) (cur : Array Value) (hm : cur.size ≤ maxLen) {B : Nat} (hB : B ≤ w.heap.size) :
    Own (w.alloc (.cells cur e)) B e 1 (.slice (some ⟨w.heap.size, 0, none⟩) cur.size cur.size) cur.size cur.toList :=
  Own.mk_ (by simp) hB (Go.heap_alloc_new w _) (.inl rfl) (Nat.le_refl _) hm (by simp) (List.take_of_length_le (by simp))
theorem Own.set_ {w : World} {B : Nat} {e : TypeId} {size g cap n : Nat} {xs : List Value} (h : Own w B e size (.slice (some ⟨g, 0, none⟩) n cap) n xs) (j : Nat) (u : Value) : Own (w.setCell ⟨g, j, none⟩ u) B e size (.slice (some ⟨g, 0, none⟩) n cap) n (xs.set j u) := by
  refine ⟨by rw [List.length_set]; exact h.1, ?_⟩
  rcases h.2 with h0 | ⟨g', cap', cur, fz, hv, hb, hg, hf, hnc, hcm, hcs, ht⟩
  · exact .inl h0
  · injection hv with h1 _ h3
    injection h1 with h1
    injection h1 with h1
    subst h1 h3
    refine .inr ⟨_, cap', cur.setIfInBounds j u, fz, rfl, hb, ?_, hf.row (by simp), hnc, hcm, by simpa using hcs, ?_⟩
    · rw [setCell_eq_setRow w _ j cur e fz u hg]; exact setRow_heap w _ cur _ e fz hg
    · rw [Array.toList_setIfInBounds, List.take_set, ht]
/-- a value's block is the one that it had, or lies beyond w -/
def Moved (w : World) (v v' : Value) : Prop := blkOf v' = blkOf v ∨ ∀ k, blkOf v' = some k → w.heap.size ≤ k
theorem Moved.refl (w : World) (v : Value) : Moved w v v := .inl rfl
/-- the cells of texts -/
def strs (l : List (List UInt8)) : List Value := l.map fun s => .string ⟨s.toArray⟩
theorem strs_length (l : List (List UInt8)) : (strs l).length = l.length := by simp [strs]
theorem strs_one (l : List (List UInt8)) : ∀ u ∈ strs l, u.oneCell' = true := by
  intro u hu; simp only [strs, List.mem_map] at hu; obtain ⟨b, _, rfl⟩ := hu; rfl
theorem strs_append (a b : List (List UInt8)) : strs (a ++ b) = strs a ++ strs b := by simp [strs]
theorem strs_get {l : List (List UInt8)} {j : Nat} (hj : j < l.length) : (strs l)[j]? = some (.string ⟨l[j].toArray⟩) := by simp [strs, hj]
/-- the cells of bytes -/
def bc (l : List UInt8) : List Value := l.map fun b => .int .u8 (b.toNat : Int)
theorem bc_length (l : List UInt8) : (bc l).length = l.length := by simp [bc]
theorem bc_one (l : List UInt8) : ∀ u ∈ bc l, u.oneCell' = true := by
  intro u hu; simp only [bc, List.mem_map] at hu; obtain ⟨b, _, rfl⟩ := hu; rfl
theorem bc_append (a b : List UInt8) : bc (a ++ b) = bc a ++ bc b := by simp [bc]
theorem bc_get {l : List UInt8} {j : Nat} (hj : j < l.length) : (bc l)[j]? = some (.int .u8 (l[j].toNat : Int)) := by simp [bc, hj]
theorem strCells_eq (s : ByteArray) : Lib.strCells s = bc s.data.toList := rfl

section
variable {P : Program}
/-- a string's bytes in new memory -/
theorem run_bytes_new (w : World) (src dst e : TypeId) (s : ByteArray) (hs : P.underlying src = some .string) (hd : P.underlying dst = some (.slice e)) (he : P.underlying e = some (.int .u8)) (hm : s.size ≤ maxLen) :
    ∃ v w', (convert src dst (.string s)).run P w = .ok v w' ∧ (∀ B, B ≤ w.heap.size → Own w' B e 1 v s.size (bc s.data.toList)) ∧ w.grownBy w' none ∧ ∃ cap, v = .slice (some ⟨w.heap.size, 0, none⟩) s.size cap := by
  have hge := grownCap_ge w s.size 0 e
  have h2 : s.data.size = s.size := rfl
  refine ⟨_, _, run_bytes_of_string w src dst e s hs hd he, fun B hB => Own.mk_ (by simp [bc]) hB (Go.heap_alloc_new w.drew _) (.inr ?_) hge (grownCap_le_maxLen w s.size 0 e hm) ?_ ?_, ⟨rfl, rfl, rfl, by simp, fun k hk _ => Below.heap_alloc w.drew _ k hk⟩, _, rfl⟩
  · exact Nat.le_refl _
  · simp [bytesRow]; omega
  · have e1 : (bytesRow s (grownCap w s.size 0 e)).toList = bc s.data.toList ++ (Array.replicate (grownCap w s.size 0 e - s.size) (Value.int .u8 0)).toList := by
      simp [bytesRow, bc]
    rw [e1, Nat.mul_one, List.take_append_of_le_length (by rw [bc_length]; simp [h2]), List.take_of_length_le (by rw [bc_length]; simp [h2])]

theorem wpList_bytes_new {ops : Array Oper} {rest : List Oper} {o : Oper} {a : Act} {w : World} {Q : Exit → Act → World → Prop} (hgd : o.guard = none) (src dst : TypeId) (x : Operand) (ho : o.op = .convert src dst x)
    (e : TypeId) (s : ByteArray) (hx : a.eval x = .string s) (hs : P.underlying src = some .string) (hd : P.underlying dst = some (.slice e)) (he : P.underlying e = some (.int .u8)) (hm : s.size ≤ maxLen)
    (h : ∀ v w' cap, v = .slice (some ⟨w.heap.size, 0, none⟩) s.size cap → (∀ B, B ≤ w.heap.size → Own w' B e 1 v s.size (bc s.data.toList)) → w.grownBy w' none → wpList P ops Q rest (a.put o.dst v) w') : wpList P ops Q (o :: rest) a w := by
  obtain ⟨v, w', hrun, h1, h2, cap, hv⟩ := run_bytes_new (P := P) w src dst e s hs hd he hm
  refine wpList_plain hgd fun K hK => ?_
  unfold Oper.wp execOp
  simp only [ho, hx, Sem.run_bind, hrun, Result.andThen_ok]
  exact hK _ _ (h v w' cap hv h1 h2)

/-- the text of bytes -/
theorem run_string_of (w : World) (src dst e : TypeId) (A : Option Addr) (n cap : Nat) (l : List UInt8) (hs : P.underlying src = some (.slice e)) (he : P.underlying e = some (.int .u8)) (hd : P.underlying dst = some .string)
    (hr : Rd w A n 1 (bc l)) : (convert src dst (.slice A n cap)).run P w = .ok (.string ⟨l.toArray⟩) w := by
  have hl : l.length = n := by have := hr.1; rw [bc_length] at this; omega
  subst hl
  rcases Nat.eq_zero_or_pos l.length with h0 | h0
  · have hl0 : l = [] := List.eq_nil_of_length_eq_zero h0
    subst hl0
    cases A with
    | none =>
      rw [run_convert_bytes_string w src dst e none _ cap hs he hd]
      rfl
    | some ad => exact run_convert_bytes_back w src dst e ad cap [] hs he hd (fun j hj => absurd hj (by simp))
  · obtain ⟨ad, rfl, hc⟩ := hr.2 h0
    exact run_convert_bytes_back w src dst e ad cap l hs he hd (fun j hj => hc j _ (bc_get hj))
theorem wpList_string_of {ops : Array Oper} {rest : List Oper} {o : Oper} {a : Act} {w : World} {Q : Exit → Act → World → Prop} (hgd : o.guard = none) (src dst : TypeId) (x : Operand) (ho : o.op = .convert src dst x)
    (e : TypeId) (v : Value) (B n : Nat) (l : List UInt8) (hx : a.eval x = v) (hs : P.underlying src = some (.slice e)) (he : P.underlying e = some (.int .u8)) (hd : P.underlying dst = some .string) (hown : Own w B e 1 v n (bc l))
    (h : wpList P ops Q rest (a.put o.dst (.string ⟨l.toArray⟩)) w) : wpList P ops Q (o :: rest) a w := by
  obtain ⟨A, cap, rfl, _, _, hr⟩ := hown.slice
  refine wpList_plain hgd fun K hK => ?_
  unfold Oper.wp execOp
  simp only [ho, hx, Sem.run_bind, run_string_of w src dst e A n cap l hs he hd hr, Result.andThen_ok]
  exact hK _ _ h
end
end Tran
/- Arguments opened: a slice whose elements are known by their cells; small numbers. Nothing of the program. -/
namespace Tran
open Go Go.RowKit Go.ChangeShapes Go.WideShapes Go.Deep
section
variable {H : Type} {enc : TypeId × Value → H} {P : Program} {w : World} {base : Nat} {spare : Nat → Bool} {held : Bool} {fuel : Nat} {t : TypeId} {cs : List Value} {x : DataW H × List MemPlace}
theorem trod_u8 (ht : P.underlying t = some (.int .u8)) (h : DataW.trod enc P w base spare held fuel t cs = some x) : ∃ m : Nat, cs = [.int .u8 (m : Int)] ∧ m < 256 := by
  obtain ⟨n, rfl, _, wn⟩ := DataW.trod_int ht h
  have b := bounds_u8 wn
  exact ⟨n.toNat, by rw [Int.toNat_of_nonneg b.1], by omega⟩
theorem trod_u16 (ht : P.underlying t = some (.int .u16)) (h : DataW.trod enc P w base spare held fuel t cs = some x) : ∃ m : Nat, cs = [.int .u16 (m : Int)] ∧ m < 65536 := by
  obtain ⟨n, rfl, _, wn⟩ := DataW.trod_int ht h
  have b := bounds_u16 wn
  exact ⟨n.toNat, by rw [Int.toNat_of_nonneg b.1], by omega⟩
theorem trod_u32 (ht : P.underlying t = some (.int .u32)) (h : DataW.trod enc P w base spare held fuel t cs = some x) : ∃ m : Nat, cs = [.int .u32 (m : Int)] ∧ m < 4294967296 := by
  obtain ⟨n, rfl, _, wn⟩ := DataW.trod_int ht h
  have b := bounds_u32 wn
  exact ⟨n.toNat, by rw [Int.toNat_of_nonneg b.1], by omega⟩
theorem trod_u64 (ht : P.underlying t = some (.int .u64)) (h : DataW.trod enc P w base spare held fuel t cs = some x) : ∃ m : Nat, cs = [.int .u64 (m : Int)] ∧ m < 2 ^ 64 := by
  obtain ⟨n, rfl, _, wn⟩ := DataW.trod_int ht h
  have b := bounds_u64 wn
  exact ⟨n.toNat, by rw [Int.toNat_of_nonneg b.1], by omega⟩
theorem trod_str (ht : P.underlying t = some .string) (h : DataW.trod enc P w base spare held fuel t cs = some x) : ∃ s : List UInt8, cs = [.string ⟨s.toArray⟩] ∧ x.1 = .lit (.string s) := by
  obtain ⟨s, rfl, rfl, _⟩ := DataW.trod_string ht h
  exact ⟨s.data.toList, by rw [← str_mk], rfl⟩
/-- an array of so many 32-bit numbers -/
theorem trod_u32s {n : Nat} {e : TypeId} (ht : P.underlying t = some (.array n e)) (he : P.underlying e = some (.int .u32)) (hc : P.cellsOf e = 1) (hct : P.cellsOf t = n) (h : DataW.trod enc P w base spare held fuel t cs = some x) :
    ∃ xs : List Nat, xs.length = n ∧ cs = xs.map (fun x => Value.int .u32 (x : Nat)) ∧ ∀ x ∈ xs, x < 2 ^ 32 := by
  obtain ⟨ys, m, _, _, hl, hyl, hf⟩ := DataW.trod_array ht h
  rw [hct] at hl
  have hx : ∀ i, ∃ k : Nat, i < n → cs[i]? = some (Value.int .u32 (k : Int)) ∧ k < 2 ^ 32 := by
    intro i
    by_cases hi : i < n
    · have h1 := hf i hi
      rw [hc, Nat.mul_one, List.getElem?_eq_getElem (by omega : i < ys.length)] at h1
      obtain ⟨k, hk, hk2⟩ := trod_u32 he h1
      refine ⟨k, fun _ => ⟨?_, hk2⟩⟩
      have e : (cs.drop i).take 1 = [cs[i]'(by omega)] := by rw [List.drop_eq_getElem_cons (by omega)]; rfl
      rw [e] at hk
      rw [List.getElem?_eq_getElem (by omega)]
      injection hk with hk
      rw [hk]
    · exact ⟨0, fun h => absurd h hi⟩
  obtain ⟨F, hF⟩ := Classical.axiomOfChoice hx
  refine ⟨(List.range n).map F, by simp, ?_, ?_⟩
  · apply List.ext_getElem?
    intro i
    by_cases hi : i < n
    · rw [(hF i hi).1]; simp [hi]
    · rw [List.getElem?_eq_none (by omega), List.getElem?_eq_none (by simp; omega)]
  · intro y hy
    obtain ⟨i, hi, rfl⟩ := List.mem_map.1 hy
    exact (hF i (List.mem_range.1 hi)).2
end
theorem flat_get {α : Type} (f : α → List Value) (m : Nat) : ∀ (l : List α) (_ : ∀ x ∈ l, (f x).length = m) (i j : Nat), j < m → (l.flatMap f)[i * m + j]? = (l[i]?).bind fun x => (f x)[j]?
  | [], _, i, j, _ => by simp
  | x :: l, hm, 0, j, hj => by
    rw [List.flatMap_cons, Nat.zero_mul, Nat.zero_add, List.getElem?_append_left (by rw [hm x (by simp)]; exact hj)]; rfl
  | x :: l, hm, i + 1, j, hj => by
    have ih := flat_get f m l (fun y hy => hm y (by simp [hy])) i j hj
    have hx := hm x (by simp)
    rw [List.flatMap_cons, List.getElem?_append_right (by rw [hx, Nat.succ_mul]; omega), hx, show (i + 1) * m + j - m = i * m + j by rw [Nat.succ_mul]; omega, ih]
    rfl
theorem flat_len {α : Type} (f : α → List Value) (m : Nat) : ∀ (l : List α) (_ : ∀ x ∈ l, (f x).length = m), (l.flatMap f).length = l.length * m
  | [], _ => by simp
  | x :: l, hm => by rw [List.flatMap_cons, List.length_append, hm x (by simp), flat_len f m l (fun y hy => hm y (by simp [hy])), List.length_cons, Nat.succ_mul, Nat.add_comm]
theorem weightsAll_in {H : Type} {P : Program} {e : TypeId} : ∀ {l : List (DataW H)} {d : DataW H}, d ∈ l → ∀ n ∈ d.weights P e, n ∈ DataW.weightsAll P e l
  | d0 :: l, d, hd, n, hn => by
    simp only [DataW.weightsAll, List.mem_append]
    rcases List.mem_cons.1 hd with rfl | hd
    · exact .inl hn
    · exact .inr (weightsAll_in hd n hn)
theorem weightsEach_in {H : Type} {P : Program} : ∀ {ts : List TypeId} {l : List (DataW H)} {i : Nat} {t : TypeId} {d : DataW H}, ts[i]? = some t → l[i]? = some d → ∀ n ∈ d.weights P t, n ∈ DataW.weightsEach P ts l
  | t0 :: ts, d0 :: l, 0, t, d, ht, hd, n, hn => by
    simp only [List.getElem?_cons_zero, Option.some.injEq] at ht hd
    subst ht hd
    simp only [DataW.weightsEach, List.mem_append]
    exact .inl hn
  | t0 :: ts, d0 :: l, i + 1, t, d, ht, hd, n, hn => by
    simp only [List.getElem?_cons_succ] at ht hd
    simp only [DataW.weightsEach, List.mem_append]
    exact .inr (weightsEach_in ht hd n hn)
/-- a slice opened: its elements are read by their cells -/
theorem rows_of {α : Type} {H : Type} {enc : TypeId × Value → H} {P : Program} {w : World} {base : Nat} {held : Bool} {fuel : Nat} {t e : TypeId} {v : Value} {x : DataW H × List MemPlace} (a0 : α) (F : α → List Value) (m : Nat)
    (ht : P.underlying t = some (.slice e)) (hc : P.cellsOf e = m) (Good : α → Prop) (hm : ∀ a, Good a → (F a).length = m)
    (hopen : ∀ n cs y, DataW.trod enc P w base (fun _ => true) held n e cs = some y → cs.length = m → (∀ k ∈ y.1.weights P e, k ≤ reachBytes) → ∃ a, cs = F a ∧ Good a)
    (h : DataW.trod enc P w base (fun _ => true) held fuel t [v] = some x) (hz : ∀ n ∈ x.1.weights P t, n ≤ reachBytes) :
    ∃ (A : Option Addr) (cap : Nat) (l : List α), v = .slice A l.length cap ∧ Rd w A l.length m (l.flatMap F) ∧ l.length ≤ maxLen ∧ l.length * P.bytesOf e ≤ reachBytes ∧ ∀ a ∈ l, Good a := by
  rcases open_slice ht h with ⟨hcs, hx⟩ | ⟨a, len, cap, m', n, D, Pl, hcs, hb, hl, hcm, hmm, hx, hi⟩
  · obtain rfl : v = .slice none 0 0 := by simpa using hcs
    exact ⟨none, 0, [], rfl, ⟨by simp, fun h => absurd h (by simp)⟩, Nat.zero_le _, by simp, fun _ h => by simp at h⟩
  · obtain rfl : v = .slice (some a) len cap := by simpa using hcs
    simp only [if_true] at hmm
    subst hmm
    have hf : ∀ i, ∃ y : α, i < len → (∀ j, j < m → w.cell? (a.add (i * m + j)) = (F y)[j]?) ∧ Good y := by
      intro i
      by_cases hil : i < len
      · obtain ⟨cs', hcc, ht'⟩ := hi i (by omega)
        rw [hc] at hcc
        obtain ⟨_, hcl, hat⟩ := World.cells?_some hcc
        obtain ⟨y, rfl, hg⟩ := hopen n cs' _ ht' hcl (fun k hk => hz k (by
          subst hx
          simp only [DataW.weights, ht]
          exact List.mem_cons_of_mem _ (List.mem_append_left _ (weightsAll_in (List.mem_map.2 ⟨i, List.mem_range.2 hil, rfl⟩) _ hk))))
        refine ⟨y, fun _ => ⟨fun j hj => ?_, hg⟩⟩
        rw [← Go.Deep.add_add, hat j hj]
      · exact ⟨a0, fun h => absurd h hil⟩
    obtain ⟨G, hG⟩ := Classical.axiomOfChoice hf
    have hlen : ((List.range len).map G).length = len := by simp
    have hgd : ∀ a ∈ (List.range len).map G, Good a := by
      intro y hy
      obtain ⟨i, hir, rfl⟩ := List.mem_map.1 hy
      exact (hG i (List.mem_range.1 hir)).2
    have hgl := fun a ha => hm a (hgd a ha)
    refine ⟨some a, m', (List.range len).map G, by rw [hlen], ⟨by rw [flat_len F m _ hgl], fun hn => ⟨a, rfl, fun j u hu => ?_⟩⟩, by omega, ?_, ?_⟩
    · have hj : j < len * m := by
        have := (List.getElem?_eq_some_iff.1 hu).1
        rw [flat_len F m _ hgl, hlen] at this; exact this
      have hm0 : 0 < m := by
        rcases Nat.eq_zero_or_pos m with h0 | h0
        · rw [h0, Nat.mul_zero] at hj; omega
        · exact h0
      have hq : j / m < len := Nat.div_lt_of_lt_mul (by rw [Nat.mul_comm]; exact hj)
      have hr : j % m < m := Nat.mod_lt _ hm0
      have hjj : j / m * m + j % m = j := by rw [Nat.mul_comm]; exact Nat.div_add_mod j m
      have h1 := flat_get F m ((List.range len).map G) hgl (j / m) (j % m) hr
      rw [hjj, hu] at h1
      have h2 := (hG (j / m) hq).1 (j % m) hr
      rw [hjj] at h2
      rw [h2, h1]
      simp [hq]
    · rw [hlen]
      have h1 : ((List.range len).map D).length + ((List.range (m' - len)).map fun j => D (len + j)).length = m' := by simp; omega
      have h2 : m' * P.bytesOf e ∈ x.1.weights P t := by
        subst hx
        simp only [DataW.weights, ht]
        rw [h1]
        exact List.mem_cons_self
      have h3 := hz _ h2
      exact Nat.le_trans (Nat.mul_le_mul_right _ hl) h3
    · exact hgd
end Tran
/- An operation as data; its cells; an argument opened. -/
namespace Go.Proofs.Ytfojjklohbiffaa
open Go.RowKit Go.ChangeShapes Go.WideShapes Go.Deep Tran
set_option linter.unusedSimpArgs false
set_option linter.unusedVariables false
/-- a line that is meant -/
structure NClaim where
  lr : Nat
  ln : Nat
  vr : Nat
  vn : Nat
def NClaim.ok (c : NClaim) : Prop := c.lr < 256 ∧ c.ln < 4294967296 ∧ c.vr < 256 ∧ c.vn < 4294967296
def claimF (c : NClaim) : List Value := [.int .u8 (c.lr : Int), .int .u32 (c.ln : Int), .int .u8 (c.vr : Int), .int .u32 (c.vn : Int)]
def claimA (c : NClaim) : Array Value := #[.int .u8 (c.lr : Int), .int .u32 (c.ln : Int), .int .u8 (c.vr : Int), .int .u32 (c.vn : Int)]
theorem claimF_len (c : NClaim) : (claimF c).length = 4 := rfl
theorem claimA_list (c : NClaim) : (claimA c).toList = claimF c := rfl
/-- an operation, its lines apart -/
structure NOp where
  dr : Nat
  dn : Nat
  dep : List Nat
  time : Nat
  who : Nat
  cr : Nat
  cn : Nat
  kind : Nat
  er : Nat
  en : Nat
  to : Nat
  roles : Nat
  depth : Nat
  cap : Nat
  ar : Nat
  an : Nat
  vr : Nat
  vn : Nat
  item : Nat
  qty : Nat
  price : Nat
  lines : List NClaim
structure NOp.ok (x : NOp) : Prop where
  dr : x.dr < 256
  dn : x.dn < 4294967296
  dep8 : x.dep.length = 8
  dep : ∀ y ∈ x.dep, y < 4294967296
  time : x.time < 18446744073709551616
  who : x.who < 4294967296
  cr : x.cr < 256
  cn : x.cn < 4294967296
  kind : x.kind < 256
  er : x.er < 256
  en : x.en < 4294967296
  to : x.to < 4294967296
  roles : x.roles < 256
  depth : x.depth < 256
  cap : x.cap < 18446744073709551616
  ar : x.ar < 256
  an : x.an < 4294967296
  vr : x.vr < 256
  vn : x.vn < 4294967296
  item : x.item < 4294967296
  qty : x.qty < 4294967296
  price : x.price < 4294967296
  lines : ∀ c ∈ x.lines, c.ok
def opF (x : NOp) (lv : Value) : List Value := [.int .u8 (x.dr : Int), .int .u32 (x.dn : Int)] ++ (x.dep.map (fun y => Value.int .u32 (y : Nat)) ++ [.int .u64 (x.time : Int), .int .u32 (x.who : Int), .int .u8 (x.cr : Int), .int .u32 (x.cn : Int), .int .u8 (x.kind : Int), .int .u8 (x.er : Int), .int .u32 (x.en : Int), .int .u32 (x.to : Int), .int .u8 (x.roles : Int), .int .u8 (x.depth : Int), .int .u64 (x.cap : Int), .int .u8 (x.ar : Int), .int .u32 (x.an : Int), .int .u8 (x.vr : Int), .int .u32 (x.vn : Int), .int .u32 (x.item : Int), .int .u32 (x.qty : Int), .int .u32 (x.price : Int), lv])
def opA (x : NOp) (lv : Value) : Array Value := (opF x lv).toArray
theorem opF_len (x : NOp) (lv : Value) (h : x.dep.length = 8) : (opF x lv).length = 29 := by simp [opF, h]
theorem opA_size (x : NOp) (lv : Value) (h : x.dep.length = 8) : (opA x lv).size = 29 := by simp [opA, opF_len x lv h]
theorem op_c0 (x : NOp) (lv : Value) : (opA x lv)[0]? = some (.int .u8 (x.dr : Int)) := by simp [opA, opF]
theorem op_c1 (x : NOp) (lv : Value) : (opA x lv)[1]? = some (.int .u32 (x.dn : Int)) := by simp [opA, opF]
theorem op_c2 (x : NOp) (lv : Value) (j : Nat) (u : Value) (h : (x.dep.map fun y => Value.int .u32 (y : Nat))[j]? = some u) : (opA x lv)[2 + j]? = some u := by
  have hj : j < (x.dep.map fun y => Value.int .u32 (y : Nat)).length := (List.getElem?_eq_some_iff.1 h).1
  unfold opA opF
  rw [List.getElem?_toArray, List.getElem?_append_right (by simp), List.getElem?_append_left (by simp only [List.length_cons, List.length_nil]; omega)]
  simpa using h
theorem op_tail (x : NOp) (lv : Value) (h : x.dep.length = 8) (i : Nat) : (opA x lv)[10 + i]? = ([.int .u64 (x.time : Int), .int .u32 (x.who : Int), .int .u8 (x.cr : Int), .int .u32 (x.cn : Int), .int .u8 (x.kind : Int), .int .u8 (x.er : Int), .int .u32 (x.en : Int), .int .u32 (x.to : Int), .int .u8 (x.roles : Int), .int .u8 (x.depth : Int), .int .u64 (x.cap : Int), .int .u8 (x.ar : Int), .int .u32 (x.an : Int), .int .u8 (x.vr : Int), .int .u32 (x.vn : Int), .int .u32 (x.item : Int), .int .u32 (x.qty : Int), .int .u32 (x.price : Int), lv] : List Value)[i]? := by
  unfold opA opF
  rw [List.getElem?_toArray, List.getElem?_append_right (by simp; omega), List.getElem?_append_right (by simp [h]; omega)]
  congr 1
  simp [h]; omega
theorem op_c10 (x : NOp) (lv : Value) (h : x.dep.length = 8) : (opA x lv)[10]? = some (.int .u64 (x.time : Int)) := op_tail x lv h 0
theorem op_c11 (x : NOp) (lv : Value) (h : x.dep.length = 8) : (opA x lv)[11]? = some (.int .u32 (x.who : Int)) := op_tail x lv h 1
theorem op_c12 (x : NOp) (lv : Value) (h : x.dep.length = 8) : (opA x lv)[12]? = some (.int .u8 (x.cr : Int)) := op_tail x lv h 2
theorem op_c13 (x : NOp) (lv : Value) (h : x.dep.length = 8) : (opA x lv)[13]? = some (.int .u32 (x.cn : Int)) := op_tail x lv h 3
theorem op_c14 (x : NOp) (lv : Value) (h : x.dep.length = 8) : (opA x lv)[14]? = some (.int .u8 (x.kind : Int)) := op_tail x lv h 4
theorem op_c15 (x : NOp) (lv : Value) (h : x.dep.length = 8) : (opA x lv)[15]? = some (.int .u8 (x.er : Int)) := op_tail x lv h 5
theorem op_c16 (x : NOp) (lv : Value) (h : x.dep.length = 8) : (opA x lv)[16]? = some (.int .u32 (x.en : Int)) := op_tail x lv h 6
theorem op_c17 (x : NOp) (lv : Value) (h : x.dep.length = 8) : (opA x lv)[17]? = some (.int .u32 (x.to : Int)) := op_tail x lv h 7
theorem op_c18 (x : NOp) (lv : Value) (h : x.dep.length = 8) : (opA x lv)[18]? = some (.int .u8 (x.roles : Int)) := op_tail x lv h 8
theorem op_c19 (x : NOp) (lv : Value) (h : x.dep.length = 8) : (opA x lv)[19]? = some (.int .u8 (x.depth : Int)) := op_tail x lv h 9
theorem op_c20 (x : NOp) (lv : Value) (h : x.dep.length = 8) : (opA x lv)[20]? = some (.int .u64 (x.cap : Int)) := op_tail x lv h 10
theorem op_c21 (x : NOp) (lv : Value) (h : x.dep.length = 8) : (opA x lv)[21]? = some (.int .u8 (x.ar : Int)) := op_tail x lv h 11
theorem op_c22 (x : NOp) (lv : Value) (h : x.dep.length = 8) : (opA x lv)[22]? = some (.int .u32 (x.an : Int)) := op_tail x lv h 12
theorem op_c23 (x : NOp) (lv : Value) (h : x.dep.length = 8) : (opA x lv)[23]? = some (.int .u8 (x.vr : Int)) := op_tail x lv h 13
theorem op_c24 (x : NOp) (lv : Value) (h : x.dep.length = 8) : (opA x lv)[24]? = some (.int .u32 (x.vn : Int)) := op_tail x lv h 14
theorem op_c25 (x : NOp) (lv : Value) (h : x.dep.length = 8) : (opA x lv)[25]? = some (.int .u32 (x.item : Int)) := op_tail x lv h 15
theorem op_c26 (x : NOp) (lv : Value) (h : x.dep.length = 8) : (opA x lv)[26]? = some (.int .u32 (x.qty : Int)) := op_tail x lv h 16
theorem op_c27 (x : NOp) (lv : Value) (h : x.dep.length = 8) : (opA x lv)[27]? = some (.int .u32 (x.price : Int)) := op_tail x lv h 17
theorem op_c28 (x : NOp) (lv : Value) (h : x.dep.length = 8) : (opA x lv)[28]? = some lv := op_tail x lv h 18
theorem cells177 : Try.prog.cellsOf 177 = 4 := by kernel_rfl
theorem cells122 : Try.prog.cellsOf 122 = 29 := by kernel_rfl
theorem cells57 : Try.prog.cellsOf 57 = 12 := by kernel_rfl
theorem cells120 : Try.prog.cellsOf 120 = 1 := by kernel_rfl
theorem opcells5 : Try.prog.cellsOf 5 = 1 := by kernel_rfl
theorem opcells22 : Try.prog.cellsOf 22 = 1 := by kernel_rfl
theorem opcells80 : Try.prog.cellsOf 80 = 1 := by kernel_rfl
theorem opcells82 : Try.prog.cellsOf 82 = 2 := by kernel_rfl
theorem opcells54 : Try.prog.cellsOf 54 = 8 := by kernel_rfl
theorem bytes177 : Try.prog.bytesOf 177 = 16 := by kernel_rfl
theorem size177 : (Try.prog.info? 177).map (·.size) = some 4 := by kernel_rfl
theorem size122 : (Try.prog.info? 122).map (·.size) = some 29 := by kernel_rfl
/-- a value that reads as these lines -/
def Lns (w : World) (lv : Value) (ls : List NClaim) : Prop := ∃ A cap, lv = .slice A ls.length cap ∧ Rd w A ls.length 4 (ls.flatMap claimF) ∧ ls.length ≤ 8796093022208
theorem Lns.later {w w' : World} {lv : Value} {ls : List NClaim} (h : Lns w lv ls) (hb : Below w.heap.size w w') : Lns w' lv ls := by
  obtain ⟨A, cap, h1, h2, h3⟩ := h
  exact ⟨A, cap, h1, h2.later hb, h3⟩
theorem Lns.nil (w : World) : Lns w (.slice none 0 0) [] := ⟨none, 0, rfl, ⟨rfl, fun h => absurd h (by simp)⟩, by simp⟩
section
variable {H : Type} {enc : TypeId × Value → H} {w : World} {base : Nat} {held : Bool} {fuel : Nat} {cs : List Value} {x : DataW H × List MemPlace}
set_option maxRecDepth 100000 in
theorem opdot_of (h : DataW.trod enc Try.prog w base (fun _ => true) held fuel 82 cs = some x) : ∃ r n : Nat, cs = [.int .u8 (r : Int), .int .u32 (n : Int)] ∧ r < 256 ∧ n < 4294967296 := by
  obtain ⟨ys, m, _, _, hl, hyl, hf⟩ := DataW.trod_struct Try.underlying82 h
  rw [opcells82] at hl
  match cs, hl with
  | [c0, c1], _ =>
    match ys, hyl with
    | [y0, y1], _ =>
      have h0 := hf 0 _ rfl
      have h1 := hf 1 _ rfl
      simp only [opcells5, opcells22, List.drop_zero, List.drop_succ_cons, List.take_succ_cons, List.take_zero, List.getElem?_cons_zero, List.getElem?_cons_succ] at h0 h1
      obtain ⟨r, e0, hr⟩ := trod_u8 Try.underlying5 h0
      obtain ⟨n, e1, hn⟩ := trod_u32 Try.underlying22 h1
      injection e0 with e0
      injection e1 with e1
      subst e0 e1
      exact ⟨r, n, rfl, hr, hn⟩
set_option maxRecDepth 100000 in
theorem claim_of (h : DataW.trod enc Try.prog w base (fun _ => true) held fuel 177 cs = some x) : ∃ a : NClaim, cs = claimF a ∧ a.ok := by
  obtain ⟨ys, m, _, hx, hl, hyl, hf⟩ := DataW.trod_struct Try.underlying177 h
  rw [cells177] at hl
  match cs, hl with
  | [c0, c1, c2, c3], _ =>
    match ys, hyl with
    | [y0, y1], _ =>
      have h0 := hf 0 _ rfl
      have h1 := hf 1 _ rfl
      simp only [opcells82, List.drop_zero, List.drop_succ_cons, List.take_succ_cons, List.take_zero, List.getElem?_cons_zero, List.getElem?_cons_succ] at h0 h1
      obtain ⟨a, b, e0, b0, b1⟩ := opdot_of h0
      obtain ⟨c, d, e1, b2, b3⟩ := opdot_of h1
      injection e0 with e0 e0'
      injection e0' with e0'
      injection e1 with e1 e1'
      injection e1' with e1'
      subst e0 e0' e1 e1'
      exact ⟨⟨a, b, c, d⟩, rfl, b0, b1, b2, b3⟩
theorem lines_of {v : Value} (h : DataW.trod enc Try.prog w base (fun _ => true) held fuel 120 [v] = some x) (hz : ∀ n ∈ x.1.weights Try.prog 120, n ≤ reachBytes) :
    ∃ ls : List NClaim, Lns w v ls ∧ ∀ c ∈ ls, c.ok := by
  obtain ⟨A, cap, l, h1, h2, h3, h4, h5⟩ := rows_of (α := NClaim) ⟨0, 0, 0, 0⟩ claimF 4 Try.underlying120 cells177 NClaim.ok (fun a _ => claimF_len a) (fun n cs y hy _ hk => claim_of hy) h hz
  rw [bytes177] at h4
  unfold reachBytes at h4
  exact ⟨l, ⟨A, cap, h1, h2, by omega⟩, h5⟩
/-- an operation's cells, wherever they lie -/
def OpIn (w : World) (cs : List Value) (x : NOp) : Prop := ∃ lv, cs = opF x lv ∧ Lns w lv x.lines ∧ x.ok
set_option maxRecDepth 100000 in
set_option maxHeartbeats 2000000 in
theorem op_of (h : DataW.trod enc Try.prog w base (fun _ => true) held fuel 122 cs = some x) (hz : ∀ k ∈ x.1.weights Try.prog 122, k ≤ reachBytes) : ∃ a : NOp, OpIn w cs a := by
  obtain ⟨ys, m, _, hx, hl, hyl, hf⟩ := DataW.trod_struct Try.underlying122 h
  rw [cells122] at hl
  match cs, hl with
  | [c0, c1, c2, c3, c4, c5, c6, c7, c8, c9, c10, c11, c12, c13, c14, c15, c16, c17, c18, c19, c20, c21, c22, c23, c24, c25, c26, c27, c28], _ =>
    match ys, hyl with
    | [y0, y1, y2, y3, y4, y5, y6, y7, y8, y9, y10, y11, y12, y13, y14, y15, y16], _ =>
      have h0 := hf 0 _ rfl
      have h1 := hf 1 _ rfl
      have h2 := hf 2 _ rfl
      have h3 := hf 3 _ rfl
      have h4 := hf 4 _ rfl
      have h5 := hf 5 _ rfl
      have h6 := hf 6 _ rfl
      have h7 := hf 7 _ rfl
      have h8 := hf 8 _ rfl
      have h9 := hf 9 _ rfl
      have h10 := hf 10 _ rfl
      have h11 := hf 11 _ rfl
      have h12 := hf 12 _ rfl
      have h13 := hf 13 _ rfl
      have h14 := hf 14 _ rfl
      have h15 := hf 15 _ rfl
      have h16 := hf 16 _ rfl
      simp only [opcells82, opcells54, opcells80, opcells22, opcells5, cells120, List.drop_zero, List.drop_succ_cons, List.take_succ_cons, List.take_zero, List.getElem?_cons_zero, List.getElem?_cons_succ] at h0 h1 h2 h3 h4 h5 h6 h7 h8 h9 h10 h11 h12 h13 h14 h15 h16
      obtain ⟨dr, dn, e0, b0, b0'⟩ := opdot_of h0
      obtain ⟨dep, hd8, e1, b1⟩ := trod_u32s Try.underlying54 Try.underlying22 opcells22 opcells54 h1
      obtain ⟨time, e2, b2⟩ := trod_u64 Try.underlying80 h2
      obtain ⟨who, e3, b3⟩ := trod_u32 Try.underlying22 h3
      obtain ⟨cr, cn, e4, b4, b4'⟩ := opdot_of h4
      obtain ⟨kind, e5, b5⟩ := trod_u8 Try.underlying5 h5
      obtain ⟨er, en, e6, b6, b6'⟩ := opdot_of h6
      obtain ⟨to, e7, b7⟩ := trod_u32 Try.underlying22 h7
      obtain ⟨roles, e8, b8⟩ := trod_u8 Try.underlying5 h8
      obtain ⟨depth, e9, b9⟩ := trod_u8 Try.underlying5 h9
      obtain ⟨cap, e10, b10⟩ := trod_u64 Try.underlying80 h10
      obtain ⟨ar, an, e11, b11, b11'⟩ := opdot_of h11
      obtain ⟨vr, vn, e12, b12, b12'⟩ := opdot_of h12
      obtain ⟨item, e13, b13⟩ := trod_u32 Try.underlying22 h13
      obtain ⟨qty, e14, b14⟩ := trod_u32 Try.underlying22 h14
      obtain ⟨price, e15, b15⟩ := trod_u32 Try.underlying22 h15
      obtain ⟨lines, hL, b16⟩ := lines_of h16 (fun n hn => hz n (by
        subst hx
        simp only [DataW.weights, Try.underlying122]
        exact weightsEach_in (i := 16) (t := 120) (d := y16.1) rfl rfl _ hn))
      injection e0 with e0 e0'
      injection e0' with e0'
      injection e2 with e2
      injection e3 with e3
      injection e4 with e4 e4'
      injection e4' with e4'
      injection e5 with e5
      injection e6 with e6 e6'
      injection e6' with e6'
      injection e7 with e7
      injection e8 with e8
      injection e9 with e9
      injection e10 with e10
      injection e11 with e11 e11'
      injection e11' with e11'
      injection e12 with e12 e12'
      injection e12' with e12'
      injection e13 with e13
      injection e14 with e14
      injection e15 with e15
      subst e0 e0' e2 e3 e4 e4' e5 e6 e6' e7 e8 e9 e10 e11 e11' e12 e12' e13 e14 e15
      refine ⟨⟨dr, dn, dep, time, who, cr, cn, kind, er, en, to, roles, depth, cap, ar, an, vr, vn, item, qty, price, lines⟩, c28, ?_, hL, ⟨b0, b0', hd8, b1, b2, b3, b4, b4', b5, b6, b6', b7, b8, b9, b10, b11, b11', b12, b12', b13, b14, b15, b16⟩⟩
      simp only [opF, ← e1]
      rfl
end
end Go.Proofs.Ytfojjklohbiffaa
