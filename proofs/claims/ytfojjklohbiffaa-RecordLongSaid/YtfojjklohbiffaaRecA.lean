/- Records: one, Put; the document's. -/
import Derived.Test.YtfojjklohbiffaaBld
import Derived.Test.YtfojjklohbiffaaSum
import Derived.Test.YtfojjklohbiffaaWireF
namespace Go.Proofs.Ytfojjklohbiffaa
open Go.RowKit Tran Tran.Wire
set_option linter.unusedVariables false
theorem builder_below {T e : TypeId} {B b : Nat} {p : Value} {bs : List Value} {w w' : World} (h : Lib.BuilderAt T e B b p bs w) (hb : Below w.heap.size w w') : Lib.BuilderAt T e B b p bs w' := by
  have hlt := h.lt
  obtain ⟨hB, v, hbk, ho, hne⟩ := h
  refine ⟨hB, v, (hb.block b hlt).trans hbk, ⟨ho.1, ?_⟩, hne⟩
  rcases ho.2 with hn | ⟨g, cap, cur, rfl, h1, hg, h2⟩
  · exact .inl hn
  · exact .inr ⟨g, cap, cur, rfl, h1, (hb.block g (Array.getElem?_eq_some_iff.1 hg).1).trans hg, h2⟩
theorem isB_below {T e : TypeId} {B b : Nat} {bs : List Value} {w w' : World} (h : Lib.IsBuilder T e B b bs w) (hb : Below w.heap.size w w') : Lib.IsBuilder T e B b bs w' :=
  h.imp (fun k => builder_below k hb) (fun k => builder_below k hb)
/-- a text's record -/
def recF (s : List UInt8) : List UInt8 := Crc.sealed (textF s)
theorem textF_len (s : List UInt8) (hs : s.length ≤ 100000000) : s.length ≤ (textF s).length ∧ (textF s).length ≤ s.length + 9 := by
  have := (numF_len s.length (by omega)).1
  simp only [textF, List.length_append]; omega
theorem recF_len (s : List UInt8) (hs : s.length ≤ 100000000) : s.length + 5 ≤ (recF s).length ∧ (recF s).length ≤ s.length + 13 := by
  have h1 := numF_len s.length (by omega)
  have h2 := Crc.sealed_length (textF s)
  unfold recF
  rw [h2]
  simp only [textF, List.length_append]; omega
set_option maxRecDepth 100000 in
set_option maxHeartbeats 2000000 in
theorem one_any (s : List UInt8) (hs : s.length ≤ 900000) (w : World) : Calls Try.prog 120 #[.string ⟨s.toArray⟩] w fun e w' => e = .returned (.string ⟨(recF s).toArray⟩) ∧ Below w.heap.size w w' := by
  have htl := (textF_len s (by omega)).2
  have S := Lib.hid (seal_l (textF s) (by omega))
  have HR := Lib.hid (show recF s = Crc.sealed (textF s) from rfl)
  go_enter Try.func120, Try.ntmps120
  go_wp2_with fail
  refine (wnew_any w).mono ?_
  rintro e w0 ⟨rfl, hw0⟩
  have n0 : WrAt w0 w.heap.size w.heap.size (.slice none 0 0) [] := by rw [hw0]; exact new_wr w (Nat.le_refl _)
  have b0 : Below w.heap.size w w0 := by rw [hw0]; exact (Below.refl _ _).alloc (Nat.le_refl _) _
  have T := Lib.hid (wtext_any n0 b0.size (by simp) s (by omega))
  clear hw0
  go_wp2_with fail
  refine T.out.mono ?_
  rintro e w1 ⟨v1, rfl, p1⟩
  have b1 := b0.trans (p1.toBelow n0 b0.size)
  have n1 := p1.wr
  rw [List.nil_append] at n1
  have Y := Lib.hid (bytes_any n1)
  clear p1 n0 b0 T n1
  go_wp2_with fail
  refine Y.out.mono ?_
  rintro e w2 ⟨rfl, rfl⟩
  go_wp2_with fail
  refine (S.out _).mono ?_
  rintro e w3 ⟨rfl, d3⟩
  have b3 := b1.trans (d3.mono b1.size)
  go_wp2
  go_ret
  rw [HR.out]
  exact ⟨rfl, b3⟩
set_option maxRecDepth 100000 in
theorem record_any (s : List UInt8) (hs : s.length ≤ 900000) (w : World) : Calls Try.prog 79 #[.string ⟨s.toArray⟩] w fun e w' => e = .returned (.string ⟨(recF s).toArray⟩) ∧ Below w.heap.size w w' := by
  have htl := (textF_len s (by omega)).2
  have T := Lib.hid (ttext_any s (by omega) w)
  have S := Lib.hid (refseal_l (textF s) (by omega))
  have HR := Lib.hid (show recF s = Crc.sealed (textF s) from rfl)
  go_enter Try.func79, Try.ntmps79
  go_wp2_with fail
  refine T.out.mono ?_
  rintro e w1 ⟨rfl, b1⟩
  go_wp2_with fail
  refine (S.out w1).mono ?_
  rintro e w2 ⟨rfl, d2⟩
  have b2 := b1.trans (d2.mono b1.size)
  go_wp2
  go_ret
  rw [HR.out]
  exact ⟨rfl, b2⟩
/-- texts' row, or that one is too long -/
def long (l : List (List UInt8)) : Bool := l.any fun s => decide (65536 < s.length)
def putR (l : List (List UInt8)) : Value := if long l then .tuple #[.string ⟨#[]⟩, .int .i64 3] else .tuple #[.string ⟨(l.flatMap recF).toArray⟩, .int .i64 0]
def PutsR (w : World) (l : List (List UInt8)) (e : Ending) (w' : World) : Prop := e = .returned (putR l) ∧ Below w.heap.size w w'
theorem recs_snoc (l : List (List UInt8)) (k : Nat) (hk : k < l.length) : (l.take (k + 1)).flatMap recF = (l.take k).flatMap recF ++ recF l[k] := by
  rw [List.take_succ_eq_append_getElem hk, List.flatMap_append]; simp
theorem recs_le (l : List (List UInt8)) (k : Nat) : ((l.take k).flatMap recF).length ≤ (l.flatMap recF).length := by
  conv => rhs; rw [← List.take_append_drop k l]
  rw [List.flatMap_append, List.length_append]; omega
theorem str_at {w : World} {A : Option Addr} {l : List (List UInt8)} (h : Rd w A l.length 1 (strs l)) {k : Nat} (hk : k < l.length) : ∃ ad, A = some ad ∧ w.cell? (ad.add k) = some (.string ⟨l[k].toArray⟩) := by
  obtain ⟨ad, rfl, hc⟩ := h.2 (by omega)
  exact ⟨ad, rfl, hc k _ (strs_get hk)⟩
theorem long_at {l : List (List UInt8)} {k : Nat} (hk : k < l.length) (h : 65536 < l[k].length) : putR l = .tuple #[.string ⟨#[]⟩, .int .i64 3] := by
  unfold putR
  rw [if_pos]
  unfold long
  rw [List.any_eq_true]
  exact ⟨l[k], List.getElem_mem hk, by simpa using h⟩
theorem short_all {l : List (List UInt8)} (h : ∀ k (hk : k < l.length), l[k].length ≤ 65536) : putR l = .tuple #[.string ⟨(l.flatMap recF).toArray⟩, .int .i64 0] := by
  unfold putR
  rw [if_neg]
  unfold long
  rw [List.any_eq_true]
  rintro ⟨s, hs, h2⟩
  obtain ⟨k, hk, rfl⟩ := List.getElem_of_mem hs
  have := h k hk
  simp only [decide_eq_true_eq] at h2
  omega
theorem new_builder (w : World) : Lib.IsBuilder 162 5 w.heap.size w.heap.size (Lib.byteCells []) (w.alloc (.cells #[.pointer none, .slice none 0 0] 162)) :=
  .inl ⟨Nat.le_refl _, _, heap_alloc_new w _, World.ownsRow_nil _ _ _ _, by simp [Value.ownBlock]⟩
set_option maxRecDepth 100000 in
set_option maxHeartbeats 4000000 in
theorem rput_any (w : World) (A : Option Addr) (cap : Nat) (l : List (List UInt8)) (h : Rd w A l.length 1 (strs l)) (hl : l.length ≤ 1000000) (hlen : ∀ s ∈ l, s.length ≤ 140737488355328) (hb : (l.flatMap recF).length ≤ 100000000) :
    Calls Try.prog 76 #[.slice A l.length cap] w (PutsR w l) := by
  have HR := Lib.hid (fun W (hb : Below w.heap.size w W) k (hk : k < l.length) => str_at (h.later hb) hk)
  have HLE := Lib.hid (fun k => Nat.le_trans (recs_le l k) hb)
  have HS := Lib.hid (fun k hk => recs_snoc l k hk)
  have HLN := Lib.hid (fun k (hk : k < l.length) => hlen l[k] (List.getElem_mem hk))
  clear h hb hlen
  go_enter Try.func76, Try.ntmps76
  go_wp2_with fail
  have I0 := new_builder w
  have b0 := (Below.refl w.heap.size w).alloc (Nat.le_refl _) (.cells #[.pointer none, .slice none 0 0] 162)
  go_loopw [9] (fun i wr => ∃ k : Nat, k ≤ l.length ∧ i = .int .i64 k ∧ Lib.IsBuilder 162 5 w.heap.size w.heap.size (Lib.byteCells ((l.take k).flatMap recF)) wr ∧ Below w.heap.size w wr ∧ ∀ j (hj : j < l.length), j < k → l[j].length ≤ 65536) (fun i _ => l.length - (intOf i).toNat)
  case atStart => exact ⟨0, by omega, rfl, I0, b0, fun _ _ hj => absurd hj (by omega)⟩
  case round =>
    clear I0 b0
    obtain ⟨k, hk, rfl, I, b, hsm⟩ := hrel
    have HSM := Lib.hid hsm
    clear hsm
    by_cases hlt : k < l.length
    · obtain ⟨ad, rfl, hc⟩ := HR.out wr b k hlt
      have hln := HLN.out k hlt
      by_cases h6 : 65536 < l[k].length
      · have HP := Lib.hid (long_at hlt h6)
        clear I
        go_wp2_with fail
        go_ret2
        unfold PutsR
        rw [HP.out]
        exact ⟨rfl, b⟩
      · have O := Lib.hid (one_any l[k] (by omega))
        have hle := HLE.out k
        have hle2 := HLE.out (k + 1)
        have hs := HS.out k hlt
        rw [hs] at hle2
        have HSN := Lib.hid hs
        have I := Lib.hid I
        have h6' := Lib.hid h6
        generalize (l.take k).flatMap recF = z at *
        rw [List.length_append] at hle2
        generalize recF l[k] = y at *
        clear hs
        go_wp2_with fail
        refine (O.out _).mono ?_
        rintro e w2 ⟨rfl, d2⟩
        have I2 := isB_below I.out d2
        have b2 := b.trans (d2.mono b.size)
        have W := Lib.hid (writeString_any _ _ _ ⟨y.toArray⟩ w2 I2 (by simp [Lib.byteCells, ByteArray.size]; omega) b2.size)
        clear d2 b I2
        go_wp2_with fail
        refine W.out.mono ?_
        rintro e w3 ⟨rfl, I3, d3⟩
        have b3 := b2.trans d3
        go_wp2_with fail
        go_roundw
        case rel =>
          refine ⟨k + 1, hlt, by go_num, ?_, b3, fun j hj hjk => ?_⟩
          · rw [HSN.out]
            have e : Lib.byteCells (z ++ y) = Lib.byteCells z ++ Lib.strCells ⟨y.toArray⟩ := by rw [show Lib.strCells ⟨y.toArray⟩ = Lib.byteCells y from rfl]; simp [Lib.byteCells]
            rw [e]; exact .inr I3
          · by_cases hjk2 : j < k
            · exact HSM.out j hj hjk2
            · obtain rfl : j = k := by omega
              have := h6'.out; omega
        case measure => simp [intOf]; omega
    · have hkk : l.take k = l := List.take_of_length_le (by omega)
      rw [hkk] at I
      have HP := Lib.hid (short_all fun j hj => HSM.out j hj (by omega))
      have S := Lib.hid (Try.Builder_String_any _ _ _ wr I b.size)
      clear I hkk
      go_wp2_with fail
      refine S.out.mono ?_
      rintro e w2 ⟨rfl, d2⟩
      have b2 := b.trans d2
      go_wp2_with fail
      go_ret2
      unfold PutsR
      rw [HP.out]
      exact ⟨rfl, b2⟩
set_option maxRecDepth 100000 in
set_option maxHeartbeats 4000000 in
theorem tput_any (w : World) (A : Option Addr) (cap : Nat) (l : List (List UInt8)) (h : Rd w A l.length 1 (strs l)) (hl : l.length ≤ 1000000) (hlen : ∀ s ∈ l, s.length ≤ 140737488355328) (hb : (l.flatMap recF).length ≤ 100000000) :
    Calls Try.prog 77 #[.slice A l.length cap] w (PutsR w l) := by
  have HR := Lib.hid (fun W (hb : Below w.heap.size w W) k (hk : k < l.length) => str_at (h.later hb) hk)
  have HLE := Lib.hid (fun k => Nat.le_trans (recs_le l k) hb)
  have HS := Lib.hid (fun k hk => recs_snoc l k hk)
  have HLN := Lib.hid (fun k (hk : k < l.length) => hlen l[k] (List.getElem_mem hk))
  clear h hb hlen
  go_enter Try.func77, Try.ntmps77
  go_wp2_with fail
  have b0 := Below.refl w.heap.size w
  go_loopw [4, 5] (fun s i wr => ∃ k : Nat, k ≤ l.length ∧ i = .int .i64 k ∧ s = .string ⟨((l.take k).flatMap recF).toArray⟩ ∧ Below w.heap.size w wr ∧ ∀ j (hj : j < l.length), j < k → l[j].length ≤ 65536) (fun _ i _ => l.length - (intOf i).toNat)
  case atStart => exact ⟨0, by omega, rfl, rfl, b0, fun _ _ hj => absurd hj (by omega)⟩
  case round =>
    clear b0
    obtain ⟨k, hk, rfl, rfl, b, hsm⟩ := hrel
    have HSM := Lib.hid hsm
    clear hsm
    by_cases hlt : k < l.length
    · obtain ⟨ad, rfl, hc⟩ := HR.out wr b k hlt
      have hln := HLN.out k hlt
      by_cases h6 : 65536 < l[k].length
      · have HP := Lib.hid (long_at hlt h6)
        go_wp2_with fail
        go_ret2
        unfold PutsR
        rw [HP.out]
        exact ⟨rfl, b⟩
      · have O := Lib.hid (record_any l[k] (by omega))
        have hle := HLE.out k
        have hle2 := HLE.out (k + 1)
        have hs := HS.out k hlt
        rw [hs] at hle2
        have HSN := Lib.hid hs
        have h6' := Lib.hid h6
        generalize (l.take k).flatMap recF = z at *
        rw [List.length_append] at hle2
        generalize recF l[k] = y at *
        clear hs
        go_wp2_with fail
        refine (O.out _).mono ?_
        rintro e w2 ⟨rfl, d2⟩
        have b2 := b.trans (d2.mono b.size)
        go_wp2_with fail
        go_roundw
        case rel =>
          refine ⟨k + 1, hlt, by go_num, ?_, b2, fun j hj hjk => ?_⟩
          · rw [HSN.out]; exact congrArg Value.string (str_app _ _)
          · by_cases hjk2 : j < k
            · exact HSM.out j hj hjk2
            · obtain rfl : j = k := by omega
              have := h6'.out; omega
        case measure => simp [intOf]; omega
    · have hkk : l.take k = l := List.take_of_length_le (by omega)
      rw [hkk]
      have HP := Lib.hid (short_all fun j hj => HSM.out j hj (by omega))
      clear hkk
      go_wp2_with fail
      go_ret2
      unfold PutsR
      rw [HP.out]
      exact ⟨rfl, b⟩
end Go.Proofs.Ytfojjklohbiffaa
