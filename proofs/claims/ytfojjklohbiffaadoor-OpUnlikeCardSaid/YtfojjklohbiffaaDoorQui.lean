/- Regions that draw their order: a struct or an array loaded. Nothing of the program. -/
import Derived.Test.YtfojjklohbiffaaDoorRes
import Derived.BigQuiet
namespace Tran
open Go Go.RowKit
theorem quiet_load_cells {P : Program} {o : Oper} {a : Act} {C : World → Prop} {K : Act → Prop} (ty : TypeId) (x : Operand) (ho : o.op = .load ty x) (ad : Addr) (hx : a.eval x = .pointer (some ad)) (cs : Array Value)
    (hl : ∀ w, C w → (loadVar ty ad).run P w = .ok (.agg cs) w) (hk : K (a.put o.dst (.agg cs))) : o.quiet P a C K :=
  ⟨_, fun w hw => by
    unfold Oper.quietAt execOp
    simp only [ho, hx, Instr.loadAt, Instr.sureAddr, Sem.run_bind, Sem.run_pure, Result.andThen_ok, hl w hw]
    exact ⟨rfl, rfl⟩, hk⟩
/-- the same, over the worlds of a class -/
theorem quiet_load_sub {P : Program} {o : Oper} {a : Act} {I : World → Prop} {K : Act → Prop} (ty : TypeId) (x : Operand) (ho : o.op = .load ty x) (ad : Addr) (hx : a.eval x = .pointer (some ad)) (cs : Array Value)
    (hl : ∀ w, I w → (loadVar ty ad).run P w = .ok (.agg cs) w) (hk : K (a.put o.dst (.agg cs))) : o.quiet P a (fun w' => ∃ y : Sub I, w' = y.w) K :=
  quiet_load_cells ty x ho ad hx cs (fun w ⟨y, e⟩ => by subst e; exact hl y.w y.h) hk
end Tran
