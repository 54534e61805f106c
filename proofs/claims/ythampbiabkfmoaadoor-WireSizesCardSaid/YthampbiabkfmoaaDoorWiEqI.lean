/- slices.Equal of items: what it answers. -/
import Derived.Test.YthampbiabkfmoaaDoorWiEq
namespace Go
namespace Tap
open Go.RowKit
section
variable {P : Program}
theorem wpQuiet_load {ops : Array Oper} {rest : List Oper} {o : Oper} {a : Act} {w : World} {Q : Act → Prop} (hw : Region.wanted o (yielded ops a.tmps) = true) (ty : TypeId) (x : Operand) (ho : o.op = .load ty x)
    (g of : Nat) (hx : a.eval x = .pointer (some ⟨g, of, none⟩)) (cs : Array Value) (d : TypeDesc) (hc : Part w g of cs) (hu : P.underlying ty = some d) (hd : isAggDesc d = true) (hi : (P.info? ty).map (·.size) = some cs.size)
    (h : wpQuiet P ops (fun w' => ∃ n, w' = w.drewN n) Q rest (a.put o.dst (.agg cs))) : wpQuiet P ops (fun w' => ∃ n, w' = w.drewN n) Q (o :: rest) a :=
  BigFrame.wpQuiet_want hw fun K hK => ⟨.agg cs, fun w' ⟨n, hn⟩ => by
    subst hn
    unfold Oper.quietAt execOp
    have hp : Part (w.drewN n) g of cs := hc.keep rfl
    simp only [ho, hx, Instr.loadAt, Instr.sureAddr, Sem.run_bind, Sem.run_pure, Result.andThen_ok, run_loadVar_at hp hu hd hi]
    exact ⟨rfl, rfl⟩, hK _ h⟩
theorem wpQuiet_cmp {ops : Array Oper} {rest : List Oper} {o : Oper} {a : Act} {w : World} {Q : Act → Prop} (hw : Region.wanted o (yielded ops a.tmps) = true) (op : BinOp) (T T' : TypeId) (x y : Operand) (ho : o.op = .binOp op T x y T') (X Y : Array Value) (hx : a.eval x = .agg X) (hy : a.eval y = .agg Y)
    (hm : P.eqGuardType P.depth T = false) (b : Bool) (hr : ∀ w, (binOp op T (.agg X) (.agg Y)).run P w = .ok (.bool b) w) (h : wpQuiet P ops (fun w' => ∃ n, w' = w.drewN n) Q rest (a.put o.dst (.bool b))) : wpQuiet P ops (fun w' => ∃ n, w' = w.drewN n) Q (o :: rest) a :=
  BigFrame.wpQuiet_want hw fun K hK => ⟨.bool b, fun w' ⟨n, hn⟩ => by
    subst hn
    unfold Oper.quietAt execOp
    simp only [ho, hx, hy, Sem.run_bind, run_eqGuard_agg _ op T x y X Y hm, Result.andThen_ok, hr, Sem.run_pure]
    exact ⟨rfl, rfl⟩, hK _ h⟩
end
end Tap
end Go
namespace Go.Proofs.YthampbiabkfmoaaDoor
open Go.RowKit Go.Tap
set_option linter.unusedVariables false
set_option linter.unusedSimpArgs false
end Go.Proofs.YthampbiabkfmoaaDoor
