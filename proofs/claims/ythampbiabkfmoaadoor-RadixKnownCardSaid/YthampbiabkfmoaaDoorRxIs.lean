/- taprootlaw9: kept.is. -/
import Derived.Test.YthampbiabkfmoaaDoorRxKept
import Derived.Test.YthampbiabkfmoaaDoorRxGet
import Derived.BigQuiet
namespace Go
namespace Tap
open Go.RowKit
set_option linter.unusedVariables false
section
variable {P : Program} {ops : Array Oper} {Q : Exit → Act → World → Prop} {md : Region.Mode} {S : World → Prop}
theorem skipK {i : Nat} {oi : Oper} (d : Option Tmp) {fuel : Nat} {listed : Array Bool} {a : Act} {w : World} (hi : ops[i]? = some oi) (hd : oi.dst = d)
    (hs : Region.noSelect ops = true) (hf : Region.free md ops listed i = true) (hr : (Region.ready md ops listed).contains i = true)
    (hQ : ∀ c a w, Q (.panic c) (a.put d undef) w → Q (.panic c) a w) (hw : Region.wanted oi (yielded ops a.tmps) = false) (hS : S w)
    (h : wpAnyH P md ops Q S fuel (listed.setIfInBounds i true) (a.put d undef) w) : wpAnyH P md ops Q S (fuel + 1) listed a w := by
  subst hd
  exact wpAnyH_take hi hs hf hr hQ (.inr ⟨hw, rfl⟩) hS h
end
end Tap
end Go
namespace Go.Proofs.YthampbiabkfmoaaDoor
open Go.RowKit Go.Tap
set_option linter.unusedVariables false
set_option linter.unusedSimpArgs false
theorem rcount_q (w : World) (lo TB : Nat) (t : Rx.T) (N : Nat) (hN : Rx.cnt t = N) (h : TreeAt w lo TB t) : Calls Tryd.prog 24 #[.pointer (some ⟨TB, 0, none⟩)] w fun e w' => e = .returned (.int .i64 (N : Int)) ∧ w' = w := by
  subst hN
  exact (rcount_any w lo TB t h).mono (fun e w' h => ⟨h.1, h.2.symm⟩)
theorem errV_kind (w : World) (k : Nat) (hg : EType w) : Calls Tryd.prog 13 #[Rx.errV k] w fun e w' => e = .returned (.int .i64 (k : Int)) ∧ Below w.heap.size w w' := by
  unfold Rx.errV
  split
  · next h => subst h; exact (kind_nil w).mono (fun e w' h => ⟨h.1, by rw [h.2]; exact Below.refl _ _⟩)
  · exact kind_errno w k hg
theorem slice_to' (l : List UInt8) (k : Nat) (h : k ≤ l.length) (w : World) : (Instr.sliceAt 9 (.string (str l)) none (some (.int .i64 (k : Int))) none).run Tryd.prog w = .ok (.string (str (l.take k))) w := by
  have hs : (str l).size = l.length := by simp [str, ByteArray.size]
  have he : (str l).extract 0 k = str (l.take k) := by
    apply ByteArray.ext
    simp [str]
  simp [go_sem]
  rw [if_pos (by omega), he]
theorem tdiv_in' (z d : Int) (hd : 2 ≤ d) (h : In64 z) : In64 (z.tdiv d) := by
  obtain ⟨h1, h2⟩ := h
  have h3 : (z.tdiv d).natAbs = z.natAbs / d.natAbs := Int.natAbs_tdiv z d
  have h4 : z.natAbs / d.natAbs ≤ z.natAbs / 2 := Nat.div_le_div_left (by omega) (by omega)
  unfold In64
  omega
theorem ex_slice_to' {o : Oper} {a : Act} {w : World} (x hi : Operand) (ho : o.op = .slice 9 x none (some hi) none) (l : List UInt8) (k : Nat) (hx : a.eval x = .string (str l)) (hh : a.eval hi = .int .i64 (k : Int)) (h : k ≤ l.length) :
    (execOp a.eval o).run Tryd.prog w = .ok (.value (.string (str (l.take k)))) w := by
  unfold execOp
  simp only [ho, hx, hh, Option.map_some, Option.map_none, Sem.run_bind, slice_to' l k h, Result.andThen_ok, Sem.run_pure]
end Go.Proofs.YthampbiabkfmoaaDoor
