/- Calls, and what makes memory, at the steps of drawn regions. -/
import Derived.Test.YthampbiabkfmoaaDoorWiKn
import Derived.Test.YthampbiabkfmoaaDoorWiItems
namespace Go
namespace Tap
open Go.RowKit
section
variable {P : Program} {ops : Array Oper} {Q : Exit → Act → World → Prop}
theorem ex_cmp {o : Oper} {a : Act} {w : World} (op : BinOp) (T T' : TypeId) (x y : Operand) (ho : o.op = .binOp op T x y T') (X Y : Array Value) (hx : a.eval x = .agg X) (hy : a.eval y = .agg Y)
    (hm : P.eqGuardType P.depth T = false) (b : Bool) (hr : (binOp op T (.agg X) (.agg Y)).run P w = .ok (.bool b) w) : (execOp a.eval o).run P w = .ok (.value (.bool b)) w := by
  unfold execOp
  simp only [ho, hx, hy, Sem.run_bind, run_eqGuard_agg _ op T x y X Y hm, Result.andThen_ok, hr, Sem.run_pure]
theorem ex_cell {o : Oper} {a : Act} {w : World} (T : TypeId) (x : Operand) (ho : o.op = .load T x) (g of : Nat) (hx : a.eval x = .pointer (some ⟨g, of, none⟩)) (e : TypeId) (hu : P.underlying T = some (.slice e)) (v : Value) (hc : w.cell? ⟨g, of, none⟩ = some v) :
    (execOp a.eval o).run P w = .ok (.value v) w := by
  unfold execOp
  simp [ho, hx, Instr.loadAt, Instr.sureAddr, loadVar, isAgg, underlying, hu, hc, Result.andThen]
/-- A call of a Go function at a step of a drawn region. -/
theorem step_call {w : World} {o : Oper} {a : Act} {K : Act → World → Prop} {E : Prop} {F : Ending → World → Prop} (hw : Region.wanted o (yielded ops a.tmps) = true) (f : FuncId) (vs : Array Value)
    (hen : (execOp a.eval o).run P w = .ok (.enter f vs) w) (hc : Calls P f vs w F) (h : ∀ e w', F e w' → ∃ r, e = .returned r ∧ K (a.put o.dst r) w') :
    if Region.wanted o (yielded ops a.tmps) = true then Oper.wp P o a w K Q else E := by
  rw [if_pos hw]
  unfold Oper.wp
  rw [hen, Oper.upon_enter]
  refine hc.mono ?_
  rintro e w' hF
  obtain ⟨r, rfl, hk⟩ := h e w' hF
  exact hk
theorem callH {md : Region.Mode} {S : World → Prop} {i : Nat} {oi : Oper} {F : Ending → World → Prop} {fuel : Nat} {listed : Array Bool} {a : Act} {w : World} (f : FuncId) (vs : Array Value) (hi : ops[i]? = some oi)
    (hr : Region.ready md ops listed = [i]) (hw : Region.wanted oi (yielded ops a.tmps) = true) (hen : (execOp a.eval oi).run P w = .ok (.enter f vs) w) (hc : Calls P f vs w F)
    (h : ∀ e w', F e w' → ∃ r, e = .returned r ∧ S w' ∧ (S w' → wpAnyH P md ops Q S fuel (listed.setIfInBounds i true) (a.put oi.dst r) w')) : wpAnyH P md ops Q S (fuel + 1) listed a w := by
  refine wpAnyH_ready hr (by simp) ?_
  refine AllReadyH.cons hi (fun K hK => ?_) AllReadyH.nil
  refine step_call hw f vs hen hc ?_
  intro e w' hF
  obtain ⟨r, he, hs, hk⟩ := h e w' hF
  exact ⟨r, he, hK.out _ _ hs hk⟩
theorem takeK {md : Region.Mode} {S : World → Prop} {i : Nat} {oi : Oper} (v : Value) (d : Option Tmp) {fuel : Nat} {listed : Array Bool} {a : Act} {w : World} (hi : ops[i]? = some oi) (hd : oi.dst = d)
    (hs : Region.noSelect ops = true) (hf : Region.free md ops listed i = true) (hr : (Region.ready md ops listed).contains i = true)
    (hQ : ∀ c a w, Q (.panic c) (a.put d v) w → Q (.panic c) a w) (hw : Region.wanted oi (yielded ops a.tmps) = true) (hy : ∀ w, S w → (execOp a.eval oi).run P w = .ok (.value v) w) (hS : S w)
    (h : wpAnyH P md ops Q S fuel (listed.setIfInBounds i true) (a.put d v) w) : wpAnyH P md ops Q S (fuel + 1) listed a w := by
  subst hd
  exact takeH v hi hs hf hr hQ hw hy hS h
theorem callK {md : Region.Mode} {S : World → Prop} {i : Nat} {oi : Oper} {F : Ending → World → Prop} {fuel : Nat} {listed : Array Bool} {a : Act} {w : World} (f : FuncId) (vs : Array Value) (d : Option Tmp) (hi : ops[i]? = some oi) (hd : oi.dst = d)
    (hr : Region.ready md ops listed = [i]) (hw : Region.wanted oi (yielded ops a.tmps) = true) (hen : (execOp a.eval oi).run P w = .ok (.enter f vs) w) (hc : Calls P f vs w F)
    (h : ∀ e w', F e w' → ∃ r, e = .returned r ∧ S w' ∧ (S w' → wpAnyH P md ops Q S fuel (listed.setIfInBounds i true) (a.put d r) w')) : wpAnyH P md ops Q S (fuel + 1) listed a w := by
  subst hd
  exact callH f vs hi hr hw hen hc h
theorem bel_drw (w : World) : Below w.heap.size w w.drew := ⟨rfl, rfl, rfl, Nat.le_refl _, fun _ _ => rfl⟩
theorem step_alloc {w : World} {o : Oper} {a : Act} {K : Act → World → Prop} {E : Prop} (hw : Region.wanted o (yielded ops a.tmps) = true) (T : TypeId) (ho : o.op = .alloc T) (Z : Array Value) (n : Nat)
    (hi : (P.info? T).map (fun i => (i.zero, i.size)) = some (some (.agg Z), n)) (h : K (a.put o.dst (.pointer (some ⟨w.heap.size, 0, none⟩))) (w.alloc (.cells Z T))) :
    if Region.wanted o (yielded ops a.tmps) = true then Oper.wp P o a w K Q else E := by
  rw [if_pos hw]
  obtain ⟨hz1, hz2⟩ := zero_of_info hi
  refine wp_does (.pointer (some ⟨w.heap.size, 0, none⟩)) (w.alloc (.cells Z T)) ?_ h
  unfold execOp
  simp [ho, hz1, Result.andThen, Instr.alloc, newVar, Value.cells, newRow]
theorem step_store {w : World} {o : Oper} {a : Act} {K : Act → World → Prop} {E : Prop} (hw : Region.wanted o (yielded ops a.tmps) = true) (ty : TypeId) (x v : Operand) (ho : o.op = .store ty x v)
    (g of : Nat) (hx : a.eval x = .pointer (some ⟨g, of, none⟩)) (cs : Array Value) (hv : a.eval v = .agg cs) (cur : Array Value) (t : TypeId) (hg : w.heap[g]? = some (.cells cur t (0, 0))) (new : Array Value) (hnew : (splice cur.toList of cs.toList).toArray = new) (hfit : of + cs.size ≤ cur.size) (h1 : ∀ v ∈ cs.toList, v.oneCell' = true)
    (hi : (P.info? ty).map (·.size) = some cs.size) (h : ∀ w', w'.heap[g]? = some (.cells new t (0, 0)) → TStay (fun k => k = g) w w' → K (a.put o.dst undef) w') :
    if Region.wanted o (yielded ops a.tmps) = true then Oper.wp P o a w K Q else E := by
  rw [if_pos hw]
  refine wp_store_at ty x v ho g of hx cs hv cur t hg hfit h1 hi ?_
  rw [hnew]
  exact h _ (setRow_heap _ _ _ _ _ _ hg) (setRow_stay (TStay.refl (fun k => k = g) _) (.inl rfl) _)
end
end Tap
end Go
