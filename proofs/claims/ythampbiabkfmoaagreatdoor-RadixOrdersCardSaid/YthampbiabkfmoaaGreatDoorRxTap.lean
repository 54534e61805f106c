/- Laws for values of many cells and for drawn regions, gathered (the same texts as in the Wi.. texts, for what does not speak of wire). -/
import Derived.Test.YthampbiabkfmoaaGreatDoorWiText
import Derived.Test.YthampbiabkfmoaaGreatDoorAs
import Derived.Test.YthampbiabkfmoaaGreatDoorOpen
import Derived.Deep.RegionHeld3
import Derived.Deep.Cut
import Derived.Deep.CutRange
import Derived.Deep.CutBlock
set_option linter.unusedVariables false
namespace Go
namespace Tap
open Go.RowKit
set_option linter.unusedVariables false
section
variable {P : Program}
theorem built_slice {e : TypeId} {z : Value} {sz : Nat} (hi : (P.info? e).map (fun i => (i.zero, i.size)) = some (some z, sz)) (h0 : ¬ (1 * sz > 2 ^ 24 ∨ 1 * sz = 0)) (parts : List (Nat × Value)) :
    P.builtSlice e 1 parts = Instr.fill (fun i => some (i * sz, sz)) ((Array.range (1 * sz)).map (z.cells[· % z.cells.size]!)) parts := by
  unfold Program.builtSlice
  cases hq : P.info? e with
  | none => simp [hq] at hi
  | some ie =>
    simp only [hq, Option.map_some, Option.some.injEq, Prod.mk.injEq] at hi
    simp only [hi.1, hi.2]
    rw [if_neg h0]
theorem built_one {e : TypeId} {z : Value} {sz : Nat} (hi : (P.info? e).map (fun i => (i.zero, i.size)) = some (some z, sz)) (h0 : ¬ (1 * sz > 2 ^ 24 ∨ 1 * sz = 0)) (cs : Array Value) (hs : cs.size = sz) : P.builtSlice e 1 [(0, .agg cs)] = some cs := by
  rw [built_slice hi h0, fill_cons (v := .agg cs) (off := 0 * sz) (size := sz) rfl hs (by simp)]
  have hc : (Value.agg cs).cells = cs := rfl
  rw [hc, Nat.zero_mul, splice_all _ _ (by simp [hs])]
  rfl
theorem wpL_rowOne {ops : Array Oper} {rest : List Oper} {o : Oper} {a : Act} {w : World} {Q : Exit → Act → World → Prop} (hg : o.guard = none) (t e : TypeId) (x : Operand) (ho : o.op = .buildSlice t 1 #[(0, x)])
    (d : Tmp) (hdst : o.dst = some d) (hu : P.underlying t = some (.slice e)) (cs : Array Value) (hx : a.eval x = .agg cs) (z : Value) (sz : Nat) (hi : (P.info? e).map (fun i => (i.zero, i.size)) = some (some z, sz)) (h0 : ¬ (1 * sz > 2 ^ 24 ∨ 1 * sz = 0)) (hs : cs.size = sz)
    (h : wpList P ops Q rest (a.put (some d) (.slice (some ⟨w.heap.size, 0, none⟩) 1 1)) (w.alloc (.cells cs e))) : wpList P ops Q (o :: rest) a w :=
  Great.wpList_buildSliceTo hg t e 1 #[(0, x)] ho w.heap.size rfl (some d) hdst hu cs (by simpa [hx] using built_one hi h0 cs hs) h
theorem wpL_alloc {ops : Array Oper} {rest : List Oper} {o : Oper} {a : Act} {w : World} {Q : Exit → Act → World → Prop} (hg : o.guard = none) (T : TypeId) (ho : o.op = .alloc T) (j : Tmp) (hd : o.dst = some j) (Z : Array Value) (n : Nat)
    (hi : (P.info? T).map (fun i => (i.zero, i.size)) = some (some (.agg Z), n)) (h : wpList P ops Q rest (a.put (some j) (.pointer (some ⟨w.heap.size, 0, none⟩))) (w.alloc (.cells Z T))) : wpList P ops Q (o :: rest) a w := by
  obtain ⟨hz1, hz2⟩ := zero_of_info hi
  refine Great.wpList_runTo hg (some j) hd (.pointer (some ⟨w.heap.size, 0, none⟩)) (w.alloc (.cells Z T)) ?_ h
  unfold execOp
  simp [ho, hz1, Result.andThen, Instr.alloc, newVar, Value.cells, newRow]
theorem setRow_stay {S : Nat → Prop} {a w : World} (h : TStay S a w) {g : Nat} (hg : S g ∨ a.heap.size ≤ g) (cs : Array Value) : TStay S a (w.setRow g cs) :=
  ⟨h.os, h.tape, h.output, by have := h.size; simp [World.setRow]; omega, fun k hk hn => by
    rw [setRow_other _ _ _ _ (by rintro rfl; rcases hg with hg | hg; exact hn hg; omega)]; exact h.block k hk hn⟩
end
end Tap
end Go
namespace Go
namespace Tap
open Go.RowKit
theorem wpL_mk {P : Program} {ops : Array Oper} {rest : List Oper} {o : Oper} {a : Act} {w : World} {Q : Exit → Act → World → Prop} (hw : Region.wanted o (yielded ops a.tmps) = true) (t : TypeId) (parts : Array (Nat × Operand)) (ho : o.op = .build t parts) (vals : List (Nat × Value)) (hv : parts.toList.map (fun p => (p.1, a.eval p.2)) = vals)
    (cells : Array Value) (hb : P.built t vals = some cells) (h : wpList P ops Q rest (a.put o.dst (.agg cells)) w) : wpList P ops Q (o :: rest) a w :=
  wpL_built hw t parts ho vals (by rw [Array.toList_map, ← hv]) cells hb h
end Tap
end Go
namespace Go
namespace Tap
open Go.RowKit
section
variable {P : Program}
theorem wpQuiet_load {ops : Array Oper} {rest : List Oper} {o : Oper} {a : Act} {w : World} {Q : Act → Prop} (hw : Region.wanted o (yielded ops a.tmps) = true) (ty : TypeId) (x : Operand) (ho : o.op = .load ty x)
    (g of : Nat) (hx : a.eval x = .pointer (some ⟨g, of, none⟩)) (cs : Array Value) (d : TypeDesc) (hc : Part w g of cs) (hu : P.underlying ty = some d) (hd : isAggDesc d = true) (hi : (P.info? ty).map (·.size) = some cs.size)
    (h : wpQuiet P ops (fun w' => ∃ n, w' = w.drewN n) Q rest (a.put o.dst (.agg cs))) : wpQuiet P ops (fun w' => ∃ n, w' = w.drewN n) Q (o :: rest) a :=
  BigFrame.wpQuiet_want hw fun K hK => ⟨.agg cs, fun w' ⟨n, hn⟩ => by
    subst hn
    unfold Oper.quietAt execOp
    have hp : Part (w.drewN n) g of cs := hc.keep rfl
    simp only [ho, hx, Instr.loadAt, Instr.sureAddr, Sem.run_bind, Sem.run_pure, Result.andThen_ok, run_loadVar_at hp hu hd hi]
    exact ⟨rfl, rfl⟩, hK _ h⟩
theorem wpQuiet_cmp {ops : Array Oper} {rest : List Oper} {o : Oper} {a : Act} {w : World} {Q : Act → Prop} (hw : Region.wanted o (yielded ops a.tmps) = true) (op : BinOp) (T T' : TypeId) (x y : Operand) (ho : o.op = .binOp op T x y T') (X Y : Array Value) (hx : a.eval x = .agg X) (hy : a.eval y = .agg Y)
    (hm : P.eqGuardType P.depth T = false) (b : Bool) (hr : ∀ w, (binOp op T (.agg X) (.agg Y)).run P w = .ok (.bool b) w) (h : wpQuiet P ops (fun w' => ∃ n, w' = w.drewN n) Q rest (a.put o.dst (.bool b))) : wpQuiet P ops (fun w' => ∃ n, w' = w.drewN n) Q (o :: rest) a :=
  BigFrame.wpQuiet_want hw fun K hK => ⟨.bool b, fun w' ⟨n, hn⟩ => by
    subst hn
    unfold Oper.quietAt execOp
    simp only [ho, hx, hy, Sem.run_bind, run_eqGuard_agg _ op T x y X Y hm, Result.andThen_ok, hr, Sem.run_pure]
    exact ⟨rfl, rfl⟩, hK _ h⟩
end
end Tap
end Go
namespace Go
namespace Tap
open Go.RowKit
theorem wpL_storeW {P : Program} {ops : Array Oper} {rest : List Oper} {op : Oper} {a : Act} {w : World} {Q : Exit → Act → World → Prop} (hw : Region.wanted op (yielded ops a.tmps) = true) (ty : TypeId) (x v : Operand) (ho : op.op = .store ty x v)
    (g o : Nat) (hx : a.eval x = .pointer (some ⟨g, o, none⟩)) (cs : Array Value) (hv : a.eval v = .agg cs) (cur : Array Value) (t : TypeId) (hg : w.heap[g]? = some (.cells cur t (0, 0))) (new : Array Value) (hnew : (splice cur.toList o cs.toList).toArray = new) (hfit : o + cs.size ≤ cur.size) (h1 : ∀ v ∈ cs.toList, v.oneCell' = true)
    (hi : (P.info? ty).map (·.size) = some cs.size) (h : ∀ w', w'.heap[g]? = some (.cells new t (0, 0)) → TStay (fun k => k = g) w w' → wpList P ops Q rest (a.put op.dst undef) w') : wpList P ops Q (op :: rest) a w :=
  wpL_store hw ty x v ho g o hx cs hv cur t hg hfit h1 hi (by
    rw [hnew]
    exact h _ (setRow_heap _ _ _ _ _ _ hg) (setRow_stay (TStay.refl (fun k => k = g) _) (.inl rfl) _))
theorem own_ne' {w : World} {base e e' size : Nat} {v : Value} {n b : Nat} {xs : List Value} {cs : Array Value} {fr : Nat × Nat} (h : w.ownsRow base e size v n xs) (hb : w.heap[b]? = some (.cells cs e' fr)) (hne : e' ≠ e) : v.ownBlock ≠ some b := by
  intro ho
  rcases h.2 with ⟨rfl, _⟩ | ⟨g, cap, cur, rfl, _, hg, _⟩
  · simp [Value.ownBlock] at ho
  · simp [Value.ownBlock] at ho
    subst ho
    rw [hb] at hg
    simp at hg
    exact hne hg.2.1
end Tap
end Go
namespace Go
namespace Tap
open Go.RowKit
set_option linter.unusedVariables false
/-- A slice of ints that is only read. -/
def RdZ (w : World) (a : Option Addr) (n : Nat) (l : List Int) : Prop :=
  l.length = n ∧ (∀ z ∈ l, In64 z) ∧ (0 < n → ∃ b o, a = some ⟨b, o, none⟩ ∧ b < w.heap.size ∧ ∀ i z, l[i]? = some z → w.cell? ⟨b, o + i, none⟩ = some (.int .i64 z))
theorem RdZ.below {w w' : World} {a : Option Addr} {n : Nat} {l : List Int} (h : RdZ w a n l) (hb : Below w.heap.size w w') : RdZ w' a n l :=
  ⟨h.1, h.2.1, fun h0 => by
    obtain ⟨b, o, e, hl, hc⟩ := h.2.2 h0
    exact ⟨b, o, e, Nat.lt_of_lt_of_le hl hb.size, fun i z hz => (World.cell?_of_block (w := w) (hb.block b hl)).trans (hc i z hz)⟩⟩
section
variable {P : Program} {ops : Array Oper} {Q : Exit → Act → World → Prop} {md : Region.Mode} {S : World → Prop}
theorem takeH {i : Nat} {oi : Oper} (v : Value) {fuel : Nat} {listed : Array Bool} {a : Act} {w : World} (hi : ops[i]? = some oi)
    (hs : Region.noSelect ops = true) (hf : Region.free md ops listed i = true) (hr : (Region.ready md ops listed).contains i = true)
    (hQ : ∀ c a w, Q (.panic c) (a.put oi.dst v) w → Q (.panic c) a w) (hw : Region.wanted oi (yielded ops a.tmps) = true) (hy : ∀ w, S w → (execOp a.eval oi).run P w = .ok (.value v) w) (hS : S w)
    (h : wpAnyH P md ops Q S fuel (listed.setIfInBounds i true) (a.put oi.dst v) w) : wpAnyH P md ops Q S (fuel + 1) listed a w :=
  wpAnyH_take hi hs hf hr hQ (.inl ⟨hw, hy⟩) hS h
theorem ex_load {o : Oper} {a : Act} (ty : TypeId) (x : Operand) (ho : o.op = .load ty x) (g of : Nat) (hx : a.eval x = .pointer (some ⟨g, of, none⟩)) (cs : Array Value) (d : TypeDesc) {w : World} (hc : Part w g of cs)
    (hu : P.underlying ty = some d) (hd : isAggDesc d = true) (hi : (P.info? ty).map (·.size) = some cs.size) : (execOp a.eval o).run P w = .ok (.value (.agg cs)) w := by
  unfold execOp
  simp only [ho, hx, Instr.loadAt, Instr.sureAddr, Sem.run_bind, Sem.run_pure, Result.andThen_ok, run_loadVar_at hc hu hd hi]
theorem ex_mk {o : Oper} {a : Act} {w : World} (t : TypeId) (parts : Array (Nat × Operand)) (ho : o.op = .build t parts) (vals : List (Nat × Value)) (hv : parts.toList.map (fun p => (p.1, a.eval p.2)) = vals) (cells : Array Value) (hb : P.built t vals = some cells) :
    (execOp a.eval o).run P w = .ok (.value (.agg cells)) w := by
  unfold execOp
  simp only [ho, Sem.run_bind]
  rw [run_build w t _ cells (by rw [Array.toList_map, ← hb, ← hv])]
  simp
theorem ex_move {o : Oper} {a : Act} {w : World} (x : Operand) (ho : o.op = .move x) : (execOp a.eval o).run P w = .ok (.value (a.eval x)) w := by
  unfold execOp; simp [ho]
theorem ex_assign {o : Oper} {a : Act} {w : World} (x : Operand) (ho : o.op = .assign x) : (execOp a.eval o).run P w = .ok (.value (a.eval x)) w := by
  unfold execOp; simp [ho]
theorem ex_bin {o : Oper} {a : Act} {w : World} (op : BinOp) (T T' : TypeId) (x y : Operand) (ho : o.op = .binOp op T x y T') (k : IntKind) (X Y Z : Int) (hx : a.eval x = .int k X) (hy : a.eval y = .int k Y) (hr : (binOp op T (.int k X) (.int k Y)).run P w = .ok (.int k Z) w) :
    (execOp a.eval o).run P w = .ok (.value (.int k Z)) w := by
  unfold execOp
  cases op <;> simp [ho, hx, hy, eqGuard, hr, run_program]
theorem step_rowOne {w : World} {o : Oper} {a : Act} {K : Act → World → Prop} {E : Prop} (hgd : o.guard = none) (t e : TypeId) (x : Operand) (ho : o.op = .buildSlice t 1 #[(0, x)])
    (d : Tmp) (hdst : o.dst = some d) (hu : P.underlying t = some (.slice e)) (cs : Array Value) (hx : a.eval x = .agg cs) (z : Value) (sz : Nat) (hi : (P.info? e).map (fun i => (i.zero, i.size)) = some (some z, sz)) (h0 : ¬ (1 * sz > 2 ^ 24 ∨ 1 * sz = 0)) (hs : cs.size = sz)
    (h : K (a.put (some d) (.slice (some ⟨w.heap.size, 0, none⟩) 1 1)) (w.alloc (.cells cs e))) : if Region.wanted o (yielded ops a.tmps) = true then Oper.wp P o a w K Q else E := by
  have hw : Region.wanted o (yielded ops a.tmps) = true := by simp [Region.wanted, hgd]
  rw [if_pos hw]
  have hb := built_one (P := P) hi h0 cs hs
  rw [built_slice hi h0] at hb
  cases hq : P.info? e with
  | none => simp [hq] at hi
  | some ie =>
    simp only [hq, Option.map_some, Option.some.injEq, Prod.mk.injEq] at hi
    obtain ⟨e1, e2⟩ := hi
    subst e2
    refine wp_buildSlice t e 1 #[(0, x)] ho cs ie z hu hq e1 (fun h => h0 (.inl h)) (fun h => h0 (.inr h)) (by simpa [hx] using hb) ?_
    rw [hdst]; exact h
/-- A call of a Go function that leaves the world, at a step of a drawn region. -/
theorem step_pure {w : World} {o : Oper} {a : Act} {K : Act → World → Prop} {E : Prop} (hgd : o.guard = none) (f : FuncId) (args : Array Operand) (tys : Array TypeId)
    (ho : o.op = .call { callee := .value (.func f), args := args, argTypes := tys }) (fn : Func) (hf : P.funcs[f]? = some fn) (vs : Array Value) (r : Value) (hx : args.map a.eval = vs) (hc : Calls P f vs w fun e w' => e = .returned r ∧ w = w')
    (hen : (execOp a.eval o).run P w = .ok (.enter f vs) w) (h : K (a.put o.dst r) w) :
    if Region.wanted o (yielded ops a.tmps) = true then Oper.wp P o a w K Q else E := by
  have hw : Region.wanted o (yielded ops a.tmps) = true := by simp [Region.wanted, hgd]
  rw [if_pos hw]
  unfold Oper.wp
  rw [hen, Oper.upon_enter]
  refine hc.mono ?_
  rintro e w' ⟨rfl, rfl⟩
  exact h
end
end Tap
end Go
namespace Go
namespace Tap
open Go.RowKit
section
variable {P : Program} {ops : Array Oper} {Q : Exit → Act → World → Prop}
theorem ex_cmp {o : Oper} {a : Act} {w : World} (op : BinOp) (T T' : TypeId) (x y : Operand) (ho : o.op = .binOp op T x y T') (X Y : Array Value) (hx : a.eval x = .agg X) (hy : a.eval y = .agg Y)
    (hm : P.eqGuardType P.depth T = false) (b : Bool) (hr : (binOp op T (.agg X) (.agg Y)).run P w = .ok (.bool b) w) : (execOp a.eval o).run P w = .ok (.value (.bool b)) w := by
  unfold execOp
  simp only [ho, hx, hy, Sem.run_bind, run_eqGuard_agg _ op T x y X Y hm, Result.andThen_ok, hr, Sem.run_pure]
theorem ex_cell {o : Oper} {a : Act} {w : World} (T : TypeId) (x : Operand) (ho : o.op = .load T x) (g of : Nat) (hx : a.eval x = .pointer (some ⟨g, of, none⟩)) (e : TypeId) (hu : P.underlying T = some (.slice e)) (v : Value) (hc : w.cell? ⟨g, of, none⟩ = some v) :
    (execOp a.eval o).run P w = .ok (.value v) w := by
  unfold execOp
  simp [ho, hx, Instr.loadAt, Instr.sureAddr, loadVar, isAgg, underlying, hu, hc, Result.andThen]
/-- A call of a Go function at a step of a drawn region. -/
theorem step_call {w : World} {o : Oper} {a : Act} {K : Act → World → Prop} {E : Prop} {F : Ending → World → Prop} (hw : Region.wanted o (yielded ops a.tmps) = true) (f : FuncId) (vs : Array Value)
    (hen : (execOp a.eval o).run P w = .ok (.enter f vs) w) (hc : Calls P f vs w F) (h : ∀ e w', F e w' → ∃ r, e = .returned r ∧ K (a.put o.dst r) w') :
    if Region.wanted o (yielded ops a.tmps) = true then Oper.wp P o a w K Q else E := by
  rw [if_pos hw]
  unfold Oper.wp
  rw [hen, Oper.upon_enter]
  refine hc.mono ?_
  rintro e w' hF
  obtain ⟨r, rfl, hk⟩ := h e w' hF
  exact hk
theorem callH {md : Region.Mode} {S : World → Prop} {i : Nat} {oi : Oper} {F : Ending → World → Prop} {fuel : Nat} {listed : Array Bool} {a : Act} {w : World} (f : FuncId) (vs : Array Value) (hi : ops[i]? = some oi)
    (hr : Region.ready md ops listed = [i]) (hw : Region.wanted oi (yielded ops a.tmps) = true) (hen : (execOp a.eval oi).run P w = .ok (.enter f vs) w) (hc : Calls P f vs w F)
    (h : ∀ e w', F e w' → ∃ r, e = .returned r ∧ S w' ∧ (S w' → wpAnyH P md ops Q S fuel (listed.setIfInBounds i true) (a.put oi.dst r) w')) : wpAnyH P md ops Q S (fuel + 1) listed a w := by
  refine wpAnyH_ready hr (by simp) ?_
  refine AllReadyH.cons hi (fun K hK => ?_) AllReadyH.nil
  refine step_call hw f vs hen hc ?_
  intro e w' hF
  obtain ⟨r, he, hs, hk⟩ := h e w' hF
  exact ⟨r, he, hK.out _ _ hs hk⟩
theorem takeK {md : Region.Mode} {S : World → Prop} {i : Nat} {oi : Oper} (v : Value) (d : Option Tmp) {fuel : Nat} {listed : Array Bool} {a : Act} {w : World} (hi : ops[i]? = some oi) (hd : oi.dst = d)
    (hs : Region.noSelect ops = true) (hf : Region.free md ops listed i = true) (hr : (Region.ready md ops listed).contains i = true)
    (hQ : ∀ c a w, Q (.panic c) (a.put d v) w → Q (.panic c) a w) (hw : Region.wanted oi (yielded ops a.tmps) = true) (hy : ∀ w, S w → (execOp a.eval oi).run P w = .ok (.value v) w) (hS : S w)
    (h : wpAnyH P md ops Q S fuel (listed.setIfInBounds i true) (a.put d v) w) : wpAnyH P md ops Q S (fuel + 1) listed a w := by
  subst hd
  exact takeH v hi hs hf hr hQ hw hy hS h
theorem callK {md : Region.Mode} {S : World → Prop} {i : Nat} {oi : Oper} {F : Ending → World → Prop} {fuel : Nat} {listed : Array Bool} {a : Act} {w : World} (f : FuncId) (vs : Array Value) (d : Option Tmp) (hi : ops[i]? = some oi) (hd : oi.dst = d)
    (hr : Region.ready md ops listed = [i]) (hw : Region.wanted oi (yielded ops a.tmps) = true) (hen : (execOp a.eval oi).run P w = .ok (.enter f vs) w) (hc : Calls P f vs w F)
    (h : ∀ e w', F e w' → ∃ r, e = .returned r ∧ S w' ∧ (S w' → wpAnyH P md ops Q S fuel (listed.setIfInBounds i true) (a.put d r) w')) : wpAnyH P md ops Q S (fuel + 1) listed a w := by
  subst hd
  exact callH f vs hi hr hw hen hc h
theorem bel_drw (w : World) : Below w.heap.size w w.drew := ⟨rfl, rfl, rfl, Nat.le_refl _, fun _ _ => rfl⟩
theorem step_alloc {w : World} {o : Oper} {a : Act} {K : Act → World → Prop} {E : Prop} (hw : Region.wanted o (yielded ops a.tmps) = true) (T : TypeId) (ho : o.op = .alloc T) (Z : Array Value) (n : Nat)
    (hi : (P.info? T).map (fun i => (i.zero, i.size)) = some (some (.agg Z), n)) (h : K (a.put o.dst (.pointer (some ⟨w.heap.size, 0, none⟩))) (w.alloc (.cells Z T))) :
    if Region.wanted o (yielded ops a.tmps) = true then Oper.wp P o a w K Q else E := by
  rw [if_pos hw]
  obtain ⟨hz1, hz2⟩ := zero_of_info hi
  refine wp_does (.pointer (some ⟨w.heap.size, 0, none⟩)) (w.alloc (.cells Z T)) ?_ h
  unfold execOp
  simp [ho, hz1, Result.andThen, Instr.alloc, newVar, Value.cells, newRow]
theorem step_store {w : World} {o : Oper} {a : Act} {K : Act → World → Prop} {E : Prop} (hw : Region.wanted o (yielded ops a.tmps) = true) (ty : TypeId) (x v : Operand) (ho : o.op = .store ty x v)
    (g of : Nat) (hx : a.eval x = .pointer (some ⟨g, of, none⟩)) (cs : Array Value) (hv : a.eval v = .agg cs) (cur : Array Value) (t : TypeId) (hg : w.heap[g]? = some (.cells cur t (0, 0))) (new : Array Value) (hnew : (splice cur.toList of cs.toList).toArray = new) (hfit : of + cs.size ≤ cur.size) (h1 : ∀ v ∈ cs.toList, v.oneCell' = true)
    (hi : (P.info? ty).map (·.size) = some cs.size) (h : ∀ w', w'.heap[g]? = some (.cells new t (0, 0)) → TStay (fun k => k = g) w w' → K (a.put o.dst undef) w') :
    if Region.wanted o (yielded ops a.tmps) = true then Oper.wp P o a w K Q else E := by
  rw [if_pos hw]
  refine wp_store_at ty x v ho g of hx cs hv cur t hg hfit h1 hi ?_
  rw [hnew]
  exact h _ (setRow_heap _ _ _ _ _ _ hg) (setRow_stay (TStay.refl (fun k => k = g) _) (.inl rfl) _)
end
end Tap
end Go
namespace Go.Proofs.YthampbiabkfmoaaGreatDoor
open Go.RowKit Go.Tap
theorem ret_cell_tmp {fn : Func} {p u : Tmp} {ty : TypeId} (hf : fn.results = #[.cell p ty, .tmp u]) {tmps : Array Value} {X : World} {b : Nat} {cs : Array Value} {t : TypeId} {fr : Nat × Nat} {d : TypeDesc} (hp : tmps.getD p undef = .pointer (some ⟨b, 0, none⟩)) (h : X.heap[b]? = some (.cells cs t fr))
    (hu : Tryz.prog.underlying ty = some d) (hd : isAggDesc d = true) (hi : (Tryz.prog.info? ty).map (·.size) = some cs.size) :
    (results fn tmps).run Tryz.prog X = .ok (.tuple #[.agg cs, tmps.getD u undef]) X := by
  rw [results_cell_tmp hf, hp]
  simp only [asAddr, Sem.run_pure, Result.andThen, run_loadVar_at (P := Tryz.prog) (Part.of_blk h) hu hd hi]
end Go.Proofs.YthampbiabkfmoaaGreatDoor
