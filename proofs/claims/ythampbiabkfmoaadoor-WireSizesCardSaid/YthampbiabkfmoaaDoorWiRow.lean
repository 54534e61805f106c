/- Rows of items and entries: an element laid, appended; variables of many cells. -/
import Derived.Test.YthampbiabkfmoaaDoorWiRd
namespace Go
namespace Tap
open Go.RowKit
set_option linter.unusedVariables false
section
variable {P : Program}
theorem built_slice {e : TypeId} {z : Value} {sz : Nat} (hi : (P.info? e).map (fun i => (i.zero, i.size)) = some (some z, sz)) (h0 : ¬ (1 * sz > 2 ^ 24 ∨ 1 * sz = 0)) (parts : List (Nat × Value)) :
    P.builtSlice e 1 parts = Instr.fill (fun i => some (i * sz, sz)) ((Array.range (1 * sz)).map (z.cells[· % z.cells.size]!)) parts := by
  unfold Program.builtSlice
  cases hq : P.info? e with
  | none => simp [hq] at hi
  | some ie =>
    simp only [hq, Option.map_some, Option.some.injEq, Prod.mk.injEq] at hi
    simp only [hi.1, hi.2]
    rw [if_neg h0]
theorem built_one {e : TypeId} {z : Value} {sz : Nat} (hi : (P.info? e).map (fun i => (i.zero, i.size)) = some (some z, sz)) (h0 : ¬ (1 * sz > 2 ^ 24 ∨ 1 * sz = 0)) (cs : Array Value) (hs : cs.size = sz) : P.builtSlice e 1 [(0, .agg cs)] = some cs := by
  rw [built_slice hi h0, fill_cons (v := .agg cs) (off := 0 * sz) (size := sz) rfl hs (by simp)]
  have hc : (Value.agg cs).cells = cs := rfl
  rw [hc, Nat.zero_mul, splice_all _ _ (by simp [hs])]
  rfl
theorem wpL_rowOne {ops : Array Oper} {rest : List Oper} {o : Oper} {a : Act} {w : World} {Q : Exit → Act → World → Prop} (hg : o.guard = none) (t e : TypeId) (x : Operand) (ho : o.op = .buildSlice t 1 #[(0, x)])
    (d : Tmp) (hdst : o.dst = some d) (hu : P.underlying t = some (.slice e)) (cs : Array Value) (hx : a.eval x = .agg cs) (z : Value) (sz : Nat) (hi : (P.info? e).map (fun i => (i.zero, i.size)) = some (some z, sz)) (h0 : ¬ (1 * sz > 2 ^ 24 ∨ 1 * sz = 0)) (hs : cs.size = sz)
    (h : wpList P ops Q rest (a.put (some d) (.slice (some ⟨w.heap.size, 0, none⟩) 1 1)) (w.alloc (.cells cs e))) : wpList P ops Q (o :: rest) a w :=
  Great.wpList_buildSliceTo hg t e 1 #[(0, x)] ho w.heap.size rfl (some d) hdst hu cs (by simpa [hx] using built_one hi h0 cs hs) h
theorem wpL_alloc {ops : Array Oper} {rest : List Oper} {o : Oper} {a : Act} {w : World} {Q : Exit → Act → World → Prop} (hg : o.guard = none) (T : TypeId) (ho : o.op = .alloc T) (j : Tmp) (hd : o.dst = some j) (Z : Array Value) (n : Nat)
    (hi : (P.info? T).map (fun i => (i.zero, i.size)) = some (some (.agg Z), n)) (h : wpList P ops Q rest (a.put (some j) (.pointer (some ⟨w.heap.size, 0, none⟩))) (w.alloc (.cells Z T))) : wpList P ops Q (o :: rest) a w := by
  obtain ⟨hz1, hz2⟩ := zero_of_info hi
  refine Great.wpList_runTo hg (some j) hd (.pointer (some ⟨w.heap.size, 0, none⟩)) (w.alloc (.cells Z T)) ?_ h
  unfold execOp
  simp [ho, hz1, Result.andThen, Instr.alloc, newVar, Value.cells, newRow]
theorem setRow_stay {S : Nat → Prop} {a w : World} (h : TStay S a w) {g : Nat} (hg : S g ∨ a.heap.size ≤ g) (cs : Array Value) : TStay S a (w.setRow g cs) :=
  ⟨h.os, h.tape, h.output, by have := h.size; simp [World.setRow]; omega, fun k hk hn => by
    rw [setRow_other _ _ _ _ (by rintro rfl; rcases hg with hg | hg; exact hn hg; omega)]; exact h.block k hk hn⟩
end
end Tap
end Go
namespace Go.Proofs.YthampbiabkfmoaaDoor
open Go.RowKit Go.Tap
set_option linter.unusedVariables false
set_option linter.unusedSimpArgs false
theorem in_item : (Tryd.prog.info? 44).map (fun i => (i.zero, i.size, i.bytes)) = some (some (.agg (itC ⟨Wi.z32, 0, []⟩)), 34, 56) := by kernel_rfl
theorem in_entry : (Tryd.prog.info? 152).map (fun i => (i.zero, i.size, i.bytes)) = some (some (.agg (enC ⟨0, Wi.z32, 0, Wi.z32⟩)), 66, 80) := by kernel_rfl
theorem itC_one' (i : Wi.It) : ∀ v ∈ (itC i).toList, v.oneCell' = true := by
  intro v hv
  have := Array.all_eq_true_iff_forall_mem.1 (itC_one i) v (by simpa using hv)
  exact this
theorem enC_one' (i : Wi.En) : ∀ v ∈ (enC i).toList, v.oneCell' = true := by
  intro v hv
  have := Array.all_eq_true_iff_forall_mem.1 (enC_one i) v (by simpa using hv)
  exact this
theorem it_set33 (x : List UInt8) : (itC ⟨Wi.z32, 0, []⟩).setIfInBounds 33 (.string (str x)) = itC ⟨Wi.z32, 0, x⟩ := rfl
/-- A row of items of one's own. -/
abbrev OwnI (w : World) (base : Nat) (v : Value) (l : List Wi.It) : Prop := w.ownsRow base 44 34 v l.length (flatC itC l)
abbrev OwnE (w : World) (base : Nat) (v : Value) (l : List Wi.En) : Prop := w.ownsRow base 152 66 v l.length (flatC enC l)
/-- 'append(l, x)' of an item that lies whole in block B. -/
theorem wpL_appI (w : World) {ops : Array Oper} {rest : List Oper} {o : Oper} {a : Act} {Q : Exit → Act → World → Prop} (hgd : o.guard = none) (s x : Operand)
    (ho : o.op = .call { callee := .builtin .append, args := #[s, x], argTypes := #[26, 26] })
    (base : Nat) (v : Value) (l : List Wi.It) (hs : a.eval s = v) (hown : OwnI w base v l) (B : Nat) (i : Wi.It) (hi : i.ok) (hx : a.eval x = .slice (some ⟨B, 0, none⟩) 1 1) (hb : w.heap[B]? = some (.cells (itC i) 44 (0, 0)))
    (hl : l.length ≤ 1000000) (hbase : base ≤ w.heap.size)
    (h : ∀ v' w', OwnI w' base v' (l ++ [i]) → w.grownBy w' v.ownBlock → wpList Tryd.prog ops Q rest (a.put o.dst v') w') : wpList Tryd.prog ops Q (o :: rest) a w := by
  obtain ⟨i0, hi0, hz0, hz1, hz2⟩ := info_parts in_item
  refine wpList_append_one w hgd s x 26 ho base 44 i0 _ 34 56 Tryd.underlying26 hi0 hz0 hz1 hz2 (by decide) (by omega) v l.length (flatC itC l) hs hown B 1 (itC i) 44 hx hb (by rw [Array.length_toList, itC_size i hi]) (itC_one' i) (by omega) (by omega) hbase ?_
  intro v' w' h1 h2
  refine h v' w' ?_ h2
  have : OwnI w' base v' (l ++ [i]) := by
    show w'.ownsRow base _ _ v' (l ++ [i]).length (flatC itC (l ++ [i]))
    rw [flatC_snoc, List.length_append]; exact h1
  exact this
theorem wpL_appE (w : World) {ops : Array Oper} {rest : List Oper} {o : Oper} {a : Act} {Q : Exit → Act → World → Prop} (hgd : o.guard = none) (s x : Operand)
    (ho : o.op = .call { callee := .builtin .append, args := #[s, x], argTypes := #[86, 86] })
    (base : Nat) (v : Value) (l : List Wi.En) (hs : a.eval s = v) (hown : OwnE w base v l) (B : Nat) (i : Wi.En) (hi : i.ok) (hx : a.eval x = .slice (some ⟨B, 0, none⟩) 1 1) (hb : w.heap[B]? = some (.cells (enC i) 152 (0, 0)))
    (hl : l.length ≤ 1000000) (hbase : base ≤ w.heap.size)
    (h : ∀ v' w', OwnE w' base v' (l ++ [i]) → w.grownBy w' v.ownBlock → wpList Tryd.prog ops Q rest (a.put o.dst v') w') : wpList Tryd.prog ops Q (o :: rest) a w := by
  obtain ⟨i0, hi0, hz0, hz1, hz2⟩ := info_parts in_entry
  refine wpList_append_one w hgd s x 86 ho base 152 i0 _ 66 80 Tryd.underlying86 hi0 hz0 hz1 hz2 (by decide) (by omega) v l.length (flatC enC l) hs hown B 1 (enC i) 152 hx hb (by rw [Array.length_toList, enC_size i hi]) (enC_one' i) (by omega) (by omega) hbase ?_
  intro v' w' h1 h2
  refine h v' w' ?_ h2
  have : OwnE w' base v' (l ++ [i]) := by
    show w'.ownsRow base _ _ v' (l ++ [i]).length (flatC enC (l ++ [i]))
    rw [flatC_snoc, List.length_append]; exact h1
  exact this
theorem rdI_own {w : World} {base : Nat} {v : Value} {l : List Wi.It} (h : OwnI w base v l) (ho : ∀ i ∈ l, i.ok) : ∃ a c, v = .slice a l.length c ∧ RdI w a l.length l ∧ (a = none → c = 0) ∧ l.length ≤ c ∧ ∀ x, a = some x → base ≤ x.block := by
  obtain ⟨a, c, rfl, h1, h2, h3, h4⟩ := ownsRow_slice h
  refine ⟨a, c, rfl, RdA.of_own h rfl (fun x hx => itC_size x (ho x hx)), h3, h1, fun x hx => ?_⟩
  subst hx
  exact (h.lt x.block rfl).1
theorem rdE_own {w : World} {base : Nat} {v : Value} {l : List Wi.En} (h : OwnE w base v l) (ho : ∀ i ∈ l, i.ok) : ∃ a c, v = .slice a l.length c ∧ RdE w a l.length l ∧ (a = none → c = 0) ∧ l.length ≤ c ∧ ∀ x, a = some x → base ≤ x.block := by
  obtain ⟨a, c, rfl, h1, h2, h3, h4⟩ := ownsRow_slice h
  refine ⟨a, c, rfl, RdA.of_own h rfl (fun x hx => enC_size x (ho x hx)), h3, h1, fun x hx => ?_⟩
  subst hx
  exact (h.lt x.block rfl).1
end Go.Proofs.YthampbiabkfmoaaDoor
