/- Values of many cells (arrays, structs with arrays): read, stored, made, as wholes. -/
import Derived.Test.YthampbiabkfmoaaGreatDoorAid
import Derived.Laws.Rows
import Derived.Laws.CopyRow
import Derived.Laws.CopyOwn
import Derived.Laws.StructEq
namespace Go
namespace Tap
open Go.RowKit
set_option linter.unusedVariables false
section
variable {P : Program}
def isAggDesc (d : TypeDesc) : Bool := match d with | .struct _ | .array _ _ => true | _ => false
/-- A part of a block, read as a whole. -/
def Part (w : World) (g o : Nat) (cs : Array Value) : Prop := ∀ j v, cs[j]? = some v → w.cell? ⟨g, o + j, none⟩ = some v
theorem Part.of_blk {w : World} {g : Nat} {cs : Array Value} {t : TypeId} {fr : Nat × Nat} (h : w.heap[g]? = some (.cells cs t fr)) : Part w g 0 cs := fun j v hv => by
  rw [Nat.zero_add, cell_of_row w g j cs t fr h]; exact hv
theorem Part.keep {w w' : World} {g o : Nat} {cs : Array Value} (h : Part w g o cs) (hg : w'.heap[g]? = w.heap[g]?) : Part w' g o cs := fun j v hv => by
  have := h j v hv
  simpa [World.cell?, hg] using this
theorem run_loadVar_at {w : World} {g o : Nat} {ty : TypeId} {cs : Array Value} {d : TypeDesc} (hc : Part w g o cs) (hu : P.underlying ty = some d) (hd : isAggDesc d = true) (hi : (P.info? ty).map (·.size) = some cs.size) :
    (loadVar ty ⟨g, o, none⟩).run P w = .ok (.agg cs) w := by
  have hl : (loadCells ⟨g, o, none⟩ cs.toList.length).run P w = .ok cs.toList.toArray w :=
    run_loadCells_list (P := P) w ⟨g, o, none⟩ cs.toList (fun j v hv => by
      have hadd : (⟨g, o, none⟩ : Addr).add j = ⟨g, o + j, none⟩ := by unfold Addr.add; split <;> simp_all
      rw [hadd]; exact hc j v (by simpa using hv))
  cases hq : P.info? ty with
  | none => simp [hq] at hi
  | some i =>
    have hs : i.size = cs.size := by simpa [hq] using hi
    have hagg : (isAgg ty).run P w = .ok true w := by
      unfold isAgg
      rw [Sem.run_bind, run_underlying hu w]
      cases d <;> simp_all [isAggDesc]
    simp only [Array.length_toList, Array.toArray_toList] at hl
    simp [loadVar, Sem.run_bind, hagg, sizeOf, typeInfo, hq, hs, hl]
theorem wp_load_at {o : Oper} {a : Act} {w : World} {K : Act → World → Prop} {Q : Exit → Act → World → Prop} (ty : TypeId) (x : Operand) (ho : o.op = .load ty x)
    (g of : Nat) (hx : a.eval x = .pointer (some ⟨g, of, none⟩)) (cs : Array Value) (d : TypeDesc) (hc : Part w g of cs)
    (hu : P.underlying ty = some d) (hd : isAggDesc d = true) (hi : (P.info? ty).map (·.size) = some cs.size) (h : K (a.put o.dst (.agg cs)) w) : o.wp P a w K Q := by
  unfold Oper.wp execOp
  simp only [ho, hx, Instr.loadAt, Instr.sureAddr, Sem.run_bind, Sem.run_pure, Result.andThen_ok, run_loadVar_at hc hu hd hi]
  exact h
theorem wpList_load_at {ops : Array Oper} {rest : List Oper} {o : Oper} {a : Act} {w : World} {Q : Exit → Act → World → Prop} (hgd : o.guard = none) (ty : TypeId) (x : Operand) (ho : o.op = .load ty x)
    (g of : Nat) (hx : a.eval x = .pointer (some ⟨g, of, none⟩)) (cs : Array Value) (d : TypeDesc) (hc : Part w g of cs)
    (hu : P.underlying ty = some d) (hd : isAggDesc d = true) (hi : (P.info? ty).map (·.size) = some cs.size) (h : wpList P ops Q rest (a.put o.dst (.agg cs)) w) : wpList P ops Q (o :: rest) a w :=
  wpList_plain hgd fun _ hK => wp_load_at ty x ho g of hx cs d hc hu hd hi (hK _ _ h)
/-- A part of a block, stored as a whole. -/
theorem run_storeVar_at {w : World} {g o : Nat} {ty t : TypeId} {cur cs : Array Value} (hg : w.heap[g]? = some (.cells cur t (0, 0))) (hfit : o + cs.size ≤ cur.size) (h1 : ∀ v ∈ cs.toList, v.oneCell' = true) (hi : (P.info? ty).map (·.size) = some cs.size) :
    (storeVar ty ⟨g, o, none⟩ (.agg cs)).run P w = .ok () (w.setRow g (splice cur.toList o cs.toList).toArray) := by
  have hst := run_storeCells_at P g o t cs.toList 0 cur w hg (by simpa using hfit) h1
  cases hq : P.info? ty with
  | none => simp [hq] at hi
  | some i =>
    have hs : i.size = cs.size := by simpa [hq] using hi
    have hv : (Value.agg cs).cells = cs := rfl
    simp only [storeVar, Sem.run_bind, sizeOf, typeInfo, Sem.run_pure]
    simp [hq, hs, hv, Sem.run_bind]
    rw [hst]
    simp [splice]
theorem wp_store_at {op : Oper} {a : Act} {w : World} {K : Act → World → Prop} {Q : Exit → Act → World → Prop} (ty : TypeId) (x v : Operand) (ho : op.op = .store ty x v)
    (g o : Nat) (hx : a.eval x = .pointer (some ⟨g, o, none⟩)) (cs : Array Value) (hv : a.eval v = .agg cs) (cur : Array Value) (t : TypeId) (hg : w.heap[g]? = some (.cells cur t (0, 0))) (hfit : o + cs.size ≤ cur.size) (h1 : ∀ v ∈ cs.toList, v.oneCell' = true)
    (hi : (P.info? ty).map (·.size) = some cs.size) (h : K (a.put op.dst undef) (w.setRow g (splice cur.toList o cs.toList).toArray)) : op.wp P a w K Q := by
  unfold Oper.wp execOp
  simp only [ho, hx, hv, Instr.storeAt, Instr.sureAddr, Sem.run_bind, Sem.run_pure, Result.andThen_ok, run_storeVar_at hg hfit h1 hi]
  simpa [Oper.upon] using h
theorem wpList_store_at {ops : Array Oper} {rest : List Oper} {op : Oper} {a : Act} {w : World} {Q : Exit → Act → World → Prop} (hgd : op.guard = none) (ty : TypeId) (x v : Operand) (ho : op.op = .store ty x v)
    (g o : Nat) (hx : a.eval x = .pointer (some ⟨g, o, none⟩)) (cs : Array Value) (hv : a.eval v = .agg cs) (cur : Array Value) (t : TypeId) (hg : w.heap[g]? = some (.cells cur t (0, 0))) (hfit : o + cs.size ≤ cur.size) (h1 : ∀ v ∈ cs.toList, v.oneCell' = true)
    (hi : (P.info? ty).map (·.size) = some cs.size) (h : wpList P ops Q rest (a.put op.dst undef) (w.setRow g (splice cur.toList o cs.toList).toArray)) : wpList P ops Q (op :: rest) a w :=
  wpList_plain hgd fun _ hK => wp_store_at ty x v ho g o hx cs hv cur t hg hfit h1 hi (hK _ _ h)
/-- Stored whole into the block that was made last: as if it had been made so. -/
theorem setRow_alloc (w : World) (zs cs : Array Value) (t : TypeId) (fr : Nat × Nat) : (w.alloc (.cells zs t fr)).setRow w.heap.size cs = w.alloc (.cells cs t fr) := by
  unfold World.setRow World.alloc
  simp only [World.mk.injEq]
  refine ⟨?_, by simp⟩
  apply Array.ext
  · simp
  · intro i h1 h2
    simp at h1
    rw [Array.getElem_modify]
    simp only [Array.getElem_push]
    split <;> split <;> first | rfl | (exfalso; omega) | simp_all
theorem splice_all {α : Type} (L cs : List α) (h : cs.length = L.length) : splice L 0 cs = cs := by
  unfold splice
  rw [List.take_zero, List.nil_append, Nat.zero_add, h, List.drop_length, List.append_nil]
theorem foldl_set_splice : ∀ (vs : List Value) (off k : Nat) (cells : Array Value), off + k + vs.length ≤ cells.size →
    (vs.zipIdx k).foldl (fun (cs : Array Value) (x : Value × Nat) => cs.setIfInBounds (off + x.2) x.1) cells = (splice cells.toList (off + k) vs).toArray
  | [], off, k, cells, _ => by simp [splice]
  | v :: r, off, k, cells, h => by
    rw [List.zipIdx_cons, List.foldl_cons, foldl_set_splice r off (k + 1) _ (by simp at h ⊢; omega)]
    simp only [splice, List.length_cons]
    congr 1
    rw [Array.toList_setIfInBounds]
    have hl : off + k < cells.toList.length := by simp at h ⊢; omega
    rw [show off + (k + 1) = off + k + 1 by omega, List.take_succ_eq_append_getElem (by simpa using hl), List.getElem_set_self, List.take_set_of_le (Nat.le_refl _), List.drop_set_of_lt (by omega), List.append_assoc]
    simp [Nat.add_comm, Nat.add_left_comm]
theorem fill_cons {place : Nat → Option (Nat × Nat)} {cells : Array Value} {i off size : Nat} {v : Value} {rest : List (Nat × Value)} (hp : place i = some (off, size)) (hs : v.cells.size = size) (hf : off + size ≤ cells.size) :
    Instr.fill place cells ((i, v) :: rest) = Instr.fill place (splice cells.toList off v.cells.toList).toArray rest := by
  have hz := foldl_set_splice v.cells.toList off 0 cells (by simpa [hs] using hf)
  rw [Instr.fill, hp]
  simp only [hs, ne_eq, not_true_eq_false, decide_false, Bool.false_or, gt_iff_lt, decide_eq_true_eq]
  rw [if_neg (by omega)]
  rw [Nat.add_zero] at hz
  rw [← hz, ← Array.foldl_toList, Array.toList_zipIdx]
theorem run_part_u8 {w : World} {e : TypeId} {d : TypeDesc} (he : P.underlying e = some d) (hd : isAggDesc d = false) {cs : Array Value} {i : Nat} {v : Value} (hv : cs[i]? = some v) : (part e cs i).run P w = .ok v w := by
  have hagg : (isAgg e).run P w = .ok false w := by
    unfold isAgg
    rw [Sem.run_bind, run_underlying he w]
    cases d <;> simp_all [isAggDesc]
  simp [part, Sem.run_bind, hagg, hv]
theorem run_forIn_all {β : Type} (w : World) (p : Nat → Bool) (s0 s1 : β) (body : Nat → β → Sem (ForInStep β)) : ∀ (k s : Nat), (∀ i, s ≤ i → i < s + k → (body i s0).run P w = .ok (if p i = true then .yield s0 else .done s1) w) →
    (forIn (List.range' s k 1) s0 body).run P w = .ok (if (List.range' s k 1).all p = true then s0 else s1) w
  | 0, s, h => by simp
  | k + 1, s, h => by
    rw [List.range'_succ, List.forIn_cons, Sem.run_bind, h s (Nat.le_refl _) (by omega), Result.andThen_ok]
    cases hp : p s
    · simp [hp]
    · simp only [if_true, List.all_cons, hp, Bool.true_and]
      exact run_forIn_all w p s0 s1 body k (s + 1) (fun i h1 h2 => h i (by omega) (by omega))
theorem run_equalIn_bytes {w : World} {d n : Nat} {t e : TypeId} (hu : P.underlying t = some (.array n e)) (he : P.underlying e = some (.int .u8)) (hi : (P.info? e).map (·.size) = some 1) (a b : List UInt8) (ha : a.length = n) (hb : b.length = n) :
    (Op.equalIn (d + 2) t (.agg (bv a).toArray) (.agg (bv b).toArray)).run P w = .ok (decide (a = b)) w := by
  cases hq : P.info? e with
  | none => simp [hq] at hi
  | some i =>
    have hs : i.size = 1 := by simpa [hq] using hi
    have hsz : (sizeOf e).run P w = .ok 1 w := by simp [sizeOf, typeInfo, hq, hs]
    rw [Op.equalIn]
    simp only [Sem.run_bind, run_underlying hu, Result.andThen_ok, hsz]
    rw [Std.Legacy.Range.forIn_eq_forIn_range']
    refine (congrArg (fun r => Result.andThen r _) (run_forIn_all w (fun i => decide (a[i]? = b[i]?)) _ (some false, ()) _ _ _ ?_)).trans ?_
    · intro i h1 h2
      simp only [Std.Legacy.Range.size] at h2
      have h3 : i < n := by simp at h2; omega
      have e1 : a[i]? = some (a[i]'(by omega)) := List.getElem?_eq_getElem _
      have e2 : b[i]? = some (b[i]'(by omega)) := List.getElem?_eq_getElem _
      generalize a[i]'(by omega) = x at e1
      generalize b[i]'(by omega) = y at e2
      have g1 : (bv a).toArray[i * 1]? = some (.int .u8 (x.toNat : Int)) := by simp [bv_getElem?, e1]
      have g2 : (bv b).toArray[i * 1]? = some (.int .u8 (y.toNat : Int)) := by simp [bv_getElem?, e2]
      have r1 := run_part_u8 (w := w) he rfl g1
      have r2 := run_part_u8 (w := w) he rfl g2
      simp only [Sem.run_bind, r1, r2, Result.andThen_ok, run_equalIn_int w d e .u8 .u8 _ _ he, e1, e2]
      have hxy : ((x.toNat : Int) == (y.toNat : Int)) = decide (some x = some y) := by
        rw [Bool.eq_iff_iff]; simp; exact ⟨fun h => UInt8.toNat_inj.1 (by omega), fun h => by rw [h]⟩
      rw [hxy]
      cases decide (some x = some y) <;> simp
    · simp only [Result.andThen_ok]
      have : ((List.range' 0 [:n].size).all fun i => decide (a[i]? = b[i]?)) = decide (a = b) := by
        rw [Bool.eq_iff_iff]
        simp [Std.Legacy.Range.size]
        constructor
        · intro h
          apply List.ext_getElem?
          intro i
          by_cases hin : i < n
          · exact h i hin
          · rw [List.getElem?_eq_none (by omega), List.getElem?_eq_none (by omega)]
        · rintro rfl i _; rfl
      rw [this]
      cases decide (a = b) <;> simp
/-- 'h[:]' of an array's place. -/
theorem run_slice_array {w : World} {t e : TypeId} {n g o : Nat} (hu : P.underlying t = some (.array n e)) (hi : (P.info? e).map (·.size) = some 1) : (Instr.sliceAt t (.pointer (some ⟨g, o, none⟩)) none none none).run P w = .ok (.slice (some ⟨g, o, none⟩) n n) w := by
  cases hq : P.info? e with
  | none => simp [hq] at hi
  | some i =>
    have hs : i.size = 1 := by simpa [hq] using hi
    have hsz : (sizeOf e).run P w = .ok 1 w := by simp [sizeOf, typeInfo, hq, hs]
    simp [Instr.sliceAt, Sem.run_bind, run_underlying hu, Instr.sureAddr, Instr.sliceBounds, hsz, Addr.add]
end
end Tap
end Go
