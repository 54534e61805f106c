/- A table laid as a local array: built, a new block, stored whole. -/
import Derived.Great.Walk
import Derived.Great.Frames
import Derived.Deep.WholeRow
namespace Go
namespace Tap
theorem wpList_tab {P : Program} {ops : Array Oper} {rest : List Oper} {o1 o2 o3 : Oper} {a : Act} {w : World} {Q : Exit → Act → World → Prop}
    (t : TypeId) (parts : Array (Nat × Operand)) (i j : Nat) (cells z : Array Value)
    (g1 : o1.guard = none) (h1 : o1.op = .build t parts) (d1 : o1.dst = some i) (g2 : o2.guard = none) (h2 : o2.op = .alloc t) (d2 : o2.dst = some j)
    (g3 : o3.guard = none) (h3 : o3.op = .store t (.tmp j) (.tmp i)) (d3 : o3.dst = none)
    (hb : P.built t (parts.map fun (i, x) => (i, a.eval x)).toList = some cells)
    (hi : (P.info? t).map (fun i => (i.zero, i.size)) = some (some (.agg z), cells.size)) (hz : z.size = cells.size) (hone : cells.all (·.oneCell') = true)
    (hij : i ≠ j) (hi' : i < a.tmps.size) (hj' : j < a.tmps.size)
    (h : wpList P ops Q rest ((a.put (some i) (.agg cells)).put (some j) (.pointer (some ⟨w.heap.size, 0, none⟩))) (w.alloc (.cells cells t))) : wpList P ops Q (o1 :: o2 :: o3 :: rest) a w := by
  obtain ⟨hz1, hz2⟩ := zero_of_info hi
  refine wpList_build g1 t parts h1 (by rw [hb]; rfl) ?_
  rw [hb, d1]
  refine Great.wpList_runTo g2 (some j) d2 (.pointer (some ⟨w.heap.size, 0, none⟩)) (w.alloc (.cells z t)) ?_ ?_
  · unfold execOp
    simp [h2, hz1, Result.andThen, Instr.alloc, newVar, Value.cells, newRow]
  · refine wpList_store_row g3 t (.tmp j) (.tmp i) h3 w.heap.size cells (Act.eval_put_same _ _ _ (by simp [Act.put]; exact hj')) ?_ t z (heap_alloc_last w _) hz2 hz hone ?_
    · rw [Act.eval_put_ne _ _ _ _ (by omega), Act.eval_put_same _ _ _ hi']; rfl
    · rw [World.setRow_alloc_new, d3]
      exact h
end Tap
end Go
