/- Slices of items and entries that are read; mayRequest: what it answers. -/
import Derived.Test.YthampbiabkfmoaaGreatDoorWiEnt
import Derived.Test.YthampbiabkfmoaaGreatDoorTable
namespace Go
namespace Tap
open Go.RowKit
set_option linter.unusedVariables false
/-- A slice of elements of sz cells that is only read: its elements are l. -/
def RdA {α : Type} (C : α → Array Value) (sz : Nat) (w : World) (a : Option Addr) (n : Nat) (l : List α) : Prop :=
  l.length = n ∧ (0 < n → ∃ b o, a = some ⟨b, o, none⟩ ∧ b < w.heap.size ∧ ∀ j x, l[j]? = some x → Part w b (o + j * sz) (C x))
section
variable {α : Type} {C : α → Array Value} {sz : Nat}
theorem RdA.nil (w : World) (a : Option Addr) : RdA C sz w a 0 [] := ⟨rfl, fun h => absurd h (by omega)⟩
theorem RdA.lt {w : World} {b o n : Nat} {l : List α} (h : RdA C sz w (some ⟨b, o, none⟩) n l) (hn : 0 < n) : b < w.heap.size := by
  obtain ⟨b', o', e, hb, _⟩ := h.2 hn
  simp at e; omega
theorem RdA.keep {w w' : World} {a : Option Addr} {n : Nat} {l : List α} (h : RdA C sz w a n l) (hk : 0 < n → ∀ b o, a = some ⟨b, o, none⟩ → w'.heap[b]? = w.heap[b]?) (hs : w.heap.size ≤ w'.heap.size) : RdA C sz w' a n l := by
  refine ⟨h.1, fun hn => ?_⟩
  obtain ⟨b, o, e, hb, hc⟩ := h.2 hn
  exact ⟨b, o, e, by omega, fun j x hx => (hc j x hx).keep (hk hn b o e)⟩
theorem RdA.below {w w' : World} {a : Option Addr} {n : Nat} {l : List α} (h : RdA C sz w a n l) (hb : Below w.heap.size w w') : RdA C sz w' a n l :=
  h.keep (fun hn b o e => hb.block b (by subst e; exact h.lt hn)) hb.size
theorem RdA.stay {S : Nat → Prop} {w w' : World} {a : Option Addr} {n : Nat} {l : List α} (h : RdA C sz w a n l) (ht : TStay S w w') (hs : 0 < n → ∀ b o, a = some ⟨b, o, none⟩ → ¬ S b) : RdA C sz w' a n l :=
  h.keep (fun hn b o e => ht.block b (by subst e; exact h.lt hn) (hs hn b o e)) ht.size
theorem RdA.at {w : World} {a : Option Addr} {n : Nat} {l : List α} (h : RdA C sz w a n l) {k : Nat} {x : α} (hx : l[k]? = some x) : ∃ b o, a = some ⟨b, o, none⟩ ∧ b < w.heap.size ∧ Part w b (o + k * sz) (C x) := by
  have hk : k < l.length := (List.getElem?_eq_some_iff.1 hx).1
  obtain ⟨b, o, e, hb, hc⟩ := h.2 (by rw [← h.1]; omega)
  exact ⟨b, o, e, hb, hc k x hx⟩
/-- The cells of all elements in a row. -/
def flatC (C : α → Array Value) (l : List α) : List Value := (l.map fun x => (C x).toList).flatten
theorem flatC_snoc (l : List α) (x : α) : flatC C (l ++ [x]) = flatC C l ++ (C x).toList := by simp [flatC]
theorem flatC_length {l : List α} (h : ∀ x, x ∈ l → (C x).size = sz) : (flatC C l).length = l.length * sz := by
  induction l with
  | nil => simp [flatC]
  | cons x r ih =>
    have h1 := h x (List.mem_cons_self ..)
    have h2 := ih (fun y hy => h y (List.mem_cons_of_mem _ hy))
    simp only [flatC, List.map_cons, List.flatten_cons, List.length_append, Array.length_toList, List.length_cons] at h2 ⊢
    rw [h1, h2, Nat.succ_mul]; omega
theorem flatC_get : ∀ (l : List α), (∀ x, x ∈ l → (C x).size = sz) → ∀ (j : Nat) (x : α), l[j]? = some x → ∀ (i : Nat) (v : Value), (C x)[i]? = some v → (flatC C l)[j * sz + i]? = some v
  | [], _, j, x, h, _, _, _ => by simp at h
  | y :: r, hs, 0, x, h, i, v, hv => by
    simp at h; subst h
    simp only [flatC, List.map_cons, List.flatten_cons, Nat.zero_mul, Nat.zero_add]
    have hi : i < (C y).toList.length := by have := (Array.getElem?_eq_some_iff.1 hv).1; simpa using this
    rw [List.getElem?_append_left hi]; simpa using hv
  | y :: r, hs, j + 1, x, h, i, v, hv => by
    have h1 := hs y (List.mem_cons_self ..)
    have ih := flatC_get r (fun z hz => hs z (List.mem_cons_of_mem _ hz)) j x (by simpa using h) i v hv
    simp only [flatC, List.map_cons, List.flatten_cons] at ih ⊢
    rw [List.getElem?_append_right (by simp [h1, Nat.succ_mul]; omega)]
    have : (j + 1) * sz + i - (C y).toList.length = j * sz + i := by simp [h1, Nat.succ_mul]; omega
    rw [this]; exact ih
theorem RdA.of_own {w : World} {base e : Nat} {a : Option Addr} {n c : Nat} {l : List α} (h : w.ownsRow base e sz (.slice a n c) n (flatC C l)) (hn : l.length = n) (hs : ∀ x, x ∈ l → (C x).size = sz) : RdA C sz w a n l := by
  refine ⟨hn, fun h0 => ?_⟩
  rcases h.2 with ⟨h', hx⟩ | ⟨g, cap, cur, h', _, hg, _⟩
  · omega
  · simp only [Value.slice.injEq] at h'
    obtain ⟨rfl, _, _⟩ := h'
    refine ⟨g, 0, rfl, lt_of_block hg, fun j x hx i v hv => ?_⟩
    have := h.cells (g := g) rfl (j * sz + i) v (flatC_get l hs j x hx i v hv)
    rw [Nat.zero_add]
    simpa [Addr.add_lit] using this
variable {P : Program}
/-- A variable made, and a value of many cells stored into it. -/
theorem wpL_var {ops : Array Oper} {rest : List Oper} {o1 o2 : Oper} {a : Act} {w : World} {Q : Exit → Act → World → Prop}
    (T : TypeId) (i j : Nat) (Z : Array Value) (g1 : o1.guard = none) (h1 : o1.op = .alloc T) (d1 : o1.dst = some j) (g2 : o2.guard = none) (h2 : o2.op = .store T (.tmp j) (.tmp i)) (d2 : o2.dst = none)
    (cs : Array Value) (hv : a.eval (.tmp i) = .agg cs) (hi : (P.info? T).map (fun i => (i.zero, i.size)) = some (some (.agg Z), cs.size)) (hz : Z.size = cs.size) (hone : cs.all (·.oneCell') = true)
    (hij : i ≠ j) (hjb : decide (j < a.tmps.size) = true)
    (h : wpList P ops Q rest (a.put (some j) (.pointer (some ⟨w.heap.size, 0, none⟩))) (w.alloc (.cells cs T))) : wpList P ops Q (o1 :: o2 :: rest) a w := by
  obtain ⟨hz1, hz2⟩ := zero_of_info hi
  have hj' := of_decide_eq_true hjb
  refine Great.wpList_runTo g1 (some j) d1 (.pointer (some ⟨w.heap.size, 0, none⟩)) (w.alloc (.cells Z T)) ?_ ?_
  · unfold execOp
    simp [h1, hz1, Result.andThen, Instr.alloc, newVar, Value.cells, newRow]
  · refine wpList_store_row g2 T (.tmp j) (.tmp i) h2 w.heap.size cs (Act.eval_put_same _ _ _ hj') ?_ T Z (heap_alloc_last w _) hz2 hz hone ?_
    · rw [Act.eval_put_ne _ _ _ _ (by omega)]; exact hv
    · rw [World.setRow_alloc_new, d2]
      exact h
end
end Tap
end Go
namespace Go.Proofs.YthampbiabkfmoaaGreatDoor
open Go.RowKit Go.Tap
set_option linter.unusedVariables false
set_option linter.unusedSimpArgs false
abbrev RdI (w : World) (a : Option Addr) (n : Nat) (l : List Wi.It) : Prop := RdA itC 34 w a n l
abbrev RdE (w : World) (a : Option Addr) (n : Nat) (l : List Wi.En) : Prop := RdA enC 66 w a n l
theorem zi_hash : (Tryz.prog.info? 42).map (fun i => (i.zero, i.size)) = some (some (.agg (hashC Wi.z32)), 32) := by kernel_rfl
theorem one_bv (l : List UInt8) : ∀ v ∈ bv l, v.oneCell' = true := bv_one l
theorem itC_one (i : Wi.It) : (itC i).all (·.oneCell') = true := by
  rw [Array.all_eq_true_iff_forall_mem]
  intro v hv
  simp only [itC, List.mem_toArray, List.mem_append, List.mem_cons, List.not_mem_nil, or_false] at hv
  rcases hv with hv | rfl | rfl
  · exact bv_one _ v hv
  · rfl
  · rfl
theorem enC_one (i : Wi.En) : (enC i).all (·.oneCell') = true := by
  rw [Array.all_eq_true_iff_forall_mem]
  intro v hv
  simp only [enC, List.mem_toArray, List.mem_append, List.mem_cons, List.not_mem_nil, or_false] at hv
  rcases hv with ((rfl | hv) | rfl) | hv
  · rfl
  · exact bv_one _ v hv
  · rfl
  · exact bv_one _ v hv
theorem hashC_one (l : List UInt8) : (hashC l).all (·.oneCell') = true := by
  rw [Array.all_eq_true_iff_forall_mem]
  intro v hv
  exact bv_one l v (by simpa [hashC] using hv)
end Go.Proofs.YthampbiabkfmoaaGreatDoor
