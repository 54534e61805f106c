/- A root in a variable's cells; what stands behind a store into such a variable. -/
import Derived.Test.YtdlpehlgmfhheaaDoorRtWhPl
import Derived.Test.YtdlpehlgmfhheaaDoorRootKnown
import Derived.Test.YtdlpehlgmfhheaaDoorOpenR
namespace Go.Proofs.YtdlpehlgmfhheaaDoor
open Go.RowKit Go.Tap Go.Maps
set_option linter.unusedVariables false

theorem argI_below {N : Nat} {w X : World} {a : Option Addr} {n c : Nat} {zs : List Int} (h : ArgI N w a n c zs) (hb : Below w.heap.size w X) : ArgI N X a n c zs := by
  refine ⟨h.len, fun hn => ?_, h.le, h.none, h.cap, h.reach⟩
  obtain ⟨b, o, e, hx⟩ := h.at_ hn
  refine ⟨b, o, e, fun i x hi => ?_⟩
  obtain ⟨h1, h2⟩ := hx i x hi
  exact ⟨(World.cell?_of_block (hb.block _ (World.block_lt_of_cell? w _ h1))).trans h1, h2⟩
theorem argR_below {N : Nat} {w X : World} {r : RawD} (h : ArgR N w r) (hb : Below w.heap.size w X) : ArgR N X r := ⟨h.1, argI_below h.2 hb⟩
/-- A root stands in a variable's three cells, its logs in a row of our own. -/
def RootAt (X : World) (lo b : Nat) (T : TypeId) (r : Rt.Root) : Prop :=
  ∃ a n c, X.heap[b]? = some (.cells #[.int .i64 r.gen, .slice a n c, .int .i64 r.idx] T (0, 0)) ∧ X.ownsRow lo 3 1 (.slice a n c) n (iv r.logs) ∧ n ≤ 10 ∧ lo ≤ b
theorem RootAt.lt {X : World} {lo b : Nat} {T : TypeId} {r : Rt.Root} (h : RootAt X lo b T r) : b < X.heap.size := by
  obtain ⟨a, n, c, h1, _⟩ := h
  exact blk_lt h1
theorem RootAt.ge {X : World} {lo b : Nat} {T : TypeId} {r : Rt.Root} (h : RootAt X lo b T r) : lo ≤ b := by
  obtain ⟨a, n, c, _, _, _, h1⟩ := h
  exact h1
theorem RootAt.keep {X Y : World} {lo b : Nat} {T : TypeId} {r : Rt.Root} (h : RootAt X lo b T r) (hk : KeepT X Y) (h1 : T ≠ 179) (h2 : T ≠ 183) : RootAt Y lo b T r := by
  obtain ⟨a, n, c, q1, q2, q3, q4⟩ := h
  exact ⟨a, n, c, (hk b _ _ _ q1 h1 h2).trans q1, rown_nd q2 hk (by decide) (by decide), q3, q4⟩
theorem RootAt.below {X Y : World} {lo b : Nat} {T : TypeId} {r : Rt.Root} (h : RootAt X lo b T r) (hb : Below X.heap.size X Y) : RootAt Y lo b T r := by
  obtain ⟨a, n, c, q1, q2, q3, q4⟩ := h
  exact ⟨a, n, c, (hb.block b (blk_lt q1)).trans q1, own_blw q2 hb, q3, q4⟩
theorem own_set {X Y : World} {base e size : Nat} {v : Value} {n : Nat} {xs : List Value} (h : X.ownsRow base e size v n xs) {k : Nat} {cs : Array Value} {T : TypeId} {fr : Nat × Nat} (hk : X.heap[k]? = some (.cells cs T fr)) (hT : T ≠ e) (ht : TStay (fun j => j = k) X Y) : Y.ownsRow base e size v n xs := by
  refine ⟨h.1, ?_⟩
  rcases h.2 with hn | ⟨g, cap, cur, rfl, hb, hg, r⟩
  · exact .inl hn
  · refine .inr ⟨g, cap, cur, rfl, hb, (ht.block g (blk_lt hg) (fun e' => ?_)).trans hg, r⟩
    subst e'
    rw [hk] at hg
    simp only [Option.some.injEq, Obj.cells.injEq] at hg
    exact hT hg.2.1
theorem RootAt.set {X Y : World} {lo b : Nat} {T : TypeId} {r : Rt.Root} (h : RootAt X lo b T r) {k : Nat} {cs : Array Value} {T' : TypeId} {fr : Nat × Nat} (hk : X.heap[k]? = some (.cells cs T' fr)) (hT : T' ≠ 3) (hb : b ≠ k) (ht : TStay (fun j => j = k) X Y) : RootAt Y lo b T r := by
  obtain ⟨a, n, c, q1, q2, q3, q4⟩ := h
  exact ⟨a, n, c, (ht.block b (blk_lt q1) hb).trans q1, own_set q2 hk hT ht, q3, q4⟩
theorem isDk_set {X Y : World} {lo B : Nat} {d : Dsk.Dk} (h : IsDk X lo B d) {k : Nat} {cs : Array Value} {T : TypeId} {fr : Nat × Nat} (hk : X.heap[k]? = some (.cells cs T fr)) (h1 : T ≠ 179) (h2 : T ≠ 183) (h3 : T ≠ 5) (ht : TStay (fun j => j = k) X Y) : IsDk Y lo B d := by
  obtain ⟨bd, bn, pv, q1, q2⟩ := h
  refine ⟨bd, bn, pv, q1.stay (fun j xs fr' hj => ht.block j (blk_lt hj) (fun e => ?_)) (fun j hj => ht.block j (q1.lt j hj) (fun e => ?_)), q2⟩
  · subst e
    rw [hk] at hj
    simp only [Option.some.injEq, Obj.cells.injEq] at hj
    exact h3 hj.2.1
  · subst e
    obtain ⟨xs', hp⟩ := q1.pend.own
    rcases hj with rfl | rfl | rfl | hj
    · have := q1.blk
      rw [hk] at this
      simp only [Option.some.injEq, Obj.cells.injEq] at this
      exact h1 this.2.1
    · obtain ⟨es, cl, hm⟩ := q1.done.blk; rw [hk] at hm; cases hm
    · obtain ⟨es, cl, hm⟩ := q1.now.blk; rw [hk] at hm; cases hm
    · rcases hp.2 with ⟨rfl, _⟩ | ⟨g, cap, cur, rfl, _, hg, _⟩
      · simp [Value.ownBlock] at hj
      · simp [Value.ownBlock] at hj
        subst hj
        rw [hk] at hg
        simp only [Option.some.injEq, Obj.cells.injEq] at hg
        exact h2 hg.2.1
/-- Three cells stored. -/
def set3w (X : World) (k : Nat) (x y z : Value) : World := ((X.setCell ⟨k, 0, none⟩ x).setCell ⟨k, 1, none⟩ y).setCell ⟨k, 2, none⟩ z
theorem set3w_stay (X : World) (k : Nat) (x y z : Value) : TStay (fun j => j = k) X (set3w X k x y z) :=
  (((TStay.refl (fun j => j = k) X).setCell (p := ⟨k, 0, none⟩) (.inl rfl) x).setCell (p := ⟨k, 1, none⟩) (.inl rfl) y).setCell (p := ⟨k, 2, none⟩) (.inl rfl) z
theorem set3w_below {X w : World} {k : Nat} (hb : Below w.heap.size w X) (hk : w.heap.size ≤ k) (x y z : Value) : Below w.heap.size w (set3w X k x y z) := ((hb.setCell hk x).setCell hk y).setCell hk z
/-- A root's variable gets the root of another. -/
theorem RootAt.put {X : World} {lo b k : Nat} {T T' : TypeId} {r s : Rt.Root} (h : RootAt X lo k T' s) (hT : T' ≠ 3) {a : Option Addr} {n c : Nat} (hr : X.ownsRow lo 3 1 (.slice a n c) n (iv r.logs)) (hn : n ≤ 10) : RootAt (set3w X k (.int .i64 r.gen) (.slice a n c) (.int .i64 r.idx)) lo k T' r := by
  obtain ⟨a', n', c', q1, q2, q3, q4⟩ := h
  exact ⟨a, n, c, set3 q1 _ _ _, own_set hr q1 hT (set3w_stay _ _ _ _ _), hn, q4⟩
theorem rootAt_new {X : World} {lo : Nat} {T : TypeId} {r : Rt.Root} {a : Option Addr} {n c : Nat} (hr : X.ownsRow lo 3 1 (.slice a n c) n (iv r.logs)) (hn : n ≤ 10) (hlo : lo ≤ X.heap.size) : RootAt (X.alloc (.cells #[.int .i64 r.gen, .slice a n c, .int .i64 r.idx] T)) lo X.heap.size T r :=
  ⟨a, n, c, heap_alloc_new _ _, own_blw hr ((Below.refl _ _).alloc (Nat.le_refl _) _), hn, hlo⟩
/-- What a load of such a variable reads. -/
theorem RootAt.cells {X : World} {lo b : Nat} {T : TypeId} {r : Rt.Root} (h : RootAt X lo b T r) : ∃ a n c, (∀ Y : World, Below X.heap.size X Y → (Y.cell? ⟨b, 0, none⟩ = some (.int .i64 r.gen) ∧ Y.cell? ⟨b, 1, none⟩ = some (.slice a n c) ∧ Y.cell? ⟨b, 2, none⟩ = some (.int .i64 r.idx)) ∧ Ints Y a n c r.logs ∧ Y.ownsRow lo 3 1 (.slice a n c) n (iv r.logs)) ∧ n ≤ 10 := by
  obtain ⟨a, n, c, q1, q2, q3, q4⟩ := h
  refine ⟨a, n, c, fun Y hY => ?_, q3⟩
  have q5 := (hY.block b (blk_lt q1)).trans q1
  have q6 := own_blw q2 hY
  exact ⟨⟨blk_cell (i := 0) q5 rfl, blk_cell (i := 1) q5 rfl, blk_cell (i := 2) q5 rfl⟩, Ints.of_own q6, q6⟩
end Go.Proofs.YtdlpehlgmfhheaaDoor
