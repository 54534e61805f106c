/- A root in a variable's cells; what stands behind a store into such a variable. -/
import Derived.Test.YtggdbdjaobgeeaaGreatDoorRtWhPl
import Derived.Test.YtggdbdjaobgeeaaGreatDoorRootKnown
import Derived.Test.YtggdbdjaobgeeaaGreatDoorOpen
namespace Go.Proofs.YtggdbdjaobgeeaaGreatDoor
open Go.RowKit Go.Tap Go.Maps
set_option linter.unusedVariables false

theorem argI_below {N : Nat} {w X : World} {a : Option Addr} {n c : Nat} {zs : List Int} (h : ArgI N w a n c zs) (hb : Below w.heap.size w X) : ArgI N X a n c zs := by
  refine ⟨h.len, fun hn => ?_, h.le, h.none, h.cap, h.reach⟩
  obtain ⟨b, o, e, hx⟩ := h.at_ hn
  refine ⟨b, o, e, fun i x hi => ?_⟩
  obtain ⟨h1, h2⟩ := hx i x hi
  exact ⟨(World.cell?_of_block (hb.block _ (World.block_lt_of_cell? w _ h1))).trans h1, h2⟩
theorem argR_below {N : Nat} {w X : World} {r : RawD} (h : ArgR N w r) (hb : Below w.heap.size w X) : ArgR N X r := ⟨h.1, argI_below h.2 hb⟩
/-- A root stands in a variable's three cells, its logs in a row of our own. -/
def RootAt (X : World) (lo b : Nat) (T : TypeId) (r : Rt.Root) : Prop :=
  ∃ a n c, X.heap[b]? = some (.cells #[.int .i64 r.gen, .slice a n c, .int .i64 r.idx] T (0, 0)) ∧ X.ownsRow lo 3 1 (.slice a n c) n (iv r.logs) ∧ n ≤ 10 ∧ lo ≤ b
theorem RootAt.lt {X : World} {lo b : Nat} {T : TypeId} {r : Rt.Root} (h : RootAt X lo b T r) : b < X.heap.size := by
  obtain ⟨a, n, c, h1, _⟩ := h
  exact blk_lt h1
theorem RootAt.ge {X : World} {lo b : Nat} {T : TypeId} {r : Rt.Root} (h : RootAt X lo b T r) : lo ≤ b := by
  obtain ⟨a, n, c, _, _, _, h1⟩ := h
  exact h1
theorem RootAt.keep {X Y : World} {lo b : Nat} {T : TypeId} {r : Rt.Root} (h : RootAt X lo b T r) (hk : KeepT X Y) (h1 : T ≠ 125) (h2 : T ≠ 143) : RootAt Y lo b T r := by
  obtain ⟨a, n, c, q1, q2, q3, q4⟩ := h
  exact ⟨a, n, c, (hk b _ _ _ q1 h1 h2).trans q1, rown_nd q2 hk (by decide) (by decide), q3, q4⟩
theorem RootAt.below {X Y : World} {lo b : Nat} {T : TypeId} {r : Rt.Root} (h : RootAt X lo b T r) (hb : Below X.heap.size X Y) : RootAt Y lo b T r := by
  obtain ⟨a, n, c, q1, q2, q3, q4⟩ := h
  exact ⟨a, n, c, (hb.block b (blk_lt q1)).trans q1, own_blw q2 hb, q3, q4⟩
theorem own_set {X Y : World} {base e size : Nat} {v : Value} {n : Nat} {xs : List Value} (h : X.ownsRow base e size v n xs) {k : Nat} {cs : Array Value} {T : TypeId} {fr : Nat × Nat} (hk : X.heap[k]? = some (.cells cs T fr)) (hT : T ≠ e) (ht : TStay (fun j => j = k) X Y) : Y.ownsRow base e size v n xs := by
  refine ⟨h.1, ?_⟩
  rcases h.2 with hn | ⟨g, cap, cur, rfl, hb, hg, r⟩
  · exact .inl hn
  · refine .inr ⟨g, cap, cur, rfl, hb, (ht.block g (blk_lt hg) (fun e' => ?_)).trans hg, r⟩
    subst e'
    rw [hk] at hg
    simp only [Option.some.injEq, Obj.cells.injEq] at hg
    exact hT hg.2.1
theorem RootAt.set {X Y : World} {lo b : Nat} {T : TypeId} {r : Rt.Root} (h : RootAt X lo b T r) {k : Nat} {cs : Array Value} {T' : TypeId} {fr : Nat × Nat} (hk : X.heap[k]? = some (.cells cs T' fr)) (hT : T' ≠ 3) (hb : b ≠ k) (ht : TStay (fun j => j = k) X Y) : RootAt Y lo b T r := by
  obtain ⟨a, n, c, q1, q2, q3, q4⟩ := h
  exact ⟨a, n, c, (ht.block b (blk_lt q1) hb).trans q1, own_set q2 hk hT ht, q3, q4⟩
theorem isDk_set {X Y : World} {lo B : Nat} {d : Dsk.Dk} (h : IsDk X lo B d) {k : Nat} {cs : Array Value} {T : TypeId} {fr : Nat × Nat} (hk : X.heap[k]? = some (.cells cs T fr)) (h1 : T ≠ 125) (h2 : T ≠ 143) (h3 : T ≠ 5) (ht : TStay (fun j => j = k) X Y) : IsDk Y lo B d := by
  obtain ⟨bd, bn, pv, q1, q2⟩ := h
  refine ⟨bd, bn, pv, q1.stay (fun j xs fr' hj => ht.block j (blk_lt hj) (fun e => ?_)) (fun j hj => ht.block j (q1.lt j hj) (fun e => ?_)), q2⟩
  · subst e
    rw [hk] at hj
    simp only [Option.some.injEq, Obj.cells.injEq] at hj
    exact h3 hj.2.1
  · subst e
    obtain ⟨xs', hp⟩ := q1.pend.own
    rcases hj with rfl | rfl | rfl | hj
    · have := q1.blk
      rw [hk] at this
      simp only [Option.some.injEq, Obj.cells.injEq] at this
      exact h1 this.2.1
    · obtain ⟨es, cl, hm⟩ := q1.done.blk; rw [hk] at hm; cases hm
    · obtain ⟨es, cl, hm⟩ := q1.now.blk; rw [hk] at hm; cases hm
    · rcases hp.2 with ⟨rfl, _⟩ | ⟨g, cap, cur, rfl, _, hg, _⟩
      · simp [Value.ownBlock] at hj
      · simp [Value.ownBlock] at hj
        subst hj
        rw [hk] at hg
        simp only [Option.some.injEq, Obj.cells.injEq] at hg
        exact h2 hg.2.1
/-- Three cells stored. -/
def set3w (X : World) (k : Nat) (x y z : Value) : World := ((X.setCell ⟨k, 0, none⟩ x).setCell ⟨k, 1, none⟩ y).setCell ⟨k, 2, none⟩ z
theorem set3w_stay (X : World) (k : Nat) (x y z : Value) : TStay (fun j => j = k) X (set3w X k x y z) :=
  (((TStay.refl (fun j => j = k) X).setCell (p := ⟨k, 0, none⟩) (.inl rfl) x).setCell (p := ⟨k, 1, none⟩) (.inl rfl) y).setCell (p := ⟨k, 2, none⟩) (.inl rfl) z
theorem set3w_below {X w : World} {k : Nat} (hb : Below w.heap.size w X) (hk : w.heap.size ≤ k) (x y z : Value) : Below w.heap.size w (set3w X k x y z) := ((hb.setCell hk x).setCell hk y).setCell hk z
/-- A root's variable gets the root of another. -/
theorem RootAt.put {X : World} {lo b k : Nat} {T T' : TypeId} {r s : Rt.Root} (h : RootAt X lo k T' s) (hT : T' ≠ 3) {a : Option Addr} {n c : Nat} (hr : X.ownsRow lo 3 1 (.slice a n c) n (iv r.logs)) (hn : n ≤ 10) : RootAt (set3w X k (.int .i64 r.gen) (.slice a n c) (.int .i64 r.idx)) lo k T' r := by
  obtain ⟨a', n', c', q1, q2, q3, q4⟩ := h
  exact ⟨a, n, c, set3 q1 _ _ _, own_set hr q1 hT (set3w_stay _ _ _ _ _), hn, q4⟩
theorem rootAt_new {X : World} {lo : Nat} {T : TypeId} {r : Rt.Root} {a : Option Addr} {n c : Nat} (hr : X.ownsRow lo 3 1 (.slice a n c) n (iv r.logs)) (hn : n ≤ 10) (hlo : lo ≤ X.heap.size) : RootAt (X.alloc (.cells #[.int .i64 r.gen, .slice a n c, .int .i64 r.idx] T)) lo X.heap.size T r :=
  ⟨a, n, c, heap_alloc_new _ _, own_blw hr ((Below.refl _ _).alloc (Nat.le_refl _) _), hn, hlo⟩
/-- What a load of such a variable reads. -/
theorem RootAt.cells {X : World} {lo b : Nat} {T : TypeId} {r : Rt.Root} (h : RootAt X lo b T r) : ∃ a n c, (∀ Y : World, Below X.heap.size X Y → (Y.cell? ⟨b, 0, none⟩ = some (.int .i64 r.gen) ∧ Y.cell? ⟨b, 1, none⟩ = some (.slice a n c) ∧ Y.cell? ⟨b, 2, none⟩ = some (.int .i64 r.idx)) ∧ Ints Y a n c r.logs ∧ Y.ownsRow lo 3 1 (.slice a n c) n (iv r.logs)) ∧ n ≤ 10 := by
  obtain ⟨a, n, c, q1, q2, q3, q4⟩ := h
  refine ⟨a, n, c, fun Y hY => ?_, q3⟩
  have q5 := (hY.block b (blk_lt q1)).trans q1
  have q6 := own_blw q2 hY
  exact ⟨⟨blk_cell (i := 0) q5 rfl, blk_cell (i := 1) q5 rfl, blk_cell (i := 2) q5 rfl⟩, Ints.of_own q6, q6⟩
end Go.Proofs.YtggdbdjaobgeeaaGreatDoor
/- RootWhole: what a round leaves behind the save and the crash, and what is then loaded. -/
namespace Go.Proofs.YtggdbdjaobgeeaaGreatDoor
open Go.RowKit Go.Tap Go.Maps
set_option linter.unusedVariables false

namespace Rt
/-- Which root the disk holds behind a save of r that went well or not. -/
def Hold (d : Dsk.Dk) (nw r : Root) (ok : Bool) (L : Option Root) : Prop :=
  may r = true ∧ ((L = some r ∧ Now d r) ∨ (ok = false ∧ Now d nw ∧ L = if nw.gen = -1 then none else some nw))
def sameB (q p : Root) : Bool := decide (q.gen = p.gen ∧ q.idx = p.idx ∧ q.logs = p.logs)
theorem sameB_self (q : Root) : sameB q q = true := decide_eq_true ⟨rfl, rfl, rfl⟩
theorem sameB_eq {q p : Root} (h : sameB q p = true) : q = p := by
  have h := of_decide_eq_true h
  obtain ⟨a, b, c⟩ := q; obtain ⟨a', b', c'⟩ := p
  obtain ⟨h1, h2, h3⟩ := h
  simp only at h1 h2 h3
  rw [h1, h2, h3]
def oldB (L : Option Root) (nw : Root) : Bool := match L with | none => true | some q => sameB q nw
def freshB (L : Option Root) (r : Root) : Bool := match L with | none => false | some q => sameB q r
theorem Hold.ok {d : Dsk.Dk} {nw r : Root} {L : Option Root} (h : Hold d nw r true L) : freshB L r = true := by
  obtain ⟨_, ⟨rfl, _⟩ | ⟨h, _⟩⟩ := h
  · exact sameB_self r
  · cases h
theorem Hold.one {d : Dsk.Dk} {nw r : Root} {ok : Bool} {L : Option Root} (h : Hold d nw r ok L) : oldB L nw = true ∨ freshB L r = true := by
  obtain ⟨_, ⟨rfl, _⟩ | ⟨_, _, rfl⟩⟩ := h
  · exact .inr (sameB_self r)
  · left
    split
    · rfl
    · exact sameB_self nw
theorem Hold.fresh {d : Dsk.Dk} {nw r : Root} {ok : Bool} {L : Option Root} (h : Hold d nw r ok L) (hf : freshB L r = true) : Now d r := by
  obtain ⟨_, ⟨_, h⟩ | ⟨_, h, rfl⟩⟩ := h
  · exact h
  · split at hf
    · cases hf
    · rw [← sameB_eq hf]; exact h
theorem Hold.stale {d : Dsk.Dk} {nw r : Root} {ok : Bool} {L : Option Root} (h : Hold d nw r ok L) (hf : freshB L r = false) : Now d nw ∧ ok = false := by
  obtain ⟨_, ⟨rfl, _⟩ | ⟨h1, h, _⟩⟩ := h
  · rw [show freshB (some r) r = true from sameB_self r] at hf; cases hf
  · exact ⟨h, h1⟩
theorem Hold.none {d : Dsk.Dk} {nw r : Root} {ok : Bool} (h : Hold d nw r ok none) : nw.gen = -1 := by
  obtain ⟨_, ⟨h, _⟩ | ⟨_, _, h⟩⟩ := h
  · cases h
  · split at h
    · assumption
    · cases h
theorem Hold.dead {d : Dsk.Dk} {nw r : Root} {ok : Bool} {L : Option Root} (h : Hold d nw r ok L) : d.dead = false := by
  obtain ⟨_, ⟨_, h⟩ | ⟨_, h, _⟩⟩ := h <;> exact h.dead
theorem Hold.val {d : Dsk.Dk} {nw r : Root} {ok : Bool} {L : Option Root} (h : Hold d nw r ok L) : (Dsk.val d.now nmR).length ≤ 200 := by
  obtain ⟨_, ⟨_, h⟩ | ⟨_, h, _⟩⟩ := h <;> exact h.val
theorem Hold.logs {d : Dsk.Dk} {nw r : Root} {ok : Bool} {L : Option Root} (h : Hold d nw r ok L) {q : Root} (hq : L = some q) : q.logs.length ≤ 8 := by
  obtain ⟨_, ⟨h1, h⟩ | ⟨_, h, h1⟩⟩ := h
  · rw [hq] at h1; cases h1; exact h.len
  · rw [hq] at h1
    split at h1
    · cases h1
    · cases h1; exact h.len
/-- Behind the crash. -/
theorem Hold.of_save {d : Dsk.Dk} {nw r : Root} (h : Now d r) (hr : may r = true) (ok : Bool) : Hold d nw r ok (some r) := ⟨hr, .inl ⟨rfl, h⟩⟩
theorem Hold.of_was {d : Dsk.Dk} {nw r : Root} (h : Now d nw) (hr : may r = true) : ∃ L, Hold d nw r false L := ⟨_, hr, .inr ⟨rfl, h, rfl⟩⟩
end Rt
theorem rootCells {X : World} {lo b : Nat} {T : TypeId} {r : Rt.Root} {a : Option Addr} {n c : Nat} (q1 : X.heap[b]? = some (.cells #[.int .i64 r.gen, .slice a n c, .int .i64 r.idx] T (0, 0))) (q2 : X.ownsRow lo 3 1 (.slice a n c) n (iv r.logs)) :
    ∀ Y : World, Below X.heap.size X Y → (Y.cell? ⟨b, 0, none⟩ = some (.int .i64 r.gen) ∧ Y.cell? ⟨b, 1, none⟩ = some (.slice a n c) ∧ Y.cell? ⟨b, 2, none⟩ = some (.int .i64 r.idx)) ∧ Ints Y a n c r.logs ∧ Y.ownsRow lo 3 1 (.slice a n c) n (iv r.logs) := fun Y hY => by
  have q5 := (hY.block b (blk_lt q1)).trans q1
  have q6 := own_blw q2 hY
  exact ⟨⟨blk_cell (i := 0) q5 rfl, blk_cell (i := 1) q5 rfl, blk_cell (i := 2) q5 rfl⟩, Ints.of_own q6, q6⟩
/-- What a Load answers. -/
def LoadedIs (w w' : World) (e : Ending) : Option Rt.Root → Prop
  | none => e = .returned (.tuple #[root0, .iface 35 (.int .i64 11)])
  | some q => ∃ a n c, e = .returned (.tuple #[.agg #[.int .i64 q.gen, .slice a n c, .int .i64 q.idx], .nilIface]) ∧ w'.ownsRow w.heap.size 3 1 (.slice a n c) n (iv q.logs) ∧ n ≤ 8
theorem hold_load {w : World} {d : Dsk.Dk} {nw r : Rt.Root} {ok : Bool} {L : Option Rt.Root} (h : Rt.Hold d nw r ok L) {e : Ending} {w' : World} (hl : RtLoadAft w d e w') :
    Below w.heap.size w w' ∧ LoadedIs w w' e L := by
  obtain ⟨hr, ⟨hL, h⟩ | ⟨_, h, hL⟩⟩ := h
  · obtain ⟨hb, hq⟩ := now_load h hl
    refine ⟨hb, ?_⟩
    rw [hL]
    rcases hq with ⟨hg, _⟩ | ⟨_, hq⟩
    · exact absurd hg (Rt.may_gen hr)
    · exact hq
  · obtain ⟨hb, hq⟩ := now_load h hl
    refine ⟨hb, ?_⟩
    rcases hq with ⟨hg, hq⟩ | ⟨hg, hq⟩
    · rw [if_pos hg] at hL; rw [hL]; exact hq
    · rw [if_neg hg] at hL; rw [hL]; exact hq
/-- What '== nil' says of an error. -/
def EV (ev : Value) (ok : Bool) : Prop := (∀ w : World, (binOp .eql 31 ev .nilIface).run Tryz.prog w = .ok (.bool ok) w) ∧ ∀ (w : World) (t : Nat), (eqGuard .eql 31 (.tmp t) (.const .nilIface) ev .nilIface).run Tryz.prog w = .ok () w
theorem und_err : Tryz.prog.underlying 31 = some (.interface (Tryz.prog.methodsAt 31)) := by kernel_rfl
theorem ev_nil : EV .nilIface true := ⟨fun w => run_eql_nil_nil w _ und_err, fun w t => by rfl⟩
theorem ev_held (t : TypeId) (v : Value) : EV (.iface t v) false := ⟨fun w => run_eql_held_nil w _ t v und_err, fun w t => by rfl⟩
/-- What a Save answers, as an error. -/
theorem save_ev {w : World} {lo B : Nat} {d : Dsk.Dk} {r : Rt.Root} {e : Ending} {w' : World} (h : RtSaveAft w lo B d r e w') (hm : Rt.may r = true) :
    IsDk w' lo B (Rt.saveB d (Rt.lay r)).1 ∧ Below lo w w' ∧ KeepT w w' ∧ ∃ ev ok, e = .returned ev ∧ EV ev ok ∧ (ok = true ↔ (Rt.saveB d (Rt.lay r)).2 = 0) := by
  unfold RtSaveAft at h
  rw [if_pos hm] at h
  obtain ⟨h1, h2, h3, h4⟩ := h
  refine ⟨h1, h2, h3, ?_⟩
  split at h4
  · rename_i h5; exact ⟨_, true, h4, ev_nil, by simp [h5]⟩
  · rename_i h5
    obtain ⟨pb, h4, _⟩ := h4
    exact ⟨_, false, h4, ev_held _ _, by simp [h5]⟩
/-- What Kind says of an error. -/
def KV (W : World) (fv : Value) (k : Int) : Prop := ∀ Y, Below W.heap.size W Y → Calls Tryz.prog 15 #[fv] Y fun e w' => e = .returned (.int .i64 k) ∧ Below Y.heap.size Y w'
theorem loaded_kv {w w' : World} {e : Ending} {L : Option Rt.Root} (h : LoadedIs w w' e L) : ∃ s a n c fv, e = .returned (.tuple #[.agg #[.int .i64 s.gen, .slice a n c, .int .i64 s.idx], fv]) ∧ w'.ownsRow w.heap.size 3 1 (.slice a n c) n (iv s.logs) ∧ n ≤ 8 ∧ EV fv L.isSome ∧ (∀ q, L = some q → s = q) ∧
    (∀ W, EType W → KV W fv (if L.isSome = true then 0 else 11)) := by
  cases L with
  | none =>
    refine ⟨⟨0, [], 0⟩, none, 0, 0, _, h, World.ownsRow_nil _ _ _ _, by omega, ev_held _ _, (fun q h => by cases h), fun W hW Y hY => ?_⟩
    exact kind_errno Y 11 (hW.keep hY)
  | some q =>
    obtain ⟨a, n, c, h1, h2, h3⟩ := h
    refine ⟨q, a, n, c, _, h1, h2, h3, ev_nil, (fun q' h => by cases h; rfl), fun W hW Y hY => ?_⟩
    exact (kind_nil Y).mono (by rintro e w' ⟨rfl, hh⟩; obtain rfl := hh.symm; exact ⟨rfl, Below.refl _ _⟩)
end Go.Proofs.YtggdbdjaobgeeaaGreatDoor
