/- RootWhole, plainly: what a round makes of the disk and of the root that was saved last. -/
import Derived.Test.YtggdbdjaobgeeaaGreatDoorRtRef
import Derived.Test.YtggdbdjaobgeeaaGreatDoorRtSaveW
import Derived.Test.YtggdbdjaobgeeaaGreatDoorAs
import Derived.Test.YtggdbdjaobgeeaaGreatDoorKindSt
namespace Go.Proofs.YtggdbdjaobgeeaaGreatDoor
open Go.RowKit Go.Tap Go.Maps
set_option linter.unusedVariables false

theorem rown_nd {w : World} {base e size : Nat} {v : Value} {n : Nat} {xs : List Value} (h : w.ownsRow base e size v n xs) {w' : World} (hk : KeepT w w') (h1 : e ≠ 125) (h2 : e ≠ 143) : w'.ownsRow base e size v n xs := by
  refine ⟨h.1, ?_⟩
  rcases h.2 with hn | ⟨g, cap, cur, rfl, hb, hg, r⟩
  · exact .inl hn
  · exact .inr ⟨g, cap, cur, rfl, hb, (hk g cur e (0, 0) hg h1 h2).trans hg, r⟩
namespace Rt
open Dsk
theorem wk_bind {r : Dk × Nat} {f : Dk → Dk × Nat} {n k : Nat} (h : r.1.works ≤ n) (hf : ∀ d, (f d).1.works ≤ d.works + k) : (bind r f).1.works ≤ n + k := by
  unfold bind
  split
  · have := hf r.1; omega
  · omega
theorem wk_saveB (d : Dk) (x : List UInt8) : (saveB d x).1.works ≤ d.works + 5 := by
  unfold saveB
  exact wk_bind (k := 4) (wk_clear d) fun d => wk_bind (k := 3) (wk_append d nmA x) fun d => wk_bind (k := 2) (wk_sync d) fun d => wk_bind (k := 1) (wk_rename d nmA nmR) fun d => wk_sync d
theorem wk_crash (d : Dk) (a b : Int) : (d.crash a b).works = d.works := rfl
/-- Which root a disk holds: none yet, or one that may be. -/
def Now (d : Dk) (nw : Root) : Prop := ∃ a, Inv d a ∧ ((a = none ∧ nw = ⟨-1, [], 0⟩) ∨ (may nw = true ∧ a = some (lay nw)))
theorem now_new : Now (newD 100000) ⟨-1, [], 0⟩ := ⟨none, inv_new, .inl ⟨rfl, rfl⟩⟩
theorem Now.fuse {d : Dk} {nw : Root} (h : Now d nw) (n : Int) : Now { d with fuse := n } nw := by
  obtain ⟨a, h1, h2⟩ := h
  exact ⟨a, h1.fuse n, h2⟩
theorem Now.dead {d : Dk} {nw : Root} (h : Now d nw) : d.dead = false := h.choose_spec.1.dead
theorem Now.ol {a : Option (List UInt8)} {nw : Root} (h : (a = none ∧ nw = ⟨-1, [], 0⟩) ∨ (may nw = true ∧ a = some (lay nw))) : ol a ≤ 200 := by
  rcases h with ⟨rfl, _⟩ | ⟨h, rfl⟩
  · exact Nat.zero_le _
  · have := lay_length _ h
    show (lay nw).length ≤ 200
    omega
theorem Now.val {d : Dk} {nw : Root} (h : Now d nw) : (Dsk.val d.now nmR).length ≤ 200 := by
  obtain ⟨a, h1, h2⟩ := h
  obtain ⟨b, hb, _⟩ := h1.fs
  have := Now.ol h2
  unfold Rt.ol at this
  unfold Dsk.val
  rw [hb.r]
  exact this
theorem Now.crash {d : Dk} {nw : Root} (h : Now d nw) (x y : Int) : Now (d.crash x y) nw := by
  obtain ⟨a, h1, h2⟩ := h
  exact ⟨a, h1.crash x y, h2⟩
theorem Now.len {d : Dk} {nw : Root} (h : Now d nw) : nw.logs.length ≤ 8 := by
  obtain ⟨a, h1, ⟨rfl, rfl⟩ | ⟨h, rfl⟩⟩ := h
  · exact Nat.zero_le _
  · exact ((may_iff _).1 h).2.2.2
/-- What a save of a round comes to. -/
theorem Now.save {d : Dk} {nw : Root} (h : Now d nw) (r : Root) (hr : may r = true) :
    ((saveB d (lay r)).2 = 0 ∧ Now (saveB d (lay r)).1 r) ∨ ((saveB d (lay r)).2 = 7 ∧ (saveB d (lay r)).1.dead = true ∧ ∀ x y, Now ((saveB d (lay r)).1.crash x y) nw ∨ Now ((saveB d (lay r)).1.crash x y) r) := by
  obtain ⟨a, h1, h2⟩ := h
  have hl := lay_length _ hr
  rcases saveB_is h1 (Now.ol h2) (lay r) (by omega) with ⟨e, q, _⟩ | ⟨e, q1, q2⟩
  · exact .inl ⟨e, _, q, .inr ⟨hr, rfl⟩⟩
  · refine .inr ⟨e, q1, fun x y => ?_⟩
    rcases q2 x y with q | q
    · exact .inl ⟨_, q, h2⟩
    · exact .inr ⟨_, q, .inr ⟨hr, rfl⟩⟩
theorem may_gen {r : Root} (h : may r = true) : r.gen ≠ -1 := by
  have h1 := ((may_iff r).1 h).1
  have h2 : 0 ≤ r.gen ∧ r.gen ≤ 1099511627776 := of_decide_eq_true h1
  omega
end Rt
theorem now_load {w : World} {d : Dsk.Dk} {nw : Rt.Root} (h : Rt.Now d nw) {e : Ending} {w' : World} (hl : RtLoadAft w d e w') :
    Below w.heap.size w w' ∧ ((nw.gen = -1 ∧ e = .returned (.tuple #[root0, .iface 35 (.int .i64 11)])) ∨
      (nw.gen ≠ -1 ∧ ∃ a n c, e = .returned (.tuple #[.agg #[.int .i64 nw.gen, .slice a n c, .int .i64 nw.idx], .nilIface]) ∧ w'.ownsRow w.heap.size 3 1 (.slice a n c) n (iv nw.logs) ∧ n ≤ 8)) := by
  obtain ⟨hb, hl⟩ := hl
  refine ⟨hb, ?_⟩
  obtain ⟨a, h1, h2⟩ := h
  obtain ⟨b, hb, _⟩ := h1.fs
  rw [hb.r] at hl
  rcases h2 with ⟨rfl, rfl⟩ | ⟨hm, rfl⟩
  · exact .inl ⟨rfl, hl⟩
  · simp only at hl
    rw [Rt.read_lay _ hm] at hl
    exact .inr ⟨Rt.may_gen hm, hl⟩
end Go.Proofs.YtggdbdjaobgeeaaGreatDoor
