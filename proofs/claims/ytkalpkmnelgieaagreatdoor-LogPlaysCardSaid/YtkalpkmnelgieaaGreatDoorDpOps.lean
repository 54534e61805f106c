/- DiskPlays: a disk and its like, call by call. -/
import Derived.Test.YtkalpkmnelgieaaGreatDoorDpRead
import Derived.Test.YtkalpkmnelgieaaGreatDoorAs
namespace Go.Proofs.YtkalpkmnelgieaaGreatDoor
open Go.RowKit Go.Tap Go.Maps
set_option linter.unusedVariables false
set_option linter.unusedSimpArgs false

namespace Dsk
def Dk.appendB (d : Dk) (s : Name) (l : List UInt8) : Dk × Nat := if good s then d.append s l else (d, 1)
def Dk.truncB (d : Dk) (s : Name) (n : Int) : Dk × Nat := if good s then d.trunc s n else (d, 1)
def Dk.renameB (d : Dk) (s t : Name) : Dk × Nat := if good s ∧ good t then d.rename s t else (d, 1)
def Dk.removeB (d : Dk) (s : Name) : Dk × Nat := if good s then d.remove s else (d, 1)
theorem wkp_putr (d : Dk) (x : Wk) (g : Files) : (d.putr x g).1.works ≤ d.works + 1 := by
  have := d.one_works
  unfold Dk.putr; split
  · exact this.2.1
  · exact this.2.1
theorem wkp_append (d : Dk) (s : Name) (l : List UInt8) : (d.appendB s l).1.works ≤ d.works + 1 := by
  unfold Dk.appendB; split
  · unfold Dk.append; split
    · exact Nat.le_succ _
    · split
      · exact Nat.le_succ _
      · exact wkp_putr _ _ _
  · exact Nat.le_succ _
theorem wkp_remove (d : Dk) (s : Name) : (d.removeB s).1.works ≤ d.works + 1 := by
  unfold Dk.removeB; split
  · unfold Dk.remove; split
    · exact wkp_putr _ _ _
    · exact Nat.le_succ _
  · exact Nat.le_succ _
theorem wkp_rename (d : Dk) (s t : Name) : (d.renameB s t).1.works ≤ d.works + 1 := by
  unfold Dk.renameB; split
  · unfold Dk.rename; split
    · exact wkp_putr _ _ _
    · exact Nat.le_succ _
  · exact Nat.le_succ _
theorem wkp_trunc (d : Dk) (s : Name) (n : Int) : (d.truncB s n).1.works ≤ d.works + 1 := by
  unfold Dk.truncB; split
  · unfold Dk.trunc; split
    · split
      · exact Nat.le_succ _
      · exact wkp_putr _ _ _
    · exact Nat.le_succ _
  · exact Nat.le_succ _
theorem wkp_sync (d : Dk) : d.sync.1.works ≤ d.works + 1 := by
  have := d.one_works
  unfold Dk.sync; split
  · exact this.2.1
  · exact this.2.1
end Dsk
namespace Ref
open Dsk
theorem Eq.appendB {d : Dk} {r : Rd} (h : Eq d r) (ho : Ok d) (s : Name) (l : List UInt8) : Eq (d.appendB s l).1 (r.append s l).1 ∧ (r.append s l).2 = (d.appendB s l).2 := by
  unfold Dk.appendB
  by_cases hs : good s
  · rw [if_pos hs]; exact h.append ho s hs l
  · rw [if_neg hs]; unfold Rd.append; rw [if_pos hs]; exact ⟨h, rfl⟩
theorem Eq.truncB {d : Dk} {r : Rd} (h : Eq d r) (ho : Ok d) (s : Name) (n : Int) : Eq (d.truncB s n).1 (r.trunc s n).1 ∧ (r.trunc s n).2 = (d.truncB s n).2 := by
  unfold Dk.truncB
  by_cases hs : good s
  · rw [if_pos hs]; exact h.trunc ho s hs n
  · rw [if_neg hs]; unfold Rd.trunc; rw [if_pos hs]; exact ⟨h, rfl⟩
theorem Eq.removeB {d : Dk} {r : Rd} (h : Eq d r) (ho : Ok d) (s : Name) : Eq (d.removeB s).1 (r.remove s).1 ∧ (r.remove s).2 = (d.removeB s).2 := by
  unfold Dk.removeB
  by_cases hs : good s
  · rw [if_pos hs]; exact h.remove ho s hs
  · rw [if_neg hs]; unfold Rd.remove; rw [if_pos hs]; exact ⟨h, rfl⟩
theorem Eq.renameB {d : Dk} {r : Rd} (h : Eq d r) (ho : Ok d) (s t : Name) : Eq (d.renameB s t).1 (r.rename s t).1 ∧ (r.rename s t).2 = (d.renameB s t).2 := by
  unfold Dk.renameB
  by_cases hs : good s ∧ good t
  · rw [if_pos hs]; exact h.rename ho s t hs.1 hs.2
  · rw [if_neg hs]; unfold Rd.rename
    rw [if_pos (by by_cases h1 : good s <;> by_cases h2 : good t <;> simp_all)]
    exact ⟨h, rfl⟩
theorem Eq.fused {d : Dk} {r : Rd} (h : Eq d r) (n : Int) : Eq { d with fuse := n } { r with fuse := n } := ⟨h.room, h.kept, h.pend, rfl, h.dead, h.works, h.apart⟩
theorem eq_new (room : Nat) : Eq (newD room) ⟨room, [], [], -1, false, 0⟩ := ⟨rfl, Like.nil, rfl, rfl, rfl, rfl, apart_nil⟩
end Ref
theorem opAft_none {w : World} {lo B : Nat} {d : Dsk.Dk} (h : IsDk w lo B d) : OpAft w lo B (d, 1) (.returned (errv 1)) w := ⟨rfl, h, Below.refl _ _, KeepT.refl _⟩
theorem appendB_any (w : World) (lo B : Nat) (d : Dsk.Dk) (h : IsDk w lo B d) (hw : d.works ≤ 99999) (s : List UInt8) (a : Option Addr) (n c : Nat) (l : List UInt8) (hr : Rds w a n l) (hz : a = none → c = 0) (hn : n ≤ 140737488355328) :
    Calls Tryz.prog 50 #[.pointer (some ⟨B, 0, none⟩), .string (str s), .slice a n c] w (OpAft w lo B (d.appendB s l)) := by
  unfold Dsk.Dk.appendB
  by_cases hs : Dsk.good s
  · rw [if_pos hs]; exact append_any w lo B d h hw s hs a n c l hr hz hn
  · rw [if_neg hs]; exact (append_bad w _ s hs _).mono fun e w' ⟨h1, h2⟩ => by subst h1; subst h2; exact opAft_none h
theorem truncB_any (w : World) (lo B : Nat) (d : Dsk.Dk) (h : IsDk w lo B d) (hw : d.works ≤ 99999) (s : List UInt8) (n : Int) :
    Calls Tryz.prog 38 #[.pointer (some ⟨B, 0, none⟩), .string (str s), .int .i64 n] w (OpAft w lo B (d.truncB s n)) := by
  unfold Dsk.Dk.truncB
  by_cases hs : Dsk.good s
  · rw [if_pos hs]; exact trunc_any w lo B d h hw s hs n
  · rw [if_neg hs]; exact (trunc_bad w _ s hs _).mono fun e w' ⟨h1, h2⟩ => by subst h1; subst h2; exact opAft_none h
theorem kind_errv (w : World) (k : Nat) (hg : EType w) : Calls Tryz.prog 13 #[errv k] w fun e w' => e = .returned (.int .i64 (k : Int)) ∧ Below w.heap.size w w' := by
  by_cases hk : k = 0
  · subst hk; exact (kind_nil w).mono fun e w' ⟨h1, h2⟩ => ⟨h1, by rw [h2]; exact Below.refl _ _⟩
  · unfold errv; rw [if_neg hk]; exact kind_errno w k hg
theorem IsRd.keepT {w w' : World} {B : Nat} {r : Ref.Rd} (h : IsRd w B r) (hk : KeepT w w') : IsRd w' B r := by
  obtain ⟨kv, pv, h⟩ := h
  exact ⟨kv, pv, h.keep (hk B _ _ _ h.blk (by decide) (by decide)) (KeepF.ofT hk)⟩
theorem isDk_other {X Y : World} {lo B : Nat} {d : Dsk.Dk} (h : IsDk X lo B d) {k : Nat} {cs : Array Value} {T : TypeId} {fr : Nat × Nat} (hk : X.heap[k]? = some (.cells cs T fr)) (h1 : T ≠ 86) (h2 : T ≠ 110) (h3 : T ≠ 5) (ht : TStay (fun j => j = k) X Y) : IsDk Y lo B d := by
  obtain ⟨bd, bn, pv, q1, q2⟩ := h
  refine ⟨bd, bn, pv, q1.stay (fun j xs fr' hj => ht.block j (blk_lt hj) (fun e => ?_)) (fun j hj => ht.block j (q1.lt j hj) (fun e => ?_)), q2⟩
  · subst e
    rw [hk] at hj
    simp only [Option.some.injEq, Obj.cells.injEq] at hj
    exact h3 hj.2.1
  · subst e
    obtain ⟨xs', hp⟩ := q1.pend.own
    rcases hj with rfl | rfl | rfl | hj
    · have := q1.blk
      rw [hk] at this
      simp only [Option.some.injEq, Obj.cells.injEq] at this
      exact h1 this.2.1
    · obtain ⟨es, cl, hm⟩ := q1.done.blk; rw [hk] at hm; cases hm
    · obtain ⟨es, cl, hm⟩ := q1.now.blk; rw [hk] at hm; cases hm
    · exact own_ne' hp hk h2 hj
/-- A disk, its like, and one block of another's, in one world. -/
structure DpSt (w : World) (B RB xb : Nat) (cs : Array Value) (T : TypeId) (X : World) (d : Dsk.Dk) (r : Ref.Rd) : Prop where
  dk : IsDk X w.heap.size B d
  rd : IsRd X RB r
  bel : Below w.heap.size w X
  x : X.heap[xb]? = some (.cells cs T (0, 0))
  rb : w.heap.size ≤ RB
  t : T ≠ 86 ∧ T ≠ 110 ∧ T ≠ 90
theorem DpSt.ok {w X : World} {B RB xb : Nat} {cs : Array Value} {T : TypeId} {d : Dsk.Dk} {r : Ref.Rd} (h : DpSt w B RB xb cs T X d r) : Dsk.Ok d := by obtain ⟨_, _, _, _, q⟩ := h.dk; exact q
theorem DpSt.go {w X Y : World} {B RB xb : Nat} {cs : Array Value} {T : TypeId} {d d' : Dsk.Dk} {r : Ref.Rd} (h : DpSt w B RB xb cs T X d r) (h1 : IsDk Y w.heap.size B d') (h2 : Below w.heap.size X Y) (h3 : KeepT X Y) : DpSt w B RB xb cs T Y d' r :=
  ⟨h1, h.rd.keepT h3, h.bel.trans h2, (h3 _ _ _ _ h.x h.t.1 h.t.2.1).trans h.x, h.rb, h.t⟩
theorem DpSt.op {w X Y : World} {B RB xb : Nat} {cs : Array Value} {T : TypeId} {d : Dsk.Dk} {r : Ref.Rd} {q : Dsk.Dk × Nat} {e : Ending} (h : DpSt w B RB xb cs T X d r) (ho : OpAft X w.heap.size B q e Y) : e = .returned (errv q.2) ∧ DpSt w B RB xb cs T Y q.1 r :=
  ⟨ho.1, h.go ho.2.1 ho.2.2.1 ho.2.2.2⟩
theorem DpSt.stay {w X Y : World} {B RB xb : Nat} {cs : Array Value} {T : TypeId} {d : Dsk.Dk} {r r' : Ref.Rd} (h : DpSt w B RB xb cs T X d r) (h1 : IsRd Y RB r') (h2 : TStay (fun k => k = RB) X Y) : DpSt w B RB xb cs T Y d r' := by
  obtain ⟨kv, pv, hr⟩ := h.rd
  refine ⟨isDk_other h.dk hr.blk (by decide) (by decide) (by decide) h2, h1, h.bel.trans (h2.below h.bel.size (fun k hk e => by have := h.rb; omega)), ?_, h.rb, h.t⟩
  have hx := h.x
  refine (h2.block xb (blk_lt hx) (fun e => ?_)).trans hx
  subst e
  rw [hr.blk] at hx
  simp only [Option.some.injEq, Obj.cells.injEq] at hx
  exact h.t.2.2 hx.2.1.symm
theorem DpSt.ref {w X Y : World} {B RB xb : Nat} {cs : Array Value} {T : TypeId} {d : Dsk.Dk} {r : Ref.Rd} {q : Ref.Rd × Nat} {e : Ending} (h : DpSt w B RB xb cs T X d r) (ho : ROp X RB q e Y) : e = .returned (.int .i64 (q.2 : Int)) ∧ DpSt w B RB xb cs T Y d q.1 :=
  ⟨ho.1, h.stay ho.2.1 ho.2.2⟩
theorem DpSt.below {w X Y : World} {B RB xb : Nat} {cs : Array Value} {T : TypeId} {d : Dsk.Dk} {r : Ref.Rd} (h : DpSt w B RB xb cs T X d r) (hb : Below X.heap.size X Y) : DpSt w B RB xb cs T Y d r :=
  ⟨h.dk.below hb, h.rd.below hb, h.bel.trans (hb.mono h.bel.size), (hb.block xb (blk_lt h.x)).trans h.x, h.rb, h.t⟩
/-- The bytes of a slice lie elsewhere than the disk. -/
theorem keeps_rd {X Y : World} {B : Nat} {r : Ref.Rd} (h : IsRd X B r) (ht : TStay (fun k => k = B) X Y) {a : Option Addr} {n c : Nat} {l : List UInt8} (hk : Keeps X a n c l) : Keeps Y a n c l := by
  obtain ⟨kv, pv, hv⟩ := h
  exact hk.stay (IsRv.keepB hv.blk ht).ku
end Go.Proofs.YtkalpkmnelgieaaGreatDoor
