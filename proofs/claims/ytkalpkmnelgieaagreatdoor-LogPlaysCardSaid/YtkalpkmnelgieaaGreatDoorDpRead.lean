/- DiskPlays: Read alike. -/
import Derived.Test.YtkalpkmnelgieaaGreatDoorRfOp2
import Derived.Test.YtkalpkmnelgieaaGreatDoorDskBad
namespace Go.Proofs.YtkalpkmnelgieaaGreatDoor
open Go.RowKit Go.Tap Go.Maps
set_option linter.unusedVariables false
set_option linter.unusedSimpArgs false

/-- The bytes that Read tells. -/
def Ref.Rd.vals (r : Ref.Rd) (s : Dsk.Name) : List UInt8 := if r.dead = true then [] else Dsk.val r.now s
def Ref.Rd.has (r : Ref.Rd) (s : Dsk.Name) : Bool := if r.dead = true then false else (Dsk.get r.now s).isSome
theorem dread_any (w : World) (lo B : Nat) (d : Dsk.Dk) (h : IsDk w lo B d) (ho : Dsk.Ok d) (r : Ref.Rd) (he : Ref.Eq d r) (s : List UInt8) (hs : s.length ≤ 1048576) :
    Calls Tryz.prog 35 #[.pointer (some ⟨B, 0, none⟩), .string (str s)] w fun e w' => ∃ a c, e = .returned (.tuple #[.slice a (r.vals s).length c, .bool (r.has s)]) ∧ w'.ownsRow w.heap.size 5 1 (.slice a (r.vals s).length c) (r.vals s).length (bv (r.vals s)) ∧ Below w.heap.size w w' := by
  cases hd : d.dead with
  | true =>
    refine (read_dead w lo B d h hd s).mono ?_
    rintro e w' ⟨rfl, rfl⟩
    have e1 : r.vals s = [] := by unfold Ref.Rd.vals; rw [he.dead, hd]; rfl
    have e2 : r.has s = false := by unfold Ref.Rd.has; rw [he.dead, hd]; rfl
    rw [e1, e2]
    exact ⟨none, 0, rfl, World.ownsRow_nil _ _ _ _, Below.refl _ _⟩
  | false =>
    obtain ⟨hl, ha⟩ := he.now ho
    refine (read_any w lo B d h hd s hs).mono ?_
    rintro e w' ⟨a, c, rfl, hown, hb⟩
    have e1 : r.vals s = Dsk.val d.now s := by unfold Ref.Rd.vals; rw [he.dead, hd, if_neg (by decide)]; exact hl.val ha s
    have e2 : r.has s = (Dsk.get d.now s).isSome := by unfold Ref.Rd.has; rw [he.dead, hd, if_neg (by decide), hl.get ha s]
    rw [e1, e2]
    exact ⟨a, c, rfl, hown, hb⟩
theorem rreadd_any (w : World) (B : Nat) (r : Ref.Rd) (h : IsRd w B r) (hr : Rok r) (s : List UInt8) :
    Calls Tryz.prog 39 #[.pointer (some ⟨B, 0, none⟩), .string (str s)] w fun e w' => ∃ a c, e = .returned (.tuple #[.slice a (r.vals s).length c, .bool (r.has s)]) ∧ Keeps w' a (r.vals s).length c (r.vals s) ∧ Below w.heap.size w w' := by
  cases hd : r.dead with
  | true =>
    refine (rread_dead w B r h hd s).mono ?_
    rintro e w' ⟨rfl, rfl⟩
    have e1 : r.vals s = [] := by unfold Ref.Rd.vals; rw [hd]; rfl
    have e2 : r.has s = false := by unfold Ref.Rd.has; rw [hd]; rfl
    rw [e1, e2]
    exact ⟨none, 0, rfl, Keeps.nil _, Below.refl _ _⟩
  | false =>
    refine (rread_any w B r h hr hd s).mono ?_
    rintro e w' ⟨a, c, rfl, hk, hb⟩
    have e1 : r.vals s = Dsk.val r.now s := by unfold Ref.Rd.vals; rw [hd, if_neg (by decide)]
    have e2 : r.has s = (Dsk.get r.now s).isSome := by unfold Ref.Rd.has; rw [hd, if_neg (by decide)]
    rw [e1, e2]
    exact ⟨a, c, rfl, hk, hb⟩
theorem IsRd.cells {w : World} {B : Nat} {r : Ref.Rd} (h : IsRd w B r) : ∃ pa pc, w.cell? ⟨B, 2, none⟩ = some (.slice pa r.pend.length pc) ∧ w.cell? ⟨B, 4, none⟩ = some (.bool r.dead) ∧ w.cell? ⟨B, 5, none⟩ = some (.int .i64 (r.works : Int)) := by
  obtain ⟨kv, pv, h⟩ := h
  obtain ⟨pa, pc, rfl, _⟩ := h.pend.slice
  exact ⟨pa, pc, blk_cell (i := 2) h.blk rfl, blk_cell (i := 4) h.blk rfl, blk_cell (i := 5) h.blk rfl⟩
theorem blk_same {w X : World} {B : Nat} (h : X.heap[B]? = w.heap[B]?) (i : Nat) : X.cell? ⟨B, i, none⟩ = w.cell? ⟨B, i, none⟩ := by
  simp [World.cell?, h]
theorem IsRd.lt {w : World} {B : Nat} {r : Ref.Rd} (h : IsRd w B r) : B < w.heap.size := by
  obtain ⟨kv, pv, h⟩ := h
  exact blk_lt h.blk
end Go.Proofs.YtkalpkmnelgieaaGreatDoor
