/- DiskPlays: what the disk and the reference's disk tell alike. -/
import Derived.Test.YtggdbdjaobgeeaaGreatDoorDskNm
import Derived.Test.YtggdbdjaobgeeaaGreatDoorDskKn
import Derived.Test.YtggdbdjaobgeeaaGreatDoorDpNm
namespace Go.Proofs.YtggdbdjaobgeeaaGreatDoor
open Go.RowKit Go.Tap Go.Maps
set_option linter.unusedVariables false
set_option linter.unusedSimpArgs false

theorem encL_like {fs l : Dsk.Files} (h : Ref.Like fs l) {ss : List (List UInt8)} (hp : ss.Perm (fs.map (·.1))) : encL ss = strsR (l.map (·.1)) := by
  have e : ss.mergeSort (fun x y => decide (x ≤ y)) = l.map (·.1) := by
    refine List.Perm.eq_of_pairwise (le := fun a b => a ≤ b) (fun a b _ _ h1 h2 => List.le_antisymm h1 h2) ?_ ?_ ((List.mergeSort_perm _ _).trans (hp.trans (h.perm.map _).symm))
    · refine (List.pairwise_mergeSort (le := fun x y => decide (x ≤ y)) ?_ ?_ ss).imp (fun h => of_decide_eq_true h)
      · intro a b c h1 h2
        exact decide_eq_true (List.le_trans (of_decide_eq_true h1) (of_decide_eq_true h2))
      · intro a b
        rcases List.le_total a b with h | h
        · rw [decide_eq_true h]; rfl
        · rw [decide_eq_true h]; simp
    · exact List.pairwise_map.2 (h.sort.imp (fun h => List.le_of_lt h))
  unfold encL strsR
  rw [e]
  rfl
theorem names_dead (w : World) (lo B : Nat) (d : Dsk.Dk) (h : IsDk w lo B d) (hd : d.dead = true) :
    Calls Tryz.prog 95 #[.pointer (some ⟨B, 0, none⟩)] w fun e w' => e = .returned (.slice none 0 0) ∧ w' = w := by
  obtain ⟨bd, bn, pv, h1, hok⟩ := h
  have c5 : w.cell? ⟨B, 5, none⟩ = some (.bool d.dead) := blk_cell (i := 5) h1.blk rfl
  rw [hd] at c5
  clear h1 hok hd
  go_enter Tryz.func95, Tryz.ntmps95
  go_wp2
  go_ret
  exact ⟨rfl, rfl⟩
/-- Names of the program's disk, as the reference tells them. -/
theorem dnames_any (w : World) (lo B : Nat) (d : Dsk.Dk) (h : IsDk w lo B d) (ho : Dsk.Ok d) (r : Ref.Rd) (he : Ref.Eq d r) :
    Calls Tryz.prog 95 #[.pointer (some ⟨B, 0, none⟩)] w fun e w' => ∃ v, e = .returned v ∧ SOwn w' w.heap.size v r.names ∧ Below w.heap.size w w' := by
  cases hd : d.dead with
  | true =>
    refine (names_dead w lo B d h hd).mono ?_
    rintro e w' ⟨rfl, rfl⟩
    have : r.names = [] := by unfold Ref.Rd.names; rw [he.dead, hd]; rfl
    rw [this]
    exact ⟨_, rfl, SOwn.nil _ _, Below.refl _ _⟩
  | false =>
    refine (names_any w lo B d h hd).mono ?_
    rintro e w' ⟨v, ss, rfl, hp, hown, hb⟩
    have hl := (he.now ho).1
    have e1 : r.names = r.now.map (·.1) := by unfold Ref.Rd.names; rw [he.dead, hd]; rfl
    have e2 : ss.length = r.names.length := by rw [e1, hp.length_eq, List.length_map, List.length_map, hl.length]
    rw [encL_like hl hp, ← e1, e2] at hown
    exact ⟨v, rfl, hown, hb⟩
end Go.Proofs.YtggdbdjaobgeeaaGreatDoor
