/- mayEntry: what it answers. -/
import Derived.Test.YthampbiabkfmoaaGreatDoorWiMay
namespace Go.Proofs.YthampbiabkfmoaaGreatDoor
open Go.RowKit Go.Tap
set_option linter.unusedVariables false
set_option linter.unusedSimpArgs false
theorem zen_ok (s : Int) (h : Wi.i64ok s) : (⟨s, Wi.z32, 0, Wi.z32⟩ : Wi.En).ok := ⟨h, rfl, by show Wi.i64ok 0; unfold Wi.i64ok; omega, rfl⟩
theorem zen_eq (x : Wi.En) (s : Int) (h : x.status = s) : decide (x = ⟨s, Wi.z32, 0, Wi.z32⟩) = (Wi.noPath x && decide (x.hash = Wi.z32)) := by
  unfold Wi.noPath
  rw [Bool.eq_iff_iff]; simp only [Bool.and_eq_true, decide_eq_true_eq]
  constructor
  · rintro rfl; exact ⟨⟨rfl, rfl⟩, rfl⟩
  · rintro ⟨⟨h1, h2⟩, h3⟩; cases x; simp_all
end Go.Proofs.YthampbiabkfmoaaGreatDoor
