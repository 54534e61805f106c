/- taproothand.Kind of nil, of an api.Errno. -/
import Derived.Test.YtdlpehlgmfhheaaDoorAs
namespace Go.Proofs.YtdlpehlgmfhheaaDoor
open Go.RowKit Go.Tap
set_option linter.unusedVariables false

theorem EType.below {B : Nat} {w w' : World} (h : EType w) (hb : Below B w w') (hB : 0 < B) : EType w' := (hb.cell (p := ⟨0, 0, none⟩) hB).trans h
theorem EType.pos {w : World} (h : EType w) : 0 < w.heap.size := block_lt_of_cell h
theorem EType.keep {w w' : World} (h : EType w) (hb : Below w.heap.size w w') : EType w' := h.below hb h.pos
theorem kind_nil (w : World) : Calls Tryd.prog 25 #[.nilIface] w fun e w' => e = .returned (.int .i64 0) ∧ w' = w := by
  go_enter Tryd.func25, Tryd.ntmps25
  go_wp2
  go_ret
  exact ⟨rfl, rfl⟩
set_option maxHeartbeats 1000000 in
theorem kind_errno (w : World) (k : Int) (hg : EType w) : Calls Tryd.prog 25 #[.iface 61 (.int .i64 k)] w fun e w' => e = .returned (.int .i64 k) ∧ Below w.heap.size w w' := by
  have hg1 : EType (w.alloc (.cells #[.int .i64 0] 61)) := hg.keep ((Below.refl _ _).alloc (Nat.le_refl _) _)
  have hb0 : Below w.heap.size w (w.alloc (.cells #[.int .i64 0] 61)) := (Below.refl _ _).alloc (Nat.le_refl _) _
  have ht : (w.alloc (.cells #[.int .i64 0] 61)).cell? ⟨w.heap.size, 0, none⟩ = some (.int .i64 0) := by simp
  have hf : (w.alloc (.cells #[.int .i64 0] 61)).frozen? ⟨w.heap.size, 0, none⟩ = false := by simp
  go_enter Tryd.func25, Tryd.ntmps25
  go_wp2_with (go_at_call 77; refine (as_errno k ⟨w.heap.size, 0, none⟩ (.int .i64 0) _ hg1 ht hf).mono ?_; rintro e w' ⟨rfl, rfl⟩)
  go_ret
  refine ⟨rfl, ?_⟩
  exact (((((Below.refl _ _).alloc (Nat.le_refl _) _).alloc (by simp) _).alloc (by simp; omega) _).alloc (by simp; omega) _).alloc (by simp; omega) _
end Go.Proofs.YtdlpehlgmfhheaaDoor
