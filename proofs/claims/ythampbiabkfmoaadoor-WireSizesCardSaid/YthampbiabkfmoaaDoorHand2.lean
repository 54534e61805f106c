/- Few, of a slice of any capacity. -/
import Derived.Test.YthampbiabkfmoaaDoorHand
namespace Go.Proofs.YthampbiabkfmoaaDoor
open Go.RowKit Go.Tap
set_option linter.unusedVariables false

set_option maxHeartbeats 400000 in
theorem few_wide (w : World) (a : Option Addr) (n c : Nat) (m : Int) (l : List UInt8) (hr : Rds w a n l) (hnc : n ≤ c) (hz : a = none → c = 0) (hn : n ≤ 140737488355328) (h0 : 0 ≤ m) (h1 : m ≤ 9223372036854775807) :
    Calls Tryd.prog 12 #[.slice a n c, .int .i64 m] w (Fresh w (l.take m.toNat)) := by
  obtain ⟨k, rfl⟩ := Int.eq_ofNat_of_zero_le h0
  rw [Int.toNat_natCast]
  obtain ⟨i, hi, hz0, hz1, hz2⟩ := info_parts Tryd.infoB
  by_cases hkn : k < n
  · go_enter Tryd.func12, Tryd.ntmps12
    go_wp2_with (at_builtin; refine wpList_append_rds _ rfl (.tmp 5) (.tmp 11) 25 rfl w.heap.size 5 i Tryd.underlying25 hi hz0 hz1 hz2 _ 0 [] rfl (own_empty _ _) _ _ _ rfl hz (l.take k) ?h3 (by omega) (by simp) ?_)
    case h3 => exact (Rds.take hr (by omega)).alloc _
    intro v' w' hown hg
    go_wp2
    go_ret
    exact Fresh.mk' (by simpa [hr.1, Nat.min_eq_left (Nat.le_of_lt hkn)] using hown) (((Below.refl _ _).alloc (Nat.le_refl _) _).grown hg (by simp) (by intro j hj; simp [Value.ownBlock] at hj; omega))
  · go_enter Tryd.func12, Tryd.ntmps12
    have hlk : l.take k = l := List.take_of_length_le (by rw [hr.1]; omega)
    rw [hlk]
    clear hlk
    go_wp2_with (at_builtin; refine wpList_append_rds _ rfl (.tmp 5) (.tmp 11) 25 rfl w.heap.size 5 i Tryd.underlying25 hi hz0 hz1 hz2 _ 0 [] rfl (own_empty _ _) _ _ _ rfl hz l ?h3 (by omega) (by simp) ?_)
    case h3 => exact hr.alloc _
    intro v' w' hown hg
    go_wp2
    go_ret
    exact Fresh.mk' (by rw [hr.1]; simpa using hown) (((Below.refl _ _).alloc (Nat.le_refl _) _).grown hg (by simp) (by intro j hj; simp [Value.ownBlock] at hj; omega))
/-- Few of all. -/
theorem few_allw (w : World) (a : Option Addr) (n c : Nat) (l : List UInt8) (hr : Rds w a n l) (hnc : n ≤ c) (hz : a = none → c = 0) (hn : n ≤ 140737488355328) :
    Calls Tryd.prog 12 #[.slice a n c, .int .i64 (n : Int)] w (FreshN w n l) := by
  refine (few_wide w a n c n l hr hnc hz hn (by omega) (by omega)).mono fun e w' h => ?_
  rw [Int.toNat_natCast, List.take_of_length_le (by rw [hr.1]; exact Nat.le_refl _)] at h
  exact h.n hr.1
end Go.Proofs.YthampbiabkfmoaaDoor
