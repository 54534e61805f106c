/- Contracts of taproothand's Pick and Few. -/
import Derived.Test.YthampbiabkfmoaaDoorProg
import Derived.Test.YthampbiabkfmoaaDoorAid
import Derived.WalkLawsBesides
import Derived.WalkSpells
import Derived.Lib.Hide
namespace Go.Proofs.YthampbiabkfmoaaDoor
open Go.RowKit Go.Tap
set_option linter.unusedVariables false

theorem Tryd.infoB : (Tryd.prog.info? 5).map (fun i => (i.zero, i.size, i.bytes)) = some (some (.int .u8 0), 1, 1) := by kernel_rfl

/-- A new slice of bytes. -/
def Fresh (w : World) (l : List UInt8) (e : Ending) (w' : World) : Prop :=
  ∃ a c, e = .returned (.slice a l.length c) ∧ w'.ownsRow w.heap.size 5 1 (.slice a l.length c) l.length (bv l) ∧ Below w.heap.size w w'

theorem Fresh.mk' {w w' : World} {l : List UInt8} {v : Value} (h : w'.ownsRow w.heap.size 5 1 v l.length (bv l)) (hb : Below w.heap.size w w') : Fresh w l (.returned v) w' := by
  obtain ⟨a, c, rfl, _⟩ := ownsRow_slice h
  exact ⟨a, c, rfl, h, hb⟩
theorem tmod_pick (n m : Int) (hm : 0 < m) : (if n.tmod m < 0 then n.tmod m + m else n.tmod m) = n % m := by
  rw [Int.tmod_eq_emod]
  have h1 := Int.emod_nonneg n (show m ≠ 0 by omega)
  have h2 := Int.emod_lt_of_pos n hm
  have h3 : (m.natAbs : Int) = m := by omega
  split
  · split <;> omega
  · split <;> omega

set_option maxHeartbeats 400000 in
theorem pick_any (w : World) (n m : Int) (h0 : -9223372036854775808 ≤ n) (h1 : n ≤ 9223372036854775807) (hm : 0 < m) (hm1 : m ≤ 9223372036854775807) :
    Calls Tryd.prog 10 #[.int .i64 n, .int .i64 m] w fun e w' => e = .returned (.int .i64 (n % m)) ∧ w = w' := by
  have hne : (m == 0) = false := by simp; omega
  have ht := Lib.hid (tmod_pick n m hm)
  have ha : -m < n.tmod m := by have := Int.tmod_lt_of_pos (-n) hm; rw [Int.neg_tmod] at this; omega
  have hb := Int.tmod_lt_of_pos n hm
  go_enter Tryd.func10, Tryd.ntmps10
  go_wp2
  · go_ret
    exact ⟨ret_int (by rw [← ht.out, if_pos ‹_›]), rfl⟩
  · go_ret
    exact ⟨ret_int (by rw [← ht.out, if_neg (by omega)]), rfl⟩

set_option maxHeartbeats 400000 in
theorem few_any (w : World) (a : Option Addr) (n c : Nat) (m : Int) (l : List UInt8) (hr : Rds w a n l) (hnc : n ≤ c) (hz : a = none → c = 0) (hc : c ≤ 140737488355328) (h0 : 0 ≤ m) (h1 : m ≤ 9223372036854775807) :
    Calls Tryd.prog 12 #[.slice a n c, .int .i64 m] w (Fresh w (l.take m.toNat)) := by
  obtain ⟨k, rfl⟩ := Int.eq_ofNat_of_zero_le h0
  rw [Int.toNat_natCast]
  obtain ⟨i, hi, hz0, hz1, hz2⟩ := info_parts Tryd.infoB
  by_cases hkn : k < n
  · go_enter Tryd.func12, Tryd.ntmps12
    go_wp2_with (at_builtin; refine wpList_append_rds _ rfl (.tmp 5) (.tmp 11) 25 rfl w.heap.size 5 i Tryd.underlying25 hi hz0 hz1 hz2 _ 0 [] rfl (own_empty _ _) _ _ _ rfl hz (l.take k) ?h3 (by omega) (by simp) ?_)
    case h3 => exact (Rds.take hr (by omega)).alloc _
    intro v' w' hown hg
    go_wp2
    go_ret
    exact Fresh.mk' (by simpa [hr.1, Nat.min_eq_left (Nat.le_of_lt hkn)] using hown) (((Below.refl _ _).alloc (Nat.le_refl _) _).grown hg (by simp) (by intro j hj; simp [Value.ownBlock] at hj; omega))
  · go_enter Tryd.func12, Tryd.ntmps12
    have hlk : l.take k = l := List.take_of_length_le (by rw [hr.1]; omega)
    rw [hlk]
    clear hlk
    go_wp2_with (at_builtin; refine wpList_append_rds _ rfl (.tmp 5) (.tmp 11) 25 rfl w.heap.size 5 i Tryd.underlying25 hi hz0 hz1 hz2 _ 0 [] rfl (own_empty _ _) _ _ _ rfl hz l ?h3 (by omega) (by simp) ?_)
    case h3 => exact hr.alloc _
    intro v' w' hown hg
    go_wp2
    go_ret
    exact Fresh.mk' (by rw [hr.1]; simpa using hown) (((Below.refl _ _).alloc (Nat.le_refl _) _).grown hg (by simp) (by intro j hj; simp [Value.ownBlock] at hj; omega))
/-- A new slice of n bytes. -/
def FreshN (w : World) (n : Nat) (l : List UInt8) (e : Ending) (w' : World) : Prop :=
  ∃ a c, e = .returned (.slice a n c) ∧ w'.ownsRow w.heap.size 5 1 (.slice a n c) n (bv l) ∧ Below w.heap.size w w'
theorem Fresh.n {w w' : World} {l : List UInt8} {e : Ending} (h : Fresh w l e w') {n : Nat} (hn : l.length = n) : FreshN w n l e w' := by subst hn; exact h
/-- Few of all. -/
theorem few_all (w : World) (a : Option Addr) (n c : Nat) (l : List UInt8) (hr : Rds w a n l) (hnc : n ≤ c) (hz : a = none → c = 0) (hc : c ≤ 140737488355328) :
    Calls Tryd.prog 12 #[.slice a n c, .int .i64 (n : Int)] w (FreshN w n l) := by
  refine (few_any w a n c n l hr hnc hz hc (by omega) (by omega)).mono fun e w' h => ?_
  rw [Int.toNat_natCast, List.take_of_length_le (by rw [hr.1]; exact Nat.le_refl _)] at h
  exact h.n hr.1
end Go.Proofs.YthampbiabkfmoaaDoor
