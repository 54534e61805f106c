/- Contracts of taproothand's Pick and Few. -/
import Derived.Test.YthampbiabkfmoaaGreatDoorProg
import Derived.Test.YthampbiabkfmoaaGreatDoorAid
import Derived.WalkLawsBesides
import Derived.WalkSpells
import Derived.Lib.Hide
namespace Go.Proofs.YthampbiabkfmoaaGreatDoor
open Go.RowKit Go.Tap
set_option linter.unusedVariables false

theorem Tryz.infoB : (Tryz.prog.info? 5).map (fun i => (i.zero, i.size, i.bytes)) = some (some (.int .u8 0), 1, 1) := by kernel_rfl

/-- A new slice of bytes. -/
def Fresh (w : World) (l : List UInt8) (e : Ending) (w' : World) : Prop :=
  ∃ a c, e = .returned (.slice a l.length c) ∧ w'.ownsRow w.heap.size 5 1 (.slice a l.length c) l.length (bv l) ∧ Below w.heap.size w w'

theorem Fresh.mk' {w w' : World} {l : List UInt8} {v : Value} (h : w'.ownsRow w.heap.size 5 1 v l.length (bv l)) (hb : Below w.heap.size w w') : Fresh w l (.returned v) w' := by
  obtain ⟨a, c, rfl, _⟩ := ownsRow_slice h
  exact ⟨a, c, rfl, h, hb⟩
theorem tmod_pick (n m : Int) (hm : 0 < m) : (if n.tmod m < 0 then n.tmod m + m else n.tmod m) = n % m := by
  rw [Int.tmod_eq_emod]
  have h1 := Int.emod_nonneg n (show m ≠ 0 by omega)
  have h2 := Int.emod_lt_of_pos n hm
  have h3 : (m.natAbs : Int) = m := by omega
  split
  · split <;> omega
  · split <;> omega

set_option maxHeartbeats 400000 in
theorem pick_any (w : World) (n m : Int) (h0 : -9223372036854775808 ≤ n) (h1 : n ≤ 9223372036854775807) (hm : 0 < m) (hm1 : m ≤ 9223372036854775807) :
    Calls Tryz.prog 9 #[.int .i64 n, .int .i64 m] w fun e w' => e = .returned (.int .i64 (n % m)) ∧ w = w' := by
  have hne : (m == 0) = false := by simp; omega
  have ht := Lib.hid (tmod_pick n m hm)
  have ha : -m < n.tmod m := by have := Int.tmod_lt_of_pos (-n) hm; rw [Int.neg_tmod] at this; omega
  have hb := Int.tmod_lt_of_pos n hm
  go_enter Tryz.func9, Tryz.ntmps9
  go_wp2
  · go_ret
    exact ⟨ret_int (by rw [← ht.out, if_pos ‹_›]), rfl⟩
  · go_ret
    exact ⟨ret_int (by rw [← ht.out, if_neg (by omega)]), rfl⟩

/-- A new slice of n bytes. -/
def FreshN (w : World) (n : Nat) (l : List UInt8) (e : Ending) (w' : World) : Prop :=
  ∃ a c, e = .returned (.slice a n c) ∧ w'.ownsRow w.heap.size 5 1 (.slice a n c) n (bv l) ∧ Below w.heap.size w w'
theorem Fresh.n {w w' : World} {l : List UInt8} {e : Ending} (h : Fresh w l e w') {n : Nat} (hn : l.length = n) : FreshN w n l e w' := by subst hn; exact h
end Go.Proofs.YthampbiabkfmoaaGreatDoor
