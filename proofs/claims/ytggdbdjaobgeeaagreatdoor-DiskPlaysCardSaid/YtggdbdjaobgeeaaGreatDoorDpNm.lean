/- DiskPlays: the six names. -/
import Derived.Test.YtggdbdjaobgeeaaGreatDoorHand
import Derived.Test.YtggdbdjaobgeeaaGreatDoorRfNm
import Derived.Test.YtggdbdjaobgeeaaGreatDoorDskBad
namespace Go.Proofs.YtggdbdjaobgeeaaGreatDoor
open Go.RowKit Go.Tap Go.Maps
set_option linter.unusedVariables false
set_option linter.unusedSimpArgs false

/-- The six names of the statement's table. -/
def Dp.tab : List (List UInt8) := [[97], [98], [108, 111, 103], [114, 111, 111, 116], [], [97, 32, 110, 97, 109, 101, 32, 111, 102, 32, 109, 111, 114, 101, 32, 98, 121, 116, 101, 115, 32, 116, 104, 97, 110, 32, 109, 97, 121, 32, 98, 101]]
def Dp.name (n : Int) : List UInt8 := Dp.tab[(n % 6).toNat]?.getD []
theorem Dp.name_len (n : Int) : (Dp.name n).length ≤ 32 := by
  obtain ⟨k, hk⟩ : ∃ k : Nat, (n % 6).toNat = k := ⟨_, rfl⟩
  have h6 : k < 6 := by have := Int.emod_lt_of_pos n (show (0 : Int) < 6 by omega); omega
  unfold Dp.name
  rw [hk]
  clear hk
  have : k = 0 ∨ k = 1 ∨ k = 2 ∨ k = 3 ∨ k = 4 ∨ k = 5 := by omega
  rcases this with rfl | rfl | rfl | rfl | rfl | rfl <;> decide
set_option maxRecDepth 100000 in
theorem dpidx (w : World) (k : Nat) (h : k < 6) : (Instr.index 167 (.agg #[.string ⟨#[97]⟩, .string ⟨#[98]⟩, .string ⟨#[108, 111, 103]⟩, .string ⟨#[114, 111, 111, 116]⟩, .string ⟨#[]⟩, .string ⟨#[97, 32, 110, 97, 109, 101, 32, 111, 102, 32, 109, 111, 114, 101, 32, 98, 121, 116, 101, 115, 32, 116, 104, 97, 110, 32, 109, 97, 121, 32, 98, 101]⟩]) (.int .i64 (k : Int))).run Tryz.prog w = .ok (.string (str (Dp.tab[k]?.getD []))) w := by
  have : k = 0 ∨ k = 1 ∨ k = 2 ∨ k = 3 ∨ k = 4 ∨ k = 5 := by omega
  clear h
  rcases this with rfl | rfl | rfl | rfl | rfl | rfl <;> first | exact rfl | (show _ = _; kernel_rfl) | with_unfolding_all rfl
set_option maxHeartbeats 1000000 in
set_option maxRecDepth 100000 in
theorem dpname_any (w : World) (n : Int) (h0 : -9223372036854775808 ≤ n) (h1 : n ≤ 9223372036854775807) :
    Calls Tryz.prog 42 #[.int .i64 n] w fun e w' => e = .returned (.string (str (Dp.name n))) ∧ w = w' := by
  have hp := pick_any w n 6 h0 h1 (by omega) (by omega)
  obtain ⟨k, hk⟩ : ∃ k : Nat, n % 6 = k := ⟨(n % 6).toNat, by have := Int.emod_nonneg n (show (6 : Int) ≠ 0 by omega); omega⟩
  have h6 : k < 6 := by have := Int.emod_lt_of_pos n (show (0 : Int) < 6 by omega); omega
  have hn : Dp.name n = Dp.tab[k]?.getD [] := by unfold Dp.name; rw [hk, Int.toNat_natCast]
  rw [hn]
  rw [hk] at hp
  have hix := dpidx w k h6
  obtain ⟨nm, hnm⟩ : ∃ nm, nm = Dp.tab[k]?.getD [] := ⟨_, rfl⟩
  rw [← hnm] at hix ⊢
  clear hn hk h0 h1 h6 hnm
  go_enter Tryz.func42, Tryz.ntmps42
  go_wp2_with fail
  refine hp.mono ?_
  rintro e w' ⟨rfl, rfl⟩
  go_wp2
  go_ret
  exact ⟨rfl, rfl⟩
end Go.Proofs.YtggdbdjaobgeeaaGreatDoor
