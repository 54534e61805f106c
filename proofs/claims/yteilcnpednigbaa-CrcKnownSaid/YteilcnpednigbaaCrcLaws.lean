/- What the three laws on crc come to. -/
import Derived.Test.YteilcnpednigbaaCrc
import Derived.Test.YteilcnpednigbaaHand
import Derived.Test.YteilcnpednigbaaOpen
import Derived.Lib.SlBytesConst
namespace Go.Proofs.Yteilcnpednigbaa
open Go.RowKit Go.Tap
set_option linter.unusedVariables false

/-- crc.Sum of bytes whose sum is known. -/
theorem crcSum_lit (w : World) (a : Option Addr) (n c : Nat) (l : List UInt8) (s : Int) (hr : Rds w a n l) (hn : n ≤ 140737488355328) (hs : ((Crc.sum l : Nat) : Int) = s) :
    Calls Try.prog 19 #[.slice a n c] w fun e w' => ∃ x : Int, e = .returned (.int .u32 x) ∧ (x == s) = true ∧ w = w' := by
  exact (crcSum w a n c l hr hn).mono fun e w' ⟨h1, h2⟩ => ⟨_, h1, beq_iff_eq.2 hs, h2⟩
theorem s9 : ((Crc.sum [49, 50, 51, 52, 53, 54, 55, 56, 57] : Nat) : Int) = 3421780262 := by decide +kernel
theorem s0 : ((Crc.sum [] : Nat) : Int) = 0 := by decide +kernel
theorem s97 : ((Crc.sum [97] : Nat) : Int) = 3904355907 := by decide +kernel
theorem s00 : ((Crc.sum [0] : Nat) : Int) = 3523407757 := by decide +kernel
theorem known2 (w : World) : Calls Try.prog 18 #[] w fun e w' => e = .returned (.bool true) ∧ Below w.heap.size w w' := by
  have kc := fun (w : World) (C : Array Value) (n c : Nat) => Lib.run_convert_bytes_const (P := Try.prog) w 25 5 C n c Try.underlying25 Try.underlying5
  go_enter Try.func18, Try.ntmps18
  go_wp2_with fail
  refine (crcSum_lit _ _ _ _ [49, 50, 51, 52, 53, 54, 55, 56, 57] _ (rds_lit w _ _ _) (by simp) s9).mono ?_
  rintro e w' ⟨x9, rfl, hx9, rfl⟩
  go_wp2_with fail
  go_ret
  exact ⟨rfl, (Below.refl _ _).alloc (Nat.le_refl _) _⟩

theorem crcKnown_walk (w : World) : Calls Try.prog 3 #[] w fun e w' => e = .returned (.bool true) ∧ Below w.heap.size w w' := by
  have kc := fun (w : World) (C : Array Value) (n c : Nat) => Lib.run_convert_bytes_const (P := Try.prog) w 25 5 C n c Try.underlying25 Try.underlying5
  go_enter Try.func3, Try.ntmps3
  go_wp2_with fail
  refine (known2 _).mono ?_
  rintro e w1 ⟨rfl, hb⟩
  have hz := hb.size
  go_wp2_with fail
  refine (crcSum_lit _ _ _ _ [] _ (Rds.nil _ _) (by omega) s0).mono ?_
  rintro e w' ⟨xs0, rfl, hxs0, rfl⟩
  go_wp2_with fail
  refine (crcSum_lit _ _ _ _ [97] _ (rds_lit w1 _ [97] _) (by simp) s97).mono ?_
  rintro e w' ⟨xs97, rfl, hxs97, rfl⟩
  go_wp2_with fail
  refine (crcSum_lit _ _ _ _ [0] _ (by have := rds_lit (w1.alloc (.cells (bv [97]).toArray 5 (1, 2))) 5 [0]; rw [World.size_alloc] at this; exact this) (by simp) s00).mono ?_
  rintro e w' ⟨xs00, rfl, hxs00, rfl⟩
  go_wp2_with fail
  go_ret
  exact ⟨rfl, (hb.alloc hz _).alloc (by simp; omega) _⟩

theorem crcSums_walk (w : World) (a : Option Addr) (n c : Nat) (l : List UInt8) (h : ArgB 140737488351232 w a n c l) :
    Calls Try.prog 4 #[.slice a n c] w fun e w' => e = .returned (.bool true) ∧ Below w.heap.size w w' := by
  have hr := h.rds
  have hn : n ≤ 140737488355328 := by have := h.le; have := h.reach; omega
  clear h
  go_enter Try.func4, Try.ntmps4
  go_wp2_with fail
  refine (known2 _).mono ?_
  rintro e w1 ⟨rfl, hb⟩
  have hr1 : Rds w1 a n l := hr.below hb (fun h0 b o e => by subst e; exact hr.lt h0)
  go_wp2_with fail
  refine (crcSum _ _ _ _ l hr1 hn).mono ?_
  rintro e w' ⟨rfl, rfl⟩
  go_wp2_with fail
  refine (refSum _ _ _ _ l hr1 hn).mono ?_
  rintro e w' ⟨rfl, rfl⟩
  go_wp2_with fail
  go_ret
  exact ⟨rfl, hb⟩
end Go.Proofs.Yteilcnpednigbaa
