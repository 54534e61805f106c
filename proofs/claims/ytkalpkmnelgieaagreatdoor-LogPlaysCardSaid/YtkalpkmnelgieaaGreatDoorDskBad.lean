/- The program's disk: names that may not be; Read of a dead disk. -/
import Derived.Test.YtkalpkmnelgieaaGreatDoorDskOp3
namespace Go.Proofs.YtkalpkmnelgieaaGreatDoor
open Go.RowKit Go.Tap Go.Maps
set_option linter.unusedVariables false
set_option linter.unusedSimpArgs false

theorem named_bad (w : World) (s : List UInt8) (h : ¬ Dsk.good s) : Calls Tryz.prog 70 #[.string (str s)] w fun e w' => e = .returned (.bool false) ∧ w' = w := by
  by_cases hs : s = []
  · subst hs
    have h1 : ((str []).toList == ([] : List UInt8)) = true := by rw [str_toList]; rfl
    have h4 : (str []).size = 0 := rfl
    clear h
    go_enter Tryz.func70, Tryz.ntmps70
    go_wp2
    go_ret
    exact ⟨rfl, rfl⟩
  · have h0 : 20 < s.length := by
      have := List.length_pos_iff.2 hs
      unfold Dsk.good at h
      omega
    have h1 : ((str s).toList == ([] : List UInt8)) = false := by rw [str_toList]; cases s; exact absurd rfl hs; rfl
    have h2 : decide (s.length ≤ 20) = false := decide_eq_false (by omega)
    have h3 : decide ((s.length : Int) ≤ 20) = false := decide_eq_false (by omega)
    have h4 : (str s).size = s.length := rfl
    clear h hs h0
    go_enter Tryz.func70, Tryz.ntmps70
    go_wp2
    go_ret
    exact ⟨rfl, rfl⟩
theorem append_bad (w : World) (p : Value) (s : List UInt8) (h : ¬ Dsk.good s) (v : Value) : Calls Tryz.prog 50 #[p, .string (str s), v] w fun e w' => e = .returned (errv 1) ∧ w' = w := by
  have hn := named_bad w s h
  clear h
  go_enter Tryz.func50, Tryz.ntmps50
  go_wp2_with fail
  refine hn.mono ?_
  rintro e w' ⟨rfl, rfl⟩
  go_wp2
  go_ret
  exact ⟨rfl, rfl⟩
theorem trunc_bad (w : World) (p : Value) (s : List UInt8) (h : ¬ Dsk.good s) (v : Value) : Calls Tryz.prog 38 #[p, .string (str s), v] w fun e w' => e = .returned (errv 1) ∧ w' = w := by
  have hn := named_bad w s h
  clear h
  go_enter Tryz.func38, Tryz.ntmps38
  go_wp2_with fail
  refine hn.mono ?_
  rintro e w' ⟨rfl, rfl⟩
  go_wp2
  go_ret
  exact ⟨rfl, rfl⟩
theorem read_dead (w : World) (lo B : Nat) (d : Dsk.Dk) (h : IsDk w lo B d) (hd : d.dead = true) (s : List UInt8) :
    Calls Tryz.prog 35 #[.pointer (some ⟨B, 0, none⟩), .string (str s)] w fun e w' => e = .returned (.tuple #[.slice none 0 0, .bool false]) ∧ w' = w := by
  obtain ⟨bd, bn, pv, h1, hok⟩ := h
  have c5 : w.cell? ⟨B, 5, none⟩ = some (.bool d.dead) := blk_cell (i := 5) h1.blk rfl
  rw [hd] at c5
  clear h1 hok hd
  go_enter Tryz.func35, Tryz.ntmps35
  go_wp2
  go_ret2
  exact ⟨rfl, rfl⟩
end Go.Proofs.YtkalpkmnelgieaaGreatDoor
