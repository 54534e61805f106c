/- The program's disk: names that may not be; Read of a dead disk. -/
import Derived.Test.YtggdbdjaobgeeaaGreatDoorDskOp3
namespace Go.Proofs.YtggdbdjaobgeeaaGreatDoor
open Go.RowKit Go.Tap Go.Maps
set_option linter.unusedVariables false
set_option linter.unusedSimpArgs false

theorem named_bad (w : World) (s : List UInt8) (h : ¬ Dsk.good s) : Calls Tryz.prog 76 #[.string (str s)] w fun e w' => e = .returned (.bool false) ∧ w' = w := by
  by_cases hs : s = []
  · subst hs
    have h1 : ((str []).toList == ([] : List UInt8)) = true := by rw [str_toList]; rfl
    have h4 : (str []).size = 0 := rfl
    clear h
    go_enter Tryz.func76, Tryz.ntmps76
    go_wp2
    go_ret
    exact ⟨rfl, rfl⟩
  · have h0 : 20 < s.length := by
      have := List.length_pos_iff.2 hs
      unfold Dsk.good at h
      omega
    have h1 : ((str s).toList == ([] : List UInt8)) = false := by rw [str_toList]; cases s; exact absurd rfl hs; rfl
    have h2 : decide (s.length ≤ 20) = false := decide_eq_false (by omega)
    have h3 : decide ((s.length : Int) ≤ 20) = false := decide_eq_false (by omega)
    have h4 : (str s).size = s.length := rfl
    clear h hs h0
    go_enter Tryz.func76, Tryz.ntmps76
    go_wp2
    go_ret
    exact ⟨rfl, rfl⟩
theorem append_bad (w : World) (p : Value) (s : List UInt8) (h : ¬ Dsk.good s) (v : Value) : Calls Tryz.prog 29 #[p, .string (str s), v] w fun e w' => e = .returned (errv 1) ∧ w' = w := by
  have hn := named_bad w s h
  clear h
  go_enter Tryz.func29, Tryz.ntmps29
  go_wp2_with fail
  refine hn.mono ?_
  rintro e w' ⟨rfl, rfl⟩
  go_wp2
  go_ret
  exact ⟨rfl, rfl⟩
theorem trunc_bad (w : World) (p : Value) (s : List UInt8) (h : ¬ Dsk.good s) (v : Value) : Calls Tryz.prog 43 #[p, .string (str s), v] w fun e w' => e = .returned (errv 1) ∧ w' = w := by
  have hn := named_bad w s h
  clear h
  go_enter Tryz.func43, Tryz.ntmps43
  go_wp2_with fail
  refine hn.mono ?_
  rintro e w' ⟨rfl, rfl⟩
  go_wp2
  go_ret
  exact ⟨rfl, rfl⟩
theorem remove_bad (w : World) (p : Value) (s : List UInt8) (h : ¬ Dsk.good s) : Calls Tryz.prog 47 #[p, .string (str s)] w fun e w' => e = .returned (errv 1) ∧ w' = w := by
  have hn := named_bad w s h
  clear h
  go_enter Tryz.func47, Tryz.ntmps47
  go_wp2_with fail
  refine hn.mono ?_
  rintro e w' ⟨rfl, rfl⟩
  go_wp2
  go_ret
  exact ⟨rfl, rfl⟩
theorem rename_bad (w : World) (p : Value) (s t : List UInt8) (h : ¬ (Dsk.good s ∧ Dsk.good t)) : Calls Tryz.prog 45 #[p, .string (str s), .string (str t)] w fun e w' => e = .returned (errv 1) ∧ w' = w := by
  by_cases hs : Dsk.good s
  · have ht : ¬ Dsk.good t := fun q => h ⟨hs, q⟩
    have hn := named_any w s hs
    have hm := named_bad w t ht
    clear h hs ht
    go_enter Tryz.func45, Tryz.ntmps45
    go_wp2_with fail
    refine hn.mono ?_
    rintro e w' ⟨rfl, rfl⟩
    go_wp2_with fail
    refine hm.mono ?_
    rintro e w' ⟨rfl, rfl⟩
    go_wp2
    go_ret
    exact ⟨rfl, rfl⟩
  · have hn := named_bad w s hs
    clear h hs
    go_enter Tryz.func45, Tryz.ntmps45
    go_wp2_with fail
    refine hn.mono ?_
    rintro e w' ⟨rfl, rfl⟩
    go_wp2
    go_ret
    exact ⟨rfl, rfl⟩
theorem read_dead (w : World) (lo B : Nat) (d : Dsk.Dk) (h : IsDk w lo B d) (hd : d.dead = true) (s : List UInt8) :
    Calls Tryz.prog 61 #[.pointer (some ⟨B, 0, none⟩), .string (str s)] w fun e w' => e = .returned (.tuple #[.slice none 0 0, .bool false]) ∧ w' = w := by
  obtain ⟨bd, bn, pv, h1, hok⟩ := h
  have c5 : w.cell? ⟨B, 5, none⟩ = some (.bool d.dead) := blk_cell (i := 5) h1.blk rfl
  rw [hd] at c5
  clear h1 hok hd
  go_enter Tryz.func61, Tryz.ntmps61
  go_wp2
  go_ret2
  exact ⟨rfl, rfl⟩
set_option maxHeartbeats 1000000 in
set_option maxRecDepth 100000 in
theorem usedm_any (w : World) (lo B : Nat) (d : Dsk.Dk) (h : IsDk w lo B d) :
    Calls Tryz.prog 39 #[.pointer (some ⟨B, 0, none⟩)] w fun e w' => e = .returned (.int .i64 ((if d.dead = true then 0 else Dsk.used d.now : Nat) : Int)) ∧ Below w.heap.size w w' := by
  obtain ⟨bd, bn, pv, h1, hok⟩ := h
  have c2 : w.cell? ⟨B, 2, none⟩ = some (.map (some bn)) := blk_cell (i := 2) h1.blk rfl
  have c5 : w.cell? ⟨B, 5, none⟩ = some (.bool d.dead) := blk_cell (i := 5) h1.blk rfl
  have hu := used_any w bn d.now h1.now (by have := hok.room; have := hok.small'; omega)
  clear h1 hok
  cases hd : d.dead with
  | true =>
    rw [hd] at c5
    clear hd hu
    go_enter Tryz.func39, Tryz.ntmps39
    go_wp2
    go_ret
    exact ⟨rfl, Below.refl _ _⟩
  | false =>
    rw [hd] at c5
    clear hd
    go_enter Tryz.func39, Tryz.ntmps39
    go_wp2_with fail
    refine hu.mono ?_
    rintro e w1 ⟨rfl, hb⟩
    go_wp2
    go_ret
    exact ⟨rfl, hb⟩
end Go.Proofs.YtggdbdjaobgeeaaGreatDoor
