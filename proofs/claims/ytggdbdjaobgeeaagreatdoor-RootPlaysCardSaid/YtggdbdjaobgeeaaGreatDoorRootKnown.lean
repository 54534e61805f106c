/- RootKnown: what it comes to. -/
import Derived.Test.YtggdbdjaobgeeaaGreatDoorRtSaveW
import Derived.Test.YtggdbdjaobgeeaaGreatDoorAs
namespace Go.Proofs.YtggdbdjaobgeeaaGreatDoor
open Go.RowKit Go.Tap Go.Maps
set_option linter.unusedVariables false
attribute [local go_sem ↓] Go.wp_at_zero Go.wp_at_succ

theorem new1000' (w : World) : Calls Tryz.prog 9 #[.int .i64 1000] w fun e w' => ∃ B, e = .returned (.pointer (some ⟨B, 0, none⟩)) ∧ IsDk w' w.heap.size B (Dsk.newD 1000) ∧ Below w.heap.size w w' := by
  have := new_any w 1000 (by omega)
  rw [show ((1000 : Nat) : Int) = 1000 from rfl] at this
  exact this
theorem new5 (w : World) : Calls Tryz.prog 9 #[.int .i64 5] w fun e w' => ∃ B, e = .returned (.pointer (some ⟨B, 0, none⟩)) ∧ IsDk w' w.heap.size B (Dsk.newD 5) ∧ Below w.heap.size w w' := by
  have := new_any w 5 (by omega)
  rw [show ((5 : Nat) : Int) = 5 from rfl] at this
  exact this
namespace Rt
def r8 : Root := ⟨3, [4, 500], 1⟩
def d8 : Dsk.Dk := (saveB (Dsk.newD 1000) (lay r8)).1
theorem s8 : (saveB (Dsk.newD 1000) (lay r8)).2 = 0 := by kernel_rfl
theorem dead8 : d8.dead = false := by kernel_rfl
theorem get8 : Dsk.get d8.now nmR = some (lay r8) := by kernel_rfl
theorem may8 : may r8 = true := by kernel_rfl
theorem val8 : Dsk.val d8.now nmR = lay r8 := by unfold Dsk.val; rw [get8]; rfl
theorem mayA : may ⟨-1, [], 0⟩ = false := by kernel_rfl
theorem mayB : may ⟨0, List.replicate 9 0, 0⟩ = false := by kernel_rfl
theorem mayC : may ⟨0, [], 1099511627777⟩ = false := by kernel_rfl
theorem mayD : may ⟨1, [], 0⟩ = true := by kernel_rfl
theorem mayE : may ⟨0, [], 0⟩ = true := by kernel_rfl
theorem lenD : (lay ⟨1, [], 0⟩).length = 12 := by kernel_rfl
theorem readD : read (lay ⟨1, [], 0⟩ ++ [0]) = .error 2 := by kernel_rfl
theorem readN : read [] = .error 3 := by kernel_rfl
theorem sE : (saveB (Dsk.newD 5) (lay ⟨0, [], 0⟩)).2 = 6 := by kernel_rfl
end Rt
set_option maxHeartbeats 8000000 in
set_option maxRecDepth 100000 in
theorem known8 (w : World) (hg : EType w) : Calls Tryz.prog 28 #[] w fun e w' => e = .returned (.bool true) ∧ Below w.heap.size w w' := by
  have HG := Lib.hid hg
  clear hg
  go_enter Tryz.func28, Tryz.ntmps28
  go_wp2_with fail
  refine (new1000' w).mono ?_
  rintro e w1 ⟨B, rfl, h1, b1⟩
  have hl1 := load_any w1 _ B _ h1 rfl (by show 0 ≤ _; omega)
  have H1 := Lib.hid h1
  clear h1
  go_wp2_with fail
  refine hl1.mono ?_
  clear hl1
  rintro e w2 ⟨hb2, hq⟩
  rw [show Dsk.get (Dsk.newD 1000).now Rt.nmR = none from rfl] at hq
  simp only at hq
  subst hq
  unfold ErrT root0
  have b2 := b1.trans (hb2.mono b1.size)
  have h2 := Lib.hid (H1.out.below hb2)
  clear hb2 b1
  have hal : Below w2.heap.size w2 (w2.alloc (.cells #[.int .i64 0, .slice none 0 0, .int .i64 0] 67)) := (Below.refl _ _).alloc (Nat.le_refl _) _
  have b3 := b2.trans (hal.mono b2.size)
  have h3 := Lib.hid (h2.out.below hal)
  have hk3 := kind_errno _ 11 (HG.out.below b3 HG.out.pos)
  clear hal b2
  go_wp2_with fail
  refine hk3.mono ?_
  clear hk3
  rintro e w4 ⟨rfl, hb4⟩
  have b4 := b3.trans (hb4.mono b3.size)
  have h4 := Lib.hid (h3.out.below hb4)
  clear hb4 b3
  have hal : Below w4.heap.size w4 (w4.alloc (.cells #[.int .i64 4, .int .i64 500] 3)) := (Below.refl _ _).alloc (Nat.le_refl _) _
  have hin : Ints (w4.alloc (.cells #[.int .i64 4, .int .i64 500] 3)) (some ⟨w4.heap.size, 0, none⟩) 2 2 [4, 500] := by
    refine Ints.of_own (base := 0) ?_
    have := World.ownsRow_lit (base := 0) (e := 3) (size := 1) w4 #[.int .i64 4, .int .i64 500] 2 (Nat.zero_le _) (by unfold maxLen; omega) rfl
    exact this
  have b5 := b4.trans (hal.mono b4.size)
  have hsv := rtSave_any _ w.heap.size B _ (h4.out.below hal) rfl (by decide) Rt.r8 _ 2 2 hin (by omega)
  clear hal b4 hin
  go_wp2_with fail
  refine hsv.mono ?_
  clear hsv
  rintro e w6 hq
  unfold RtSaveAft at hq
  rw [if_pos Rt.may8, if_pos Rt.s8] at hq
  obtain ⟨h6, hb6, _, rfl⟩ := hq
  change IsDk w6 _ B Rt.d8 at h6
  have b6 := b5.trans hb6
  have hl6 := load_any w6 _ B _ h6 Rt.dead8 (by rw [Rt.val8]; have := Rt.lay_length _ Rt.may8; omega)
  clear hb6 b5 h6
  go_wp2_with fail
  refine hl6.mono ?_
  clear hl6
  rintro e w7 ⟨hb7, hq⟩
  rw [Rt.get8] at hq
  simp only at hq
  rw [Rt.read_lay _ Rt.may8] at hq
  simp only at hq
  obtain ⟨a7, n7, c7, rfl, ho7, _⟩ := hq
  have hin := Ints.of_own ho7
  have hn7 := hin.len
  obtain rfl : n7 = 2 := by rw [← hn7]; rfl
  obtain ⟨b, o, rfl, hc⟩ := hin.cell (show Rt.r8.logs[1]? = some 500 from rfl)
  have b7 := b6.trans (hb7.mono b6.size)
  have hlt := block_lt_of_cell hc
  have hc' : (w7.alloc (.cells #[.int .i64 3, .slice (some ⟨b, o, none⟩) 2 c7, .int .i64 1] 67)).cell? ⟨b, o + 1, none⟩ = some (.int .i64 500) := (World.cell?_of_block ((MapKept.heap_alloc w7 _).2 _ hlt)).trans hc
  have bX : Below w.heap.size w (w7.alloc (.cells #[.int .i64 3, .slice (some ⟨b, o, none⟩) 2 c7, .int .i64 1] 67)) := b7.alloc b7.size _
  rw [show Rt.r8.gen = 3 from rfl, show Rt.r8.idx = 1 from rfl]
  clear hb7 ho7 hin hn7 hc b6 b7
  go_wp2
  go_ret
  exact ⟨rfl, bX⟩
theorem madeI (n : Nat) : (madeCells #[Value.int .i64 0] n).toList = iv (List.replicate n 0) := by
  apply List.ext_getElem
  · simp [madeCells, iv]
  · intro i h1 h2
    simp [madeCells, iv, Nat.mod_one]
theorem lay_no {w : World} {r : Rt.Root} {e : Ending} {w' : World} (h : RtLayAft w r e w') (hm : Rt.may r = false) : e = .returned (.tuple #[.slice none 0 0, .iface 35 (.int .i64 1)]) ∧ Below w.heap.size w w' := by
  obtain ⟨h1, h2⟩ := h
  rw [if_neg (by rw [hm]; simp)] at h2
  exact ⟨h2, h1⟩
end Go.Proofs.YtggdbdjaobgeeaaGreatDoor
