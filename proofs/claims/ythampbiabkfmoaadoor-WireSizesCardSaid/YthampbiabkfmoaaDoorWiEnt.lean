/- mayEntry: what it answers. -/
import Derived.Test.YthampbiabkfmoaaDoorWiMay
namespace Go.Proofs.YthampbiabkfmoaaDoor
open Go.RowKit Go.Tap
set_option linter.unusedVariables false
set_option linter.unusedSimpArgs false
theorem zen_ok (s : Int) (h : Wi.i64ok s) : (⟨s, Wi.z32, 0, Wi.z32⟩ : Wi.En).ok := ⟨h, rfl, by show Wi.i64ok 0; unfold Wi.i64ok; omega, rfl⟩
theorem zen_eq (x : Wi.En) (s : Int) (h : x.status = s) : decide (x = ⟨s, Wi.z32, 0, Wi.z32⟩) = (Wi.noPath x && decide (x.hash = Wi.z32)) := by
  unfold Wi.noPath
  rw [Bool.eq_iff_iff]; simp only [Bool.and_eq_true, decide_eq_true_eq]
  constructor
  · rintro rfl; exact ⟨⟨rfl, rfl⟩, rfl⟩
  · rintro ⟨⟨h1, h2⟩, h3⟩; cases x; simp_all
set_option maxHeartbeats 2000000 in
set_option maxRecDepth 100000 in
theorem mayEntry_any (w : World) (k : Int) (x : Wi.En) (hx : x.ok) : Calls Tryd.prog 99 #[.int .i64 k, .agg (enC x)] w fun e w' => e = .returned (.bool (Wi.mayEn k x)) ∧ Below w.heap.size w w' := by
  obtain ⟨C, hC⟩ : ∃ C, C = enC x := ⟨_, rfl⟩
  rw [← hC]
  have c0 : C[0]? = some (.int .i64 x.status) := by rw [hC]; exact enC_status x
  obtain ⟨r, hr⟩ : ∃ r, r = Wi.mayEn k x := ⟨_, rfl⟩
  rw [← hr]
  have HR := Lib.hid hr
  have HC := Lib.hid hC
  have HI := Lib.hid hx
  have B1 : Hid (Below w.heap.size w (w.alloc (.cells C 152))) := Lib.hid (by exact (Below.refl _ _).alloc (Nat.le_refl _) _)
  have P1 : Hid (Part (w.alloc (.cells C 152)) w.heap.size 1 (pathC x.high x.steps)) := Lib.hid (part_of (heap_alloc_new _ _) (by rw [HC.out]; exact enC_path x HI.out))
  have P0 : Hid (Part (w.alloc (.cells C 152)) w.heap.size 0 (enC x)) := Lib.hid (Part.of_blk (by rw [HC.out]; exact heap_alloc_new _ _))
  obtain ⟨st, hst⟩ : ∃ st, st = x.status := ⟨_, rfl⟩
  rw [← hst] at c0
  have HST := Lib.hid hst
  clear hr hC hx hst
  by_cases h1 : st = 1
  · subst h1
    by_cases h2 : k = 2
    · subst h2
      have HR2 : Hid (r = (Wi.stepsOk x.steps || Wi.noPath x)) := Lib.hid (by rw [HR.out, Wi.mayEn, if_pos HST.out.symm]; rfl)
      have hI := mayItem_any (w.alloc (.cells C 152)) 1 ⟨x.high, x.steps, []⟩ ⟨HI.out.high, HI.out.steps, by simp⟩
      rw [show Wi.mayIt 1 ⟨x.high, x.steps, []⟩ = Wi.stepsOk x.steps by simp [Wi.mayIt]] at hI
      clear HR
      go_enter Tryd.func99, Tryd.ntmps99
      go_wp2_with (first | (refine wpL_load ?hw 42 (.tmp 12) rfl w.heap.size 1 rfl (pathC x.high x.steps) _ P1.out Tryd.underlying42 rfl (by rw [pathC_size _ _ HI.out.high]; exact sz_path) ?_; case hw => kernel_rfl) | (refine wpL_built ?hw 44 #[(0, .tmp 13)] rfl [(0, .agg (pathC x.high x.steps))] ?hv (itC ⟨x.high, x.steps, []⟩) ?hb ?_; (case hw => kernel_rfl); (try case hv => rfl); (case hb => exact bt_item_path _ _ HI.out.high)))
      refine hI.mono ?_
      clear hI
      rintro e w2 ⟨rfl, hb2⟩
      have P2 : Hid (Part w2 w.heap.size 1 (pathC x.high x.steps)) := Lib.hid (P1.out.keep (hb2.block _ (by simp)))
      have B3 := Lib.hid (B1.out.trans (hb2.mono B1.out.size))
      clear P1 P0 hb2 B1
      obtain ⟨p, hp⟩ : ∃ p, p = Wi.stepsOk x.steps := ⟨_, rfl⟩
      rw [← hp] at HR2 ⊢
      clear hp
      cases p
      · go_wp2_with (first | (refine wpL_load ?hw 42 (.tmp 18) rfl w.heap.size 1 rfl (pathC x.high x.steps) _ P2.out Tryd.underlying42 rfl (by rw [pathC_size _ _ HI.out.high]; exact sz_path) ?_; case hw => kernel_rfl) | (refine wpL_built ?hw 42 #[] rfl [] ?hv (pathC Wi.z32 0) bt_path0 ?_; (case hw => kernel_rfl); (try case hv => rfl)) | (refine wpL_cmp ?hw .eql 42 _ (.tmp 19) (.tmp 20) rfl (pathC x.high x.steps) (pathC Wi.z32 0) rfl rfl gd_path _ (cmp_path _ _ _ _ HI.out.high z32_len) ?_; case hw => kernel_rfl))
        go_ret
        exact ⟨ret_bool (by rw [HR2.out, Bool.false_or]; rfl), B3.out⟩
      · go_wp2
        go_ret
        exact ⟨ret_bool (by rw [HR2.out]; rfl), B3.out⟩
    · have d2 : (k == 2) = false := by simp [h2]
      have HR2 : Hid (r = Wi.noPath x) := Lib.hid (by rw [HR.out, Wi.mayEn, if_pos HST.out.symm, decide_eq_false h2, Bool.false_and, Bool.false_or])
      clear HR h2
      go_enter Tryd.func99, Tryd.ntmps99
      go_wp2_with (first | (refine wpL_load ?hw 42 (.tmp 18) rfl w.heap.size 1 rfl (pathC x.high x.steps) _ P1.out Tryd.underlying42 rfl (by rw [pathC_size _ _ HI.out.high]; exact sz_path) ?_; case hw => kernel_rfl) | (refine wpL_built ?hw 42 #[] rfl [] ?hv (pathC Wi.z32 0) bt_path0 ?_; (case hw => kernel_rfl); (try case hv => rfl)) | (refine wpL_cmp ?hw .eql 42 _ (.tmp 19) (.tmp 20) rfl (pathC x.high x.steps) (pathC Wi.z32 0) rfl rfl gd_path _ (cmp_path _ _ _ _ HI.out.high z32_len) ?_; case hw => kernel_rfl))
      go_ret
      exact ⟨ret_bool (by rw [HR2.out]; rfl), B1.out⟩
  · have d1 : (st == 1) = false := by simp [h1]
    by_cases h2 : st = 2
    · subst h2
      have HR2 : Hid (r = decide (x = ⟨2, Wi.z32, 0, Wi.z32⟩)) := Lib.hid (by rw [HR.out, Wi.mayEn, if_neg (by rw [← HST.out]; omega), if_pos HST.out.symm, zen_eq x 2 HST.out.symm])
      clear HR
      go_enter Tryd.func99, Tryd.ntmps99
      go_wp2_with (first | (refine wpL_load ?hw 152 (.tmp 3) rfl w.heap.size 0 rfl (enC x) _ P0.out Tryd.underlying152 rfl (by rw [enC_size _ HI.out]; exact sz_entry) ?_; case hw => kernel_rfl) | (refine wpL_built ?hw 152 #[(0, .const (.int .i64 2))] rfl [(0, .int .i64 2)] ?hv (enC ⟨2, Wi.z32, 0, Wi.z32⟩) (bt_entry 2) ?_; (case hw => kernel_rfl); (try case hv => rfl)) | (refine wpL_cmp ?hw .eql 152 _ (.tmp 25) (.tmp 26) rfl (enC x) (enC ⟨2, Wi.z32, 0, Wi.z32⟩) rfl rfl gd_entry _ (cmp_entry _ _ HI.out (zen_ok 2 (by unfold Wi.i64ok; omega))) ?_; case hw => kernel_rfl))
      go_ret
      exact ⟨ret_bool (by rw [HR2.out]), B1.out⟩
    · have d2 : (st == 2) = false := by simp [h2]
      by_cases h3 : st = 3
      · subst h3
        have HR2 : Hid (r = (decide (k = 2) && decide (x = ⟨3, Wi.z32, 0, Wi.z32⟩))) := Lib.hid (by rw [HR.out, Wi.mayEn, if_neg (by rw [← HST.out]; omega), if_neg (by rw [← HST.out]; omega), if_pos HST.out.symm, zen_eq x 3 HST.out.symm])
        clear HR
        by_cases h4 : k = 2
        · subst h4
          go_enter Tryd.func99, Tryd.ntmps99
          go_wp2_with (first | (refine wpL_load ?hw 152 (.tmp 3) rfl w.heap.size 0 rfl (enC x) _ P0.out Tryd.underlying152 rfl (by rw [enC_size _ HI.out]; exact sz_entry) ?_; case hw => kernel_rfl) | (refine wpL_built ?hw 152 #[(0, .const (.int .i64 3))] rfl [(0, .int .i64 3)] ?hv (enC ⟨3, Wi.z32, 0, Wi.z32⟩) (bt_entry 3) ?_; (case hw => kernel_rfl); (try case hv => rfl)) | (refine wpL_cmp ?hw .eql 152 _ (.tmp 33) (.tmp 34) rfl (enC x) (enC ⟨3, Wi.z32, 0, Wi.z32⟩) rfl rfl gd_entry _ (cmp_entry _ _ HI.out (zen_ok 3 (by unfold Wi.i64ok; omega))) ?_; case hw => kernel_rfl))
          go_ret
          exact ⟨ret_bool (by rw [HR2.out]; rfl), B1.out⟩
        · have d4 : (k == 2) = false := by simp [h4]
          have HR3 : Hid (r = false) := Lib.hid (by rw [HR2.out, decide_eq_false h4]; rfl)
          clear h4 HR2
          go_enter Tryd.func99, Tryd.ntmps99
          go_wp2
          go_ret
          exact ⟨ret_bool (by rw [HR3.out]), B1.out⟩
      · have d3 : (st == 3) = false := by simp [h3]
        have HR3 : Hid (r = false) := Lib.hid (by rw [HR.out, Wi.mayEn, ← HST.out, if_neg h1, if_neg h2, if_neg h3])
        clear h1 h2 h3 HR
        go_enter Tryd.func99, Tryd.ntmps99
        go_wp2
        go_ret
        exact ⟨ret_bool (by rw [HR3.out]), B1.out⟩
end Go.Proofs.YthampbiabkfmoaaDoor
