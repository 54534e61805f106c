/- wire's values built; mayItem, mayEntry: what they answer. -/
import Derived.Test.YthampbiabkfmoaaDoorWiVal
namespace Go
namespace Tap
open Go.RowKit
section
variable {P : Program}
theorem built_struct {t : TypeId} {z : Value} {places : List (Nat × Nat)} (hi : (P.info? t).map (·.zero) = some (some z)) (hu : P.underlying t = some (.struct (P.fieldsOf t))) (hp : (P.fieldsOf t).toList.mapM (fun f => (P.info? f.type).map fun i => (f.offset, i.size)) = some places) (parts : List (Nat × Value)) :
    P.built t parts = Instr.fill (places.toArray[·]?) z.cells parts := by
  unfold Program.built
  cases hq : P.info? t with
  | none => simp [hq] at hi
  | some it =>
    have hz : it.zero = some z := by simpa [hq] using hi
    simp only [hu, hz, hp]
end
end Tap
end Go
namespace Go.Proofs.YthampbiabkfmoaaDoor
open Go.RowKit Go.Tap
set_option linter.unusedVariables false
set_option linter.unusedSimpArgs false
theorem z32_len : Wi.z32.length = 32 := rfl
theorem bu_path (parts : List (Nat × Value)) : Tryd.prog.built 42 parts = Instr.fill (#[(0, 32), (32, 1)][·]?) (pathC Wi.z32 0) parts :=
  built_struct (z := .agg (pathC Wi.z32 0)) (places := [(0, 32), (32, 1)]) (by kernel_rfl) (by kernel_rfl) (by kernel_rfl) parts
theorem bu_item (parts : List (Nat × Value)) : Tryd.prog.built 44 parts = Instr.fill (#[(0, 33), (33, 1)][·]?) (itC ⟨Wi.z32, 0, []⟩) parts :=
  built_struct (z := .agg (itC ⟨Wi.z32, 0, []⟩)) (places := [(0, 33), (33, 1)]) (by kernel_rfl) (by kernel_rfl) (by kernel_rfl) parts
theorem bu_entry (parts : List (Nat × Value)) : Tryd.prog.built 152 parts = Instr.fill (#[(0, 1), (1, 33), (34, 32)][·]?) (enC ⟨0, Wi.z32, 0, Wi.z32⟩) parts :=
  built_struct (z := .agg (enC ⟨0, Wi.z32, 0, Wi.z32⟩)) (places := [(0, 1), (1, 33), (34, 32)]) (by kernel_rfl) (by kernel_rfl) (by kernel_rfl) parts
theorem bt_path0 : Tryd.prog.built 42 [] = some (pathC Wi.z32 0) := bu_path []
theorem sp_arr {L M : List Value} {C : Array Value} (h : splice L 0 M = C.toList) : (splice L 0 M).toArray = C := by rw [h]
theorem bt_path (h : List UInt8) (s : Int) (hl : h.length = 32) : Tryd.prog.built 42 [(0, .agg (hashC h)), (1, .int .i64 s)] = some (pathC h s) := by
  have e1 : (splice (pathC Wi.z32 0).toList 0 (hashC h).toList).toArray = pathC h 0 := by
    apply Array.ext'
    unfold splice
    rw [show (0 + (hashC h).toList.length) = 32 by simp [hashC, bv_length, hl]]
    show bv h ++ [Value.int .i64 0] = _
    rfl
  have e2 : (splice (pathC h 0).toList 32 [Value.int .i64 s]).toArray = pathC h s := by
    apply Array.ext'
    have hb : (bv h).length = 32 := by rw [bv_length, hl]
    simp only [splice, pathC, List.length_cons, List.length_nil]
    rw [List.take_left' hb, List.drop_of_length_le (by simp [hb]), List.append_nil]
  rw [bu_path, fill_cons (v := .agg (hashC h)) (off := 0) (size := 32) rfl (hashC_size h hl) (by rw [pathC_size _ _ z32_len]; omega), show (Value.agg (hashC h)).cells = hashC h from rfl, e1,
    fill_cons (off := 32) (size := 1) rfl rfl (by rw [pathC_size _ _ hl]; omega), show (Value.int IntKind.i64 s).cells.toList = [Value.int .i64 s] from rfl, e2]
  rfl
theorem bt_path1 (s : Int) : Tryd.prog.built 42 [(1, .int .i64 s)] = some (pathC Wi.z32 s) := by
  rw [bu_path, fill_cons (off := 32) (size := 1) rfl rfl (by rw [pathC_size _ _ z32_len]; omega)]
  rfl
theorem sp_item_path (i : Wi.It) (h : List UInt8) (s : Int) (hi : i.high.length = 32) (hl : h.length = 32) : (splice (itC i).toList 0 (pathC h s).toList).toArray = itC ⟨h, s, i.text⟩ := by
  apply Array.ext'
  unfold splice
  rw [show (0 + (pathC h s).toList.length) = 33 by simp [pathC, bv_length, hl]]
  show (bv h ++ [Value.int .i64 s]) ++ List.drop 33 (bv i.high ++ [Value.int .i64 i.steps, Value.string (str i.text)]) = _
  rw [show bv i.high ++ [Value.int .i64 i.steps, Value.string (str i.text)] = (bv i.high ++ [Value.int .i64 i.steps]) ++ [Value.string (str i.text)] by simp, List.drop_left' (by simp [bv_length, hi])]
  simp [itC]
theorem sp_item_text (i : Wi.It) (t : List UInt8) (hi : i.high.length = 32) : (splice (itC i).toList 33 [Value.string (str t)]).toArray = itC ⟨i.high, i.steps, t⟩ := by
  apply Array.ext'
  have hb : (bv i.high ++ [Value.int .i64 i.steps]).length = 33 := by simp [bv_length, hi]
  simp only [splice, itC, List.length_cons, List.length_nil]
  rw [show bv i.high ++ [Value.int .i64 i.steps, Value.string (str i.text)] = (bv i.high ++ [Value.int .i64 i.steps]) ++ [Value.string (str i.text)] by simp, List.take_left' hb, List.drop_of_length_le (by simp [bv_length, hi])]
  simp [itC]
theorem bt_item_path (h : List UInt8) (s : Int) (hl : h.length = 32) : Tryd.prog.built 44 [(0, .agg (pathC h s))] = some (itC ⟨h, s, []⟩) := by
  rw [bu_item, fill_cons (v := .agg (pathC h s)) (off := 0) (size := 33) rfl (pathC_size h s hl) (by show 33 ≤ 34; omega), show (Value.agg (pathC h s)).cells = pathC h s from rfl, sp_item_path ⟨Wi.z32, 0, []⟩ h s rfl hl]
  rfl
theorem bt_item_text (t : List UInt8) : Tryd.prog.built 44 [(1, .string (str t))] = some (itC ⟨Wi.z32, 0, t⟩) := by
  rw [bu_item, fill_cons (off := 33) (size := 1) rfl rfl (by show 34 ≤ 34; omega), show (Value.string (str t)).cells.toList = [Value.string (str t)] from rfl, sp_item_text ⟨Wi.z32, 0, []⟩ t rfl]
  rfl
theorem bt_item_both (h : List UInt8) (s : Int) (t : List UInt8) (hl : h.length = 32) : Tryd.prog.built 44 [(1, .string (str t)), (0, .agg (pathC h s))] = some (itC ⟨h, s, t⟩) := by
  rw [bu_item, fill_cons (off := 33) (size := 1) rfl rfl (by show 34 ≤ 34; omega), show (Value.string (str t)).cells.toList = [Value.string (str t)] from rfl, sp_item_text ⟨Wi.z32, 0, []⟩ t rfl,
    fill_cons (v := .agg (pathC h s)) (off := 0) (size := 33) rfl (pathC_size h s hl) (by show 33 ≤ 34; omega), show (Value.agg (pathC h s)).cells = pathC h s from rfl, sp_item_path ⟨Wi.z32, 0, t⟩ h s rfl hl]
  rfl
theorem bt_entry (s : Int) : Tryd.prog.built 152 [(0, .int .i64 s)] = some (enC ⟨s, Wi.z32, 0, Wi.z32⟩) := by
  rw [bu_entry, fill_cons (off := 0) (size := 1) rfl rfl (by show 1 ≤ 66; omega)]
  rfl
theorem part_of {w : World} {g : Nat} {C D : Array Value} {t : TypeId} {fr : Nat × Nat} (h : w.heap[g]? = some (.cells C t fr)) {o n : Nat} (he : C.extract o (o + n) = D) : Part w g o D := fun j v hv => by
  rw [cell_of_row w g (o + j) C t fr h]
  rw [← he, Array.getElem?_extract] at hv
  split at hv
  · exact hv
  · cases hv
set_option maxHeartbeats 2000000 in
set_option maxRecDepth 100000 in
theorem mayItem_any (w : World) (k : Int) (i : Wi.It) (hi : i.ok) : Calls Tryd.prog 53 #[.int .i64 k, .agg (itC i)] w fun e w' => e = .returned (.bool (Wi.mayIt k i)) ∧ Below w.heap.size w w' := by
  obtain ⟨C, hC⟩ : ∃ C, C = itC i := ⟨_, rfl⟩
  rw [← hC]
  have c32 : C[32]? = some (.int .i64 i.steps) := by rw [hC]; exact itC_steps i hi
  have c33 : C[33]? = some (.string (str i.text)) := by rw [hC]; exact itC_text i hi
  obtain ⟨r, hr⟩ : ∃ r, r = Wi.mayIt k i := ⟨_, rfl⟩
  rw [← hr]
  have HR := Lib.hid hr
  have HC := Lib.hid hC
  have HI := Lib.hid hi
  have B1 : Hid (Below w.heap.size w (w.alloc (.cells C 44))) := Lib.hid ((Below.refl _ _).alloc (Nat.le_refl _) _)
  clear hr hC hi
  by_cases h1 : k = 1
  · subst h1
    have HR1 : Hid (r = ((str i.text).toList.isEmpty && (decide (0 ≤ i.steps) && decide (i.steps ≤ 1048576)))) := Lib.hid (by
      rw [HR.out, Wi.mayIt, if_pos rfl, str_toList, Wi.stepsOk]
      congr 1
      cases i.text <;> rfl)
    clear HR
    go_enter Tryd.func53, Tryd.ntmps53
    go_wp2
    all_goals go_ret
    all_goals (refine ⟨ret_bool ?_, B1.out⟩; rw [HR1.out]; simp [*]; try omega)
  · have d1 : (k == 1) = false := by simp [h1]
    by_cases h2 : k = 2
    · subst h2
      have HR2 : Hid (r = (Wi.isPre i.text && (decide (i.high = Wi.z32) && decide (i.steps = 0)))) := Lib.hid (by
        rw [HR.out, Wi.mayIt, if_neg h1, if_pos rfl])
      clear HR h1 d1
      obtain ⟨W1, hW1⟩ : ∃ W1, W1 = w.alloc (.cells C 44) := ⟨_, rfl⟩
      have P1 : Hid (Part W1 w.heap.size 0 (pathC i.high i.steps)) := Lib.hid (part_of (by rw [hW1]; exact heap_alloc_new _ _) (by rw [HC.out]; exact itC_path i HI.out))
      have B2 : Hid (Below w.heap.size w W1) := Lib.hid (by rw [hW1]; exact B1.out)
      have hG := isPrefix_any W1 i.text HI.out.text
      have HW := Lib.hid hW1
      clear hW1
      go_enter Tryd.func53, Tryd.ntmps53
      go_wp2_with fail
      rw [← HW.out]
      refine hG.mono ?_
      clear hG
      rintro e w2 ⟨rfl, hb2⟩
      have P2 : Hid (Part w2 w.heap.size 0 (pathC i.high i.steps)) := Lib.hid (P1.out.keep (hb2.block _ (by rw [HW.out]; simp)))
      have B3 := Lib.hid (B2.out.trans (hb2.mono B2.out.size))
      clear P1 hb2 B2
      obtain ⟨p, hp⟩ : ∃ p, p = Wi.isPre i.text := ⟨_, rfl⟩
      rw [← hp] at HR2 ⊢
      clear hp
      cases p
      · go_wp2
        go_ret
        exact ⟨ret_bool (by rw [HR2.out]; rfl), B3.out⟩
      · go_wp2_with (first | (refine wpL_load ?hw 42 (.tmp 29) rfl w.heap.size 0 rfl (pathC i.high i.steps) _ P2.out Tryd.underlying42 rfl (by rw [pathC_size _ _ HI.out.high]; exact sz_path) ?_; case hw => kernel_rfl) | (refine wpL_built ?hw 42 #[] rfl [] rfl (pathC Wi.z32 0) bt_path0 ?_; case hw => kernel_rfl) | (refine wpL_cmp ?hw .eql 42 _ (.tmp 30) (.tmp 31) rfl (pathC i.high i.steps) (pathC Wi.z32 0) rfl rfl gd_path _ (cmp_path _ _ _ _ HI.out.high z32_len) ?_; case hw => kernel_rfl))
        go_ret
        exact ⟨ret_bool (by rw [HR2.out, Bool.true_and]), B3.out⟩
    · have d2 : (k == 2) = false := by simp [h2]
      have HR3 : Hid (r = false) := Lib.hid (by rw [HR.out, Wi.mayIt, if_neg h1, if_neg h2])
      clear h1 h2 HR
      go_enter Tryd.func53, Tryd.ntmps53
      go_wp2
      go_ret
      exact ⟨ret_bool (by rw [HR3.out]), B1.out⟩
end Go.Proofs.YthampbiabkfmoaaDoor
