/- taprootlaw23.request, known. -/
import Derived.Test.YthampbiabkfmoaaDoorWiSame
import Derived.Test.YthampbiabkfmoaaDoorAs
namespace Go.Proofs.YthampbiabkfmoaaDoor
open Go.RowKit Go.Tap
set_option linter.unusedVariables false
set_option linter.unusedSimpArgs false
def Wi.itab : Wi.It := ⟨Wi.z32, 0, [97, 98]⟩
def Wi.rqK : Wi.Rq := ⟨1, 2, [Wi.itab]⟩
theorem itab_ok : Wi.itab.ok := ⟨rfl, by show Wi.i64ok 0; unfold Wi.i64ok; omega, by show 2 ≤ _; omega⟩
theorem rqK_ok : Wi.rqK.ok := ⟨by show Wi.i64ok 1; unfold Wi.i64ok; omega, by show Wi.i64ok 2; unfold Wi.i64ok; omega, fun i hi => by
  simp only [Wi.rqK, List.mem_singleton] at hi; subst hi; exact itab_ok⟩
theorem rqK_may : Wi.mayRq Wi.rqK = true := by decide
theorem rqK_lay : Wi.layRq Wi.rqK = some (Wi.sumB (Wi.headB 1 Wi.rqK)) := if_pos rqK_may
theorem rqK_len : (Wi.sumB (Wi.headB 1 Wi.rqK)).length = 14 := by
  rw [Wi.sumB_len, Wi.headB_len]
  rfl
theorem read_nil : Wi.readRp [] = .error 4 := rfl
set_option maxHeartbeats 1000000 in
set_option maxRecDepth 100000 in
theorem req_any (w : World) : Calls Tryd.prog 32 #[] w fun e w' => ∃ B, e = .returned (.agg #[.int .i64 1, .int .i64 2, .slice (some ⟨B, 0, none⟩) 1 1]) ∧ w.heap.size ≤ B ∧ RdI w' (some ⟨B, 0, none⟩) 1 [Wi.itab] ∧ Below w.heap.size w w' := by
  obtain ⟨W1, hW1⟩ : ∃ W1, W1 = (w.alloc (.cells #[.int .i64 0, .int .i64 0, .slice none 0 0] 28)).alloc (.cells (itC Wi.itab) 44) := ⟨_, rfl⟩
  have T0 : Hid (((w.alloc (.cells #[.int .i64 0, .int .i64 0, .slice none 0 0] 28)).alloc (.cells (itC Wi.itab) 44)).heap[w.heap.size]? = some (.cells #[.int .i64 0, .int .i64 0, .slice none 0 0] 28 (0, 0))) := Lib.hid (heap_alloc2_old _ _ _)
  have T1 : Hid (((w.alloc (.cells #[.int .i64 0, .int .i64 0, .slice none 0 0] 28)).alloc (.cells (itC Wi.itab) 44)).heap[w.heap.size + 1]? = some (.cells (itC Wi.itab) 44 (0, 0))) := Lib.hid (heap_alloc2_new _ _ _)
  clear hW1
  go_enter Tryd.func32, Tryd.ntmps32
  go_wp2_with (first | (refine wpL_mk (by kernel_rfl) 44 #[(1, .const (.string { data := #[97, 98] }))] rfl [(1, .string (str [97, 98]))] (by rfl) (itC Wi.itab) (bt_item_text [97, 98]) ?_) | (refine wpL_rowOne rfl 26 44 (.tmp 1) rfl 2 rfl Tryd.underlying26 (itC Wi.itab) (by rfl) (.agg (itC ⟨Wi.z32, 0, []⟩)) 34 zi_item (by decide) (itC_size _ itab_ok) ?_) | (refine wpL_storeW (by kernel_rfl) 28 (.tmp 0) (.tmp 3) rfl w.heap.size 0 rfl #[.int .i64 1, .int .i64 2, .slice (some ⟨w.heap.size + 1, 0, none⟩) 1 1] rfl #[.int .i64 0, .int .i64 0, .slice none 0 0] 28 T0.out #[.int .i64 1, .int .i64 2, .slice (some ⟨w.heap.size + 1, 0, none⟩) 1 1] rfl (Nat.le_refl 3) (one3 _ _ _ _ _) (sz_rq _ _ _) ?_))
  intro w9 T9 S9
  go_wp2
  refine bodyPost_ret (results_cell_row rfl _ _ w.heap.size 28 _ (0, 0) _ rfl T9 Tryd.underlying28 rfl (sz_rq _ _ _)) rfl ⟨w.heap.size + 1, rfl, by omega, ⟨rfl, fun _ => ⟨w.heap.size + 1, 0, rfl, ?_, ?_⟩⟩, ?_⟩
  · have := S9.size; simp at this; omega
  · intro j x hx i v hv
    have hj : j = 0 := by
      have := (List.getElem?_eq_some_iff.1 hx).1; simp at this; omega
    subst hj
    simp at hx
    subst hx
    have T9' := (S9.block (w.heap.size + 1) (blk_lt T1.out) (by omega)).trans T1.out
    have := Part.of_blk T9' i v hv
    simpa using this
  · exact Below.trans_stay (((Below.refl _ _).alloc (Nat.le_refl _) _).alloc (by simp) _) S9 (Nat.le_refl _) (fun k hk e => by omega)
theorem rdI_cell {w : World} {b o n : Nat} {l : List Wi.It} (h : RdI w (some ⟨b, o, none⟩) n l) {k : Nat} {x : Wi.It} (hx : l[k]? = some x) (hk : x.ok) : w.cell? ⟨b, o + k * 34 + 33, none⟩ = some (.string (str x.text)) := by
  obtain ⟨b', o', e, _, hp⟩ := h.at hx
  simp only [Option.some.injEq, Addr.mk.injEq] at e
  obtain ⟨rfl, rfl, _⟩ := e
  exact hp 33 _ (itC_text x hk)
set_option maxHeartbeats 4000000 in
set_option maxRecDepth 100000 in
theorem known23 (W : World) (hg : EType W) : Calls Tryd.prog 7 #[] W fun e w' => e = .returned (.bool true) ∧ Below W.heap.size W w' := by
  have h1 := readReply_any W none 0 0 [] (Rds.nil _ _) (Nat.le_refl _) (fun _ => rfl) (by omega)
  rw [read_nil] at h1
  have HG := Lib.hid hg
  clear hg
  go_enter Tryd.func7, Tryd.ntmps7
  go_wp2_with fail
  refine h1.mono ?_
  clear h1
  rintro e w1 ⟨b1, he⟩
  obtain rfl : e = _ := he
  have B1 := Lib.hid b1
  clear b1
  have ba : Below W.heap.size W (w1.alloc (.cells #[.int .i64 0, .int .i64 0, .slice none 0 0, .slice none 0 0] 88)) := B1.out.alloc B1.out.size _
  have BA := Lib.hid ba
  have h2 := req_any (w1.alloc (.cells #[.int .i64 0, .int .i64 0, .slice none 0 0, .slice none 0 0] 88))
  clear ba
  go_wp2_with fail
  refine h2.mono ?_
  clear h2
  rintro e w2 ⟨B, rfl, _, r2, b2⟩
  have B2 := Lib.hid (BA.out.trans (b2.mono BA.out.size))
  have h3 := layRequest_any w2 Wi.rqK rqK_ok _ 1 1 r2 (by omega)
  rw [rqK_lay] at h3
  clear r2 b2 BA B1
  go_wp2_with fail
  refine h3.mono ?_
  clear h3
  rintro e w3 ⟨b3, a3, c3, rfl, o3⟩
  have B3 := Lib.hid (B2.out.trans (b3.mono B2.out.size))
  obtain ⟨_, _, q3, hnc, _, hz, _⟩ := ownsRow_slice o3
  simp only [Value.slice.injEq] at q3
  obtain ⟨rfl, _, rfl⟩ := q3
  have h4 := readRequest_any w3 a3 _ c3 _ (Rds.of_own o3 rfl) hnc hz (by rw [rqK_len]; omega)
  rw [Wi.readRq_lay Wi.rqK rqK_ok _ rqK_lay] at h4
  rw [rqK_len] at h4 ⊢
  clear b3 o3 hnc hz B2
  go_wp2_with fail
  refine h4.mono ?_
  clear h4
  rintro e w4 ⟨b4, a4, c4, he, r4, z4, n4, k4⟩
  obtain rfl : e = .returned (.tuple #[.agg #[.int .i64 1, .int .i64 2, .slice a4 1 c4], .nilIface]) := he
  have B4 := Lib.hid (B3.out.trans (b4.mono B3.out.size))
  obtain ⟨b5, o5, rfl, hb5, hp5⟩ := r4.at (k := 0) (x := Wi.itab) rfl
  have R4 := Lib.hid r4
  have bq : Below w4.heap.size w4 (w4.alloc (.cells #[.int .i64 1, .int .i64 2, .slice (some ⟨b5, o5, none⟩) 1 c4] 28)) := (Below.refl _ _).alloc (Nat.le_refl _) _
  have BQ := Lib.hid (B4.out.trans (bq.mono B4.out.size))
  have h5 := kind_errno (w4.alloc (.cells #[.int .i64 1, .int .i64 2, .slice (some ⟨b5, o5, none⟩) 1 c4] 28)) 4 (HG.out.keep BQ.out)
  have TQ : Hid ((w4.alloc (.cells #[.int .i64 1, .int .i64 2, .slice (some ⟨b5, o5, none⟩) 1 c4] 28)).heap[w4.heap.size]? = some (.cells #[.int .i64 1, .int .i64 2, .slice (some ⟨b5, o5, none⟩) 1 c4] 28 (0, 0))) := Lib.hid (heap_alloc_new _ _)
  have RQ := Lib.hid (R4.out.below bq)
  clear b4 r4 z4 n4 k4 hb5 hp5 bq R4 B4 B3
  go_wp2_with fail
  refine h5.mono ?_
  clear h5
  rintro e w5 ⟨rfl, b5'⟩
  obtain ⟨g0, g1, g2⟩ := cells3 ((b5'.block _ (blk_lt TQ.out)).trans TQ.out)
  have B5 := Lib.hid (BQ.out.trans (b5'.mono BQ.out.size))
  have g3 : w5.cell? ⟨b5, o5 + 0 * 34 + 33, none⟩ = some (.string (str [97, 98])) := rdI_cell (RQ.out.below b5') (k := 0) (x := Wi.itab) rfl itab_ok
  have g3' : w5.cell? ⟨b5, o5 + 33, none⟩ = some (.string (str [97, 98])) := by simpa using g3
  have hs : ((str [97, 98]).toList == [97, 98]) = true := by rw [str_toList]; decide
  clear b5' TQ RQ
  go_wp2

  all_goals go_ret
  all_goals exact ⟨rfl, B5.out⟩
end Go.Proofs.YthampbiabkfmoaaDoor
