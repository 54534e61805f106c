/- taprootlaw23.ask: what it answers. -/
import Derived.Test.YthampbiabkfmoaaDoorWiAskPl
import Derived.Test.YthampbiabkfmoaaDoorWiCall
namespace Go.Proofs.YthampbiabkfmoaaDoor
open Go.RowKit Go.Tap
set_option linter.unusedVariables false
set_option linter.unusedSimpArgs false
/-- A raw request that came in. -/
structure ArgX (w : World) (r : RawW) : Prop where
  ok : r.ok
  l : RdZ w r.l.a r.l.n r.l.l
  e : RdZ w r.e.a r.e.n r.e.l
  nl : r.l.n ≤ 140737488351232
  ne : r.e.n ≤ 140737488351232
def rawOf (r : RawW) : Wi.Raw := ⟨r.seq, r.kind, r.how, r.l.l, r.e.l⟩
theorem ArgX.raw {w : World} {r : RawW} (h : ArgX w r) : (rawOf r).ok := ⟨h.ok.1, h.ok.2.1, h.ok.2.2, h.e.2.1⟩
theorem ArgX.below {w w' : World} {r : RawW} (h : ArgX w r) (hb : Below w.heap.size w w') : ArgX w' r := ⟨h.ok, h.l.below hb, h.e.below hb, h.nl, h.ne⟩
theorem bt_model : ∃ M : Array Value, Tryd.prog.built 80 [] = some M := by
  have : (Tryd.prog.built 80 []).isSome = true := by kernel_rfl
  exact Option.isSome_iff_exists.1 this
theorem bt_rq (s k : Int) : Tryd.prog.built 28 [(0, .int .i64 s), (1, .int .i64 k)] = some #[.int .i64 s, .int .i64 k, .slice none 0 0] := by kernel_rfl
set_option maxHeartbeats 4000000 in
set_option maxRecDepth 100000 in
theorem ask_any (w : World) (r : RawW) (h : ArgX w r) :
    Calls Tryd.prog 5 #[.agg r.cells.toArray] w fun e w' => ∃ a c, e = .returned (.agg #[.int .i64 (Wi.askQ (rawOf r)).seq, .int .i64 (Wi.askQ (rawOf r)).kind, .slice a (Wi.askQ (rawOf r)).items.length c]) ∧ RdI w' a (Wi.askQ (rawOf r)).items.length (Wi.askQ (rawOf r)).items ∧ (∀ x, a = some x → w.heap.size ≤ x.block) ∧ Below w.heap.size w w' := by
  have hx := h.raw
  obtain ⟨sq, kd, hw, ⟨la, ln, lc, ll⟩, ⟨ea, en, ec, el⟩⟩ := r
  obtain ⟨q, hq⟩ : ∃ q, q = Wi.askQ (rawOf ⟨sq, kd, hw, ⟨la, ln, lc, ll⟩, ⟨ea, en, ec, el⟩⟩) := ⟨_, rfl⟩
  rw [← hq]
  obtain ⟨k, hk⟩ : ∃ k, k = 1 + kd % 2 := ⟨_, rfl⟩
  obtain ⟨s, hs⟩ : ∃ s, s = sq % 1000 := ⟨_, rfl⟩
  have hkk : IntKind.i64.wrap (1 + kd % 2) = k := by rw [hk]; exact wrapi' _ (by omega)
  obtain ⟨W1, hW1⟩ : ∃ W1, W1 = (w.alloc (.cells #[.int .i64 sq, .int .i64 kd, .int .i64 hw, .slice la ln lc, .slice ea en ec] 24)).alloc (.cells #[.int .i64 0, .int .i64 0, .slice none 0 0] 28) := ⟨_, rfl⟩
  have b1 : Below w.heap.size w W1 := by rw [hW1]; exact ((Below.refl _ _).alloc (Nat.le_refl _) _).alloc (by simp) _
  have t0 : W1.heap[w.heap.size]? = some (.cells #[.int .i64 sq, .int .i64 kd, .int .i64 hw, .slice la ln lc, .slice ea en ec] 24 (0, 0)) := by rw [hW1]; exact heap_alloc2_old _ _ _
  have t1 : W1.heap[w.heap.size + 1]? = some (.cells #[.int .i64 0, .int .i64 0, .slice none 0 0] 28 (0, 0)) := by rw [hW1]; exact heap_alloc2_new _ _ _
  have hsz : W1.heap.size = w.heap.size + 2 := by rw [hW1]; simp
  have p1 := fun X => pick_any X sq 1000 hx.seq.1 hx.seq.2 (by omega) (by omega)
  have p2 := fun X => pick_any X kd 2 hx.kind.1 hx.kind.2 (by omega) (by omega)
  have p3 := fun X => pick_any X hw 20 hx.how.1 hx.how.2 (by omega) (by omega)
  have HQ := Lib.hid hq
  have HX := Lib.hid hx
  have HA := Lib.hid h
  have HK := Lib.hid hk
  have HS := Lib.hid hs
  have B1 := Lib.hid b1
  have T0 := Lib.hid t0
  have T1 := Lib.hid t1
  have HSZ := Lib.hid hsz
  rw [← hs] at p1
  have P1 := Lib.hid p1
  have P2 := Lib.hid p2
  have P3 := Lib.hid p3
  clear hx h hq hk hs b1 t0 t1 hsz p1 p2 p3
  show Calls Tryd.prog 5 #[.agg #[.int .i64 sq, .int .i64 kd, .int .i64 hw, .slice la ln lc, .slice ea en ec]] w _
  go_enter Tryd.func5, Tryd.ntmps5
  go_wp2_with fail
  rw [← hW1]
  clear hW1
  have T0' : Hid (∀ w', Below W1.heap.size W1 w' → w'.cell? ⟨w.heap.size, 0, none⟩ = some (.int .i64 sq) ∧ w'.cell? ⟨w.heap.size, 1, none⟩ = some (.int .i64 kd)) := Lib.hid (fun w' h => by
    have := (h.block _ (blk_lt T0.out)).trans T0.out
    exact ⟨blk_cell (i := 0) this rfl, blk_cell (i := 1) this rfl⟩)
  refine wp_region_held_drew (S := fun w' => Below W1.heap.size W1 w') (by kernel_rfl) (bel_drw W1) (fun hS0 => ?_)
  refine takeK (i := 0) (.pointer (some ⟨w.heap.size, 0, none⟩)) (some 4) rfl (by kernel_rfl) (by kernel_rfl) (by kernel_rfl) (by kernel_rfl) (fun _ _ _ h => h) (by kernel_rfl) (fun w' _ => by go_simp) hS0 ?_
  simp only [Act.put, List.setIfInBounds_toArray, List.set_cons_zero, List.set_cons_succ]
  refine takeK (i := 1) (.int .i64 sq) (some 5) rfl (by kernel_rfl) (by kernel_rfl) (by kernel_rfl) (by kernel_rfl) (fun _ _ _ h => h) (by kernel_rfl) (fun w' h => by have := (T0'.out w' h).1; go_simp) hS0 ?_
  simp only [Act.put, List.setIfInBounds_toArray, List.set_cons_zero, List.set_cons_succ]
  refine takeK (i := 3) (.pointer (some ⟨w.heap.size, 1, none⟩)) (some 7) rfl (by kernel_rfl) (by kernel_rfl) (by kernel_rfl) (by kernel_rfl) (fun _ _ _ h => h) (by kernel_rfl) (fun w' _ => by go_simp) hS0 ?_
  simp only [Act.put, List.setIfInBounds_toArray, List.set_cons_zero, List.set_cons_succ]
  refine takeK (i := 4) (.int .i64 kd) (some 8) rfl (by kernel_rfl) (by kernel_rfl) (by kernel_rfl) (by kernel_rfl) (fun _ _ _ h => h) (by kernel_rfl) (fun w' h => by have := (T0'.out w' h).2; go_simp) hS0 ?_
  simp only [Act.put, List.setIfInBounds_toArray, List.set_cons_zero, List.set_cons_succ]
  have HBA : Hid (Below W1.heap.size W1 (W1.drew.alloc (.cells #[.int .i64 0, .int .i64 0, .slice none 0 0] 28))) := Lib.hid (hS0.alloc (Nat.le_refl _) _)
  refine (fun (HC : Hid ?C) => ?main) ?cont
  case main =>
    refine wpAnyH_ready (rs := [2, 8]) (by kernel_rfl) (by simp) ?_
    refine AllReadyH.cons rfl (fun K hK => ?_) (AllReadyH.cons rfl (fun K hK => ?_) AllReadyH.nil)
    · refine step_call (by kernel_rfl) 10 #[.int .i64 sq, .int .i64 1000] (by kernel_rfl) (P1.out _) ?_
      rintro e w' ⟨rfl, rfl⟩
      refine ⟨_, rfl, hK.out _ _ hS0 (fun hS => ?_)⟩
      clear hK K hS
      simp only [Act.put, List.setIfInBounds_toArray, List.set_cons_zero, List.set_cons_succ]
      refine wpAnyH_ready (rs := [5, 8]) (by kernel_rfl) (by simp) ?_
      refine AllReadyH.cons rfl (fun K hK => ?_) (AllReadyH.cons rfl (fun K hK => ?_) AllReadyH.nil)
      · refine step_call (by kernel_rfl) 10 #[.int .i64 kd, .int .i64 2] (by kernel_rfl) (P2.out _) ?_
        rintro e w' ⟨rfl, rfl⟩
        refine ⟨_, rfl, hK.out _ _ hS0 (fun hS => ?_)⟩
        simp only [Act.put, List.setIfInBounds_toArray, List.set_cons_zero, List.set_cons_succ]
        refine takeK (i := 6) (.int .i64 k) (some 10) rfl (by kernel_rfl) (by kernel_rfl) (by kernel_rfl) (by kernel_rfl) (fun _ _ _ h => h) (by kernel_rfl) (fun w' h => by go_simp) hS ?_
        simp only [Act.put, List.setIfInBounds_toArray, List.set_cons_zero, List.set_cons_succ]
        refine takeK (i := 7) (.agg #[.int .i64 s, .int .i64 k, .slice none 0 0]) (some 11) rfl (by kernel_rfl) (by kernel_rfl) (by kernel_rfl) (by kernel_rfl) (fun _ _ _ h => h) (by kernel_rfl) (fun w' _ => ex_mk 28 #[(0, .tmp 6), (1, .tmp 10)] rfl [(0, .int .i64 s), (1, .int .i64 k)] rfl _ (bt_rq s k)) hS ?_
        simp only [Act.put, List.setIfInBounds_toArray, List.set_cons_zero, List.set_cons_succ]
        clear hK K hS
        refine wpAnyH_ready (rs := [8]) (by kernel_rfl) (by simp) ?_
        refine AllReadyH.cons rfl (fun K hK => ?_) AllReadyH.nil
        refine step_alloc (by kernel_rfl) 28 rfl #[.int .i64 0, .int .i64 0, .slice none 0 0] 3 (by kernel_rfl) ?_
        refine hK.out _ _ HBA.out (fun hS => ?_)
        clear hK K hS
        simp only [Act.put, List.setIfInBounds_toArray, List.set_cons_zero, List.set_cons_succ]
        exact HC.out
      · refine step_alloc (by kernel_rfl) 28 rfl #[.int .i64 0, .int .i64 0, .slice none 0 0] 3 (by kernel_rfl) ?_
        refine hK.out _ _ HBA.out (fun hS => ?_)
        clear hK K hS
        simp only [Act.put, List.setIfInBounds_toArray, List.set_cons_zero, List.set_cons_succ]
        refine wpAnyH_ready (rs := [5]) (by kernel_rfl) (by simp) ?_
        refine AllReadyH.cons rfl (fun K hK => ?_) AllReadyH.nil
        refine step_call (by kernel_rfl) 10 #[.int .i64 kd, .int .i64 2] (by kernel_rfl) (P2.out _) ?_
        rintro e w' ⟨rfl, rfl⟩
        refine ⟨_, rfl, hK.out _ _ HBA.out (fun hS => ?_)⟩
        simp only [Act.put, List.setIfInBounds_toArray, List.set_cons_zero, List.set_cons_succ]
        refine takeK (i := 6) (.int .i64 k) (some 10) rfl (by kernel_rfl) (by kernel_rfl) (by kernel_rfl) (by kernel_rfl) (fun _ _ _ h => h) (by kernel_rfl) (fun w' h => by go_simp) hS ?_
        simp only [Act.put, List.setIfInBounds_toArray, List.set_cons_zero, List.set_cons_succ]
        refine takeK (i := 7) (.agg #[.int .i64 s, .int .i64 k, .slice none 0 0]) (some 11) rfl (by kernel_rfl) (by kernel_rfl) (by kernel_rfl) (by kernel_rfl) (fun _ _ _ h => h) (by kernel_rfl) (fun w' _ => ex_mk 28 #[(0, .tmp 6), (1, .tmp 10)] rfl [(0, .int .i64 s), (1, .int .i64 k)] rfl _ (bt_rq s k)) hS ?_
        simp only [Act.put, List.setIfInBounds_toArray, List.set_cons_zero, List.set_cons_succ]
        clear hK K hS
        exact HC.out
    · refine step_alloc (by kernel_rfl) 28 rfl #[.int .i64 0, .int .i64 0, .slice none 0 0] 3 (by kernel_rfl) ?_
      refine hK.out _ _ HBA.out (fun hS => ?_)
      clear hK K hS
      simp only [Act.put, List.setIfInBounds_toArray, List.set_cons_zero, List.set_cons_succ]
      refine wpAnyH_ready (rs := [2]) (by kernel_rfl) (by simp) ?_
      refine AllReadyH.cons rfl (fun K hK => ?_) AllReadyH.nil
      refine step_call (by kernel_rfl) 10 #[.int .i64 sq, .int .i64 1000] (by kernel_rfl) (P1.out _) ?_
      rintro e w' ⟨rfl, rfl⟩
      refine ⟨_, rfl, hK.out _ _ HBA.out (fun hS => ?_)⟩
      clear hK K hS
      simp only [Act.put, List.setIfInBounds_toArray, List.set_cons_zero, List.set_cons_succ]
      refine wpAnyH_ready (rs := [5]) (by kernel_rfl) (by simp) ?_
      refine AllReadyH.cons rfl (fun K hK => ?_) AllReadyH.nil
      refine step_call (by kernel_rfl) 10 #[.int .i64 kd, .int .i64 2] (by kernel_rfl) (P2.out _) ?_
      rintro e w' ⟨rfl, rfl⟩
      refine ⟨_, rfl, hK.out _ _ HBA.out (fun hS => ?_)⟩
      simp only [Act.put, List.setIfInBounds_toArray, List.set_cons_zero, List.set_cons_succ]
      refine takeK (i := 6) (.int .i64 k) (some 10) rfl (by kernel_rfl) (by kernel_rfl) (by kernel_rfl) (by kernel_rfl) (fun _ _ _ h => h) (by kernel_rfl) (fun w' h => by go_simp) hS ?_
      simp only [Act.put, List.setIfInBounds_toArray, List.set_cons_zero, List.set_cons_succ]
      refine takeK (i := 7) (.agg #[.int .i64 s, .int .i64 k, .slice none 0 0]) (some 11) rfl (by kernel_rfl) (by kernel_rfl) (by kernel_rfl) (by kernel_rfl) (fun _ _ _ h => h) (by kernel_rfl) (fun w' _ => ex_mk 28 #[(0, .tmp 6), (1, .tmp 10)] rfl [(0, .int .i64 s), (1, .int .i64 k)] rfl _ (bt_rq s k)) hS ?_
      simp only [Act.put, List.setIfInBounds_toArray, List.set_cons_zero, List.set_cons_succ]
      clear hK K hS
      exact HC.out
  case cont =>
    refine Lib.hid ?_
    refine wpAnyH_ready (rs := [9]) (by kernel_rfl) (by simp) ?_
    refine AllReadyH.cons rfl (fun K hK => ?_) AllReadyH.nil
    refine step_store (by kernel_rfl) 28 (.tmp 3) (.tmp 11) rfl W1.drew.heap.size 0 rfl #[.int .i64 s, .int .i64 k, .slice none 0 0] rfl #[.int .i64 0, .int .i64 0, .slice none 0 0] 28 (heap_alloc_new _ _) #[.int .i64 s, .int .i64 k, .slice none 0 0] rfl (Nat.le_refl 3) (one3 _ _ _ _ _) (sz_rq _ _ _) ?_
    intro w3 T3 S3
    have B3 := Lib.hid (Below.trans_stay HBA.out S3 (Nat.le_refl _) (fun k hk e => by have h : W1.drew.heap.size = W1.heap.size := rfl; omega))
    simp only [Act.put, List.setIfInBounds_toArray, List.set_cons_zero, List.set_cons_succ]
    refine hK.out _ _ B3.out (fun hS => ?_)
    clear hK K hS
    refine wpAnyH_done (by kernel_rfl) ?_ _
    have hrb : W1.drew.heap.size = w.heap.size + 2 := by have h : W1.drew.heap.size = W1.heap.size := rfl; rw [h, HSZ.out]
    have BX := Lib.hid (B1.out.trans (B3.out.mono B1.out.size))
    have T03 := Lib.hid ((B3.out.block _ (blk_lt T0.out)).trans T0.out)
    have T13 := Lib.hid ((B3.out.block _ (blk_lt T1.out)).trans T1.out)
    generalize W1.drew.heap.size = rb at *
    have HRB := Lib.hid hrb
    have TR3 := Lib.hid T3
    obtain ⟨g0, g1, g2⟩ := cells3 T3
    have c3 : w3.cell? ⟨w.heap.size, 3, none⟩ = some (.slice la ln lc) := blk_cell (i := 3) T03.out rfl
    obtain ⟨M, hM⟩ := bt_model
    have hit := items_any w3 M rfl k la ln lc ll (HA.out.l.below BX.out) HA.out.nl
    obtain ⟨L, hL⟩ : ∃ L, L = Wi.itemsOf k ll := ⟨_, rfl⟩
    rw [← hL] at hit
    have HL := Lib.hid hL
    clear hrb T3 S3 HBA T0' hS0 B3 hL
    go_wp2_with (refine wpL_mk (by kernel_rfl) 80 #[] rfl [] (by rfl) M hM ?_)
    refine hit.mono ?_
    clear hit hM g0 g1 g2 c3
    rintro e w4 ⟨v, rfl, o4, b4⟩
    obtain ⟨a, c, rfl, _⟩ := ownsRow_slice o4
    have T4 := Lib.hid ((b4.block _ (blk_lt TR3.out)).trans TR3.out)
    have T04 := Lib.hid ((b4.block _ (blk_lt T03.out)).trans T03.out)
    have T14 := Lib.hid ((b4.block _ (blk_lt T13.out)).trans T13.out)
    have B4 := Lib.hid (BX.out.trans (b4.mono BX.out.size))
    have O4 := Lib.hid (ownsRow_base o4 BX.out.size)
    have N4 : Hid ((Value.slice a L.length c).ownBlock ≠ some rb) := Lib.hid (own_ne' o4 T4.out (by decide))
    obtain ⟨g0, g1, g2⟩ := cells3 T4.out
    have f2 := blk_free T4.out 2
    have c2 : w4.cell? ⟨w.heap.size, 2, none⟩ = some (.int .i64 hw) := blk_cell (i := 2) T04.out rfl
    obtain ⟨w5, hw5⟩ : ∃ w5, w5 = w4.setCell ⟨rb, 2, none⟩ (.slice a L.length c) := ⟨_, rfl⟩
    have S5 : TStay (fun k => k = rb) w4 w5 := by rw [hw5]; exact (TStay.refl (fun k => k = rb) _).setCell (p := ⟨rb, 2, none⟩) (.inl rfl) _
    have T5 : Hid (w5.heap[rb]? = some (.cells #[.int .i64 s, .int .i64 k, .slice a L.length c] 28 (0, 0))) := Lib.hid (by rw [hw5]; exact heap_setCell_same _ rb 2 _ _ _ T4.out)
    have B5 := Lib.hid (Below.trans_stay B4.out S5 (Nat.le_refl _) (fun j hj e => by have := HRB.out; omega))
    have T05 := Lib.hid ((S5.block _ (blk_lt T04.out) (by have := HRB.out; omega)).trans T04.out)
    have T15 := Lib.hid ((S5.block _ (blk_lt T14.out) (by have := HRB.out; omega)).trans T14.out)
    have O5 : Hid (OwnI w5 w.heap.size (.slice a L.length c) L) := Lib.hid (ownsRow_stay O4.out S5 (fun j hj e => N4.out (by rw [← e]; exact hj)))
    clear o4 b4 S5 TR3 T03 T13 BX B1 T0 T1 P1 P2 hkk
    go_upto_region 3 with (fail)
    rw [← hw5]
    clear hw5 g0 g1 g2 f2 c2
    have c2 : w5.cell? ⟨w.heap.size, 2, none⟩ = some (.int .i64 hw) := blk_cell (i := 2) T05.out rfl
    have p3 := P3.out w5
    obtain ⟨h, hh⟩ : ∃ h, h = hw % 20 := ⟨_, rfl⟩
    rw [← hh] at p3
    have HH := Lib.hid hh
    have HQ2 : Hid (q = Wi.askOf ⟨sq, kd, hw, ll, el⟩ k L) := Lib.hid (by rw [HQ.out, HL.out, HK.out]; rfl)
    have LL : Hid (L.length ≤ 17) := Lib.hid (by rw [HL.out]; exact itemsOf_len _ _)
    have OKL : Hid (∀ i ∈ L, i.ok) := Lib.hid (by rw [HL.out]; exact itemsOf_ok _ _)
    clear hh P3 T4 T04 T14 O4 N4
    go_wp2_with fail
    refine p3.mono ?_
    clear p3 c2
    rintro e w6 ⟨rfl, rfl⟩
    have c0 : w5.cell? ⟨w.heap.size, 0, none⟩ = some (.int .i64 sq) := blk_cell (i := 0) T05.out rfl
    have c1 : w5.cell? ⟨w.heap.size, 1, none⟩ = some (.int .i64 kd) := blk_cell (i := 1) T05.out rfl
    obtain ⟨g0, g1, g2⟩ := cells3 T5.out
    have HNR : Hid (rb ≠ w.heap.size + 1 ∧ rb ≠ w.heap.size ∧ w.heap.size ≤ rb) := Lib.hid (by have := HRB.out; omega)
    clear HQ HSZ HRB
    have hcase : h = 0 ∨ h = 1 ∨ h = 2 ∨ h = 3 ∨ h = 4 ∨ (h ≠ 0 ∧ h ≠ 1 ∧ h ≠ 2 ∧ h ≠ 3 ∧ h ≠ 4) := by omega
    rcases hcase with rfl | rfl | rfl | rfl | rfl | ⟨n0, n1, n2, n3, n4⟩
    · as_aux_lemma =>
      have HQ3 : Hid (q = ⟨sq, k, L⟩) := Lib.hid (by rw [HQ2.out, Wi.askOf, if_pos (show hw % 20 = 0 from HH.out.symm)])
      have f0 := blk_free T5.out 0
      obtain ⟨w7, hw7⟩ : ∃ w7, w7 = w5.setCell ⟨rb, 0, none⟩ (.int .i64 sq) := ⟨_, rfl⟩
      have S7 : TStay (fun k => k = rb) w5 w7 := by rw [hw7]; exact (TStay.refl (fun k => k = rb) _).setCell (p := ⟨rb, 0, none⟩) (.inl rfl) _
      have T7 : Hid (w7.heap[rb]? = some (.cells #[.int .i64 sq, .int .i64 k, .slice a L.length c] 28 (0, 0))) := Lib.hid (by rw [hw7]; exact heap_setCell_same _ rb 0 _ _ _ T5.out)
      have B7 := Lib.hid (Below.trans_stay B5.out S7 (Nat.le_refl _) (fun j hj e => by have := HNR.out; omega))
      have T17 := Lib.hid ((S7.block _ (blk_lt T15.out) (fun e => HNR.out.1 e.symm)).trans T15.out)
      have O7 : Hid (OwnI w7 w.heap.size (.slice a L.length c) L) := Lib.hid (ownsRow_stay O5.out S7 (fun j hj e => own_ne' O5.out T5.out (by decide) (by rw [← e]; exact hj)))
      clear S7
      go_upto_region 14 with (fail)
      rw [← hw7]
      clear hw7 g0 g1 g2 f0 c0 c1 T5 T15 O5 B5
      have PT : Hid (Part w7 rb 0 #[.int .i64 sq, .int .i64 k, .slice a L.length c]) := Lib.hid (Part.of_blk T7.out)
      go_wp2_with (first | (refine wpL_load ?hw 28 (.tmp 3) rfl rb 0 rfl #[.int .i64 sq, .int .i64 k, .slice a L.length c] _ PT.out Tryd.underlying28 rfl (sz_rq _ _ _) ?_; case hw => kernel_rfl) | (refine wpL_storeW (by kernel_rfl) 28 (.tmp 2) (.tmp 60) rfl (w.heap.size + 1) 0 rfl #[.int .i64 sq, .int .i64 k, .slice a L.length c] rfl #[.int .i64 0, .int .i64 0, .slice none 0 0] 28 T17.out #[.int .i64 sq, .int .i64 k, .slice a L.length c] rfl (Nat.le_refl 3) (one3 _ _ _ _ _) (sz_rq _ _ _) ?_))
      intro w9 T9 S9
      go_wp2
      have OX := ownsRow_stay O7.out S9 (fun j hj e => own_ne' O7.out T17.out (by decide) (by rw [← e]; exact hj))
      refine bodyPost_ret (results_cell_row rfl _ _ (w.heap.size + 1) 28 _ (0, 0) _ rfl T9 Tryd.underlying28 rfl (sz_rq _ _ _)) rfl ?_
      rw [HQ3.out]
      refine ⟨a, c, (by first | rfl | simp), RdA.of_own OX rfl (fun x hx => itC_size x (OKL.out x hx)), (fun y hy => (by subst hy; exact (OX.lt y.block rfl).1)), Below.trans_stay B7.out S9 (Nat.le_refl _) (fun j hj e => by omega)⟩
    · as_aux_lemma =>
      have HQ3 : Hid (q = ⟨s, kd, L⟩) := Lib.hid (by rw [HQ2.out, Wi.askOf, if_neg (show ¬ hw % 20 = 0 by have := HH.out; omega), if_pos (show hw % 20 = 1 from HH.out.symm), ← show s = _ from HS.out])
      have f0 := blk_free T5.out 1
      obtain ⟨w7, hw7⟩ : ∃ w7, w7 = w5.setCell ⟨rb, 1, none⟩ (.int .i64 kd) := ⟨_, rfl⟩
      have S7 : TStay (fun k => k = rb) w5 w7 := by rw [hw7]; exact (TStay.refl (fun k => k = rb) _).setCell (p := ⟨rb, 1, none⟩) (.inl rfl) _
      have T7 : Hid (w7.heap[rb]? = some (.cells #[.int .i64 s, .int .i64 kd, .slice a L.length c] 28 (0, 0))) := Lib.hid (by rw [hw7]; exact heap_setCell_same _ rb 1 _ _ _ T5.out)
      have B7 := Lib.hid (Below.trans_stay B5.out S7 (Nat.le_refl _) (fun j hj e => by have := HNR.out; omega))
      have T17 := Lib.hid ((S7.block _ (blk_lt T15.out) (fun e => HNR.out.1 e.symm)).trans T15.out)
      have O7 : Hid (OwnI w7 w.heap.size (.slice a L.length c) L) := Lib.hid (ownsRow_stay O5.out S7 (fun j hj e => own_ne' O5.out T5.out (by decide) (by rw [← e]; exact hj)))
      clear S7
      go_upto_region 14 with (fail)
      rw [← hw7]
      clear hw7 g0 g1 g2 f0 c0 c1 T5 T15 O5 B5
      have PT : Hid (Part w7 rb 0 #[.int .i64 s, .int .i64 kd, .slice a L.length c]) := Lib.hid (Part.of_blk T7.out)
      go_wp2_with (first | (refine wpL_load ?hw 28 (.tmp 3) rfl rb 0 rfl #[.int .i64 s, .int .i64 kd, .slice a L.length c] _ PT.out Tryd.underlying28 rfl (sz_rq _ _ _) ?_; case hw => kernel_rfl) | (refine wpL_storeW (by kernel_rfl) 28 (.tmp 2) (.tmp 60) rfl (w.heap.size + 1) 0 rfl #[.int .i64 s, .int .i64 kd, .slice a L.length c] rfl #[.int .i64 0, .int .i64 0, .slice none 0 0] 28 T17.out #[.int .i64 s, .int .i64 kd, .slice a L.length c] rfl (Nat.le_refl 3) (one3 _ _ _ _ _) (sz_rq _ _ _) ?_))
      intro w9 T9 S9
      go_wp2
      have OX := ownsRow_stay O7.out S9 (fun j hj e => own_ne' O7.out T17.out (by decide) (by rw [← e]; exact hj))
      refine bodyPost_ret (results_cell_row rfl _ _ (w.heap.size + 1) 28 _ (0, 0) _ rfl T9 Tryd.underlying28 rfl (sz_rq _ _ _)) rfl ?_
      rw [HQ3.out]
      refine ⟨a, c, (by first | rfl | simp), RdA.of_own OX rfl (fun x hx => itC_size x (OKL.out x hx)), (fun y hy => (by subst hy; exact (OX.lt y.block rfl).1)), Below.trans_stay B7.out S9 (Nat.le_refl _) (fun j hj e => by omega)⟩
    · as_aux_lemma =>
      have HQ3 : Hid (q = ⟨s, k, L ++ [Wi.itG]⟩) := Lib.hid (by rw [HQ2.out, Wi.askOf, if_neg (show ¬ hw % 20 = 0 by have := HH.out; omega), if_neg (show ¬ hw % 20 = 1 by have := HH.out; omega), if_pos (show hw % 20 = 2 from HH.out.symm), ← show s = _ from HS.out])
      have bA : Below w5.heap.size w5 (w5.alloc (.cells (itC Wi.itG) 44)) := (Below.refl _ _).alloc (Nat.le_refl _) _
      have OA := Lib.hid (ownsRow_stay O5.out (TStay.of_below bA (fun _ => False)) (fun _ _ h => h))
      have LA : Hid (w.heap.size ≤ (w5.alloc (.cells (itC Wi.itG) 44)).heap.size) := Lib.hid (Nat.le_trans B5.out.size bA.size)
      have TA := Lib.hid ((bA.block _ (blk_lt T5.out)).trans T5.out)
      have TA1 := Lib.hid ((bA.block _ (blk_lt T15.out)).trans T15.out)
      have BA := Lib.hid (B5.out.trans (bA.mono B5.out.size))
      clear bA
      go_wp2_with (first | (refine wpL_mk (by kernel_rfl) 44 #[(1, .const (.string { data := #[71] }))] rfl [(1, .string (str [71]))] (by rfl) (itC Wi.itG) (bt_item_text [71]) ?_) | (refine wpL_rowOne rfl 26 44 (.tmp 36) rfl 37 rfl Tryd.underlying26 (itC Wi.itG) (by rfl) (.agg (itC ⟨Wi.z32, 0, []⟩)) 34 zi_item (by decide) (itC_size _ itG_ok) ?_) | (at_builtin; refine wpL_appI _ rfl (.tmp 35) (.tmp 37) rfl w.heap.size (.slice a L.length c) L (by rfl) OA.out w5.heap.size Wi.itG itG_ok (by rfl) (heap_alloc_new _ _) (by have := LL.out; omega) LA.out ?_))
      intro v' w8 O8 G8
      obtain ⟨a', c', rfl, _⟩ := ownsRow_slice O8
      have T8 := Lib.hid ((G8.block _ (blk_lt TA.out) (fun e => own_ne' OA.out TA.out (by decide) e.symm)).trans TA.out)
      have T18 := Lib.hid ((G8.block _ (blk_lt TA1.out) (fun e => own_ne' OA.out TA1.out (by decide) e.symm)).trans TA1.out)
      have S8 := (TStay.refl (fun j => w.heap.size ≤ j) _).grown G8 (fun j hj => .inl (OA.out.lt j hj).1)
      have B8 := Lib.hid (Below.trans_stay BA.out S8 (Nat.le_refl _) (fun j hj e => by omega))
      obtain ⟨n', hn'⟩ : ∃ n', n' = (L ++ [Wi.itG]).length := ⟨_, rfl⟩
      rw [← hn'] at O8 ⊢
      have O8' := Lib.hid O8
      have HN' := Lib.hid hn'
      obtain ⟨k0, k1, k2⟩ := cells3 T8.out
      have f2 := blk_free T8.out 2
      obtain ⟨w7, hw7⟩ : ∃ w7, w7 = w8.setCell ⟨rb, 2, none⟩ (.slice a' n' c') := ⟨_, rfl⟩
      have S7 : TStay (fun k => k = rb) w8 w7 := by rw [hw7]; exact (TStay.refl (fun k => k = rb) _).setCell (p := ⟨rb, 2, none⟩) (.inl rfl) _
      have T7 : Hid (w7.heap[rb]? = some (.cells #[.int .i64 s, .int .i64 k, .slice a' n' c'] 28 (0, 0))) := Lib.hid (by rw [hw7]; exact heap_setCell_same _ rb 2 _ _ _ T8.out)
      have B7 := Lib.hid (Below.trans_stay B8.out S7 (Nat.le_refl _) (fun j hj e => by have := HNR.out; omega))
      have T17 := Lib.hid ((S7.block _ (blk_lt T18.out) (fun e => HNR.out.1 e.symm)).trans T18.out)
      have O7 : Hid (OwnI w7 w.heap.size (.slice a' n' c') (L ++ [Wi.itG])) := Lib.hid (by have h := ownsRow_stay O8'.out S7 (fun j hj e => own_ne' O8'.out T8.out (by decide) (by rw [← e]; exact hj)); rw [hn'] at h ⊢; exact h)
      clear S7 S8 O8 G8 hn' g0 g1 g2 c0 c1 T5 T15 O5 B5 OA LA TA TA1 BA
      go_upto_region 14 with (fail)
      rw [← hw7]
      clear hw7 k0 k1 k2 f2
      obtain rfl := HN'.out
      have OKX : ∀ i ∈ L ++ [Wi.itG], i.ok := snoc_ok OKL.out itG_ok
      have PT : Hid (Part w7 rb 0 #[.int .i64 s, .int .i64 k, .slice a' (L ++ [Wi.itG]).length c']) := Lib.hid (Part.of_blk T7.out)
      go_wp2_with (first | (refine wpL_load ?hw 28 (.tmp 3) rfl rb 0 rfl #[.int .i64 s, .int .i64 k, .slice a' (L ++ [Wi.itG]).length c'] _ PT.out Tryd.underlying28 rfl (sz_rq _ _ _) ?_; case hw => kernel_rfl) | (refine wpL_storeW (by kernel_rfl) 28 (.tmp 2) (.tmp 60) rfl (w.heap.size + 1) 0 rfl #[.int .i64 s, .int .i64 k, .slice a' (L ++ [Wi.itG]).length c'] rfl #[.int .i64 0, .int .i64 0, .slice none 0 0] 28 T17.out #[.int .i64 s, .int .i64 k, .slice a' (L ++ [Wi.itG]).length c'] rfl (Nat.le_refl 3) (one3 _ _ _ _ _) (sz_rq _ _ _) ?_))
      intro w9 T9 S9
      go_wp2
      have OX := ownsRow_stay O7.out S9 (fun j hj e => own_ne' O7.out T17.out (by decide) (by rw [← e]; exact hj))
      refine bodyPost_ret (results_cell_row rfl _ _ (w.heap.size + 1) 28 _ (0, 0) _ rfl T9 Tryd.underlying28 rfl (sz_rq _ _ _)) rfl ?_
      rw [HQ3.out]
      refine ⟨a', c', (by first | rfl | simp), RdA.of_own OX rfl (fun x hx => itC_size x (OKX x hx)), (fun y hy => (by subst hy; exact (OX.lt y.block rfl).1)), Below.trans_stay B7.out S9 (Nat.le_refl _) (fun j hj e => by omega)⟩
    · as_aux_lemma =>
      have HQ3 : Hid (q = ⟨s, k, L ++ [Wi.itS]⟩) := Lib.hid (by rw [HQ2.out, Wi.askOf, if_neg (show ¬ hw % 20 = 0 by have := HH.out; omega), if_neg (show ¬ hw % 20 = 1 by have := HH.out; omega), if_neg (show ¬ hw % 20 = 2 by have := HH.out; omega), if_pos (show hw % 20 = 3 from HH.out.symm), ← show s = _ from HS.out])
      have bA : Below w5.heap.size w5 (w5.alloc (.cells (itC Wi.itS) 44)) := (Below.refl _ _).alloc (Nat.le_refl _) _
      have OA := Lib.hid (ownsRow_stay O5.out (TStay.of_below bA (fun _ => False)) (fun _ _ h => h))
      have LA : Hid (w.heap.size ≤ (w5.alloc (.cells (itC Wi.itS) 44)).heap.size) := Lib.hid (Nat.le_trans B5.out.size bA.size)
      have TA := Lib.hid ((bA.block _ (blk_lt T5.out)).trans T5.out)
      have TA1 := Lib.hid ((bA.block _ (blk_lt T15.out)).trans T15.out)
      have BA := Lib.hid (B5.out.trans (bA.mono B5.out.size))
      clear bA
      go_wp2_with (first | (refine wpL_mk (by kernel_rfl) 42 #[(1, .const (.int .i64 1))] rfl [(1, .int .i64 1)] (by rfl) (pathC Wi.z32 1) (bt_path1 1) ?_) | (refine wpL_mk (by kernel_rfl) 44 #[(1, .const (.string { data := #[97, 98] })), (0, .tmp 44)] rfl [(1, .string (str [97, 98])), (0, .agg (pathC Wi.z32 1))] (by rfl) (itC Wi.itS) (bt_item_both Wi.z32 1 [97, 98] rfl) ?_) | (refine wpL_rowOne rfl 26 44 (.tmp 45) rfl 46 rfl Tryd.underlying26 (itC Wi.itS) (by rfl) (.agg (itC ⟨Wi.z32, 0, []⟩)) 34 zi_item (by decide) (itC_size _ itS_ok) ?_) | (at_builtin; refine wpL_appI _ rfl (.tmp 43) (.tmp 46) rfl w.heap.size (.slice a L.length c) L (by rfl) OA.out w5.heap.size Wi.itS itS_ok (by rfl) (heap_alloc_new _ _) (by have := LL.out; omega) LA.out ?_))
      intro v' w8 O8 G8
      obtain ⟨a', c', rfl, _⟩ := ownsRow_slice O8
      have T8 := Lib.hid ((G8.block _ (blk_lt TA.out) (fun e => own_ne' OA.out TA.out (by decide) e.symm)).trans TA.out)
      have T18 := Lib.hid ((G8.block _ (blk_lt TA1.out) (fun e => own_ne' OA.out TA1.out (by decide) e.symm)).trans TA1.out)
      have S8 := (TStay.refl (fun j => w.heap.size ≤ j) _).grown G8 (fun j hj => .inl (OA.out.lt j hj).1)
      have B8 := Lib.hid (Below.trans_stay BA.out S8 (Nat.le_refl _) (fun j hj e => by omega))
      obtain ⟨n', hn'⟩ : ∃ n', n' = (L ++ [Wi.itS]).length := ⟨_, rfl⟩
      rw [← hn'] at O8 ⊢
      have O8' := Lib.hid O8
      have HN' := Lib.hid hn'
      obtain ⟨k0, k1, k2⟩ := cells3 T8.out
      have f2 := blk_free T8.out 2
      obtain ⟨w7, hw7⟩ : ∃ w7, w7 = w8.setCell ⟨rb, 2, none⟩ (.slice a' n' c') := ⟨_, rfl⟩
      have S7 : TStay (fun k => k = rb) w8 w7 := by rw [hw7]; exact (TStay.refl (fun k => k = rb) _).setCell (p := ⟨rb, 2, none⟩) (.inl rfl) _
      have T7 : Hid (w7.heap[rb]? = some (.cells #[.int .i64 s, .int .i64 k, .slice a' n' c'] 28 (0, 0))) := Lib.hid (by rw [hw7]; exact heap_setCell_same _ rb 2 _ _ _ T8.out)
      have B7 := Lib.hid (Below.trans_stay B8.out S7 (Nat.le_refl _) (fun j hj e => by have := HNR.out; omega))
      have T17 := Lib.hid ((S7.block _ (blk_lt T18.out) (fun e => HNR.out.1 e.symm)).trans T18.out)
      have O7 : Hid (OwnI w7 w.heap.size (.slice a' n' c') (L ++ [Wi.itS])) := Lib.hid (by have h := ownsRow_stay O8'.out S7 (fun j hj e => own_ne' O8'.out T8.out (by decide) (by rw [← e]; exact hj)); rw [hn'] at h ⊢; exact h)
      clear S7 S8 O8 G8 hn' g0 g1 g2 c0 c1 T5 T15 O5 B5 OA LA TA TA1 BA
      go_upto_region 14 with (fail)
      rw [← hw7]
      clear hw7 k0 k1 k2 f2
      obtain rfl := HN'.out
      have OKX : ∀ i ∈ L ++ [Wi.itS], i.ok := snoc_ok OKL.out itS_ok
      have PT : Hid (Part w7 rb 0 #[.int .i64 s, .int .i64 k, .slice a' (L ++ [Wi.itS]).length c']) := Lib.hid (Part.of_blk T7.out)
      go_wp2_with (first | (refine wpL_load ?hw 28 (.tmp 3) rfl rb 0 rfl #[.int .i64 s, .int .i64 k, .slice a' (L ++ [Wi.itS]).length c'] _ PT.out Tryd.underlying28 rfl (sz_rq _ _ _) ?_; case hw => kernel_rfl) | (refine wpL_storeW (by kernel_rfl) 28 (.tmp 2) (.tmp 60) rfl (w.heap.size + 1) 0 rfl #[.int .i64 s, .int .i64 k, .slice a' (L ++ [Wi.itS]).length c'] rfl #[.int .i64 0, .int .i64 0, .slice none 0 0] 28 T17.out #[.int .i64 s, .int .i64 k, .slice a' (L ++ [Wi.itS]).length c'] rfl (Nat.le_refl 3) (one3 _ _ _ _ _) (sz_rq _ _ _) ?_))
      intro w9 T9 S9
      go_wp2
      have OX := ownsRow_stay O7.out S9 (fun j hj e => own_ne' O7.out T17.out (by decide) (by rw [← e]; exact hj))
      refine bodyPost_ret (results_cell_row rfl _ _ (w.heap.size + 1) 28 _ (0, 0) _ rfl T9 Tryd.underlying28 rfl (sz_rq _ _ _)) rfl ?_
      rw [HQ3.out]
      refine ⟨a', c', (by first | rfl | simp), RdA.of_own OX rfl (fun x hx => itC_size x (OKX x hx)), (fun y hy => (by subst hy; exact (OX.lt y.block rfl).1)), Below.trans_stay B7.out S9 (Nat.le_refl _) (fun j hj e => by omega)⟩
    · as_aux_lemma =>
      have HQ3 : Hid (q = ⟨s, k, L ++ [(Wi.itN sq)]⟩) := Lib.hid (by rw [HQ2.out, Wi.askOf, if_neg (show ¬ hw % 20 = 0 by have := HH.out; omega), if_neg (show ¬ hw % 20 = 1 by have := HH.out; omega), if_neg (show ¬ hw % 20 = 2 by have := HH.out; omega), if_neg (show ¬ hw % 20 = 3 by have := HH.out; omega), if_pos (show hw % 20 = 4 from HH.out.symm), ← show s = _ from HS.out])
      have bA : Below w5.heap.size w5 (w5.alloc (.cells (itC (Wi.itN sq)) 44)) := (Below.refl _ _).alloc (Nat.le_refl _) _
      have OA := Lib.hid (ownsRow_stay O5.out (TStay.of_below bA (fun _ => False)) (fun _ _ h => h))
      have LA : Hid (w.heap.size ≤ (w5.alloc (.cells (itC (Wi.itN sq)) 44)).heap.size) := Lib.hid (Nat.le_trans B5.out.size bA.size)
      have TA := Lib.hid ((bA.block _ (blk_lt T5.out)).trans T5.out)
      have TA1 := Lib.hid ((bA.block _ (blk_lt T15.out)).trans T15.out)
      have BA := Lib.hid (B5.out.trans (bA.mono B5.out.size))
      clear bA
      go_wp2_with (first | (refine wpL_mk (by kernel_rfl) 42 #[(1, .tmp 54)] rfl [(1, .int .i64 sq)] (by rfl) (pathC Wi.z32 sq) (bt_path1 sq) ?_) | (refine wpL_mk (by kernel_rfl) 44 #[(0, .tmp 55)] rfl [(0, .agg (pathC Wi.z32 sq))] (by rfl) (itC (Wi.itN sq)) (bt_item_path Wi.z32 sq rfl) ?_) | (refine wpL_rowOne rfl 26 44 (.tmp 56) rfl 57 rfl Tryd.underlying26 (itC (Wi.itN sq)) (by rfl) (.agg (itC ⟨Wi.z32, 0, []⟩)) 34 zi_item (by decide) (itC_size _ (itN_ok sq HX.out.seq)) ?_) | (at_builtin; refine wpL_appI _ rfl (.tmp 52) (.tmp 57) rfl w.heap.size (.slice a L.length c) L (by rfl) OA.out w5.heap.size (Wi.itN sq) (itN_ok sq HX.out.seq) (by rfl) (heap_alloc_new _ _) (by have := LL.out; omega) LA.out ?_))
      intro v' w8 O8 G8
      obtain ⟨a', c', rfl, _⟩ := ownsRow_slice O8
      have T8 := Lib.hid ((G8.block _ (blk_lt TA.out) (fun e => own_ne' OA.out TA.out (by decide) e.symm)).trans TA.out)
      have T18 := Lib.hid ((G8.block _ (blk_lt TA1.out) (fun e => own_ne' OA.out TA1.out (by decide) e.symm)).trans TA1.out)
      have S8 := (TStay.refl (fun j => w.heap.size ≤ j) _).grown G8 (fun j hj => .inl (OA.out.lt j hj).1)
      have B8 := Lib.hid (Below.trans_stay BA.out S8 (Nat.le_refl _) (fun j hj e => by omega))
      obtain ⟨n', hn'⟩ : ∃ n', n' = (L ++ [(Wi.itN sq)]).length := ⟨_, rfl⟩
      rw [← hn'] at O8 ⊢
      have O8' := Lib.hid O8
      have HN' := Lib.hid hn'
      obtain ⟨k0, k1, k2⟩ := cells3 T8.out
      have f2 := blk_free T8.out 2
      obtain ⟨w7, hw7⟩ : ∃ w7, w7 = w8.setCell ⟨rb, 2, none⟩ (.slice a' n' c') := ⟨_, rfl⟩
      have S7 : TStay (fun k => k = rb) w8 w7 := by rw [hw7]; exact (TStay.refl (fun k => k = rb) _).setCell (p := ⟨rb, 2, none⟩) (.inl rfl) _
      have T7 : Hid (w7.heap[rb]? = some (.cells #[.int .i64 s, .int .i64 k, .slice a' n' c'] 28 (0, 0))) := Lib.hid (by rw [hw7]; exact heap_setCell_same _ rb 2 _ _ _ T8.out)
      have B7 := Lib.hid (Below.trans_stay B8.out S7 (Nat.le_refl _) (fun j hj e => by have := HNR.out; omega))
      have T17 := Lib.hid ((S7.block _ (blk_lt T18.out) (fun e => HNR.out.1 e.symm)).trans T18.out)
      have O7 : Hid (OwnI w7 w.heap.size (.slice a' n' c') (L ++ [(Wi.itN sq)])) := Lib.hid (by have h := ownsRow_stay O8'.out S7 (fun j hj e => own_ne' O8'.out T8.out (by decide) (by rw [← e]; exact hj)); rw [hn'] at h ⊢; exact h)
      clear S7 S8 O8 G8 hn' g0 g1 g2 c0 c1 T5 T15 O5 B5 OA LA TA TA1 BA
      go_upto_region 14 with (fail)
      rw [← hw7]
      clear hw7 k0 k1 k2 f2
      obtain rfl := HN'.out
      have OKX : ∀ i ∈ L ++ [(Wi.itN sq)], i.ok := snoc_ok OKL.out (itN_ok sq HX.out.seq)
      have PT : Hid (Part w7 rb 0 #[.int .i64 s, .int .i64 k, .slice a' (L ++ [(Wi.itN sq)]).length c']) := Lib.hid (Part.of_blk T7.out)
      go_wp2_with (first | (refine wpL_load ?hw 28 (.tmp 3) rfl rb 0 rfl #[.int .i64 s, .int .i64 k, .slice a' (L ++ [(Wi.itN sq)]).length c'] _ PT.out Tryd.underlying28 rfl (sz_rq _ _ _) ?_; case hw => kernel_rfl) | (refine wpL_storeW (by kernel_rfl) 28 (.tmp 2) (.tmp 60) rfl (w.heap.size + 1) 0 rfl #[.int .i64 s, .int .i64 k, .slice a' (L ++ [(Wi.itN sq)]).length c'] rfl #[.int .i64 0, .int .i64 0, .slice none 0 0] 28 T17.out #[.int .i64 s, .int .i64 k, .slice a' (L ++ [(Wi.itN sq)]).length c'] rfl (Nat.le_refl 3) (one3 _ _ _ _ _) (sz_rq _ _ _) ?_))
      intro w9 T9 S9
      go_wp2
      have OX := ownsRow_stay O7.out S9 (fun j hj e => own_ne' O7.out T17.out (by decide) (by rw [← e]; exact hj))
      refine bodyPost_ret (results_cell_row rfl _ _ (w.heap.size + 1) 28 _ (0, 0) _ rfl T9 Tryd.underlying28 rfl (sz_rq _ _ _)) rfl ?_
      rw [HQ3.out]
      refine ⟨a', c', (by first | rfl | simp), RdA.of_own OX rfl (fun x hx => itC_size x (OKX x hx)), (fun y hy => (by subst hy; exact (OX.lt y.block rfl).1)), Below.trans_stay B7.out S9 (Nat.le_refl _) (fun j hj e => by omega)⟩
    · as_aux_lemma =>
      have HQ3 : Hid (q = ⟨s, k, L⟩) := Lib.hid (by have e := HH.out; rw [HQ2.out, Wi.askOf, if_neg (show ¬ hw % 20 = 0 by omega), if_neg (show ¬ hw % 20 = 1 by omega), if_neg (show ¬ hw % 20 = 2 by omega), if_neg (show ¬ hw % 20 = 3 by omega), if_neg (show ¬ hw % 20 = 4 by omega), ← show s = _ from HS.out])
      have m0 : (h == 0) = false := by simp [n0]
      have m1 : (h == 1) = false := by simp [n1]
      have m2 : (h == 2) = false := by simp [n2]
      have m3 : (h == 3) = false := by simp [n3]
      have m4 : (h == 4) = false := by simp [n4]
      clear n0 n1 n2 n3 n4 g0 g1 g2 c0 c1
      have PT : Hid (Part w5 rb 0 #[.int .i64 s, .int .i64 k, .slice a L.length c]) := Lib.hid (Part.of_blk T5.out)
      go_wp2_with (first | (refine wpL_load ?hw 28 (.tmp 3) rfl rb 0 rfl #[.int .i64 s, .int .i64 k, .slice a L.length c] _ PT.out Tryd.underlying28 rfl (sz_rq _ _ _) ?_; case hw => kernel_rfl) | (refine wpL_storeW (by kernel_rfl) 28 (.tmp 2) (.tmp 60) rfl (w.heap.size + 1) 0 rfl #[.int .i64 s, .int .i64 k, .slice a L.length c] rfl #[.int .i64 0, .int .i64 0, .slice none 0 0] 28 T15.out #[.int .i64 s, .int .i64 k, .slice a L.length c] rfl (Nat.le_refl 3) (one3 _ _ _ _ _) (sz_rq _ _ _) ?_))
      intro w9 T9 S9
      go_wp2
      have OX := ownsRow_stay O5.out S9 (fun j hj e => own_ne' O5.out T15.out (by decide) (by rw [← e]; exact hj))
      refine bodyPost_ret (results_cell_row rfl _ _ (w.heap.size + 1) 28 _ (0, 0) _ rfl T9 Tryd.underlying28 rfl (sz_rq _ _ _)) rfl ?_
      rw [HQ3.out]
      refine ⟨a, c, (by first | rfl | simp), RdA.of_own OX rfl (fun x hx => itC_size x (OKL.out x hx)), (fun y hy => (by subst hy; exact (OX.lt y.block rfl).1)), Below.trans_stay B5.out S9 (Nat.le_refl _) (fun j hj e => by omega)⟩
end Go.Proofs.YthampbiabkfmoaaDoor
