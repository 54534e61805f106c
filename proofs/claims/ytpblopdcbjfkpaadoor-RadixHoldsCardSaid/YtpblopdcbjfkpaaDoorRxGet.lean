/- radix.Tree: Get. -/
import Derived.Test.YtpblopdcbjfkpaaDoorRxTree
namespace Go.Proofs.YtpblopdcbjfkpaaDoor
open Go.RowKit Go.Tap
set_option linter.unusedVariables false
set_option linter.unusedSimpArgs false
set_option maxHeartbeats 4000000 in
set_option maxRecDepth 100000 in
theorem rxGet_any (w : World) (lo TB : Nat) (t : Rx.T) (hT : TreeAt w lo TB t) (h : List UInt8) (hl : h.length = 32) :
    Calls Tryd.prog 31 #[.pointer (some ⟨TB, 0, none⟩), .agg (hashC h)] w fun e w' => e = .returned (.tuple #[.int .i64 ((Rx.has t h 0).getD 0), .bool (Rx.has t h 0).isSome]) ∧ Below w.heap.size w w' := by
  obtain ⟨C, hC⟩ : ∃ C, C = hashC h := ⟨_, rfl⟩
  have SC : Hid (C.size = 32) := Lib.hid (by rw [hC]; exact hashC_size h hl)
  obtain ⟨W1, hW1⟩ : ∃ W1, W1 = w.alloc (.cells C 33) := ⟨_, rfl⟩
  have b1 : Below w.heap.size w W1 := by rw [hW1]; exact (Below.refl _ _).alloc (Nat.le_refl _) _
  have BX : Hid (W1.heap[w.heap.size]? = some (.cells C 33 (0, 0))) := Lib.hid (by rw [hW1]; exact heap_alloc_new _ _)
  have T1 := Lib.hid (hT.below b1)
  have B1 := Lib.hid b1
  have HC := Lib.hid hC
  have HL := Lib.hid hl
  have ct := blk_cell (i := 0) T1.out.top rfl
  obtain ⟨r, hr⟩ : ∃ r, r = Rx.has t h 0 := ⟨_, rfl⟩
  rw [← hr, ← hC]
  have HR := Lib.hid hr
  clear hC b1 hr hl hT
  go_enter Tryd.func31, Tryd.ntmps31
  go_upto_region 1 with (fail)
  rw [← hW1]
  clear hW1
  go_wp2
  clear ct
  go_loopw [6, 7] (fun xv kv wr => ∃ (t' : Rx.T) (p : List Nat) (k : Nat), xv = ptrV t'.ptr ∧ kv = .int .i64 (k : Int) ∧ Hid (k = p.length) ∧ k ≤ 64 ∧ Hid (Rx.pre h p) ∧ Hid (Rx.ok t' p) ∧ Hid (Rx.has t' h k = r) ∧ Hid (At W1 t') ∧ Hid (Below W1.heap.size W1 wr)) (fun _ kv _ => 65 - (intOf kv).toNat)
  case atStart => exact ⟨t, [], 0, rfl, rfl, Lib.hid rfl, by omega, Lib.hid (Rx.pre_nil h), Lib.hid T1.out.ok, Lib.hid HR.out.symm, Lib.hid T1.out.at_, Lib.hid (Below.refl _ _)⟩
  case round =>
    obtain ⟨t', p, k, rfl, rfl, HP, hk, HPRE, HOK, HH, HA, BR⟩ := hrel
    clear HR T1
    cases t' with
    | nil =>
      have hr0 : r = none := by rw [← HH.out]; rfl
      subst hr0
      show Code.wp _ _ _ { tmps := #[_, _, _, _, _, _, .pointer none, _, _, _, _, _, _, _, _, _, _, _, _, _, _, _, _, _, _, _, _, _, _, _, _, _, _, _, _, _, _, _, _, _, _, _, _, _, _], defers := [] } _
      have BF : Hid (∀ q, Below w.heap.size w (wr.drewN q)) := Lib.hid (fun q => bel_drewN (B1.out.trans (BR.out.mono B1.out.size)) q)
      go_wp2_with fail
      go_quiet (fail)
      go_wp2
      go_ret2
      exact ⟨rfl, BF.out _⟩
    | leaf b hx n s =>
      have hA : At wr (.leaf b hx n s) := HA.out.below BR.out
      have c16 : wr.cell? ⟨b, 16, none⟩ = some (.bool true) := blk_cell (i := 16) hA nodeC_leaf
      have hxl : hx.length = 32 := HOK.out.1
      have P17 : Hid (Part wr b 17 (hashC hx)) := Lib.hid (part_of hA (nodeC_hash hxl))
      have PTX : Hid (Part wr w.heap.size 0 C) := Lib.hid (Part.of_blk ((BR.out.block _ (blk_lt BX.out)).trans BX.out))
      have HXL := Lib.hid hxl
      have HA2 := Lib.hid hA
      have BF : Hid (∀ q, Below w.heap.size w (wr.drewN q)) := Lib.hid (fun q => bel_drewN (B1.out.trans (BR.out.mono B1.out.size)) q)
      obtain ⟨eqb, heq⟩ : ∃ eqb, eqb = decide (hx = h) := ⟨_, rfl⟩
      have Q0 : Hid (∀ w, (binOp .neq 33 (.agg (hashC hx)) (.agg C)).run Tryd.prog w = .ok (.bool (!eqb)) w) := Lib.hid (fun w => by rw [HC.out, cmp_hash_ne hx h hxl HL.out, heq])
      have HE := Lib.hid heq
      clear hA hxl heq
      show Code.wp _ _ _ { tmps := #[_, _, _, _, _, _, .pointer (some ⟨b, 0, none⟩), _, _, _, _, _, _, _, _, _, _, _, _, _, _, _, _, _, _, _, _, _, _, _, _, _, _, _, _, _, _, _, _, _, _, _, _, _, _], defers := [] } _
      go_wp2_with fail
      refine wp_region_quiet_lit (by kernel_rfl) (by kernel_rfl) ?_
      repeat (go_big_quiet_step (fail))
      refine wpQuiet_load (by kernel_rfl) 33 (.tmp 36) rfl b 17 rfl (hashC hx) _ P17.out Tryd.underlying33 rfl (by rw [hashC_size _ HXL.out]; exact sz_hash) ?_
      simp only [Act.put, List.setIfInBounds_toArray, List.set_cons_zero, List.set_cons_succ]
      refine wpQuiet_load (by kernel_rfl) 33 (.tmp 3) rfl w.heap.size 0 rfl C _ PTX.out Tryd.underlying33 rfl (by rw [SC.out]; exact sz_hash) ?_
      simp only [Act.put, List.setIfInBounds_toArray, List.set_cons_zero, List.set_cons_succ]
      refine wpQuiet_cmp (by kernel_rfl) .neq 33 33 (.tmp 37) (.tmp 38) rfl (hashC hx) C rfl rfl gd_hash (!eqb) Q0.out ?_
      simp only [Act.put, List.setIfInBounds_toArray, List.set_cons_zero, List.set_cons_succ]
      repeat (go_big_quiet_step (fail))
      refine wpQuiet_nil ?_
      intro _ hw'
      obtain ⟨nq, hw2⟩ := hw'
      subst hw2
      cases eqb
      · have hr0 : r = none := by rw [← HH.out]; exact if_neg (of_decide_eq_false HE.out.symm)
        subst hr0
        go_wp2
        go_ret2
        exact ⟨rfl, BF.out _⟩
      · have hr0 : r = some n := by rw [← HH.out]; exact if_pos (of_decide_eq_true HE.out.symm)
        subst hr0
        have c49 : (wr.drewN nq).cell? ⟨b, 49, none⟩ = some (.int .i64 n) := blk_cell (w := wr) (i := 49) HA2.out (nodeC_n HXL.out)
        go_wp2
        go_ret2
        exact ⟨rfl, BF.out _⟩
    | inner b kids s =>
      have hA : At wr (.inner b kids s) := HA.out.below BR.out
      have c16 : wr.cell? ⟨b, 16, none⟩ = some (.bool false) := blk_cell (i := 16) hA.1 nodeC_leaf
      have hk64 : k < 64 := by have := HOK.out.1; have := HP.out; omega
      have HK64 := Lib.hid hk64
      have bxr : wr.heap[w.heap.size]? = some (.cells C 33 (0, 0)) := (BR.out.block _ (blk_lt BX.out)).trans BX.out
      have PX : Hid (∀ w', Below wr.heap.size wr w' → Part w' w.heap.size 0 C) := Lib.hid (fun w' h => Part.of_blk ((h.block _ (blk_lt bxr)).trans bxr))
      obtain ⟨d, hd⟩ : ∃ d, d = Rx.dig h k := ⟨_, rfl⟩
      have hd16 : d < 16 := by rw [hd]; exact Rx.dig_lt _ _
      have CK : Hid (∀ w', Below wr.heap.size wr w' → w'.cell? ⟨b, d, none⟩ = some (ptrV (kids d).ptr)) := Lib.hid (fun w' h => blk_cell (i := d) ((h.block _ (blk_lt hA.1)).trans hA.1) (by rw [nodeC_kid hd16]; rfl))
      have hdg := rdigit_any wr.drew h k HL.out hk64
      rw [← hd, ← HC.out] at hdg
      have HD := Lib.hid hd
      have D16 := Lib.hid hd16
      have HDG := Lib.hid hdg
      have hw := wrapi' ((k : Int) + 1) (by omega)
      clear hA bxr hd hdg hd16 hk64
      show Code.wp _ _ _ { tmps := #[_, _, _, _, _, _, .pointer (some ⟨b, 0, none⟩), _, _, _, _, _, _, _, _, _, _, _, _, _, _, _, _, _, _, _, _, _, _, _, _, _, _, _, _, _, _, _, _, _, _, _, _, _, _], defers := [] } _
      go_wp2_with fail
      refine wp_region_held_drew (S := fun w' => Below wr.heap.size wr w') (by kernel_rfl) (bel_drw wr) (fun hS0 => ?_)
      refine takeK (i := 0) (.pointer (some ⟨b, 0, none⟩)) (some 23) rfl (by kernel_rfl) (by kernel_rfl) (by kernel_rfl) (by kernel_rfl) (fun _ _ _ h => h) (by kernel_rfl) (fun w' _ => by go_simp) hS0 ?_
      simp only [Act.put, List.setIfInBounds_toArray, List.set_cons_zero, List.set_cons_succ]
      refine takeK (i := 1) (.agg C) (some 24) rfl (by kernel_rfl) (by kernel_rfl) (by kernel_rfl) (by kernel_rfl) (fun _ _ _ h => h) (by kernel_rfl) (fun w' h' => ex_load 33 (.tmp 3) rfl w.heap.size 0 (by kernel_rfl) C _ (PX.out w' h') Tryd.underlying33 rfl (by rw [SC.out]; exact sz_hash)) hS0 ?_
      simp only [Act.put, List.setIfInBounds_toArray, List.set_cons_zero, List.set_cons_succ]
      refine takeK (i := 2) (.int .i64 (k : Int)) (some 25) rfl (by kernel_rfl) (by kernel_rfl) (by kernel_rfl) (by kernel_rfl) (fun _ _ _ h => h) (by kernel_rfl) (fun w' _ => by go_simp) hS0 ?_
      simp only [Act.put, List.setIfInBounds_toArray, List.set_cons_zero, List.set_cons_succ]
      refine takeK (i := 4) (.pointer (some ⟨b, 0, none⟩)) (some 27) rfl (by kernel_rfl) (by kernel_rfl) (by kernel_rfl) (by kernel_rfl) (fun _ _ _ h => h) (by kernel_rfl) (fun w' _ => by go_simp) hS0 ?_
      simp only [Act.put, List.setIfInBounds_toArray, List.set_cons_zero, List.set_cons_succ]
      refine takeK (i := 5) (.pointer (some ⟨b, 0, none⟩)) (some 28) rfl (by kernel_rfl) (by kernel_rfl) (by kernel_rfl) (by kernel_rfl) (fun _ _ _ h => h) (by kernel_rfl) (fun w' _ => by go_simp) hS0 ?_
      simp only [Act.put, List.setIfInBounds_toArray, List.set_cons_zero, List.set_cons_succ]
      refine callK (i := 3) 72 #[.agg C, .int .i64 (k : Int)] (some 26) rfl (by kernel_rfl) (by kernel_rfl) (by kernel_rfl) (by kernel_rfl) HDG.out ?_
      clear HDG
      rintro e w2 ⟨rfl, b2⟩
      have B2 : Below wr.heap.size wr w2 := hS0.trans b2
      have B2H := Lib.hid B2
      refine ⟨_, rfl, B2, fun hS1 => ?_⟩
      clear B2 b2 hS0
      have i0 : (0 : Int) ≤ (d : Int) := by omega
      have i1 : (d : Int) < 16 := by have := D16.out; omega
      simp only [Act.put, List.setIfInBounds_toArray, List.set_cons_zero, List.set_cons_succ]
      refine takeK (i := 6) (.pointer (some ⟨b, d, none⟩)) (some 29) rfl (by kernel_rfl) (by kernel_rfl) (by kernel_rfl) (by kernel_rfl) (fun _ _ _ h => h) (by kernel_rfl) (fun w' _ => by go_simp) hS1 ?_
      simp only [Act.put, List.setIfInBounds_toArray, List.set_cons_zero, List.set_cons_succ]
      refine takeK (i := 7) (ptrV (kids d).ptr) (some 30) rfl (by kernel_rfl) (by kernel_rfl) (by kernel_rfl) (by kernel_rfl) (fun _ _ _ h => h) (by kernel_rfl) (fun w' h' => by have hh := CK.out w' h'; go_simp) hS1 ?_
      simp only [Act.put, List.setIfInBounds_toArray, List.set_cons_zero, List.set_cons_succ]
      refine takeK (i := 8) (ptrV (kids d).ptr) (some 6) rfl (by kernel_rfl) (by kernel_rfl) (by kernel_rfl) (by kernel_rfl) (fun _ _ _ h => h) (by kernel_rfl) (fun w' _ => by kernel_rfl) hS1 ?_
      simp only [Act.put, List.setIfInBounds_toArray, List.set_cons_zero, List.set_cons_succ]
      refine wpAnyH_done (by kernel_rfl) ?_ _
      clear hS1 i0 i1
      go_wp2
      go_roundw
      case rel =>
        refine ⟨kids d, p ++ [d], k + 1, rfl, by go_num, Lib.hid (by rw [List.length_append, ← HP.out]; rfl), by have := HK64.out; omega, Lib.hid (Rx.pre_snoc.2 ⟨HPRE.out, by rw [← HP.out]; exact HD.out.symm⟩), Lib.hid (HOK.out.2 d D16.out), Lib.hid ?_, Lib.hid (HA.out.2 d D16.out), Lib.hid (BR.out.trans (B2H.out.mono BR.out.size))⟩
        rw [← HH.out, HD.out]; rfl
      case measure => simp [intOf]; omega
end Go.Proofs.YtpblopdcbjfkpaaDoor
