/- radix.Tree: New, Put, Count, Get. -/
import Derived.Test.YtpblopdcbjfkpaaDoorRxPut
namespace Go.Proofs.YtpblopdcbjfkpaaDoor
open Go.RowKit Go.Tap
set_option linter.unusedVariables false
set_option linter.unusedSimpArgs false
/-- A tree that lies above lo, its top in block TB. -/
structure TreeAt (w : World) (lo TB : Nat) (t : Rx.T) : Prop where
  top : w.heap[TB]? = some (.cells #[ptrV t.ptr, .int .i64 (Rx.cnt t : Int)] 96 (0, 0))
  at_ : At w t
  sep : Rx.sep t
  ok : Rx.ok t []
  lo_ : lo ≤ TB
  mem : ∀ x, Rx.mem t x → lo ≤ x
theorem TreeAt.below {w w' : World} {lo TB : Nat} {t : Rx.T} (h : TreeAt w lo TB t) (hb : Below w.heap.size w w') : TreeAt w' lo TB t :=
  ⟨(hb.block _ (blk_lt h.top)).trans h.top, h.at_.below hb, h.sep, h.ok, h.lo_, h.mem⟩
theorem TreeAt.keep {S : Nat → Prop} {w w' : World} {lo TB : Nat} {t : Rx.T} (h : TreeAt w lo TB t) (hs : TStay S w w') (hd : ∀ x, lo ≤ x → ¬ S x) : TreeAt w' lo TB t :=
  ⟨(hs.block _ (blk_lt h.top) (hd _ h.lo_)).trans h.top, h.at_.stay hs (fun x hx => hd x (h.mem x hx)), h.sep, h.ok, h.lo_, h.mem⟩
theorem TreeAt.drew {w : World} {lo TB : Nat} {t : Rx.T} (h : TreeAt w lo TB t) : TreeAt w.drew lo TB t := h.below (bel_drw w)
theorem TreeAt.not {w : World} {lo TB : Nat} {t : Rx.T} (h : TreeAt w lo TB t) : ¬ Rx.mem t TB := fun hm => by
  obtain ⟨cs, hc⟩ := h.at_.ty TB hm
  rw [h.top] at hc
  simp at hc
theorem bt_tree0 : Tryd.prog.built 96 [] = some #[.pointer none, .int .i64 0] := by kernel_rfl
set_option maxHeartbeats 400000 in
theorem rnew_any (w : World) : Calls Tryd.prog 8 #[] w fun e w' => e = .returned (.pointer (some ⟨w.heap.size, 0, none⟩)) ∧ TreeAt w' w.heap.size w.heap.size .nil ∧ Below w.heap.size w w' := by
  go_enter Tryd.func8, Tryd.ntmps8
  go_wp2
  go_ret
  exact ⟨rfl, ⟨heap_alloc_new _ _, trivial, trivial, trivial, Nat.le_refl _, fun x hx => hx.elim⟩, (Below.refl _ _).alloc (Nat.le_refl _) _⟩
set_option maxHeartbeats 400000 in
theorem rcount_any (w : World) (lo TB : Nat) (t : Rx.T) (h : TreeAt w lo TB t) : Calls Tryd.prog 35 #[.pointer (some ⟨TB, 0, none⟩)] w fun e w' => e = .returned (.int .i64 (Rx.cnt t : Int)) ∧ w = w' := by
  have c1 : w.cell? ⟨TB, 1, none⟩ = some (.int .i64 (Rx.cnt t : Int)) := blk_cell (i := 1) h.top rfl
  clear h
  go_enter Tryd.func35, Tryd.ntmps35
  go_wp2
  go_ret
  exact ⟨rfl, rfl⟩
set_option maxHeartbeats 400000 in
theorem rPut_neg (w : World) (TB : Nat) (h : List UInt8) (n : Int) (hn : n < 0) : Calls Tryd.prog 11 #[.pointer (some ⟨TB, 0, none⟩), .agg (hashC h), .int .i64 n] w fun e w' => e = .returned (.bool false) ∧ Below w.heap.size w w' := by
  obtain ⟨C, hC⟩ : ∃ C, C = hashC h := ⟨_, rfl⟩
  rw [← hC]
  have d0 : decide (n < 0) = true := decide_eq_true hn
  have B1 : Hid (Below w.heap.size w (w.alloc (.cells C 33))) := Lib.hid ((Below.refl _ _).alloc (Nat.le_refl _) _)
  clear hC
  go_enter Tryd.func11, Tryd.ntmps11
  go_wp2
  go_ret
  exact ⟨rfl, B1.out⟩
/-- What Put leaves. -/
def PutT (w : World) (lo TB : Nat) (h : List UInt8) (n : Int) (t : Rx.T) (w' : World) : Prop :=
  ∃ t' f, TreeAt w' lo TB t' ∧ Rx.Puts [] h n t t' f ∧ TStay (fun x => x = TB ∨ Rx.mem t x) w w'
set_option maxHeartbeats 4000000 in
set_option maxRecDepth 100000 in
theorem rPut_any (w : World) (lo TB : Nat) (t : Rx.T) (hT : TreeAt w lo TB t) (h : List UInt8) (n : Int) (hl : h.length = 32) (hn : 0 ≤ n ∧ n ≤ 9223372036854775807) (hc : Rx.cnt t ≤ 1000000) (hlo : lo ≤ w.heap.size) :
    Calls Tryd.prog 11 #[.pointer (some ⟨TB, 0, none⟩), .agg (hashC h), .int .i64 n] w fun e w' => e = .returned (.bool true) ∧ PutT w lo TB h n t w' := by
  obtain ⟨C, hC⟩ : ∃ C, C = hashC h := ⟨_, rfl⟩
  have SC : Hid (C.size = 32) := Lib.hid (by rw [hC]; exact hashC_size h hl)
  obtain ⟨W1, hW1⟩ : ∃ W1, W1 = w.alloc (.cells C 33) := ⟨_, rfl⟩
  have b1 : Below w.heap.size w W1 := by rw [hW1]; exact (Below.refl _ _).alloc (Nat.le_refl _) _
  have BX : Hid (W1.heap[w.heap.size]? = some (.cells C 33 (0, 0))) := Lib.hid (by rw [hW1]; exact heap_alloc_new _ _)
  have T1 := Lib.hid (hT.below b1)
  have B1 := Lib.hid b1
  have d0 : decide (n < 0) = false := decide_eq_false (by omega)
  obtain ⟨V, hV⟩ : ∃ V, V = ptrV t.ptr := ⟨_, rfl⟩
  have CT : Hid (∀ w', TStay (Rx.mem t) W1 w' → w'.heap[TB]? = some (.cells #[V, .int .i64 (Rx.cnt t : Int)] 96 (0, 0))) := Lib.hid (fun w' hs => by
    rw [hV]; exact (hs.block TB (blk_lt T1.out.top) T1.out.not).trans T1.out.top)
  have PX : Hid (∀ w', TStay (fun x => x = TB ∨ Rx.mem t x) W1 w' → Part w' w.heap.size 0 C) := Lib.hid (fun w' hs => Part.of_blk ((hs.block _ (blk_lt BX.out) (fun hm => by
    rcases hm with rfl | hm
    · have := T1.out.top; rw [BX.out] at this; simp at this
    obtain ⟨cs, hc⟩ := T1.out.at_.ty _ hm
    rw [BX.out] at hc
    simp at hc)).trans BX.out))
  have hput : Calls Tryd.prog 37 #[V, .agg C, .int .i64 n, .int .i64 0] W1.drew (PutAft W1.drew [] h n t) := by
    rw [hV, hC]
    exact rput_any W1.drew t [] h n rfl (T1.out.at_.keep (fun _ _ => rfl)) T1.out.sep T1.out.ok hl (Rx.pre_nil h) hn
  have HPUT := Lib.hid hput
  have HCN := Lib.hid hc
  have HLO := Lib.hid hlo
  rw [← hC]
  clear hC b1 hput hV hc hlo hl hT
  go_enter Tryd.func11, Tryd.ntmps11
  go_upto_region 1 with (fail)
  rw [← hW1]
  clear hW1
  go_upto_region 4 with (fail)
  refine wp_region_held_drew (S := fun w' => TStay (fun x => x = TB ∨ Rx.mem t x) W1 w') (by kernel_rfl) ((TStay.refl _ _).drew _) (fun hS0 => ?_)
  have HS : Hid (TStay (Rx.mem t) W1 W1.drew) := Lib.hid ((TStay.refl _ _).drew _)
  refine takeK (i := 0) (.pointer (some ⟨TB, 0, none⟩)) (some 11) rfl (by kernel_rfl) (by kernel_rfl) (by kernel_rfl) (by kernel_rfl) (fun _ _ _ h => h) (by kernel_rfl) (fun w' _ => by go_simp) hS0 ?_
  simp only [Act.put, List.setIfInBounds_toArray, List.set_cons_zero, List.set_cons_succ]
  refine takeK (i := 1) (.pointer (some ⟨TB, 0, none⟩)) (some 12) rfl (by kernel_rfl) (by kernel_rfl) (by kernel_rfl) (by kernel_rfl) (fun _ _ _ h => h) (by kernel_rfl) (fun w' _ => by go_simp) hS0 ?_
  simp only [Act.put, List.setIfInBounds_toArray, List.set_cons_zero, List.set_cons_succ]
  refine takeK (i := 2) (.pointer (some ⟨TB, 0, none⟩)) (some 13) rfl (by kernel_rfl) (by kernel_rfl) (by kernel_rfl) (by kernel_rfl) (fun _ _ _ h => h) (by kernel_rfl) (fun w' _ => by go_simp) hS0 ?_
  simp only [Act.put, List.setIfInBounds_toArray, List.set_cons_zero, List.set_cons_succ]
  refine takeK (i := 3) (.pointer (some ⟨TB, 0, none⟩)) (some 14) rfl (by kernel_rfl) (by kernel_rfl) (by kernel_rfl) (by kernel_rfl) (fun _ _ _ h => h) (by kernel_rfl) (fun w' _ => by go_simp) hS0 ?_
  simp only [Act.put, List.setIfInBounds_toArray, List.set_cons_zero, List.set_cons_succ]
  refine takeK (i := 5) (.agg C) (some 16) rfl (by kernel_rfl) (by kernel_rfl) (by kernel_rfl) (by kernel_rfl) (fun _ _ _ h => h) (by kernel_rfl) (fun w' h' => ex_load 33 (.tmp 4) rfl w.heap.size 0 (by kernel_rfl) C _ (PX.out w' h') Tryd.underlying33 rfl (by rw [SC.out]; exact sz_hash)) hS0 ?_
  simp only [Act.put, List.setIfInBounds_toArray, List.set_cons_zero, List.set_cons_succ]
  refine takeK (i := 6) (.int .i64 n) (some 17) rfl (by kernel_rfl) (by kernel_rfl) (by kernel_rfl) (by kernel_rfl) (fun _ _ _ h => h) (by kernel_rfl) (fun w' _ => by go_simp) hS0 ?_
  simp only [Act.put, List.setIfInBounds_toArray, List.set_cons_zero, List.set_cons_succ]
  have ct0 := blk_cell (i := 0) (CT.out _ HS.out) rfl
  refine wpAnyH_ready (rs := [4]) (by kernel_rfl) (by simp) ?_
  refine AllReadyH.cons rfl (fun K hK => ?_) AllReadyH.nil
  rw [if_pos (by kernel_rfl)]
  go_simp
  refine hK.out _ _ hS0 (fun hS0 => ?_)
  clear hK K ct0
  refine callK (i := 7) 37 #[V, .agg C, .int .i64 n, .int .i64 0] (some 18) rfl (by kernel_rfl) (by kernel_rfl) (by kernel_rfl) (by kernel_rfl) HPUT.out ?_
  clear HPUT
  rintro e w5 ⟨t', f, rfl, a5, s5, pt5, m5, st5, ty5⟩
  have s15 : TStay (Rx.mem t) W1 w5 := HS.out.trans st5 (fun _ _ h => h)
  obtain ⟨kb, hkb⟩ : ∃ kb, t'.ptr = some kb := by
    rcases hh : t'.ptr with _ | kb
    · exact absurd hh pt5.nn
    · exact ⟨kb, rfl⟩
  refine ⟨.tuple #[.pointer (some ⟨kb, 0, none⟩), .bool f], by rw [hkb]; rfl, s15.mono (fun _ _ h => .inr h), fun hS5 => ?_⟩
  have A5 := Lib.hid a5
  have S5 := Lib.hid s5
  have PT5 := Lib.hid pt5
  have M5 : Hid (∀ x, Rx.mem t' x → Rx.mem t x ∨ W1.heap.size ≤ x) := Lib.hid m5
  have S15 := Lib.hid s15
  have HKB := Lib.hid hkb
  clear a5 s5 pt5 m5 st5 ty5 s15 hS0 hkb
  simp only [Act.put, List.setIfInBounds_toArray, List.set_cons_zero, List.set_cons_succ]
  refine takeK (i := 8) (.tuple #[.pointer (some ⟨kb, 0, none⟩), .bool f]) (some 10) rfl (by kernel_rfl) (by kernel_rfl) (by kernel_rfl) (by kernel_rfl) (fun _ _ _ h => h) (by kernel_rfl) (fun w' _ => by kernel_rfl) hS5 ?_
  simp only [Act.put, List.setIfInBounds_toArray, List.set_cons_zero, List.set_cons_succ]
  refine takeK (i := 9) (.pointer (some ⟨kb, 0, none⟩)) (some 19) rfl (by kernel_rfl) (by kernel_rfl) (by kernel_rfl) (by kernel_rfl) (fun _ _ _ h => h) (by kernel_rfl) (fun w' _ => by go_simp) hS5 ?_
  simp only [Act.put, List.setIfInBounds_toArray, List.set_cons_zero, List.set_cons_succ]
  refine takeK (i := 10) (.bool f) (some 20) rfl (by kernel_rfl) (by kernel_rfl) (by kernel_rfl) (by kernel_rfl) (fun _ _ _ h => h) (by kernel_rfl) (fun w' _ => by go_simp) hS5 ?_
  simp only [Act.put, List.setIfInBounds_toArray, List.set_cons_zero, List.set_cons_succ]
  refine takeK (i := 11) (.pointer (some ⟨TB, 0, none⟩)) (some 21) rfl (by kernel_rfl) (by kernel_rfl) (by kernel_rfl) (by kernel_rfl) (fun _ _ _ h => h) (by kernel_rfl) (fun w' _ => by go_simp) hS5 ?_
  simp only [Act.put, List.setIfInBounds_toArray, List.set_cons_zero, List.set_cons_succ]
  refine takeK (i := 12) (.pointer (some ⟨TB, 0, none⟩)) (some 22) rfl (by kernel_rfl) (by kernel_rfl) (by kernel_rfl) (by kernel_rfl) (fun _ _ _ h => h) (by kernel_rfl) (fun w' _ => by go_simp) hS5 ?_
  simp only [Act.put, List.setIfInBounds_toArray, List.set_cons_zero, List.set_cons_succ]
  have X5 := Lib.hid (CT.out w5 S15.out)
  have cx := blk_cell (i := 0) X5.out rfl
  have fx := blk_free X5.out 0
  have HT' : Hid (∀ (wx : World) (c : Int), c = (Rx.cnt t' : Int) → wx.heap[TB]? = some (.cells #[.pointer (some ⟨kb, 0, none⟩), .int .i64 c] 96 (0, 0)) → TStay (fun x => x = TB) w5 wx → PutT w lo TB h n t wx) := Lib.hid (fun wx c hc hh hs => by
    have hnt : ¬ Rx.mem t' TB := fun hm => by
      rcases M5.out TB hm with h | h
      · exact T1.out.not h
      · have := blk_lt T1.out.top; omega
    refine ⟨t', f, ⟨by rw [HKB.out, ← hc]; exact hh, A5.out.stay hs (fun x hx e => hnt (by rw [← e]; exact hx)), S5.out, PT5.out.ok, T1.out.lo_, fun x hx => ?_⟩, PT5.out, ?_⟩
    · rcases M5.out x hx with h | h
      · exact T1.out.mem x h
      · have := B1.out.size; have := HLO.out; omega
    · exact (((TStay.of_below B1.out (fun x => x = TB ∨ Rx.mem t x)).trans S15.out (fun i hi h => .inr h)).trans hs (fun i hi h => .inl h)))
  obtain ⟨w6, hw6⟩ : ∃ w6, w6 = w5.setCell ⟨TB, 0, none⟩ (.pointer (some ⟨kb, 0, none⟩)) := ⟨_, rfl⟩
  have h6 : Hid (w6.heap[TB]? = some (.cells #[.pointer (some ⟨kb, 0, none⟩), .int .i64 (Rx.cnt t : Int)] 96 (0, 0))) := Lib.hid (by rw [hw6]; exact heap_setCell_same w5 TB 0 _ _ _ X5.out)
  have S6 : TStay (fun x => x = TB) w5 w6 := by rw [hw6]; exact (TStay.refl (fun x => x = TB) w5).setCell (p := ⟨TB, 0, none⟩) (.inl rfl) _
  have S16 : TStay (fun x => x = TB ∨ Rx.mem t x) W1 w6 := hS5.trans S6 (fun _ _ h => .inl h)
  have S6H := Lib.hid S6
  refine wpAnyH_ready (rs := [13]) (by kernel_rfl) (by simp) ?_
  refine AllReadyH.cons rfl (fun K hK => ?_) AllReadyH.nil
  rw [if_pos (by kernel_rfl)]
  go_simp
  rw [← hw6]
  refine hK.out _ _ S16 (fun hS6 => ?_)
  clear hK K hS5 S6 S16 hw6 cx fx
  refine takeK (i := 14) (.bool f) (some 7) rfl (by kernel_rfl) (by kernel_rfl) (by kernel_rfl) (by kernel_rfl) (fun _ _ _ h => h) (by kernel_rfl) (fun w' _ => by kernel_rfl) hS6 ?_
  simp only [Act.put, List.setIfInBounds_toArray, List.set_cons_zero, List.set_cons_succ]
  refine wpAnyH_done (by kernel_rfl) ?_ _
  clear hS6
  have HCT : Hid (Rx.cnt t' = Rx.cnt t + if f = true then 1 else 0) := Lib.hid PT5.out.cnt
  have c61 := blk_cell (i := 1) h6.out rfl
  have f61 := blk_free h6.out 1
  cases f
  · go_wp2
    go_ret
    exact ⟨rfl, HT'.out w6 (Rx.cnt t : Int) (by rw [HCT.out]; rfl) h6.out S6H.out⟩
  · have hwc : IntKind.i64.wrap ((Rx.cnt t : Int) + 1) = (Rx.cnt t : Int) + 1 := by rw [wrapi' _ (by have := HCN.out; omega)]
    have H7 : Hid ((w6.setCell ⟨TB, 1, none⟩ (.int .i64 ((Rx.cnt t : Int) + 1))).heap[TB]? = some (.cells #[.pointer (some ⟨kb, 0, none⟩), .int .i64 ((Rx.cnt t : Int) + 1)] 96 (0, 0))) := Lib.hid (heap_setCell_same w6 TB 1 _ _ _ h6.out)
    have S7 : Hid (TStay (fun x => x = TB) w5 (w6.setCell ⟨TB, 1, none⟩ (.int .i64 ((Rx.cnt t : Int) + 1)))) := Lib.hid (S6H.out.setCell (p := ⟨TB, 1, none⟩) (.inl rfl) _)
    go_wp2
    go_ret
    exact ⟨rfl, HT'.out _ ((Rx.cnt t : Int) + 1) (by rw [HCT.out]; rfl) H7.out S7.out⟩
end Go.Proofs.YtpblopdcbjfkpaaDoor
