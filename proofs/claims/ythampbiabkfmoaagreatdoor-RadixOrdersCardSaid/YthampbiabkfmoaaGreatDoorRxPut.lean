/- radix.put: what it does to a tree in memory. -/
import Derived.Test.YthampbiabkfmoaaGreatDoorRxNode
import Derived.LaidEqlPtr
import Derived.BigQuiet
namespace Go.Proofs.YthampbiabkfmoaaGreatDoor
open Go.RowKit Go.Tap
set_option linter.unusedVariables false
set_option linter.unusedSimpArgs false
def PutAft (w : World) (p : List Nat) (h : List UInt8) (n : Int) (t : Rx.T) (e : Ending) (w' : World) : Prop :=
  ∃ t' fresh, e = .returned (.tuple #[ptrV t'.ptr, .bool fresh]) ∧ At w' t' ∧ Rx.sep t' ∧ Rx.Puts p h n t t' fresh ∧ (∀ x, Rx.mem t' x → Rx.mem t x ∨ w.heap.size ≤ x) ∧ TStay (Rx.mem t) w w' ∧ ∀ x, Rx.mem t x → ∃ cs, w'.heap[x]? = some (.cells cs 85 (0, 0))
def PutOK (k : Nat) : Prop := ∀ (w : World) (t : Rx.T) (p : List Nat) (h : List UInt8) (n : Int), p.length = k → At w t → Rx.sep t → Rx.ok t p → h.length = 32 → Rx.pre h p → (0 ≤ n ∧ n ≤ 9223372036854775807) →
  Calls Tryz.prog 24 #[ptrV t.ptr, .agg (hashC h), .int .i64 n, .int .i64 (k : Int)] w (PutAft w p h n t)
theorem info_node : ∃ j, Tryz.prog.info? 85 = some j ∧ j.size ≠ 0 := by
  obtain ⟨j, hj, hs⟩ := Option.map_eq_some_iff.1 sz_node
  exact ⟨j, hj, by rw [hs]; decide⟩
theorem put_nil (w : World) (p : List Nat) (h : List UInt8) (n : Int) (k : Nat) (hk : k ≤ 64) (hp : p.length = k) (hl : h.length = 32) (hpre : Rx.pre h p) (hn : 0 ≤ n ∧ n ≤ 9223372036854775807) :
    Calls Tryz.prog 24 #[.pointer none, .agg (hashC h), .int .i64 n, .int .i64 (k : Int)] w (PutAft w p h n .nil) := by
  obtain ⟨C, hC⟩ : ∃ C, C = hashC h := ⟨_, rfl⟩
  have SC : Hid (C.size = 32) := Lib.hid (by rw [hC]; exact hashC_size h hl)
  obtain ⟨W1, hW1⟩ : ∃ W1, W1 = w.alloc (.cells C 42) := ⟨_, rfl⟩
  have b1 : Below w.heap.size w W1 := by rw [hW1]; exact (Below.refl _ _).alloc (Nat.le_refl _) _
  have PT : Hid (Part W1 w.heap.size 0 C) := Lib.hid (Part.of_blk (by rw [hW1]; exact heap_alloc_new _ _))
  have BT : Hid (Tryz.prog.built 85 [(1, .bool true), (2, .agg C), (3, .int .i64 n)] = some (nodeC nilK true h n 0)) := Lib.hid (by rw [hC]; exact bt_leaf h n hl)
  have B1 := Lib.hid b1
  have HL := Lib.hid hl
  have HF := Lib.hid (Rx.puts_nil p h n W1.heap.size hl hpre hn (by omega))
  rw [← hC]
  clear hC b1 hl hpre hn hp hk
  go_enter Tryz.func24, Tryz.ntmps24
  go_upto_region 1 with (fail)
  rw [← hW1]
  clear hW1
  go_wp2_with (first | (refine wpL_load ?hw 42 (.tmp 5) rfl w.heap.size 0 rfl C _ PT.out Tryz.underlying42 rfl (by rw [SC.out]; exact sz_hash) ?_; case hw => kernel_rfl) | (refine wpL_mk (by kernel_rfl) 85 #[(1, .const (.bool true)), (2, .tmp 17), (3, .tmp 18)] rfl [(1, .bool true), (2, .agg C), (3, .int .i64 n)] (by rfl) (nodeC nilK true h n 0) BT.out ?_))
  go_ret2
  refine ⟨.leaf W1.heap.size h n 0, true, rfl, heap_alloc_new _ _, trivial, HF.out, ?_, TStay.of_below (B1.out.alloc B1.out.size _) _, fun _ h => h.elim⟩
  intro x hx
  obtain rfl : x = W1.heap.size := hx
  exact .inr B1.out.size
/-- Behind the switch: an inner node stands in the leaf's, or its own, place. -/
structure PutMid (w wx : World) (p : List Nat) (h : List UInt8) (n : Int) (t : Rx.T) (C : Array Value) (X : Nat) (kids : Nat → Rx.T) (s : Int) : Prop where
  at_ : At wx (.inner X kids s)
  sep : Rx.sep (.inner X kids s)
  ok : Rx.ok (.inner X kids s) p
  mem : ∀ x, Rx.mem (.inner X kids s) x → Rx.mem t x ∨ w.heap.size ≤ x
  sub : ∀ x, Rx.mem t x → Rx.mem (.inner X kids s) x
  stay : TStay (Rx.mem t) w wx
  box : wx.heap[w.heap.size]? = some (.cells C 42 (0, 0))
  fin : ∀ t' f s', Rx.Puts (p ++ [Rx.dig h p.length]) h n (kids (Rx.dig h p.length)) t' f → s' = (if t'.ptr ≠ (kids (Rx.dig h p.length)).ptr ∨ t'.saved = 0 then 0 else s) → Rx.Puts p h n t (.inner X (Rx.upd kids (Rx.dig h p.length) t') s') f
set_option maxHeartbeats 4000000 in
set_option maxRecDepth 100000 in
theorem put_step (k : Nat) (hk : k ≤ 64) (IH : k < 64 → PutOK (k + 1)) : PutOK k := by
  intro w t p h n hp ha hs ho hl hpre hn
  rcases ht : t.ptr with _ | b
  · obtain rfl := Rx.ptr_none ht
    exact put_nil w p h n k hk hp hl hpre hn
  · obtain ⟨C, hC⟩ : ∃ C, C = hashC h := ⟨_, rfl⟩
    have SC : Hid (C.size = 32) := Lib.hid (by rw [hC]; exact hashC_size h hl)
    obtain ⟨W1, hW1⟩ : ∃ W1, W1 = w.alloc (.cells C 42) := ⟨_, rfl⟩
    have b1 : Below w.heap.size w W1 := by rw [hW1]; exact (Below.refl _ _).alloc (Nat.le_refl _) _
    have T5 : Hid (W1.heap[w.heap.size]? = some (.cells C 42 (0, 0))) := Lib.hid (by rw [hW1]; exact heap_alloc_new _ _)
    have PT : Hid (Part W1 w.heap.size 0 C) := Lib.hid (Part.of_blk T5.out)
    have A1 := Lib.hid (ha.below b1)
    have BL : Hid (b < w.heap.size) := Lib.hid (ha.lt b (ptr_mem ht))
    have B1 := Lib.hid b1
    have HL := Lib.hid hl
    have HC := Lib.hid hC
    have HPT := Lib.hid ht
    rw [← hC]
    show Calls Tryz.prog 24 #[.pointer (some ⟨b, 0, none⟩), .agg C, .int .i64 n, .int .i64 (k : Int)] w (PutAft w p h n t)
    clear hC b1 ht ha
    go_enter Tryz.func24, Tryz.ntmps24
    go_upto_block 0 with (fail)
    rw [← hW1]
    clear hW1
    go_cut [0, 10] from 14 to 64 (fun v0 _ wx => ∃ (X : Nat) (kids : Nat → Rx.T) (s : Int), v0 = .pointer (some ⟨X, 0, none⟩) ∧ Hid (PutMid w wx p h n t C X kids s))
    case first =>
      cases t with
      | nil => cases HPT.out
      | inner b' kids s =>
        obtain rfl : b' = b := by have := HPT.out; simpa [Rx.T.ptr] using this
        have c16 : W1.cell? ⟨b', 16, none⟩ = some (.bool false) := blk_cell (i := 16) A1.out.1 nodeC_leaf
        have HM : Hid (∀ q, PutMid w (W1.drewN q) p h n (.inner b' kids s) C b' kids s) := Lib.hid (fun q =>
          ⟨A1.out.keep (fun _ _ => rfl), hs, ho, fun x hx => .inl hx, fun x hx => hx, (TStay.of_below (bel_drewN B1.out q) _), T5.out, fun t' f s' h1 h2 => Rx.puts_inner p h n s s' b' kids t' f HL.out hpre ho h1 h2⟩)
        clear hs ho hpre IH
        go_upto_region 3 with (fail)
        go_quiet (fail)
        go_wp2
        go_meet
        exact ⟨b', kids, s, rfl, Lib.hid (HM.out _)⟩
      | leaf b' hx nx sx =>
        obtain rfl : b' = b := by have := HPT.out; simpa [Rx.T.ptr] using this
        have c16 : W1.cell? ⟨b', 16, none⟩ = some (.bool true) := blk_cell (i := 16) A1.out nodeC_leaf
        have hxl : hx.length = 32 := ho.1
        have P17 : Hid (Part W1 b' 17 (hashC hx)) := Lib.hid (part_of A1.out (nodeC_hash hxl))
        have HXL := Lib.hid hxl
        obtain ⟨eqb, heq⟩ : ∃ eqb, eqb = decide (hx = h) := ⟨_, rfl⟩
        have Q0 : Hid (∀ w, (binOp .eql 42 (.agg (hashC hx)) (.agg C)).run Tryz.prog w = .ok (.bool eqb) w) := Lib.hid (fun w => by rw [HC.out, cmp_hash hx h hxl HL.out, heq])
        have HE := Lib.hid heq
        have HO := Lib.hid ho
        have HPRE := Lib.hid hpre
        clear hs ho hpre heq hxl
        go_upto_region 3 with (fail)
        refine wp_region_quiet_lit (by kernel_rfl) (by kernel_rfl) ?_
        repeat (go_big_quiet_step (fail))
        refine wpQuiet_load (by kernel_rfl) 42 (.tmp 29) rfl b' 17 rfl (hashC hx) _ P17.out Tryz.underlying42 rfl (by rw [hashC_size _ HXL.out]; exact sz_hash) ?_
        simp only [Act.put, List.setIfInBounds_toArray, List.set_cons_zero, List.set_cons_succ]
        refine wpQuiet_load (by kernel_rfl) 42 (.tmp 5) rfl w.heap.size 0 rfl C _ PT.out Tryz.underlying42 rfl (by rw [SC.out]; exact sz_hash) ?_
        simp only [Act.put, List.setIfInBounds_toArray, List.set_cons_zero, List.set_cons_succ]
        refine wpQuiet_cmp (by kernel_rfl) .eql 42 42 (.tmp 30) (.tmp 31) rfl (hashC hx) C rfl rfl gd_hash eqb Q0.out ?_
        simp only [Act.put, List.setIfInBounds_toArray, List.set_cons_zero, List.set_cons_succ]
        repeat (go_big_quiet_step (fail))
        refine wpQuiet_nil ?_
        intro _ hw'
        obtain ⟨nq, hw2⟩ := hw'
        subst hw2
        cases eqb
        · have hne : hx ≠ h := of_decide_eq_false HE.out.symm
          have hk64 : p.length < 64 := by
            rcases Nat.lt_or_ge p.length 64 with h1 | h1
            · exact h1
            · exact absurd (Rx.pre_eq HO.out.2.1 HPRE.out HXL.out HL.out h1) hne
          have HNE := Lib.hid hne
          have HK64 := Lib.hid hk64
          have c16' : (W1.drewN nq).cell? ⟨b', 16, none⟩ = some (.bool true) := c16
          obtain ⟨W8, hW8⟩ : ∃ W8, W8 = (W1.drewN nq).alloc (.cells (nodeC nilK false Wi.z32 0 0) 85) := ⟨_, rfl⟩
          obtain ⟨u, hu⟩ : ∃ u, u = W1.heap.size := ⟨_, rfl⟩
          have b8 : Below W1.heap.size W1 W8 := by rw [hW8]; exact (bel_drewN (Below.refl _ _) nq).alloc (Nat.le_refl _) _
          have T8 : Hid (W8.heap[u]? = some (.cells (nodeC nilK false Wi.z32 0 0) 85 (0, 0))) := Lib.hid (by rw [hW8, hu]; exact heap_alloc_new (W1.drewN nq) _)
          have A8 := Lib.hid (A1.out.below b8)
          have T58 := Lib.hid ((b8.block _ (blk_lt T5.out)).trans T5.out)
          have BW8 := Lib.hid (B1.out.trans (b8.mono B1.out.size))
          have HUB : Hid (w.heap.size < u ∧ u ≠ b') := Lib.hid (by have h1 := blk_lt T5.out; have := BL.out; omega)
          have P8 : Hid (∀ w', TStay (fun j => j = u) W8 w' → Part w' b' 17 (hashC hx)) := Lib.hid (fun w' h => part_of ((h.block b' (blk_lt A8.out) (fun e => HUB.out.2 e.symm)).trans A8.out) (nodeC_hash HXL.out))
          clear hne hk64 b8 c16
          go_upto_region 9 with (refine wpL_mk (by kernel_rfl) 85 #[] rfl [] (by rfl) (nodeC nilK false Wi.z32 0 0) bt_node0 ?_)
          rw [← hW8]
          first | rw [show (W1.drewN nq).heap.size = u from hu.symm] | rw [← hu]
          clear hW8 hu
          refine wp_region_held_drew (S := fun w' => TStay (fun j => j = u) W8 w') (by kernel_rfl) ((TStay.refl _ _).drew _) (fun hS0 => ?_)
          refine takeK (i := 0) (.pointer (some ⟨u, 0, none⟩)) (some 52) rfl (by kernel_rfl) (by kernel_rfl) (by kernel_rfl) (by kernel_rfl) (fun _ _ _ h => h) (by kernel_rfl) (fun w' _ => by go_simp) hS0 ?_
          simp only [Act.put, List.setIfInBounds_toArray, List.set_cons_zero, List.set_cons_succ]
          refine takeK (i := 1) (.pointer (some ⟨b', 0, none⟩)) (some 53) rfl (by kernel_rfl) (by kernel_rfl) (by kernel_rfl) (by kernel_rfl) (fun _ _ _ h => h) (by kernel_rfl) (fun w' _ => by go_simp) hS0 ?_
          simp only [Act.put, List.setIfInBounds_toArray, List.set_cons_zero, List.set_cons_succ]
          refine takeK (i := 2) (.pointer (some ⟨b', 0, none⟩)) (some 54) rfl (by kernel_rfl) (by kernel_rfl) (by kernel_rfl) (by kernel_rfl) (fun _ _ _ h => h) (by kernel_rfl) (fun w' _ => by go_simp) hS0 ?_
          simp only [Act.put, List.setIfInBounds_toArray, List.set_cons_zero, List.set_cons_succ]
          refine takeK (i := 3) (.pointer (some ⟨b', 17, none⟩)) (some 55) rfl (by kernel_rfl) (by kernel_rfl) (by kernel_rfl) (by kernel_rfl) (fun _ _ _ h => h) (by kernel_rfl) (fun w' _ => by go_simp) hS0 ?_
          simp only [Act.put, List.setIfInBounds_toArray, List.set_cons_zero, List.set_cons_succ]
          refine takeK (i := 4) (.agg (hashC hx)) (some 56) rfl (by kernel_rfl) (by kernel_rfl) (by kernel_rfl) (by kernel_rfl) (fun _ _ _ h => h) (by kernel_rfl) (fun w' h => ex_load 42 (.tmp 55) rfl b' 17 (by kernel_rfl) (hashC hx) _ (P8.out w' h) Tryz.underlying42 rfl (by rw [hashC_size _ HXL.out]; exact sz_hash)) hS0 ?_
          simp only [Act.put, List.setIfInBounds_toArray, List.set_cons_zero, List.set_cons_succ]
          refine takeK (i := 5) (.int .i64 (k : Int)) (some 57) rfl (by kernel_rfl) (by kernel_rfl) (by kernel_rfl) (by kernel_rfl) (fun _ _ _ h => h) (by kernel_rfl) (fun w' _ => by go_simp) hS0 ?_
          simp only [Act.put, List.setIfInBounds_toArray, List.set_cons_zero, List.set_cons_succ]
          refine takeK (i := 7) (.pointer (some ⟨b', 0, none⟩)) (some 59) rfl (by kernel_rfl) (by kernel_rfl) (by kernel_rfl) (by kernel_rfl) (fun _ _ _ h => h) (by kernel_rfl) (fun w' _ => by go_simp) hS0 ?_
          simp only [Act.put, List.setIfInBounds_toArray, List.set_cons_zero, List.set_cons_succ]
          refine takeK (i := 8) (.pointer (some ⟨u, 0, none⟩)) (some 60) rfl (by kernel_rfl) (by kernel_rfl) (by kernel_rfl) (by kernel_rfl) (fun _ _ _ h => h) (by kernel_rfl) (fun w' _ => by go_simp) hS0 ?_
          simp only [Act.put, List.setIfInBounds_toArray, List.set_cons_zero, List.set_cons_succ]
          refine takeK (i := 9) (.pointer (some ⟨u, 0, none⟩)) (some 61) rfl (by kernel_rfl) (by kernel_rfl) (by kernel_rfl) (by kernel_rfl) (fun _ _ _ h => h) (by kernel_rfl) (fun w' _ => by go_simp) hS0 ?_
          simp only [Act.put, List.setIfInBounds_toArray, List.set_cons_zero, List.set_cons_succ]
          obtain ⟨d, hd⟩ : ∃ d, d = Rx.dig hx k := ⟨_, rfl⟩
          have hdg := rdigit_any W8.drew hx k HXL.out (by rw [← hp]; exact HK64.out)
          rw [← hd] at hdg
          have hd16 : d < 16 := by rw [hd]; exact Rx.dig_lt _ _
          have HD := Lib.hid hd
          clear hd
          refine callK (i := 6) 42 #[.agg (hashC hx), .int .i64 (k : Int)] (some 58) rfl (by kernel_rfl) (by kernel_rfl) (by kernel_rfl) (by kernel_rfl) hdg ?_
          clear hdg
          rintro e w9 ⟨rfl, b9⟩
          have S9 : TStay (fun j => j = u) W8 w9 := hS0.trans (TStay.of_below b9 (fun j => j = u)) (fun _ _ h => h)
          have S9H := Lib.hid S9
          refine ⟨_, rfl, S9, fun hS9 => ?_⟩
          simp only [Act.put, List.setIfInBounds_toArray, List.set_cons_zero, List.set_cons_succ]
          have T9 : Hid (w9.heap[u]? = some (.cells (nodeC nilK false Wi.z32 0 0) 85 (0, 0))) := Lib.hid ((b9.block u (blk_lt T8.out)).trans T8.out)
          have i0 : (0 : Int) ≤ (d : Int) := by omega
          have i1 : (d : Int) < 16 := by omega
          clear S9 b9 hS0
          refine takeK (i := 10) (.pointer (some ⟨u, d, none⟩)) (some 62) rfl (by kernel_rfl) (by kernel_rfl) (by kernel_rfl) (by kernel_rfl) (fun _ _ _ h => h) (by kernel_rfl) (fun w' _ => by go_simp) hS9 ?_
          simp only [Act.put, List.setIfInBounds_toArray, List.set_cons_zero, List.set_cons_succ]
          have cd : w9.cell? ⟨u, d, none⟩ = some (.pointer none) := blk_cell (i := d) T9.out (by rw [nodeC_kid hd16]; rfl)
          have fd : w9.frozen? ⟨u, d, none⟩ = false := blk_free T9.out d
          refine wpAnyH_ready (rs := [11]) (by kernel_rfl) (by simp) ?_
          refine AllReadyH.cons rfl (fun K hK => ?_) AllReadyH.nil
          rw [if_pos (by kernel_rfl)]
          go_simp
          obtain ⟨wx, hwx⟩ : ∃ wx, wx = w9.setCell ⟨u, d, none⟩ (.pointer (some ⟨b', 0, none⟩)) := ⟨_, rfl⟩
          rw [← hwx]
          have SX : TStay (fun j => j = u) W8 wx := by rw [hwx]; exact hS9.setCell (p := ⟨u, d, none⟩) (.inl rfl) _
          have HU : wx.heap[u]? = some (.cells (nodeC (kidV (Rx.upd Rx.noKids d (.leaf b' hx nx sx))) false Wi.z32 0 0) 85 (0, 0)) := by
            rw [hwx]
            have := heap_setCell_same w9 u d _ _ (.pointer (some ⟨b', 0, none⟩)) T9.out
            rw [nodeC_setKid hd16] at this
            rw [this]
            congr 2
            congr 1
            funext j
            unfold kidV Rx.upd
            split <;> rfl
          have MID : Hid (PutMid w wx p h n (.leaf b' hx nx sx) C u (Rx.upd Rx.noKids d (.leaf b' hx nx sx)) 0) := Lib.hid (by
            have hdk : d = Rx.dig hx p.length := by rw [hp]; exact HD.out
            have hstay : TStay (Rx.mem (.leaf b' hx nx sx)) w wx := (TStay.of_below BW8.out _).trans SX (fun i hi e => by have := HUB.out.1; omega)
            refine ⟨⟨HU, fun i hi => ?_⟩, Rx.sep_up _ _ _ _ _ _ HUB.out.2, by rw [hdk]; exact Rx.ok_up p u b' hx nx sx HO.out HK64.out, fun x hxm => ?_, fun x hxm => ?_, hstay, (SX.block _ (blk_lt T58.out) (by have := HUB.out.1; omega)).trans T58.out, fun t' f s' h1 h2 => ?_⟩
            · unfold Rx.upd; split
              · exact (SX.block _ (blk_lt A8.out) (fun e => HUB.out.2 e.symm)).trans A8.out
              · trivial
            · rcases Rx.mem_up _ _ _ _ _ _ x hxm with rfl | rfl
              · exact .inr (by have := HUB.out.1; omega)
              · exact .inl rfl
            · obtain rfl : x = b' := hxm
              exact .inr ⟨d, hd16, by rw [Rx.upd_same]; rfl⟩
            · have hs0 : s' = 0 := by rw [h2]; split <;> rfl
              rw [hdk] at h1 ⊢
              rw [hs0]
              exact (Rx.puts_up p h n b' u hx nx sx t' f HL.out HPRE.out HO.out HNE.out HUB.out.2 h1 HK64.out).1)
          refine hK.out _ _ SX (fun hSX => ?_)
          clear hK K hSX SX HU hwx cd fd i0 i1 hS9 T9 c16'
          refine wpAnyH_done (by kernel_rfl) ?_ _
          go_wp2
          go_meet
          exact ⟨u, _, 0, rfl, MID⟩
        · obtain rfl : hx = h := of_decide_eq_true HE.out.symm
          have c49 : (W1.drewN nq).cell? ⟨b', 49, none⟩ = some (.int .i64 nx) := blk_cell (w := W1) (i := 49) A1.out (nodeC_n HL.out)
          by_cases hnn : nx = n
          · subst hnn
            have q0 : (nx == nx) = true := by simp
            have HF := Lib.hid (Rx.puts_leaf_same p hx nx sx b' HL.out HPRE.out hn)
            go_wp2
            go_ret2
            refine ⟨.leaf b' hx nx sx, false, rfl, A1.out, trivial, HF.out, fun x hx => .inl hx, (TStay.of_below (bel_drewN B1.out _) _), fun x hx => A1.out.ty x hx⟩
          · have q0 : (nx == n) = false := by simp [hnn]
            have HF := Lib.hid (Rx.puts_leaf_turn p hx n nx sx b' W1.heap.size HL.out HPRE.out hn (by have := B1.out.size; have := BL.out; omega) (by omega))
            have BT : Hid (Tryz.prog.built 85 [(1, .bool true), (2, .agg C), (3, .int .i64 n)] = some (nodeC nilK true hx n 0)) := Lib.hid (by rw [HC.out]; exact bt_leaf hx n HL.out)
            have PT2 : Hid (Part (W1.drewN nq) w.heap.size 0 C) := Lib.hid (PT.out.keep rfl)
            clear hnn
            go_wp2_with (first | (refine wpL_load ?hw 42 (.tmp 5) rfl w.heap.size 0 rfl C _ PT2.out Tryz.underlying42 rfl (by rw [SC.out]; exact sz_hash) ?_; case hw => kernel_rfl) | (refine wpL_mk (by kernel_rfl) 85 #[(1, .const (.bool true)), (2, .tmp 40), (3, .tmp 41)] rfl [(1, .bool true), (2, .agg C), (3, .int .i64 n)] (by rfl) (nodeC nilK true hx n 0) BT.out ?_))
            go_ret2
            refine ⟨.leaf W1.heap.size hx n 0, false, rfl, heap_alloc_new (W1.drewN nq) _, trivial, HF.out, ?_, TStay.of_below ((bel_drewN B1.out nq).alloc B1.out.size _) _, fun x hx => (A1.out.below (((bel_drewN (Below.refl _ _) nq).alloc (Nat.le_refl _) _))).ty x hx⟩
            intro x hx
            obtain rfl : x = W1.heap.size := hx
            exact .inr B1.out.size
    case rest =>
      obtain ⟨X, kids, s, rfl, HM⟩ := hcut
      obtain ⟨d, hd⟩ : ∃ d, d = Rx.dig h p.length := ⟨_, rfl⟩
      have hd16 : d < 16 := by rw [hd]; exact Rx.dig_lt _ _
      have hk64 : k < 64 := by have := HM.out.ok.1; omega
      have hdg : Calls Tryz.prog 42 #[.agg C, .int .i64 (k : Int)] wc fun e w' => e = .returned (.int .i64 (d : Int)) ∧ Below wc.heap.size wc w' := by
        have := rdigit_any wc h k HL.out hk64
        rw [← HC.out, ← hp, ← hd, hp] at this
        exact this
      have PC : Hid (Part wc w.heap.size 0 C) := Lib.hid (Part.of_blk HM.out.box)
      have HIH := Lib.hid (IH hk64)
      have HD := Lib.hid hd
      have HP := Lib.hid hp
      have HN := Lib.hid hn
      have HPRE : Hid (Rx.pre h (p ++ [d])) := Lib.hid (Rx.pre_snoc.2 ⟨hpre, hd.symm⟩)
      clear hs ho hpre IH hd A1 T5 PT B1 HPT BL
      go_wp2_with (refine wpL_load ?hw 42 (.tmp 5) rfl w.heap.size 0 rfl C _ PC.out Tryz.underlying42 rfl (by rw [SC.out]; exact sz_hash) ?_; case hw => kernel_rfl)
      refine hdg.mono ?_
      clear hdg PC
      rintro e w2 ⟨rfl, b2⟩
      have AX := Lib.hid (HM.out.at_.below b2)
      have BOX := Lib.hid ((b2.block _ (blk_lt HM.out.box)).trans HM.out.box)
      have ST2 := Lib.hid (HM.out.stay.trans (TStay.of_below b2 (fun _ => False)) (fun _ _ h => h.elim))
      have NX : Hid (¬ Rx.mem (kids d) X) := Lib.hid (HM.out.sep.1 d hd16).1
      have NB : Hid (¬ Rx.mem (kids d) w.heap.size) := Lib.hid (fun h => by
        obtain ⟨cs, h1⟩ := (AX.out.2 d hd16).ty _ h
        rw [BOX.out] at h1
        simp at h1)
      have CX : Hid (∀ w', TStay (Rx.mem (kids d)) w2 w' → w'.heap[X]? = some (.cells (nodeC (kidV kids) false Wi.z32 0 s) 85 (0, 0))) := Lib.hid (fun w' h => (h.block X (blk_lt AX.out.1) NX.out).trans AX.out.1)
      have PX : Hid (∀ w', TStay (Rx.mem (kids d)) w2 w' → Part w' w.heap.size 0 C) := Lib.hid (fun w' h => Part.of_blk ((h.block _ (blk_lt BOX.out) NB.out).trans BOX.out))
      have i0 : (0 : Int) ≤ (d : Int) := by omega
      have i1 : (d : Int) < 16 := by omega
      have hwk : IntKind.i64.wrap ((k : Int) + 1) = ((k + 1 : Nat) : Int) := by rw [wrapi' _ (by omega)]; omega
      obtain ⟨V, hV⟩ : ∃ V, V = ptrV (kids d).ptr := ⟨_, rfl⟩
      have HV := Lib.hid hV
      have KV : Hid (kidV kids d = V) := Lib.hid hV.symm
      have CD : Hid (∀ w', TStay (Rx.mem (kids d)) w2 w' → w'.cell? ⟨X, d, none⟩ = some V) := Lib.hid (fun w' h => blk_cell (i := d) (CX.out w' h) (by rw [nodeC_kid hd16, KV.out]))
      have D16 := Lib.hid hd16
      clear hV b2 hd16
      go_upto_region 12 with (fail)
      refine wp_region_held_drew (S := fun w' => TStay (Rx.mem (kids d)) w2 w') (by kernel_rfl) ((TStay.refl _ _).drew _) (fun hS0 => ?_)
      refine takeK (i := 0) (.pointer (some ⟨X, 0, none⟩)) (some 68) rfl (by kernel_rfl) (by kernel_rfl) (by kernel_rfl) (by kernel_rfl) (fun _ _ _ h => h) (by kernel_rfl) (fun w' _ => by go_simp) hS0 ?_
      simp only [Act.put, List.setIfInBounds_toArray, List.set_cons_zero, List.set_cons_succ]
      refine takeK (i := 1) (.int .i64 (d : Int)) (some 69) rfl (by kernel_rfl) (by kernel_rfl) (by kernel_rfl) (by kernel_rfl) (fun _ _ _ h => h) (by kernel_rfl) (fun w' _ => by go_simp) hS0 ?_
      simp only [Act.put, List.setIfInBounds_toArray, List.set_cons_zero, List.set_cons_succ]
      refine takeK (i := 2) (.pointer (some ⟨X, 0, none⟩)) (some 70) rfl (by kernel_rfl) (by kernel_rfl) (by kernel_rfl) (by kernel_rfl) (fun _ _ _ h => h) (by kernel_rfl) (fun w' _ => by go_simp) hS0 ?_
      simp only [Act.put, List.setIfInBounds_toArray, List.set_cons_zero, List.set_cons_succ]
      refine takeK (i := 3) (.pointer (some ⟨X, 0, none⟩)) (some 71) rfl (by kernel_rfl) (by kernel_rfl) (by kernel_rfl) (by kernel_rfl) (fun _ _ _ h => h) (by kernel_rfl) (fun w' _ => by go_simp) hS0 ?_
      simp only [Act.put, List.setIfInBounds_toArray, List.set_cons_zero, List.set_cons_succ]
      refine takeK (i := 4) (.pointer (some ⟨X, d, none⟩)) (some 72) rfl (by kernel_rfl) (by kernel_rfl) (by kernel_rfl) (by kernel_rfl) (fun _ _ _ h => h) (by kernel_rfl) (fun w' _ => by go_simp) hS0 ?_
      simp only [Act.put, List.setIfInBounds_toArray, List.set_cons_zero, List.set_cons_succ]
      refine takeK (i := 5) (V) (some 73) rfl (by kernel_rfl) (by kernel_rfl) (by kernel_rfl) (by kernel_rfl) (fun _ _ _ h => h) (by kernel_rfl) (fun w' h => by have := CD.out w' h; go_simp) hS0 ?_
      simp only [Act.put, List.setIfInBounds_toArray, List.set_cons_zero, List.set_cons_succ]
      refine takeK (i := 6) (.agg C) (some 74) rfl (by kernel_rfl) (by kernel_rfl) (by kernel_rfl) (by kernel_rfl) (fun _ _ _ h => h) (by kernel_rfl) (fun w' h => ex_load 42 (.tmp 5) rfl w.heap.size 0 (by kernel_rfl) C _ (PX.out w' h) Tryz.underlying42 rfl (by rw [SC.out]; exact sz_hash)) hS0 ?_
      simp only [Act.put, List.setIfInBounds_toArray, List.set_cons_zero, List.set_cons_succ]
      refine takeK (i := 7) (.int .i64 n) (some 75) rfl (by kernel_rfl) (by kernel_rfl) (by kernel_rfl) (by kernel_rfl) (fun _ _ _ h => h) (by kernel_rfl) (fun w' _ => by go_simp) hS0 ?_
      simp only [Act.put, List.setIfInBounds_toArray, List.set_cons_zero, List.set_cons_succ]
      refine takeK (i := 8) (.int .i64 (k : Int)) (some 76) rfl (by kernel_rfl) (by kernel_rfl) (by kernel_rfl) (by kernel_rfl) (fun _ _ _ h => h) (by kernel_rfl) (fun w' _ => by go_simp) hS0 ?_
      simp only [Act.put, List.setIfInBounds_toArray, List.set_cons_zero, List.set_cons_succ]
      refine takeK (i := 9) (.int .i64 ((k + 1 : Nat) : Int)) (some 77) rfl (by kernel_rfl) (by kernel_rfl) (by kernel_rfl) (by kernel_rfl) (fun _ _ _ h => h) (by kernel_rfl) (fun w' _ => by go_simp) hS0 ?_
      simp only [Act.put, List.setIfInBounds_toArray, List.set_cons_zero, List.set_cons_succ]
      have hput := HIH.out w2.drew (kids d) (p ++ [d]) h n (by rw [List.length_append, HP.out]; rfl) ((AX.out.2 d D16.out).keep (fun _ _ => rfl)) (HM.out.sep.1 d D16.out).2 (HM.out.ok.2 d D16.out) HL.out HPRE.out HN.out
      rw [← HC.out, ← show V = _ from HV.out] at hput
      refine callK (i := 10) 24 #[V, .agg C, .int .i64 n, .int .i64 ((k + 1 : Nat) : Int)] (some 78) rfl (by kernel_rfl) (by kernel_rfl) (by kernel_rfl) (by kernel_rfl) hput ?_
      clear hput
      rintro e w5 ⟨t', f, rfl, a5, s5, pt5, m5, st5, ty5⟩
      obtain ⟨kb, hkb⟩ : ∃ kb, t'.ptr = some kb := by
        rcases hh : t'.ptr with _ | kb
        · exact absurd hh pt5.nn
        · exact ⟨kb, rfl⟩
      have s25 : TStay (Rx.mem (kids d)) w2 w5 := hS0.trans st5 (fun _ _ h => h)
      refine ⟨.tuple #[.pointer (some ⟨kb, 0, none⟩), .bool f], by rw [hkb]; rfl, s25, fun hS5 => ?_⟩
      have A5 := Lib.hid a5
      have S5 := Lib.hid s5
      have PT5 := Lib.hid pt5
      have M5 : Hid (∀ x, Rx.mem t' x → Rx.mem (kids d) x ∨ w2.heap.size ≤ x) := Lib.hid m5
      have S25 := Lib.hid s25
      have HKB := Lib.hid hkb
      have TY5 : Hid (∀ x, Rx.mem (kids d) x → ∃ cs, w5.heap[x]? = some (.cells cs 85 (0, 0))) := Lib.hid ty5
      clear a5 s5 pt5 m5 st5 ty5 s25 hkb hS0
      simp only [Act.put, List.setIfInBounds_toArray, List.set_cons_zero, List.set_cons_succ]
      refine takeK (i := 11) (.tuple #[.pointer (some ⟨kb, 0, none⟩), .bool f]) (some 67) rfl (by kernel_rfl) (by kernel_rfl) (by kernel_rfl) (by kernel_rfl) (fun _ _ _ h => h) (by kernel_rfl) (fun w' _ => by kernel_rfl) hS5 ?_
      simp only [Act.put, List.setIfInBounds_toArray, List.set_cons_zero, List.set_cons_succ]
      refine takeK (i := 12) (.pointer (some ⟨kb, 0, none⟩)) (some 79) rfl (by kernel_rfl) (by kernel_rfl) (by kernel_rfl) (by kernel_rfl) (fun _ _ _ h => h) (by kernel_rfl) (fun w' _ => by go_simp) hS5 ?_
      simp only [Act.put, List.setIfInBounds_toArray, List.set_cons_zero, List.set_cons_succ]
      refine takeK (i := 13) (.bool f) (some 80) rfl (by kernel_rfl) (by kernel_rfl) (by kernel_rfl) (by kernel_rfl) (fun _ _ _ h => h) (by kernel_rfl) (fun w' _ => by go_simp) hS5 ?_
      simp only [Act.put, List.setIfInBounds_toArray, List.set_cons_zero, List.set_cons_succ]
      refine takeK (i := 14) (.pointer (some ⟨kb, 0, none⟩)) (some 12) rfl (by kernel_rfl) (by kernel_rfl) (by kernel_rfl) (by kernel_rfl) (fun _ _ _ h => h) (by kernel_rfl) (fun w' _ => by kernel_rfl) hS5 ?_
      simp only [Act.put, List.setIfInBounds_toArray, List.set_cons_zero, List.set_cons_succ]
      refine takeK (i := 15) (.bool f) (some 13) rfl (by kernel_rfl) (by kernel_rfl) (by kernel_rfl) (by kernel_rfl) (fun _ _ _ h => h) (by kernel_rfl) (fun w' _ => by kernel_rfl) hS5 ?_
      simp only [Act.put, List.setIfInBounds_toArray, List.set_cons_zero, List.set_cons_succ]
      refine wpAnyH_done (by kernel_rfl) ?_ _
      have X5 := Lib.hid (CX.out w5 S25.out)
      have cd := CD.out w5 S25.out
      have c50 := A5.out.saved PT5.out.ok HKB.out
      have KT : Hid (∀ c, (kids d).ptr = some c → ∃ cs, w5.heap[c]? = some (.cells cs 85 (0, 0))) := Lib.hid (fun c hc => TY5.out c (ptr_mem hc))
      have hnq := neq_node (w := w5) (b := kb) (q := (kids d).ptr) (A5.out.ty kb (ptr_mem HKB.out)) KT.out
      rw [← show V = _ from HV.out] at hnq
      obtain ⟨bq, hbq⟩ : ∃ bq, bq = decide (some kb ≠ (kids d).ptr) := ⟨_, rfl⟩
      rw [← hbq] at hnq
      have HBQ := Lib.hid hbq
      obtain ⟨sv, hsv⟩ : ∃ sv, sv = t'.saved := ⟨_, rfl⟩
      rw [← hsv] at c50
      have HSV := Lib.hid hsv
      clear hS5 hbq hsv
      have fd := blk_free X5.out d
      have TYA : Hid (∀ x, Rx.mem t x → x = X ∨ ∃ cs, w5.heap[x]? = some (.cells cs 85 (0, 0))) := Lib.hid (fun x hx => by
        rcases HM.out.sub x hx with rfl | ⟨i, hi, hm⟩
        · exact .inl rfl
        · by_cases e : i = d
          · subst e; exact .inr (TY5.out x hm)
          · obtain ⟨cs, hc⟩ := (AX.out.2 i hi).ty x hm
            exact .inr ⟨cs, (S25.out.block x (lt_of_block hc) (HM.out.sep.2 i d hi D16.out e x hm)).trans hc⟩)
      have FIN : Hid (∀ (wx : World) (s' : Int), s' = (if t'.ptr ≠ (kids d).ptr ∨ t'.saved = 0 then 0 else s) → wx.heap[X]? = some (.cells (nodeC (kidV (Rx.upd kids d t')) false Wi.z32 0 s') 85 (0, 0)) → TStay (fun j => j = X) w5 wx →
          PutAft w p h n t (.returned (.tuple #[.pointer (some ⟨X, 0, none⟩), .bool f])) wx) := Lib.hid (fun wx s' hs' hh hst => by
        have hd := HD.out
        have hNX : ∀ x, Rx.mem t' x → x ≠ X := fun x hx e => by
          subst e
          rcases M5.out x hx with h | h
          · exact NX.out h
          · have := blk_lt AX.out.1; omega
        have hp5 := PT5.out
        have hkx : ∀ i, i < 16 → ∀ x, Rx.mem (kids i) x → x ≠ X := fun i hi x hx e => by subst e; exact (HM.out.sep.1 i hi).1 hx
        have hsz2 : w.heap.size ≤ w2.heap.size := ST2.out.size
        refine ⟨.inner X (Rx.upd kids d t') s', f, rfl, ⟨hh, fun i hi => ?_⟩, Rx.sep_upd X kids s s' d t' w2.heap.size HM.out.sep D16.out S5.out M5.out (fun x hx => AX.out.lt x hx), ?_, fun x hx => ?_, ?_, fun x hx => ?_⟩
        · by_cases e : i = d
          · subst e; rw [Rx.upd_same]; exact A5.out.stay hst (fun x hx => hNX x hx)
          · rw [Rx.upd_ne _ _ e]
            refine ((AX.out.2 i hi).stay S25.out (fun x hx => HM.out.sep.2 i d hi D16.out e x hx)).stay hst (fun x hx => hkx i hi x hx)
        · rw [hd] at hs' hp5 ⊢
          exact HM.out.fin t' f s' hp5 hs'
        · rcases Rx.mem_upd X kids s s' d t' D16.out w2.heap.size M5.out x hx with h | h
          · exact HM.out.mem x h
          · exact .inr (by omega)
        · refine (ST2.out.trans S25.out (fun i hi hm => ?_)).trans hst (fun i hi e => ?_)
          · rcases HM.out.mem i (.inr ⟨d, D16.out, hm⟩) with h | h
            · exact h
            · omega
          · subst e
            rcases HM.out.mem i (.inl rfl) with h | h
            · exact h
            · omega
        · rcases TYA.out x hx with rfl | ⟨cs, hc⟩
          · exact ⟨_, hh⟩
          · by_cases e : x = X
            · subst e; exact ⟨_, hh⟩
            · exact ⟨cs, (hst.block x (lt_of_block hc) e).trans hc⟩)
      obtain ⟨w6, hw6⟩ : ∃ w6, w6 = w5.setCell ⟨X, d, none⟩ (.pointer (some ⟨kb, 0, none⟩)) := ⟨_, rfl⟩
      have h6 : w6.heap[X]? = some (.cells (nodeC (kidV (Rx.upd kids d t')) false Wi.z32 0 s) 85 (0, 0)) := by
        rw [hw6, heap_setCell_same w5 X d _ _ (.pointer (some ⟨kb, 0, none⟩)) X5.out, nodeC_setKid D16.out]
        congr 2
        congr 1
        funext j
        unfold kidV Rx.upd
        split
        · rw [HKB.out]; rfl
        · rfl
      have S6 : Hid (TStay (fun j => j = X) w5 w6) := Lib.hid (by rw [hw6]; exact (TStay.refl (fun j => j = X) w5).setCell (p := ⟨X, d, none⟩) (.inl rfl) _)
      have c6 : (w5.setCell ⟨X, d, none⟩ (.pointer (some ⟨kb, 0, none⟩))).cell? ⟨X, 50, none⟩ = some (.int .i64 s) := by rw [← hw6]; exact blk_cell (i := 50) h6 (nodeC_s z32_len)
      have f6 : (w5.setCell ⟨X, d, none⟩ (.pointer (some ⟨kb, 0, none⟩))).frozen? ⟨X, 50, none⟩ = false := by rw [← hw6]; exact blk_free h6 50
      have H7 : Hid (((w5.setCell ⟨X, d, none⟩ (.pointer (some ⟨kb, 0, none⟩))).setCell ⟨X, 50, none⟩ (.int .i64 0)).heap[X]? = some (.cells (nodeC (kidV (Rx.upd kids d t')) false Wi.z32 0 0) 85 (0, 0))) := Lib.hid (by
        rw [← hw6, heap_setCell_same w6 X 50 _ _ (.int .i64 0) h6, nodeC_setS z32_len])
      have S7 : Hid (TStay (fun j => j = X) w5 ((w5.setCell ⟨X, d, none⟩ (.pointer (some ⟨kb, 0, none⟩))).setCell ⟨X, 50, none⟩ (.int .i64 0))) := Lib.hid (by
        rw [← hw6]; exact S6.out.setCell (p := ⟨X, 50, none⟩) (.inl rfl) _)
      clear hw6 h6 S6
      cases bq
      · have heq : some kb = (kids d).ptr := by have := of_decide_eq_false HBQ.out.symm; exact Decidable.not_not.1 this
        have HEQ := Lib.hid heq
        clear heq
        by_cases hs0 : sv = 0
        · subst hs0
          go_wp2
          go_ret2
          exact FIN.out _ 0 (by rw [if_pos (.inr HSV.out.symm)]) H7.out S7.out
        · have q0 : (sv == 0) = false := by simp [hs0]
          have HS0 := Lib.hid hs0
          clear hs0
          go_wp2
          go_ret2
          have hsame : t' = kids d := PT5.out.same (by rw [HKB.out]; exact HEQ.out) (by rw [← show sv = _ from HSV.out]; exact HS0.out)
          exact FIN.out _ s (by rw [if_neg]; rintro (h | h); exact h (by rw [HKB.out]; exact HEQ.out); exact HS0.out (by rw [HSV.out]; exact h)) (by rw [hsame, Rx.upd_id]; exact X5.out) (TStay.refl _ _)
      · have hneq : some kb ≠ (kids d).ptr := of_decide_eq_true HBQ.out.symm
        have HNEQ := Lib.hid hneq
        clear hneq
        go_wp2
        go_ret2
        exact FIN.out _ 0 (by rw [if_pos (.inl (by rw [HKB.out]; exact HNEQ.out))]) H7.out S7.out
theorem put_all : ∀ m, PutOK (64 - m)
  | 0 => put_step 64 (Nat.le_refl _) (fun h => absurd h (by omega))
  | m + 1 => by
    by_cases h : m < 64
    · have := put_step (64 - (m + 1)) (by omega) (fun _ => by rw [show 64 - (m + 1) + 1 = 64 - m by omega]; exact put_all m)
      exact this
    · rw [show 64 - (m + 1) = 64 - m by omega]; exact put_all m
theorem rput_any : PutOK 0 := put_all 64
end Go.Proofs.YthampbiabkfmoaaGreatDoor
/- radix.Tree: New, Put, Count, Get. -/
namespace Go.Proofs.YthampbiabkfmoaaGreatDoor
open Go.RowKit Go.Tap
set_option linter.unusedVariables false
set_option linter.unusedSimpArgs false
/-- A tree that lies above lo, its top in block TB. -/
structure TreeAt (w : World) (lo TB : Nat) (t : Rx.T) : Prop where
  top : w.heap[TB]? = some (.cells #[ptrV t.ptr, .int .i64 (Rx.cnt t : Int)] 59 (0, 0))
  at_ : At w t
  sep : Rx.sep t
  ok : Rx.ok t []
  lo_ : lo ≤ TB
  mem : ∀ x, Rx.mem t x → lo ≤ x
theorem TreeAt.below {w w' : World} {lo TB : Nat} {t : Rx.T} (h : TreeAt w lo TB t) (hb : Below w.heap.size w w') : TreeAt w' lo TB t :=
  ⟨(hb.block _ (blk_lt h.top)).trans h.top, h.at_.below hb, h.sep, h.ok, h.lo_, h.mem⟩
theorem TreeAt.keep {S : Nat → Prop} {w w' : World} {lo TB : Nat} {t : Rx.T} (h : TreeAt w lo TB t) (hs : TStay S w w') (hd : ∀ x, lo ≤ x → ¬ S x) : TreeAt w' lo TB t :=
  ⟨(hs.block _ (blk_lt h.top) (hd _ h.lo_)).trans h.top, h.at_.stay hs (fun x hx => hd x (h.mem x hx)), h.sep, h.ok, h.lo_, h.mem⟩
theorem TreeAt.drew {w : World} {lo TB : Nat} {t : Rx.T} (h : TreeAt w lo TB t) : TreeAt w.drew lo TB t := h.below (bel_drw w)
theorem TreeAt.not {w : World} {lo TB : Nat} {t : Rx.T} (h : TreeAt w lo TB t) : ¬ Rx.mem t TB := fun hm => by
  obtain ⟨cs, hc⟩ := h.at_.ty TB hm
  rw [h.top] at hc
  simp at hc
theorem bt_tree0 : Tryz.prog.built 59 [] = some #[.pointer none, .int .i64 0] := by kernel_rfl
set_option maxHeartbeats 400000 in
theorem rnew_any (w : World) : Calls Tryz.prog 5 #[] w fun e w' => e = .returned (.pointer (some ⟨w.heap.size, 0, none⟩)) ∧ TreeAt w' w.heap.size w.heap.size .nil ∧ Below w.heap.size w w' := by
  go_enter Tryz.func5, Tryz.ntmps5
  go_wp2
  go_ret
  exact ⟨rfl, ⟨heap_alloc_new _ _, trivial, trivial, trivial, Nat.le_refl _, fun x hx => hx.elim⟩, (Below.refl _ _).alloc (Nat.le_refl _) _⟩
set_option maxHeartbeats 400000 in
theorem rcount_any (w : World) (lo TB : Nat) (t : Rx.T) (h : TreeAt w lo TB t) : Calls Tryz.prog 23 #[.pointer (some ⟨TB, 0, none⟩)] w fun e w' => e = .returned (.int .i64 (Rx.cnt t : Int)) ∧ w = w' := by
  have c1 : w.cell? ⟨TB, 1, none⟩ = some (.int .i64 (Rx.cnt t : Int)) := blk_cell (i := 1) h.top rfl
  clear h
  go_enter Tryz.func23, Tryz.ntmps23
  go_wp2
  go_ret
  exact ⟨rfl, rfl⟩
set_option maxHeartbeats 400000 in
theorem rPut_neg (w : World) (TB : Nat) (h : List UInt8) (n : Int) (hn : n < 0) : Calls Tryz.prog 10 #[.pointer (some ⟨TB, 0, none⟩), .agg (hashC h), .int .i64 n] w fun e w' => e = .returned (.bool false) ∧ Below w.heap.size w w' := by
  obtain ⟨C, hC⟩ : ∃ C, C = hashC h := ⟨_, rfl⟩
  rw [← hC]
  have d0 : decide (n < 0) = true := decide_eq_true hn
  have B1 : Hid (Below w.heap.size w (w.alloc (.cells C 42))) := Lib.hid ((Below.refl _ _).alloc (Nat.le_refl _) _)
  clear hC
  go_enter Tryz.func10, Tryz.ntmps10
  go_wp2
  go_ret
  exact ⟨rfl, B1.out⟩
/-- What Put leaves. -/
def PutT (w : World) (lo TB : Nat) (h : List UInt8) (n : Int) (t : Rx.T) (w' : World) : Prop :=
  ∃ t' f, TreeAt w' lo TB t' ∧ Rx.Puts [] h n t t' f ∧ TStay (fun x => x = TB ∨ Rx.mem t x) w w'
set_option maxHeartbeats 4000000 in
set_option maxRecDepth 100000 in
theorem rPut_any (w : World) (lo TB : Nat) (t : Rx.T) (hT : TreeAt w lo TB t) (h : List UInt8) (n : Int) (hl : h.length = 32) (hn : 0 ≤ n ∧ n ≤ 9223372036854775807) (hc : Rx.cnt t ≤ 1000000) (hlo : lo ≤ w.heap.size) :
    Calls Tryz.prog 10 #[.pointer (some ⟨TB, 0, none⟩), .agg (hashC h), .int .i64 n] w fun e w' => e = .returned (.bool true) ∧ PutT w lo TB h n t w' := by
  obtain ⟨C, hC⟩ : ∃ C, C = hashC h := ⟨_, rfl⟩
  have SC : Hid (C.size = 32) := Lib.hid (by rw [hC]; exact hashC_size h hl)
  obtain ⟨W1, hW1⟩ : ∃ W1, W1 = w.alloc (.cells C 42) := ⟨_, rfl⟩
  have b1 : Below w.heap.size w W1 := by rw [hW1]; exact (Below.refl _ _).alloc (Nat.le_refl _) _
  have BX : Hid (W1.heap[w.heap.size]? = some (.cells C 42 (0, 0))) := Lib.hid (by rw [hW1]; exact heap_alloc_new _ _)
  have T1 := Lib.hid (hT.below b1)
  have B1 := Lib.hid b1
  have d0 : decide (n < 0) = false := decide_eq_false (by omega)
  obtain ⟨V, hV⟩ : ∃ V, V = ptrV t.ptr := ⟨_, rfl⟩
  have CT : Hid (∀ w', TStay (Rx.mem t) W1 w' → w'.heap[TB]? = some (.cells #[V, .int .i64 (Rx.cnt t : Int)] 59 (0, 0))) := Lib.hid (fun w' hs => by
    rw [hV]; exact (hs.block TB (blk_lt T1.out.top) T1.out.not).trans T1.out.top)
  have PX : Hid (∀ w', TStay (fun x => x = TB ∨ Rx.mem t x) W1 w' → Part w' w.heap.size 0 C) := Lib.hid (fun w' hs => Part.of_blk ((hs.block _ (blk_lt BX.out) (fun hm => by
    rcases hm with rfl | hm
    · have := T1.out.top; rw [BX.out] at this; simp at this
    obtain ⟨cs, hc⟩ := T1.out.at_.ty _ hm
    rw [BX.out] at hc
    simp at hc)).trans BX.out))
  have hput : Calls Tryz.prog 24 #[V, .agg C, .int .i64 n, .int .i64 0] W1.drew (PutAft W1.drew [] h n t) := by
    rw [hV, hC]
    exact rput_any W1.drew t [] h n rfl (T1.out.at_.keep (fun _ _ => rfl)) T1.out.sep T1.out.ok hl (Rx.pre_nil h) hn
  have HPUT := Lib.hid hput
  have HCN := Lib.hid hc
  have HLO := Lib.hid hlo
  rw [← hC]
  clear hC b1 hput hV hc hlo hl hT
  go_enter Tryz.func10, Tryz.ntmps10
  go_upto_region 1 with (fail)
  rw [← hW1]
  clear hW1
  go_upto_region 4 with (fail)
  refine wp_region_held_drew (S := fun w' => TStay (fun x => x = TB ∨ Rx.mem t x) W1 w') (by kernel_rfl) ((TStay.refl _ _).drew _) (fun hS0 => ?_)
  have HS : Hid (TStay (Rx.mem t) W1 W1.drew) := Lib.hid ((TStay.refl _ _).drew _)
  refine takeK (i := 0) (.pointer (some ⟨TB, 0, none⟩)) (some 11) rfl (by kernel_rfl) (by kernel_rfl) (by kernel_rfl) (by kernel_rfl) (fun _ _ _ h => h) (by kernel_rfl) (fun w' _ => by go_simp) hS0 ?_
  simp only [Act.put, List.setIfInBounds_toArray, List.set_cons_zero, List.set_cons_succ]
  refine takeK (i := 1) (.pointer (some ⟨TB, 0, none⟩)) (some 12) rfl (by kernel_rfl) (by kernel_rfl) (by kernel_rfl) (by kernel_rfl) (fun _ _ _ h => h) (by kernel_rfl) (fun w' _ => by go_simp) hS0 ?_
  simp only [Act.put, List.setIfInBounds_toArray, List.set_cons_zero, List.set_cons_succ]
  refine takeK (i := 2) (.pointer (some ⟨TB, 0, none⟩)) (some 13) rfl (by kernel_rfl) (by kernel_rfl) (by kernel_rfl) (by kernel_rfl) (fun _ _ _ h => h) (by kernel_rfl) (fun w' _ => by go_simp) hS0 ?_
  simp only [Act.put, List.setIfInBounds_toArray, List.set_cons_zero, List.set_cons_succ]
  refine takeK (i := 3) (.pointer (some ⟨TB, 0, none⟩)) (some 14) rfl (by kernel_rfl) (by kernel_rfl) (by kernel_rfl) (by kernel_rfl) (fun _ _ _ h => h) (by kernel_rfl) (fun w' _ => by go_simp) hS0 ?_
  simp only [Act.put, List.setIfInBounds_toArray, List.set_cons_zero, List.set_cons_succ]
  refine takeK (i := 5) (.agg C) (some 16) rfl (by kernel_rfl) (by kernel_rfl) (by kernel_rfl) (by kernel_rfl) (fun _ _ _ h => h) (by kernel_rfl) (fun w' h' => ex_load 42 (.tmp 4) rfl w.heap.size 0 (by kernel_rfl) C _ (PX.out w' h') Tryz.underlying42 rfl (by rw [SC.out]; exact sz_hash)) hS0 ?_
  simp only [Act.put, List.setIfInBounds_toArray, List.set_cons_zero, List.set_cons_succ]
  refine takeK (i := 6) (.int .i64 n) (some 17) rfl (by kernel_rfl) (by kernel_rfl) (by kernel_rfl) (by kernel_rfl) (fun _ _ _ h => h) (by kernel_rfl) (fun w' _ => by go_simp) hS0 ?_
  simp only [Act.put, List.setIfInBounds_toArray, List.set_cons_zero, List.set_cons_succ]
  have ct0 := blk_cell (i := 0) (CT.out _ HS.out) rfl
  refine wpAnyH_ready (rs := [4]) (by kernel_rfl) (by simp) ?_
  refine AllReadyH.cons rfl (fun K hK => ?_) AllReadyH.nil
  rw [if_pos (by kernel_rfl)]
  go_simp
  refine hK.out _ _ hS0 (fun hS0 => ?_)
  clear hK K ct0
  refine callK (i := 7) 24 #[V, .agg C, .int .i64 n, .int .i64 0] (some 18) rfl (by kernel_rfl) (by kernel_rfl) (by kernel_rfl) (by kernel_rfl) HPUT.out ?_
  clear HPUT
  rintro e w5 ⟨t', f, rfl, a5, s5, pt5, m5, st5, ty5⟩
  have s15 : TStay (Rx.mem t) W1 w5 := HS.out.trans st5 (fun _ _ h => h)
  obtain ⟨kb, hkb⟩ : ∃ kb, t'.ptr = some kb := by
    rcases hh : t'.ptr with _ | kb
    · exact absurd hh pt5.nn
    · exact ⟨kb, rfl⟩
  refine ⟨.tuple #[.pointer (some ⟨kb, 0, none⟩), .bool f], by rw [hkb]; rfl, s15.mono (fun _ _ h => .inr h), fun hS5 => ?_⟩
  have A5 := Lib.hid a5
  have S5 := Lib.hid s5
  have PT5 := Lib.hid pt5
  have M5 : Hid (∀ x, Rx.mem t' x → Rx.mem t x ∨ W1.heap.size ≤ x) := Lib.hid m5
  have S15 := Lib.hid s15
  have HKB := Lib.hid hkb
  clear a5 s5 pt5 m5 st5 ty5 s15 hS0 hkb
  simp only [Act.put, List.setIfInBounds_toArray, List.set_cons_zero, List.set_cons_succ]
  refine takeK (i := 8) (.tuple #[.pointer (some ⟨kb, 0, none⟩), .bool f]) (some 10) rfl (by kernel_rfl) (by kernel_rfl) (by kernel_rfl) (by kernel_rfl) (fun _ _ _ h => h) (by kernel_rfl) (fun w' _ => by kernel_rfl) hS5 ?_
  simp only [Act.put, List.setIfInBounds_toArray, List.set_cons_zero, List.set_cons_succ]
  refine takeK (i := 9) (.pointer (some ⟨kb, 0, none⟩)) (some 19) rfl (by kernel_rfl) (by kernel_rfl) (by kernel_rfl) (by kernel_rfl) (fun _ _ _ h => h) (by kernel_rfl) (fun w' _ => by go_simp) hS5 ?_
  simp only [Act.put, List.setIfInBounds_toArray, List.set_cons_zero, List.set_cons_succ]
  refine takeK (i := 10) (.bool f) (some 20) rfl (by kernel_rfl) (by kernel_rfl) (by kernel_rfl) (by kernel_rfl) (fun _ _ _ h => h) (by kernel_rfl) (fun w' _ => by go_simp) hS5 ?_
  simp only [Act.put, List.setIfInBounds_toArray, List.set_cons_zero, List.set_cons_succ]
  refine takeK (i := 11) (.pointer (some ⟨TB, 0, none⟩)) (some 21) rfl (by kernel_rfl) (by kernel_rfl) (by kernel_rfl) (by kernel_rfl) (fun _ _ _ h => h) (by kernel_rfl) (fun w' _ => by go_simp) hS5 ?_
  simp only [Act.put, List.setIfInBounds_toArray, List.set_cons_zero, List.set_cons_succ]
  refine takeK (i := 12) (.pointer (some ⟨TB, 0, none⟩)) (some 22) rfl (by kernel_rfl) (by kernel_rfl) (by kernel_rfl) (by kernel_rfl) (fun _ _ _ h => h) (by kernel_rfl) (fun w' _ => by go_simp) hS5 ?_
  simp only [Act.put, List.setIfInBounds_toArray, List.set_cons_zero, List.set_cons_succ]
  have X5 := Lib.hid (CT.out w5 S15.out)
  have cx := blk_cell (i := 0) X5.out rfl
  have fx := blk_free X5.out 0
  have HT' : Hid (∀ (wx : World) (c : Int), c = (Rx.cnt t' : Int) → wx.heap[TB]? = some (.cells #[.pointer (some ⟨kb, 0, none⟩), .int .i64 c] 59 (0, 0)) → TStay (fun x => x = TB) w5 wx → PutT w lo TB h n t wx) := Lib.hid (fun wx c hc hh hs => by
    have hnt : ¬ Rx.mem t' TB := fun hm => by
      rcases M5.out TB hm with h | h
      · exact T1.out.not h
      · have := blk_lt T1.out.top; omega
    refine ⟨t', f, ⟨by rw [HKB.out, ← hc]; exact hh, A5.out.stay hs (fun x hx e => hnt (by rw [← e]; exact hx)), S5.out, PT5.out.ok, T1.out.lo_, fun x hx => ?_⟩, PT5.out, ?_⟩
    · rcases M5.out x hx with h | h
      · exact T1.out.mem x h
      · have := B1.out.size; have := HLO.out; omega
    · exact (((TStay.of_below B1.out (fun x => x = TB ∨ Rx.mem t x)).trans S15.out (fun i hi h => .inr h)).trans hs (fun i hi h => .inl h)))
  obtain ⟨w6, hw6⟩ : ∃ w6, w6 = w5.setCell ⟨TB, 0, none⟩ (.pointer (some ⟨kb, 0, none⟩)) := ⟨_, rfl⟩
  have h6 : Hid (w6.heap[TB]? = some (.cells #[.pointer (some ⟨kb, 0, none⟩), .int .i64 (Rx.cnt t : Int)] 59 (0, 0))) := Lib.hid (by rw [hw6]; exact heap_setCell_same w5 TB 0 _ _ _ X5.out)
  have S6 : TStay (fun x => x = TB) w5 w6 := by rw [hw6]; exact (TStay.refl (fun x => x = TB) w5).setCell (p := ⟨TB, 0, none⟩) (.inl rfl) _
  have S16 : TStay (fun x => x = TB ∨ Rx.mem t x) W1 w6 := hS5.trans S6 (fun _ _ h => .inl h)
  have S6H := Lib.hid S6
  refine wpAnyH_ready (rs := [13]) (by kernel_rfl) (by simp) ?_
  refine AllReadyH.cons rfl (fun K hK => ?_) AllReadyH.nil
  rw [if_pos (by kernel_rfl)]
  go_simp
  rw [← hw6]
  refine hK.out _ _ S16 (fun hS6 => ?_)
  clear hK K hS5 S6 S16 hw6 cx fx
  refine takeK (i := 14) (.bool f) (some 7) rfl (by kernel_rfl) (by kernel_rfl) (by kernel_rfl) (by kernel_rfl) (fun _ _ _ h => h) (by kernel_rfl) (fun w' _ => by kernel_rfl) hS6 ?_
  simp only [Act.put, List.setIfInBounds_toArray, List.set_cons_zero, List.set_cons_succ]
  refine wpAnyH_done (by kernel_rfl) ?_ _
  clear hS6
  have HCT : Hid (Rx.cnt t' = Rx.cnt t + if f = true then 1 else 0) := Lib.hid PT5.out.cnt
  have c61 := blk_cell (i := 1) h6.out rfl
  have f61 := blk_free h6.out 1
  cases f
  · go_wp2
    go_ret
    exact ⟨rfl, HT'.out w6 (Rx.cnt t : Int) (by rw [HCT.out]; rfl) h6.out S6H.out⟩
  · have hwc : IntKind.i64.wrap ((Rx.cnt t : Int) + 1) = (Rx.cnt t : Int) + 1 := by rw [wrapi' _ (by have := HCN.out; omega)]
    have H7 : Hid ((w6.setCell ⟨TB, 1, none⟩ (.int .i64 ((Rx.cnt t : Int) + 1))).heap[TB]? = some (.cells #[.pointer (some ⟨kb, 0, none⟩), .int .i64 ((Rx.cnt t : Int) + 1)] 59 (0, 0))) := Lib.hid (heap_setCell_same w6 TB 1 _ _ _ h6.out)
    have S7 : Hid (TStay (fun x => x = TB) w5 (w6.setCell ⟨TB, 1, none⟩ (.int .i64 ((Rx.cnt t : Int) + 1)))) := Lib.hid (S6H.out.setCell (p := ⟨TB, 1, none⟩) (.inl rfl) _)
    go_wp2
    go_ret
    exact ⟨rfl, HT'.out _ ((Rx.cnt t : Int) + 1) (by rw [HCT.out]; rfl) H7.out S7.out⟩
end Go.Proofs.YthampbiabkfmoaaGreatDoor
