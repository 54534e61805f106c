/- radix.Tree: Get. -/
import Derived.Test.YthampbiabkfmoaaGreatDoorRxPut
namespace Go.Proofs.YthampbiabkfmoaaGreatDoor
open Go.RowKit Go.Tap
set_option linter.unusedVariables false
set_option linter.unusedSimpArgs false
set_option maxHeartbeats 4000000 in
set_option maxRecDepth 100000 in
theorem rxGet_any (w : World) (lo TB : Nat) (t : Rx.T) (hT : TreeAt w lo TB t) (h : List UInt8) (hl : h.length = 32) :
    Calls Tryz.prog 28 #[.pointer (some ⟨TB, 0, none⟩), .agg (hashC h)] w fun e w' => e = .returned (.tuple #[.int .i64 ((Rx.has t h 0).getD 0), .bool (Rx.has t h 0).isSome]) ∧ Below w.heap.size w w' := by
  obtain ⟨C, hC⟩ : ∃ C, C = hashC h := ⟨_, rfl⟩
  have SC : Hid (C.size = 32) := Lib.hid (by rw [hC]; exact hashC_size h hl)
  obtain ⟨W1, hW1⟩ : ∃ W1, W1 = w.alloc (.cells C 42) := ⟨_, rfl⟩
  have b1 : Below w.heap.size w W1 := by rw [hW1]; exact (Below.refl _ _).alloc (Nat.le_refl _) _
  have BX : Hid (W1.heap[w.heap.size]? = some (.cells C 42 (0, 0))) := Lib.hid (by rw [hW1]; exact heap_alloc_new _ _)
  have T1 := Lib.hid (hT.below b1)
  have B1 := Lib.hid b1
  have HC := Lib.hid hC
  have HL := Lib.hid hl
  have ct := blk_cell (i := 0) T1.out.top rfl
  obtain ⟨r, hr⟩ : ∃ r, r = Rx.has t h 0 := ⟨_, rfl⟩
  rw [← hr, ← hC]
  have HR := Lib.hid hr
  clear hC b1 hr hl hT
  go_enter Tryz.func28, Tryz.ntmps28
  go_upto_region 1 with (fail)
  rw [← hW1]
  clear hW1
  go_wp2
  clear ct
  go_loopw [6, 7] (fun xv kv wr => ∃ (t' : Rx.T) (p : List Nat) (k : Nat), xv = ptrV t'.ptr ∧ kv = .int .i64 (k : Int) ∧ Hid (k = p.length) ∧ k ≤ 64 ∧ Hid (Rx.pre h p) ∧ Hid (Rx.ok t' p) ∧ Hid (Rx.has t' h k = r) ∧ Hid (At W1 t') ∧ Hid (Below W1.heap.size W1 wr)) (fun _ kv _ => 65 - (intOf kv).toNat)
  case atStart => exact ⟨t, [], 0, rfl, rfl, Lib.hid rfl, by omega, Lib.hid (Rx.pre_nil h), Lib.hid T1.out.ok, Lib.hid HR.out.symm, Lib.hid T1.out.at_, Lib.hid (Below.refl _ _)⟩
  case round =>
    obtain ⟨t', p, k, rfl, rfl, HP, hk, HPRE, HOK, HH, HA, BR⟩ := hrel
    clear HR T1
    cases t' with
    | nil =>
      have hr0 : r = none := by rw [← HH.out]; rfl
      subst hr0
      show Code.wp _ _ _ { tmps := #[_, _, _, _, _, _, .pointer none, _, _, _, _, _, _, _, _, _, _, _, _, _, _, _, _, _, _, _, _, _, _, _, _, _, _, _, _, _, _, _, _, _, _, _, _, _, _], defers := [] } _
      have BF : Hid (∀ q, Below w.heap.size w (wr.drewN q)) := Lib.hid (fun q => bel_drewN (B1.out.trans (BR.out.mono B1.out.size)) q)
      go_wp2_with fail
      go_quiet (fail)
      go_wp2
      go_ret2
      exact ⟨rfl, BF.out _⟩
    | leaf b hx n s =>
      have hA : At wr (.leaf b hx n s) := HA.out.below BR.out
      have c16 : wr.cell? ⟨b, 16, none⟩ = some (.bool true) := blk_cell (i := 16) hA nodeC_leaf
      have hxl : hx.length = 32 := HOK.out.1
      have P17 : Hid (Part wr b 17 (hashC hx)) := Lib.hid (part_of hA (nodeC_hash hxl))
      have PTX : Hid (Part wr w.heap.size 0 C) := Lib.hid (Part.of_blk ((BR.out.block _ (blk_lt BX.out)).trans BX.out))
      have HXL := Lib.hid hxl
      have HA2 := Lib.hid hA
      have BF : Hid (∀ q, Below w.heap.size w (wr.drewN q)) := Lib.hid (fun q => bel_drewN (B1.out.trans (BR.out.mono B1.out.size)) q)
      obtain ⟨eqb, heq⟩ : ∃ eqb, eqb = decide (hx = h) := ⟨_, rfl⟩
      have Q0 : Hid (∀ w, (binOp .neq 42 (.agg (hashC hx)) (.agg C)).run Tryz.prog w = .ok (.bool (!eqb)) w) := Lib.hid (fun w => by rw [HC.out, cmp_hash_ne hx h hxl HL.out, heq])
      have HE := Lib.hid heq
      clear hA hxl heq
      show Code.wp _ _ _ { tmps := #[_, _, _, _, _, _, .pointer (some ⟨b, 0, none⟩), _, _, _, _, _, _, _, _, _, _, _, _, _, _, _, _, _, _, _, _, _, _, _, _, _, _, _, _, _, _, _, _, _, _, _, _, _, _], defers := [] } _
      go_wp2_with fail
      refine wp_region_quiet_lit (by kernel_rfl) (by kernel_rfl) ?_
      repeat (go_big_quiet_step (fail))
      refine wpQuiet_load (by kernel_rfl) 42 (.tmp 36) rfl b 17 rfl (hashC hx) _ P17.out Tryz.underlying42 rfl (by rw [hashC_size _ HXL.out]; exact sz_hash) ?_
      simp only [Act.put, List.setIfInBounds_toArray, List.set_cons_zero, List.set_cons_succ]
      refine wpQuiet_load (by kernel_rfl) 42 (.tmp 3) rfl w.heap.size 0 rfl C _ PTX.out Tryz.underlying42 rfl (by rw [SC.out]; exact sz_hash) ?_
      simp only [Act.put, List.setIfInBounds_toArray, List.set_cons_zero, List.set_cons_succ]
      refine wpQuiet_cmp (by kernel_rfl) .neq 42 42 (.tmp 37) (.tmp 38) rfl (hashC hx) C rfl rfl gd_hash (!eqb) Q0.out ?_
      simp only [Act.put, List.setIfInBounds_toArray, List.set_cons_zero, List.set_cons_succ]
      repeat (go_big_quiet_step (fail))
      refine wpQuiet_nil ?_
      intro _ hw'
      obtain ⟨nq, hw2⟩ := hw'
      subst hw2
      cases eqb
      · have hr0 : r = none := by rw [← HH.out]; exact if_neg (of_decide_eq_false HE.out.symm)
        subst hr0
        go_wp2
        go_ret2
        exact ⟨rfl, BF.out _⟩
      · have hr0 : r = some n := by rw [← HH.out]; exact if_pos (of_decide_eq_true HE.out.symm)
        subst hr0
        have c49 : (wr.drewN nq).cell? ⟨b, 49, none⟩ = some (.int .i64 n) := blk_cell (w := wr) (i := 49) HA2.out (nodeC_n HXL.out)
        go_wp2
        go_ret2
        exact ⟨rfl, BF.out _⟩
    | inner b kids s =>
      have hA : At wr (.inner b kids s) := HA.out.below BR.out
      have c16 : wr.cell? ⟨b, 16, none⟩ = some (.bool false) := blk_cell (i := 16) hA.1 nodeC_leaf
      have hk64 : k < 64 := by have := HOK.out.1; have := HP.out; omega
      have HK64 := Lib.hid hk64
      have bxr : wr.heap[w.heap.size]? = some (.cells C 42 (0, 0)) := (BR.out.block _ (blk_lt BX.out)).trans BX.out
      have PX : Hid (∀ w', Below wr.heap.size wr w' → Part w' w.heap.size 0 C) := Lib.hid (fun w' h => Part.of_blk ((h.block _ (blk_lt bxr)).trans bxr))
      obtain ⟨d, hd⟩ : ∃ d, d = Rx.dig h k := ⟨_, rfl⟩
      have hd16 : d < 16 := by rw [hd]; exact Rx.dig_lt _ _
      have CK : Hid (∀ w', Below wr.heap.size wr w' → w'.cell? ⟨b, d, none⟩ = some (ptrV (kids d).ptr)) := Lib.hid (fun w' h => blk_cell (i := d) ((h.block _ (blk_lt hA.1)).trans hA.1) (by rw [nodeC_kid hd16]; rfl))
      have hdg := rdigit_any wr.drew h k HL.out hk64
      rw [← hd, ← HC.out] at hdg
      have HD := Lib.hid hd
      have D16 := Lib.hid hd16
      have HDG := Lib.hid hdg
      have hw := wrapi' ((k : Int) + 1) (by omega)
      clear hA bxr hd hdg hd16 hk64
      show Code.wp _ _ _ { tmps := #[_, _, _, _, _, _, .pointer (some ⟨b, 0, none⟩), _, _, _, _, _, _, _, _, _, _, _, _, _, _, _, _, _, _, _, _, _, _, _, _, _, _, _, _, _, _, _, _, _, _, _, _, _, _], defers := [] } _
      go_wp2_with fail
      refine wp_region_held_drew (S := fun w' => Below wr.heap.size wr w') (by kernel_rfl) (bel_drw wr) (fun hS0 => ?_)
      refine takeK (i := 0) (.pointer (some ⟨b, 0, none⟩)) (some 23) rfl (by kernel_rfl) (by kernel_rfl) (by kernel_rfl) (by kernel_rfl) (fun _ _ _ h => h) (by kernel_rfl) (fun w' _ => by go_simp) hS0 ?_
      simp only [Act.put, List.setIfInBounds_toArray, List.set_cons_zero, List.set_cons_succ]
      refine takeK (i := 1) (.agg C) (some 24) rfl (by kernel_rfl) (by kernel_rfl) (by kernel_rfl) (by kernel_rfl) (fun _ _ _ h => h) (by kernel_rfl) (fun w' h' => ex_load 42 (.tmp 3) rfl w.heap.size 0 (by kernel_rfl) C _ (PX.out w' h') Tryz.underlying42 rfl (by rw [SC.out]; exact sz_hash)) hS0 ?_
      simp only [Act.put, List.setIfInBounds_toArray, List.set_cons_zero, List.set_cons_succ]
      refine takeK (i := 2) (.int .i64 (k : Int)) (some 25) rfl (by kernel_rfl) (by kernel_rfl) (by kernel_rfl) (by kernel_rfl) (fun _ _ _ h => h) (by kernel_rfl) (fun w' _ => by go_simp) hS0 ?_
      simp only [Act.put, List.setIfInBounds_toArray, List.set_cons_zero, List.set_cons_succ]
      refine takeK (i := 4) (.pointer (some ⟨b, 0, none⟩)) (some 27) rfl (by kernel_rfl) (by kernel_rfl) (by kernel_rfl) (by kernel_rfl) (fun _ _ _ h => h) (by kernel_rfl) (fun w' _ => by go_simp) hS0 ?_
      simp only [Act.put, List.setIfInBounds_toArray, List.set_cons_zero, List.set_cons_succ]
      refine takeK (i := 5) (.pointer (some ⟨b, 0, none⟩)) (some 28) rfl (by kernel_rfl) (by kernel_rfl) (by kernel_rfl) (by kernel_rfl) (fun _ _ _ h => h) (by kernel_rfl) (fun w' _ => by go_simp) hS0 ?_
      simp only [Act.put, List.setIfInBounds_toArray, List.set_cons_zero, List.set_cons_succ]
      refine callK (i := 3) 42 #[.agg C, .int .i64 (k : Int)] (some 26) rfl (by kernel_rfl) (by kernel_rfl) (by kernel_rfl) (by kernel_rfl) HDG.out ?_
      clear HDG
      rintro e w2 ⟨rfl, b2⟩
      have B2 : Below wr.heap.size wr w2 := hS0.trans b2
      have B2H := Lib.hid B2
      refine ⟨_, rfl, B2, fun hS1 => ?_⟩
      clear B2 b2 hS0
      have i0 : (0 : Int) ≤ (d : Int) := by omega
      have i1 : (d : Int) < 16 := by have := D16.out; omega
      simp only [Act.put, List.setIfInBounds_toArray, List.set_cons_zero, List.set_cons_succ]
      refine takeK (i := 6) (.pointer (some ⟨b, d, none⟩)) (some 29) rfl (by kernel_rfl) (by kernel_rfl) (by kernel_rfl) (by kernel_rfl) (fun _ _ _ h => h) (by kernel_rfl) (fun w' _ => by go_simp) hS1 ?_
      simp only [Act.put, List.setIfInBounds_toArray, List.set_cons_zero, List.set_cons_succ]
      refine takeK (i := 7) (ptrV (kids d).ptr) (some 30) rfl (by kernel_rfl) (by kernel_rfl) (by kernel_rfl) (by kernel_rfl) (fun _ _ _ h => h) (by kernel_rfl) (fun w' h' => by have hh := CK.out w' h'; go_simp) hS1 ?_
      simp only [Act.put, List.setIfInBounds_toArray, List.set_cons_zero, List.set_cons_succ]
      refine takeK (i := 8) (ptrV (kids d).ptr) (some 6) rfl (by kernel_rfl) (by kernel_rfl) (by kernel_rfl) (by kernel_rfl) (fun _ _ _ h => h) (by kernel_rfl) (fun w' _ => by kernel_rfl) hS1 ?_
      simp only [Act.put, List.setIfInBounds_toArray, List.set_cons_zero, List.set_cons_succ]
      refine wpAnyH_done (by kernel_rfl) ?_ _
      clear hS1 i0 i1
      go_wp2
      go_roundw
      case rel =>
        refine ⟨kids d, p ++ [d], k + 1, rfl, by go_num, Lib.hid (by rw [List.length_append, ← HP.out]; rfl), by have := HK64.out; omega, Lib.hid (Rx.pre_snoc.2 ⟨HPRE.out, by rw [← HP.out]; exact HD.out.symm⟩), Lib.hid (HOK.out.2 d D16.out), Lib.hid ?_, Lib.hid (HA.out.2 d D16.out), Lib.hid (BR.out.trans (B2H.out.mono BR.out.size))⟩
        rw [← HH.out, HD.out]; rfl
      case measure => simp [intOf]; omega
end Go.Proofs.YthampbiabkfmoaaGreatDoor
/- (*node).list: what it answers. -/
namespace Go.Proofs.YthampbiabkfmoaaGreatDoor
open Go.RowKit Go.Tap
set_option linter.unusedVariables false
set_option linter.unusedSimpArgs false
theorem in_hash : (Tryz.prog.info? 42).map (fun i => (i.zero, i.size, i.bytes)) = some (some (.agg (hashC Wi.z32)), 32, 32) := by kernel_rfl
abbrev OwnH (w : World) (base : Nat) (v : Value) (l : List (List UInt8)) : Prop := w.ownsRow base 42 32 v l.length (flatC hashC l)
theorem hashC_one' (h : List UInt8) : ∀ v ∈ (hashC h).toList, v.oneCell' = true := by
  intro v hv
  exact bv_one h v (by simpa [hashC] using hv)
theorem wpL_appH (w : World) {ops : Array Oper} {rest : List Oper} {o : Oper} {a : Act} {Q : Exit → Act → World → Prop} (hgd : o.guard = none) (s x : Operand)
    (ho : o.op = .call { callee := .builtin .append, args := #[s, x], argTypes := #[35, 35] })
    (base : Nat) (v : Value) (l : List (List UInt8)) (hs : a.eval s = v) (hown : OwnH w base v l) (B : Nat) (i : List UInt8) (hi : i.length = 32) (hx : a.eval x = .slice (some ⟨B, 0, none⟩) 1 1) (hb : w.heap[B]? = some (.cells (hashC i) 42 (0, 0)))
    (hl : l.length ≤ 1000000) (hbase : base ≤ w.heap.size)
    (h : ∀ v' w', OwnH w' base v' (l ++ [i]) → w.grownBy w' v.ownBlock → wpList Tryz.prog ops Q rest (a.put o.dst v') w') : wpList Tryz.prog ops Q (o :: rest) a w := by
  obtain ⟨i0, hi0, hz0, hz1, hz2⟩ := info_parts in_hash
  refine wpList_append_one w hgd s x 35 ho base 42 i0 _ 32 32 Tryz.underlying35 hi0 hz0 hz1 hz2 (by decide) (by omega) v l.length (flatC hashC l) hs hown B 1 (hashC i) 42 hx hb (by rw [Array.length_toList, hashC_size i hi]) (hashC_one' i) (by omega) (by omega) hbase ?_
  intro v' w' h1 h2
  refine h v' w' ?_ h2
  have : OwnH w' base v' (l ++ [i]) := by
    show w'.ownsRow base _ _ v' (l ++ [i]).length (flatC hashC (l ++ [i]))
    rw [flatC_snoc, List.length_append]; exact h1
  exact this
def ListOK (t : Rx.T) : Prop := ∀ (w : World) (p : List Nat) (base : Nat) (v : Value) (l : List (List UInt8)) (s : List UInt8) (m : Nat), At w t → Rx.ok t p → (∀ x, Rx.mem t x → x < base) → OwnH w base v l → base ≤ w.heap.size → l.length ≤ 1000000 → m ≤ 1000000 → s.length ≤ 1000 →
  Calls Tryz.prog 51 #[ptrV t.ptr, v, .string (str s), .int .i64 (m : Int)] w fun e w' => ∃ v', e = .returned v' ∧ OwnH w' base v' (Rx.lst (fun h => Wi.beg h s) t m l) ∧ Below base w w'
set_option maxHeartbeats 1000000 in
set_option maxRecDepth 100000 in
theorem list_nil : ListOK .nil := by
  intro w p base v l s m _ _ _ hown _ _ _ _
  have HO := Lib.hid hown
  show Calls Tryz.prog 51 #[.pointer none, v, .string (str s), .int .i64 (m : Int)] w _
  clear hown
  go_enter Tryz.func51, Tryz.ntmps51
  go_wp2
  go_ret
  exact ⟨v, rfl, HO.out, Below.refl _ _⟩
theorem idx_kids (kids : Nat → Value) (k : Nat) (hk : k < 16) (w : World) : (Instr.index 83 (.agg (kidL kids).toArray) (.int .i64 (k : Int))).run Tryz.prog w = .ok (kids k) w :=
  run_idx 83 57 16 _ k _ Tryz.underlying83 hk (by simp [kidL, hk]) Tryz.isAgg57 Tryz.sizeOf57 w
theorem sz_kids (kids : Nat → Value) : (Tryz.prog.info? 83).map (·.size) = some (kidL kids).toArray.size := by
  have : (kidL kids).toArray.size = 16 := by simp [kidL_length]
  exact (show (Tryz.prog.info? 83).map (·.size) = some 16 by kernel_rfl).trans (by rw [this])
theorem nodeC_kids {kids : Nat → Value} {leaf : Bool} {h : List UInt8} {n s : Int} : (nodeC kids leaf h n s).extract 0 (0 + 16) = (kidL kids).toArray := by
  apply Array.ext'
  simp only [nodeC, nodeL, List.extract_toArray, List.extract_eq_take_drop]
  rw [List.drop_zero, List.take_left' (by rw [kidL_length])]
set_option maxHeartbeats 4000000 in
set_option maxRecDepth 100000 in
theorem list_node (b : Nat) (lf : Bool) (hh : List UInt8) (n sv : Int) (K : Nat → Rx.T) (R : List (List UInt8)) (IH : ∀ i, i < 16 → ListOK (K i)) (w : World) (p : List Nat) (base : Nat) (v : Value) (l : List (List UInt8)) (s : List UInt8) (m : Nat)
    (hA : w.heap[b]? = some (.cells (nodeC (kidV K) lf hh n sv) 85 (0, 0))) (hAk : ∀ i, i < 16 → At w (K i) ∧ Rx.ok (K i) (p ++ [i]) ∧ ∀ x, Rx.mem (K i) x → x < base) (hb : b < base) (hl : hh.length = 32) (hown : OwnH w base v l) (hbs : base ≤ w.heap.size) (hln : l.length ≤ 1000000) (hm : m ≤ 1000000) (hs : s.length ≤ 1000)
    (hR : R = if m ≤ l.length then l else if (lf && Wi.beg hh s) = true then l ++ [hh] else Rx.lstK (fun h => Wi.beg h s) K m l 16) :
    Calls Tryz.prog 51 #[.pointer (some ⟨b, 0, none⟩), v, .string (str s), .int .i64 (m : Int)] w fun e w' => ∃ v', e = .returned v' ∧ OwnH w' base v' R ∧ Below base w w' := by
  obtain ⟨a, c, rfl, hlc, _⟩ := ownsRow_slice hown
  have HO := Lib.hid hown
  have HA := Lib.hid hA
  have HK := Lib.hid hAk
  have HB := Lib.hid hb
  have HL := Lib.hid hl
  have HBS := Lib.hid hbs
  have HLN := Lib.hid hln
  have HMM := Lib.hid hm
  have HS := Lib.hid hs
  have HR := Lib.hid hR
  have HIH := Lib.hid IH
  clear hown hA hAk hb hl hbs hR IH hs hlc
  by_cases hml : m ≤ l.length
  · have d0 : decide ((m : Int) ≤ (l.length : Int)) = true := decide_eq_true (by omega)
    have d0' : decide (m ≤ l.length) = true := decide_eq_true hml
    have HRR : Hid (R = l) := Lib.hid (by rw [HR.out, if_pos hml])
    clear hml hln hm
    go_enter Tryz.func51, Tryz.ntmps51
    go_wp2
    go_ret
    exact ⟨_, rfl, by rw [HRR.out]; exact HO.out, Below.refl _ _⟩
  · have d0 : decide ((m : Int) ≤ (l.length : Int)) = false := decide_eq_false (by omega)
    have d0' : decide (m ≤ l.length) = false := decide_eq_false hml
    have HRR : Hid (R = if (lf && Wi.beg hh s) = true then l ++ [hh] else Rx.lstK (fun h => Wi.beg h s) K m l 16) := Lib.hid (by rw [HR.out, if_neg hml])
    have HML := Lib.hid hml
    clear hml hln hm HR
    obtain ⟨t, ht⟩ : ∃ t, t = (lf && Wi.beg hh s) := ⟨_, rfl⟩
    have c16 : w.cell? ⟨b, 16, none⟩ = some (.bool lf) := blk_cell (i := 16) HA.out nodeC_leaf
    have P17 : Hid (Part w b 17 (hashC hh)) := Lib.hid (part_of HA.out (nodeC_hash HL.out))
    have HT := Lib.hid ht
    rw [← ht] at HRR
    clear ht
    go_enter Tryz.func51, Tryz.ntmps51
    go_upto_region 3 with (fail)
    go_cut [21] from 22 to 33 (fun v21 wx => v21 = .bool t ∧ Hid (Below w.heap.size w wx))
    case first =>
      cases lf
      · have ht2 : t = false := by rw [HT.out]; rfl
        subst ht2
        go_wp2
        go_meet
        exact ⟨rfl, Lib.hid (Below.refl _ _)⟩
      · have hbg := begins_any w hh s HL.out (by have := HS.out; omega)
        rw [show Wi.beg hh s = t by rw [HT.out]; rfl] at hbg
        go_wp2_with (refine wpL_load ?hw 42 (.tmp 29) rfl b 17 rfl (hashC hh) _ P17.out Tryz.underlying42 rfl (by rw [hashC_size _ HL.out]; exact sz_hash) ?_; case hw => kernel_rfl)
        refine hbg.mono ?_
        clear hbg
        rintro e w2 ⟨rfl, b2⟩
        have B2 := Lib.hid b2
        clear b2
        go_wp2
        go_meet
        exact ⟨rfl, B2⟩
    case rest =>
      obtain ⟨rfl, BC⟩ := hcut
      have AC : Hid (wc.heap[b]? = some (.cells (nodeC (kidV K) lf hh n sv) 85 (0, 0))) := Lib.hid ((BC.out.block _ (blk_lt HA.out)).trans HA.out)
      have OC : Hid (OwnH wc base (.slice a l.length c) l) := Lib.hid (ownsRow_stay HO.out (TStay.of_below BC.out (fun _ => False)) (fun _ _ h => h))
      have BB : Hid (Below base w wc) := Lib.hid (BC.out.mono HBS.out)
      have SB : Hid (base ≤ wc.heap.size) := Lib.hid (Nat.le_trans HBS.out BC.out.size)
      clear c16 P17
      cases t
      · have PK : Hid (Part wc b 0 (kidL (kidV K)).toArray) := Lib.hid (part_of AC.out nodeC_kids)
        obtain ⟨KV, hKV⟩ : ∃ KV, KV = (kidL (kidV K)).toArray := ⟨_, rfl⟩
        have HKV := Lib.hid hKV
        have IX : Hid (∀ k : Nat, k < 16 → ∀ w, (Instr.index 83 (.agg KV) (.int .i64 (k : Int))).run Tryz.prog w = .ok (ptrV (K k).ptr) w) := Lib.hid (fun k hk w => by rw [hKV]; exact idx_kids (kidV K) k hk w)
        have SK : Hid ((Tryz.prog.info? 83).map (·.size) = some KV.size) := Lib.hid (by rw [hKV]; exact sz_kids _)
        rw [← hKV] at PK
        clear hKV
        go_upto_region 6 with (refine wpL_load ?hw 83 (.tmp 43) rfl b 0 rfl KV _ PK.out Tryz.underlying83 rfl SK.out ?_; case hw => kernel_rfl)
        go_loopw [1, 45] (fun ov kv wr => ∃ k : Nat, k ≤ 16 ∧ kv = .int .i64 (k : Int) ∧ Hid (OwnH wr base ov (Rx.lstK (fun h => Wi.beg h s) K m l k)) ∧ Hid (Below base w wr)) (fun _ kv _ => 16 - (intOf kv).toNat)
        case atStart => exact ⟨0, Nat.zero_le _, rfl, OC, BB⟩
        case round =>
          obtain ⟨k, hk, rfl, HOW, BR⟩ := hrel
          clear OC BB SB BC AC PK
          by_cases hlt : k < 16
          · have d1 : decide ((k : Int) < 16) = true := decide_eq_true (by omega)
            have i0 : (0 : Int) ≤ (k : Int) := by omega
            have i1 : (k : Int) < 16 := by omega
            have hix := IX.out k hlt
            have hw := wrapi' ((k : Int) + 1) (by omega)
            have hc := HIH.out k hlt wr (p ++ [k]) base u1 _ s m ((HK.out k hlt).1.keep (fun x hx => BR.out.block x ((HK.out k hlt).2.2 x hx))) (HK.out k hlt).2.1 (HK.out k hlt).2.2 HOW.out (Nat.le_trans HBS.out BR.out.size) (Rx.lstK_len _ K m 1000000 l HMM.out HLN.out k) HMM.out HS.out
            rw [← Rx.lstK_succ] at hc
            clear d0 d0'
            go_wp2_with fail
            refine hc.mono ?_
            clear hc hix
            rintro e w5 ⟨v5, rfl, o5, b5⟩
            have O5 := Lib.hid o5
            have B5 := Lib.hid (BR.out.trans b5)
            clear o5 b5
            go_wp2
            go_roundw
            case rel => exact ⟨k + 1, by omega, by go_num, O5, B5⟩
            case measure => simp [intOf]; omega
          · obtain rfl : k = 16 := by omega
            have HF : Hid (R = Rx.lstK (fun h => Wi.beg h s) K m l 16) := Lib.hid (by rw [HRR.out]; rfl)
            go_wp2
            go_ret
            exact ⟨_, rfl, by rw [HF.out]; exact HOW.out, BR.out⟩
      · have HF : Hid (R = l ++ [hh]) := Lib.hid (by rw [HRR.out]; rfl)
        have P17 : Hid (Part wc b 17 (hashC hh)) := Lib.hid (part_of AC.out (nodeC_hash HL.out))
        have bA : Below wc.heap.size wc (wc.alloc (.cells (hashC hh) 42)) := (Below.refl _ _).alloc (Nat.le_refl _) _
        have OA := Lib.hid (ownsRow_stay OC.out (TStay.of_below bA (fun _ => False)) (fun _ _ h => h))
        have SA : Hid (base ≤ (wc.alloc (.cells (hashC hh) 42)).heap.size) := Lib.hid (Nat.le_trans SB.out bA.size)
        have BA := Lib.hid (BB.out.trans (bA.mono SB.out))
        clear bA
        go_wp2_with (first | (refine wpL_load ?hw 42 (.tmp 37) rfl b 17 rfl (hashC hh) _ P17.out Tryz.underlying42 rfl (by rw [hashC_size _ HL.out]; exact sz_hash) ?_; case hw => kernel_rfl) | (refine wpL_rowOne rfl 35 42 (.tmp 38) rfl 39 rfl Tryz.underlying35 (hashC hh) (by rfl) (.agg (hashC Wi.z32)) 32 zi_hash (by decide) (hashC_size _ HL.out) ?_) | (at_builtin; refine wpL_appH _ rfl (.tmp 34) (.tmp 39) rfl base (.slice a l.length c) l (by rfl) OA.out wc.heap.size hh HL.out (by rfl) (heap_alloc_new _ _) HLN.out SA.out ?_))
        intro v' w8 O8 G8
        have O8' := Lib.hid O8
        have B8 := Lib.hid (Below.trans_stay BA.out ((TStay.refl (fun j => base ≤ j) _).grown G8 (fun j hj => .inl (OA.out.lt j hj).1)) HBS.out (fun j hj e => by omega))
        clear O8 G8
        go_wp2
        go_ret
        exact ⟨_, rfl, by rw [HF.out]; exact O8'.out, B8.out⟩
theorem list_all : ∀ t : Rx.T, ListOK t
  | .nil => list_nil
  | .leaf b h n sv => by
    intro w p base v l s m hA hok hmem hown hbs hln hm hs
    refine list_node b true h n sv Rx.noKids _ (fun i _ => list_nil) w p base v l s m hA (fun i _ => ⟨trivial, trivial, fun x hx => hx.elim⟩) (hmem b rfl) hok.1 hown hbs hln hm hs ?_
    rw [Rx.lstK_no]
    rfl
  | .inner b kids sv => by
    intro w p base v l s m hA hok hmem hown hbs hln hm hs
    exact list_node b false Wi.z32 0 sv kids _ (fun i _ => list_all (kids i)) w p base v l s m hA.1 (fun i hi => ⟨hA.2 i hi, hok.2 i hi, fun x hx => hmem x (.inr ⟨i, hi, hx⟩)⟩) (hmem b (.inl rfl)) z32_len hown hbs hln hm hs rfl
end Go.Proofs.YthampbiabkfmoaaGreatDoor
/- radix.Tree: below, All, Prefix. -/
namespace Go
namespace Tap
open Go.RowKit
theorem ex_idx {P : Program} {o : Oper} {a : Act} {w : World} (T : TypeId) (x i : Operand) (ho : o.op = .index T x i) (X I v : Value) (hx : a.eval x = X) (hi : a.eval i = I) (hr : (Instr.index T X I).run P w = .ok v w) :
    (execOp a.eval o).run P w = .ok (.value v) w := by
  unfold execOp
  simp only [ho, hx, hi, Sem.run_bind, hr, Result.andThen_ok, Sem.run_pure]
end Tap
end Go
namespace Go.Proofs.YthampbiabkfmoaaGreatDoor
open Go.RowKit Go.Tap
set_option linter.unusedVariables false
set_option linter.unusedSimpArgs false
theorem hexT_get : ∀ (h : List UInt8) (j : Nat), j < 2 * h.length → (Wi.hexT h)[j]? = some (Wi.hexc (Rx.dig h j))
  | [], j, hj => by simp at hj
  | x :: r, 0, _ => rfl
  | x :: r, 1, _ => rfl
  | x :: r, j + 2, hj => by
    have ih := hexT_get r j (by simp at hj; omega)
    have e : Rx.dig (x :: r) (j + 2) = Rx.dig r j := by
      unfold Rx.dig
      rw [show (j + 2) % 2 = j % 2 by omega, show (j + 2) / 2 = j / 2 + 1 by omega]
      rfl
    rw [e, ← ih]
    rfl
theorem digN_hexc (d : Nat) (hd : d < 16) : Wi.digN (Wi.hexc d) = (d : Int) := by
  have : d = 0 ∨ d = 1 ∨ d = 2 ∨ d = 3 ∨ d = 4 ∨ d = 5 ∨ d = 6 ∨ d = 7 ∨ d = 8 ∨ d = 9 ∨ d = 10 ∨ d = 11 ∨ d = 12 ∨ d = 13 ∨ d = 14 ∨ d = 15 := by omega
  rcases this with rfl | rfl | rfl | rfl | rfl | rfl | rfl | rfl | rfl | rfl | rfl | rfl | rfl | rfl | rfl | rfl <;> rfl
theorem digN_bound {c : UInt8} (h : Wi.dig c = true) : 0 ≤ Wi.digN c ∧ Wi.digN c < 16 := by
  simp only [Wi.dig, Bool.or_eq_true, Bool.and_eq_true, decide_eq_true_eq] at h
  unfold Wi.digN
  split
  · omega
  · split
    · omega
    · omega
theorem beg_dig {h s : List UInt8} (hl : h.length = 32) (hb : Wi.beg h s = true) {j : Nat} {x : UInt8} (hx : s[j]? = some x) : (Rx.dig h j : Int) = Wi.digN x := by
  simp only [Wi.beg, Bool.and_eq_true, decide_eq_true_eq] at hb
  have hj := (List.getElem?_eq_some_iff.1 hx).1
  have h1 : (Wi.hexT h)[j]? = some x := by
    rw [← hb.2, List.getElem?_take] at hx
    rw [if_pos hj] at hx
    exact hx
  rw [hexT_get h j (by omega)] at h1
  simp only [Option.some.injEq] at h1
  rw [← h1, digN_hexc _ (Rx.dig_lt _ _)]
theorem filter_kid {b : Nat} {kids : Nat → Rx.T} {sv : Int} {p : List Nat} {s : List UInt8} {x : UInt8} (ho : Rx.ok (.inner b kids sv) p) (hx : s[p.length]? = some x) (d : Nat) (hd : (d : Int) = Wi.digN x) (hd16 : d < 16) :
    (Rx.hashes (.inner b kids sv)).filter (fun h => Wi.beg h s) = (Rx.hashes (kids d)).filter (fun h => Wi.beg h s) := by
  have hh : Rx.hashes (.inner b kids sv) = (List.range 16).flatMap fun i => Rx.hashes (kids i) := by
    simp only [Rx.hashes, Rx.leaves, List.map_flatMap]
  have hno : ∀ i, i < 16 → i ≠ d → (Rx.hashes (kids i)).filter (fun h => Wi.beg h s) = [] := by
    intro i hi hne
    rw [List.filter_eq_nil_iff]
    intro h hm hb
    simp only [Rx.hashes, List.mem_map] at hm
    obtain ⟨y, hy, rfl⟩ := hm
    obtain ⟨h1, h2, _⟩ := Rx.leaves_ok (kids i) _ (ho.2 i hi) y hy
    have h3 := beg_dig h1 hb hx
    rw [(Rx.pre_snoc.1 h2).2] at h3
    exact hne (by omega)
  have key : ∀ n, n ≤ 16 → ((List.range n).flatMap fun i => Rx.hashes (kids i)).filter (fun h => Wi.beg h s) = if d < n then (Rx.hashes (kids d)).filter (fun h => Wi.beg h s) else [] := by
    intro n
    induction n with
    | zero => intro _; rfl
    | succ n ih =>
      intro hn
      rw [List.range_succ, List.flatMap_append, List.filter_append, ih (by omega)]
      simp only [List.flatMap_cons, List.flatMap_nil, List.append_nil]
      by_cases e : n = d
      · subst e
        rw [if_neg (by omega), if_pos (by omega), List.nil_append]
      · rw [hno n (by omega) e, List.append_nil]
        by_cases h : d < n
        · rw [if_pos h, if_pos (by omega)]
        · rw [if_neg h, if_neg (by omega)]
  rw [hh, key 16 (Nat.le_refl _), if_pos hd16]
theorem idx_str (s : List UInt8) (k : Nat) (x : UInt8) (hx : s[k]? = some x) (w : World) : (Instr.index 9 (.string (str s)) (.int .i64 (k : Int))).run Tryz.prog w = .ok (.int .u8 (x.toNat : Int)) w := by
  have hk := (List.getElem?_eq_some_iff.1 hx).1
  have hs : (str s).size = s.length := str_size s
  have hg : (str s)[k]'(by rw [hs]; exact hk) = x := by
    have := (List.getElem?_eq_some_iff.1 hx).2
    rw [← this]; rfl
  have hk2 : (k : Int) < (s.length : Int) := by omega
  simp [Instr.index, asIntOf, go_sem, hs, hk, hg]
set_option maxHeartbeats 4000000 in
set_option maxRecDepth 100000 in
theorem below_any (w : World) (lo TB : Nat) (t : Rx.T) (hT : TreeAt w lo TB t) (s : List UInt8) (hs : s.all Wi.dig = true) (hsl : s.length ≤ 64) :
    Calls Tryz.prog 50 #[.pointer (some ⟨TB, 0, none⟩), .string (str s)] w fun e w' => ∃ t' p, e = .returned (ptrV t'.ptr) ∧ At w t' ∧ Rx.ok t' p ∧ (∀ x, Rx.mem t' x → Rx.mem t x) ∧ (Rx.hashes t).filter (fun h => Wi.beg h s) = (Rx.hashes t').filter (fun h => Wi.beg h s) ∧ Below w.heap.size w w' := by
  have T1 := Lib.hid hT
  have ct := blk_cell (i := 0) T1.out.top rfl
  have z1 := str_size s
  have HS := Lib.hid hs
  have HSL := Lib.hid hsl
  clear hT hs hsl
  go_enter Tryz.func50, Tryz.ntmps50
  go_wp2
  clear ct
  go_loopw [5, 6] (fun xv kv wr => ∃ (t' : Rx.T) (p : List Nat) (k : Nat), xv = ptrV t'.ptr ∧ kv = .int .i64 (k : Int) ∧ Hid (k = p.length) ∧ k ≤ s.length ∧ Hid (Rx.ok t' p) ∧ Hid (∀ x, Rx.mem t' x → Rx.mem t x) ∧ Hid ((Rx.hashes t).filter (fun h => Wi.beg h s) = (Rx.hashes t').filter (fun h => Wi.beg h s)) ∧ Hid (At w t') ∧ Hid (Below w.heap.size w wr)) (fun _ kv _ => s.length - (intOf kv).toNat)
  case atStart => exact ⟨t, [], 0, rfl, rfl, Lib.hid rfl, Nat.zero_le _, Lib.hid T1.out.ok, Lib.hid (fun _ h => h), Lib.hid rfl, Lib.hid T1.out.at_, Lib.hid (Below.refl _ _)⟩
  case round =>
    obtain ⟨t', p, k, rfl, rfl, HP, hk, HOK, HM, HF, HA, BR⟩ := hrel
    clear T1
    by_cases hks : k < s.length
    · have d0 : decide ((k : Int) < (s.length : Int)) = true := decide_eq_true (by omega)
      have d0' : decide (k < s.length) = true := decide_eq_true hks
      cases t' with
      | nil =>
        show Code.wp _ _ _ { tmps := #[_, _, _, _, _, .pointer none, _, _, _, _, _, _, _, _, _, _, _, _, _, _, _, _, _, _, _, _, _, _, _, _, _, _, _, _, _, _, _, _], defers := [] } _
        go_wp2
        go_ret
        exact ⟨.nil, p, rfl, HA.out, HOK.out, HM.out, HF.out, BR.out⟩
      | leaf b hx n sv =>
        have c16 : wr.cell? ⟨b, 16, none⟩ = some (.bool true) := blk_cell (i := 16) ((BR.out.block _ (blk_lt HA.out)).trans HA.out) nodeC_leaf
        show Code.wp _ _ _ { tmps := #[_, _, _, _, _, .pointer (some ⟨b, 0, none⟩), _, _, _, _, _, _, _, _, _, _, _, _, _, _, _, _, _, _, _, _, _, _, _, _, _, _, _, _, _, _, _, _], defers := [] } _
        go_wp2
        go_ret
        exact ⟨.leaf b hx n sv, p, rfl, HA.out, HOK.out, HM.out, HF.out, BR.out⟩
      | inner b kids sv =>
        have hA : At wr (.inner b kids sv) := HA.out.keep (fun x hx => BR.out.block x (HA.out.lt x hx))
        have c16 : wr.cell? ⟨b, 16, none⟩ = some (.bool false) := blk_cell (i := 16) hA.1 nodeC_leaf
        have hx : s[k]? = some (s[k]'hks) := List.getElem?_eq_getElem _
        generalize s[k]'hks = x at hx
        have hdx : Wi.dig x = true := List.all_eq_true.1 HS.out x (List.mem_of_getElem? hx)
        have hdb := digN_bound hdx
        obtain ⟨d, hd⟩ : ∃ d : Nat, (d : Int) = Wi.digN x := ⟨(Wi.digN x).toNat, by omega⟩
        have hd16 : d < 16 := by omega
        have hdg := fun X => digit_any X x
        rw [← hd] at hdg
        have HDG := Lib.hid hdg
        have IXS : Hid (∀ w, (Instr.index 9 (.string (str s)) (.int .i64 (k : Int))).run Tryz.prog w = .ok (.int .u8 (x.toNat : Int)) w) := Lib.hid (fun w => idx_str s k x hx w)
        have CK : Hid (∀ w', Below wr.heap.size wr w' → w'.cell? ⟨b, d, none⟩ = some (ptrV (kids d).ptr)) := Lib.hid (fun w' h => blk_cell (i := d) ((h.block _ (blk_lt hA.1)).trans hA.1) (by rw [nodeC_kid hd16]; rfl))
        have HX := Lib.hid hx
        have HD := Lib.hid hd
        have D16 := Lib.hid hd16
        have hw := wrapi' ((k : Int) + 1) (by have := HSL.out; omega)
        clear hA hx hdx hdb hd hd16 hdg
        show Code.wp _ _ _ { tmps := #[_, _, _, _, _, .pointer (some ⟨b, 0, none⟩), _, _, _, _, _, _, _, _, _, _, _, _, _, _, _, _, _, _, _, _, _, _, _, _, _, _, _, _, _, _, _, _], defers := [] } _
        go_wp2_with fail
        refine wp_region_held_drew (S := fun w' => Below wr.heap.size wr w') (by kernel_rfl) (bel_drw wr) (fun hS0 => ?_)
        refine takeK (i := 0) (.pointer (some ⟨b, 0, none⟩)) (some 28) rfl (by kernel_rfl) (by kernel_rfl) (by kernel_rfl) (by kernel_rfl) (fun _ _ _ h => h) (by kernel_rfl) (fun w' _ => by go_simp) hS0 ?_
        simp only [Act.put, List.setIfInBounds_toArray, List.set_cons_zero, List.set_cons_succ]
        refine takeK (i := 1) (.string (str s)) (some 29) rfl (by kernel_rfl) (by kernel_rfl) (by kernel_rfl) (by kernel_rfl) (fun _ _ _ h => h) (by kernel_rfl) (fun w' _ => by go_simp) hS0 ?_
        simp only [Act.put, List.setIfInBounds_toArray, List.set_cons_zero, List.set_cons_succ]
        refine takeK (i := 2) (.int .i64 (k : Int)) (some 30) rfl (by kernel_rfl) (by kernel_rfl) (by kernel_rfl) (by kernel_rfl) (fun _ _ _ h => h) (by kernel_rfl) (fun w' _ => by go_simp) hS0 ?_
        simp only [Act.put, List.setIfInBounds_toArray, List.set_cons_zero, List.set_cons_succ]
        refine takeK (i := 3) (.int .u8 (x.toNat : Int)) (some 31) rfl (by kernel_rfl) (by kernel_rfl) (by kernel_rfl) (by kernel_rfl) (fun _ _ _ h => h) (by kernel_rfl) (fun w' _ => ex_idx 9 (.tmp 29) (.tmp 30) rfl _ _ _ (by kernel_rfl) (by kernel_rfl) (IXS.out w')) hS0 ?_
        simp only [Act.put, List.setIfInBounds_toArray, List.set_cons_zero, List.set_cons_succ]
        refine takeK (i := 5) (.pointer (some ⟨b, 0, none⟩)) (some 33) rfl (by kernel_rfl) (by kernel_rfl) (by kernel_rfl) (by kernel_rfl) (fun _ _ _ h => h) (by kernel_rfl) (fun w' _ => by go_simp) hS0 ?_
        simp only [Act.put, List.setIfInBounds_toArray, List.set_cons_zero, List.set_cons_succ]
        refine takeK (i := 6) (.pointer (some ⟨b, 0, none⟩)) (some 34) rfl (by kernel_rfl) (by kernel_rfl) (by kernel_rfl) (by kernel_rfl) (fun _ _ _ h => h) (by kernel_rfl) (fun w' _ => by go_simp) hS0 ?_
        simp only [Act.put, List.setIfInBounds_toArray, List.set_cons_zero, List.set_cons_succ]
        refine callK (i := 4) 59 #[.int .u8 (x.toNat : Int)] (some 32) rfl (by kernel_rfl) (by kernel_rfl) (by kernel_rfl) (by kernel_rfl) (HDG.out _) ?_
        clear HDG
        rintro e w2 ⟨rfl, rfl⟩
        refine ⟨_, rfl, hS0, fun hS1 => ?_⟩
        clear hS0
        have i0 : (0 : Int) ≤ (d : Int) := by omega
        have i1 : (d : Int) < 16 := by have := D16.out; omega
        simp only [Act.put, List.setIfInBounds_toArray, List.set_cons_zero, List.set_cons_succ]
        refine takeK (i := 7) (.pointer (some ⟨b, d, none⟩)) (some 35) rfl (by kernel_rfl) (by kernel_rfl) (by kernel_rfl) (by kernel_rfl) (fun _ _ _ h => h) (by kernel_rfl) (fun w' _ => by go_simp) hS1 ?_
        simp only [Act.put, List.setIfInBounds_toArray, List.set_cons_zero, List.set_cons_succ]
        refine takeK (i := 8) (ptrV (kids d).ptr) (some 36) rfl (by kernel_rfl) (by kernel_rfl) (by kernel_rfl) (by kernel_rfl) (fun _ _ _ h => h) (by kernel_rfl) (fun w' h' => by have hh := CK.out w' h'; go_simp) hS1 ?_
        simp only [Act.put, List.setIfInBounds_toArray, List.set_cons_zero, List.set_cons_succ]
        refine takeK (i := 9) (ptrV (kids d).ptr) (some 5) rfl (by kernel_rfl) (by kernel_rfl) (by kernel_rfl) (by kernel_rfl) (fun _ _ _ h => h) (by kernel_rfl) (fun w' _ => by kernel_rfl) hS1 ?_
        simp only [Act.put, List.setIfInBounds_toArray, List.set_cons_zero, List.set_cons_succ]
        have BX := Lib.hid (BR.out.trans (hS1.mono BR.out.size))
        refine wpAnyH_done (by kernel_rfl) ?_ _
        clear hS1 i0 i1
        go_wp2
        go_roundw
        case rel =>
          refine ⟨kids d, p ++ [d], k + 1, rfl, by go_num, Lib.hid (by rw [List.length_append, ← HP.out]; rfl), by omega, Lib.hid (HOK.out.2 d D16.out), Lib.hid (fun x hx => HM.out x (.inr ⟨d, D16.out, hx⟩)), Lib.hid ?_, Lib.hid (HA.out.2 d D16.out), BX⟩
          rw [HF.out]
          exact filter_kid HOK.out (by rw [← HP.out]; exact HX.out) d HD.out D16.out
        case measure => simp [intOf]; omega
    · have d0 : decide ((k : Int) < (s.length : Int)) = false := decide_eq_false (by omega)
      have d0' : decide (k < s.length) = false := decide_eq_false hks
      go_wp2
      go_ret
      exact ⟨t', p, rfl, HA.out, HOK.out, HM.out, HF.out, BR.out⟩
def Rx.isP (s : List UInt8) : Bool := decide (s = []) || Wi.isPre s
def Rx.allS (t : Rx.T) (s : List UInt8) (m : Nat) : List (List UInt8) := if Rx.isP s = true then ((Rx.hashes t).filter (fun h => Wi.beg h s)).take m else []
theorem isP_dig {s : List UInt8} (h : Rx.isP s = true) : s.all Wi.dig = true ∧ s.length ≤ 64 := by
  simp only [Rx.isP, Bool.or_eq_true, decide_eq_true_eq, Wi.isPre, Bool.and_eq_true] at h
  rcases h with rfl | h
  · exact ⟨rfl, by simp⟩
  · exact ⟨h.1.1, h.2⟩
set_option maxHeartbeats 2000000 in
set_option maxRecDepth 100000 in
theorem all_any (w : World) (lo TB : Nat) (t : Rx.T) (hT : TreeAt w lo TB t) (s : List UInt8) (hsl : s.length ≤ 64) (m : Nat) (hm : m ≤ 1000000) :
    Calls Tryz.prog 31 #[.pointer (some ⟨TB, 0, none⟩), .string (str s), .int .i64 (m : Int)] w fun e w' => ∃ v, e = .returned v ∧ OwnH w' w.heap.size v (Rx.allS t s m) ∧ Below w.heap.size w w' := by
  have HT := Lib.hid hT
  have HSL := Lib.hid hsl
  have HM := Lib.hid hm
  have hip := isPrefix_any w s (by omega)
  obtain ⟨q, hq⟩ : ∃ q, q = Wi.isPre s := ⟨_, rfl⟩
  rw [← hq] at hip
  have HQ := Lib.hid hq
  obtain ⟨em, hem⟩ : ∃ em, em = decide (s = []) := ⟨_, rfl⟩
  have HEM := Lib.hid hem
  have e0 : ((str s).toList == []) = em := by
    rw [str_toList, hem]; cases s <;> rfl
  have e1 : (str s).toList.isEmpty = em := by rw [str_toList, hem]; cases s <;> rfl
  have HR : Hid (Rx.allS t s m = if (em || q) = true then ((Rx.hashes t).filter (fun h => Wi.beg h s)).take m else []) := Lib.hid (by rw [Rx.allS, Rx.isP, hem, hq])
  obtain ⟨R, hR⟩ : ∃ R, R = Rx.allS t s m := ⟨_, rfl⟩
  rw [← hR] at HR ⊢
  clear hT hsl hm hq hem hR
  go_enter Tryz.func31, Tryz.ntmps31
  go_upto_region 1 with (fail)
  go_cut [13] from 7 to 13 (fun v13 wx => v13 = .bool (!(em || q)) ∧ Hid (Below w.heap.size w wx))
  case first =>
    cases em
    · go_wp2_with fail
      refine hip.mono ?_
      clear hip
      rintro e w2 ⟨rfl, b2⟩
      have B2 := Lib.hid b2
      clear b2
      go_wp2
      go_meet
      exact ⟨by simp, B2⟩
    · go_wp2
      go_meet
      exact ⟨by simp, Lib.hid (Below.refl _ _)⟩
  case rest =>
    obtain ⟨rfl, BC⟩ := hcut
    obtain ⟨z, hz⟩ : ∃ z, z = (em || q) := ⟨_, rfl⟩
    rw [← hz]
    rw [← hz] at HR
    have HZ := Lib.hid hz
    clear hz hip e0 e1
    cases z
    · have HF : Hid (R = []) := Lib.hid (by rw [HR.out]; rfl)
      go_wp2
      go_ret
      exact ⟨_, rfl, by rw [HF.out]; exact World.ownsRow_nil _ _ _ _, BC.out⟩
    · have HF : Hid (R = ((Rx.hashes t).filter (fun h => Wi.beg h s)).take m) := Lib.hid (by rw [HR.out]; rfl)
      have hd := isP_dig (s := s) (by rw [Rx.isP, ← show em = _ from HEM.out, ← show q = _ from HQ.out]; exact HZ.out.symm)
      have hb := below_any wc lo TB t (HT.out.below BC.out) s hd.1 hd.2
      clear hd
      go_wp2_with fail
      refine hb.mono ?_
      clear hb
      rintro e w2 ⟨t', p, rfl, a2, o2, m2, f2, b2⟩
      have a2' : At w2 t' := a2.below b2
      have hl := list_all t' w2 p w2.heap.size (.slice none 0 0) [] s m a2' o2 (fun x hx => a2'.lt x hx) (World.ownsRow_nil _ _ _ _) (Nat.le_refl _) (by simp) HM.out (by have := HSL.out; omega)
      have B2 := Lib.hid (BC.out.trans (b2.mono BC.out.size))
      have HE : Hid (Rx.lst (fun h => Wi.beg h s) t' m [] = R) := Lib.hid (by rw [Rx.lst_eq, HF.out, f2]; simp)
      clear a2 o2 m2 f2 b2 a2'
      go_wp2_with fail
      refine hl.mono ?_
      clear hl
      rintro e w5 ⟨v5, rfl, o5, b5⟩
      have O5 : Hid (OwnH w5 w.heap.size v5 R) := Lib.hid (by rw [← HE.out]; exact ownsRow_base o5 B2.out.size)
      have B5 := Lib.hid (B2.out.trans (b5.mono B2.out.size))
      clear o5 b5
      go_wp2
      go_ret
      exact ⟨_, rfl, O5.out, B5.out⟩
theorem bt_hash0 : Tryz.prog.built 42 [] = some (hashC Wi.z32) := by kernel_rfl
/-- What Prefix answers: a hash, and an error's number. -/
def Rx.pfx (t : Rx.T) (s : List UInt8) : List UInt8 × Nat :=
  if Wi.isPre s = true then
    (match (Rx.allS t s 2).length with
      | 0 => (Wi.z32, 11)
      | 1 => ((Rx.allS t s 2).headD [], 0)
      | _ => (Wi.z32, 14))
  else (Wi.z32, 1)
def Rx.errV (k : Nat) : Value := if k = 0 then .nilIface else .iface 65 (.int .i64 (k : Int))
set_option maxHeartbeats 2000000 in
set_option maxRecDepth 100000 in
theorem prefix_any (w : World) (lo TB : Nat) (t : Rx.T) (hT : TreeAt w lo TB t) (s : List UInt8) (hsl : s.length ≤ 64) :
    Calls Tryz.prog 21 #[.pointer (some ⟨TB, 0, none⟩), .string (str s)] w fun e w' => e = .returned (.tuple #[.agg (hashC (Rx.pfx t s).1), Rx.errV (Rx.pfx t s).2]) ∧ Below w.heap.size w w' := by
  obtain ⟨W1, hW1⟩ : ∃ W1, W1 = w.alloc (.cells (hashC Wi.z32) 42) := ⟨_, rfl⟩
  have b1 : Below w.heap.size w W1 := by rw [hW1]; exact (Below.refl _ _).alloc (Nat.le_refl _) _
  have R1 : Hid (W1.heap[w.heap.size]? = some (.cells (hashC Wi.z32) 42 (0, 0))) := Lib.hid (by rw [hW1]; exact heap_alloc_new _ _)
  have hip := isPrefix_any W1 s (by omega)
  obtain ⟨q, hq⟩ : ∃ q, q = Wi.isPre s := ⟨_, rfl⟩
  rw [← hq] at hip
  have HQ := Lib.hid hq
  have HT := Lib.hid hT
  have B1 := Lib.hid b1
  have HSL := Lib.hid hsl
  obtain ⟨R, hR⟩ : ∃ R, R = Rx.pfx t s := ⟨_, rfl⟩
  rw [← hR]
  have HR := Lib.hid hR
  clear hq hT b1 hsl hR
  go_enter Tryz.func21, Tryz.ntmps21
  go_upto_region 1 with (refine wpL_alloc rfl 42 rfl 4 rfl (hashC Wi.z32) 32 zi_hash ?_)
  rw [← hW1]
  clear hW1
  go_wp2_with fail
  refine hip.mono ?_
  clear hip
  rintro e w2 ⟨rfl, b2⟩
  have R2 := Lib.hid ((b2.block _ (blk_lt R1.out)).trans R1.out)
  have B2 := Lib.hid (B1.out.trans (b2.mono B1.out.size))
  clear b2 R1 B1
  cases q
  · have HF : Hid (R = (Wi.z32, 1)) := Lib.hid (by rw [HR.out, Rx.pfx, ← show false = _ from HQ.out]; rfl)
    go_wp2_with (first | (refine wpL_mk (by kernel_rfl) 42 #[] rfl [] (by rfl) (hashC Wi.z32) bt_hash0 ?_) | (refine wpL_storeW (by kernel_rfl) 42 (.tmp 4) (.tmp 10) rfl w.heap.size 0 rfl (hashC Wi.z32) rfl (hashC Wi.z32) 42 R2.out (hashC Wi.z32) (by rw [splice_all _ _ rfl]) (Nat.le_refl 32) (hashC_one' _) sz_hash ?_))
    intro w9 T9 S9
    go_wp2
    refine bodyPost_ret (ret_cell_tmp rfl rfl T9 Tryz.underlying42 rfl sz_hash) rfl ?_
    rw [HF.out]
    exact ⟨rfl, Below.trans_stay B2.out S9 (Nat.le_refl _) (fun k hk e => by omega)⟩
  · have hal := all_any w2 lo TB t (HT.out.below B2.out) s HSL.out 2 (by omega)
    obtain ⟨L, hL⟩ : ∃ L, L = Rx.allS t s 2 := ⟨_, rfl⟩
    rw [← hL] at hal
    have HL := Lib.hid hL
    have HLL : Hid (L.length ≤ 2) := Lib.hid (by rw [hL, Rx.allS]; split; rw [List.length_take]; omega; simp)
    have HF : Hid (R = match L.length with
      | 0 => (Wi.z32, 11)
      | 1 => (L.headD [], 0)
      | _ => (Wi.z32, 14)) := Lib.hid (by rw [HR.out, Rx.pfx, if_pos HQ.out.symm, hL])
    have HOL : Hid (∀ h ∈ L, h.length = 32) := Lib.hid (fun h hh => by
      rw [hL, Rx.allS] at hh
      split at hh
      · have h1 := List.mem_of_mem_take hh
        have h2 := (List.mem_filter.1 h1).1
        simp only [Rx.hashes, List.mem_map] at h2
        obtain ⟨y, hy, rfl⟩ := h2
        exact (Rx.leaves_ok t [] HT.out.ok y hy).1
      · cases hh)
    clear hL
    go_wp2_with fail
    refine hal.mono ?_
    clear hal
    rintro e w3 ⟨v3, rfl, o3, b3⟩
    obtain ⟨a, c, rfl, _⟩ := ownsRow_slice o3
    have R3 := Lib.hid ((b3.block _ (blk_lt R2.out)).trans R2.out)
    have B3 := Lib.hid (B2.out.trans (b3.mono B2.out.size))
    have O3 := Lib.hid o3
    clear o3 b3 R2 B2
    match L, HF, HLL, HOL, O3, HL with
    | [], HF, HLL, HOL, O3, HL =>
      have HF2 : Hid (R = (Wi.z32, 11)) := Lib.hid HF.out
      go_wp2_with (first | (refine wpL_mk (by kernel_rfl) 42 #[] rfl [] (by rfl) (hashC Wi.z32) bt_hash0 ?_) | (refine wpL_storeW (by kernel_rfl) 42 (.tmp 4) (.tmp 19) rfl w.heap.size 0 rfl (hashC Wi.z32) rfl (hashC Wi.z32) 42 R3.out (hashC Wi.z32) (by rw [splice_all _ _ rfl]) (Nat.le_refl 32) (hashC_one' _) sz_hash ?_))
      intro w9 T9 S9
      go_wp2
      refine bodyPost_ret (ret_cell_tmp rfl rfl T9 Tryz.underlying42 rfl sz_hash) rfl ?_
      rw [HF2.out]
      exact ⟨rfl, Below.trans_stay B3.out S9 (Nat.le_refl _) (fun k hk e => by omega)⟩
    | [h], HF, HLL, HOL, O3, HL =>
      have HF2 : Hid (R = (h, 0)) := Lib.hid HF.out
      have hl32 : h.length = 32 := HOL.out h (by simp)
      obtain ⟨g, hg, hg1, hg2⟩ := own_head O3.out (by simp)
      subst hg
      have PH : Hid (Part w3 g 0 (hashC h)) := Lib.hid (fun j u hu => by
        have := O3.out.cells (g := g) rfl j u (by simpa [flatC] using hu)
        rw [Nat.zero_add]
        simpa [Addr.add_lit] using this)
      have H32 := Lib.hid hl32
      have HSP : Hid ((splice (hashC Wi.z32).toList 0 (hashC h).toList).toArray = hashC h) := Lib.hid (by rw [splice_all _ _ (by simp [hashC, bv_length, hl32]; rfl)])
      clear hl32
      go_wp2_with (first | (refine wpL_load ?hw 42 (.tmp 24) rfl g 0 rfl (hashC h) _ PH.out Tryz.underlying42 rfl (by rw [hashC_size _ H32.out]; exact sz_hash) ?_; case hw => kernel_rfl) | (refine wpL_storeW (by kernel_rfl) 42 (.tmp 4) (.tmp 25) rfl w.heap.size 0 rfl (hashC h) rfl (hashC Wi.z32) 42 R3.out (hashC h) HSP.out (by rw [hashC_size _ H32.out]; exact Nat.le_refl 32) (hashC_one' _) (by rw [hashC_size _ H32.out]; exact sz_hash) ?_))
      intro w9 T9 S9
      go_wp2
      refine bodyPost_ret (ret_cell_tmp rfl rfl T9 Tryz.underlying42 rfl (by rw [hashC_size _ H32.out]; exact sz_hash)) rfl ?_
      rw [HF2.out]
      exact ⟨rfl, Below.trans_stay B3.out S9 (Nat.le_refl _) (fun k hk e => by omega)⟩
    | h :: h2 :: L', HF, HLL, HOL, O3, HL =>
      have HF2 : Hid (R = (Wi.z32, 14)) := Lib.hid HF.out
      obtain ⟨n, hn⟩ : ∃ n, n = (h :: h2 :: L').length := ⟨_, rfl⟩
      have hn2 : 2 ≤ n := by rw [hn]; simp
      rw [← hn]
      have n0 : ((n : Int) == 0) = false := by simp; omega
      have n1 : ((n : Int) == 1) = false := by simp; omega
      clear hn hn2
      go_wp2_with (first | (refine wpL_mk (by kernel_rfl) 42 #[] rfl [] (by rfl) (hashC Wi.z32) bt_hash0 ?_) | (refine wpL_storeW (by kernel_rfl) 42 (.tmp 4) (.tmp 26) rfl w.heap.size 0 rfl (hashC Wi.z32) rfl (hashC Wi.z32) 42 R3.out (hashC Wi.z32) (by rw [splice_all _ _ rfl]) (Nat.le_refl 32) (hashC_one' _) sz_hash ?_))
      intro w9 T9 S9
      go_wp2
      refine bodyPost_ret (ret_cell_tmp rfl rfl T9 Tryz.underlying42 rfl sz_hash) rfl ?_
      rw [HF2.out]
      exact ⟨rfl, Below.trans_stay B3.out S9 (Nat.le_refl _) (fun k hk e => by omega)⟩
end Go.Proofs.YthampbiabkfmoaaGreatDoor
