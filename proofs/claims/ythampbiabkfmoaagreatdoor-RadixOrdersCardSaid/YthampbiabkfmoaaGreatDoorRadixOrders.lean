/- taprootlaw9.RadixOrders: the walk. -/
import Derived.Test.YthampbiabkfmoaaGreatDoorRxOst
namespace Go.Proofs.YthampbiabkfmoaaGreatDoor
open Go.RowKit Go.Tap
set_option linter.unusedVariables false
set_option linter.unusedSimpArgs false
theorem rdz_of9o {N : Nat} {W : World} {a : Option Addr} {n c : Nat} {l : List Int} (g : ArgI N W a n c l) : RdZ W a n l := by
  refine ⟨g.len, fun z hz => ?_, fun h0 => ?_⟩
  · have h0 : 0 < n := by have := List.length_pos_of_mem hz; have := g.len; omega
    obtain ⟨b, o, _, hx⟩ := g.at_ h0
    obtain ⟨i, hi, rfl⟩ := List.getElem_of_mem hz
    exact (hx i _ (List.getElem?_eq_getElem hi)).2
  · obtain ⟨b, o, e, hx⟩ := g.at_ h0
    have hi : 0 < l.length := by have := g.len; omega
    have hc := (hx 0 _ (List.getElem?_eq_getElem hi)).1
    refine ⟨b, o, e, block_lt_of_cell hc, fun i z hz => ?_⟩
    have := (hx i z hz).1
    rwa [Nat.mul_one] at this
theorem sz_pairO (p : Rx.Pr) (h : p.h.length = 32) : (Tryz.prog.info? 44).map (·.size) = some (prC p).size := by rw [prC_size p h]; kernel_rfl
theorem zi_pair : (Tryz.prog.info? 44).map (fun i => (i.zero, i.size)) = some (some (.agg (prC ⟨0, 0, Wi.z32, false⟩)), 35) := by kernel_rfl
theorem in_pair : (Tryz.prog.info? 44).map (fun i => (i.zero, i.size, i.bytes)) = some (some (.agg (prC ⟨0, 0, Wi.z32, false⟩)), 35, 56) := by kernel_rfl
theorem prC_one (p : Rx.Pr) : ∀ u ∈ (prC p).toList, u.oneCell' = true := by
  intro u hu
  simp only [prC, List.mem_append, List.mem_cons, List.not_mem_nil, or_false] at hu
  rcases hu with ((rfl | rfl) | hu) | rfl
  · rfl
  · rfl
  · exact bv_one _ u hu
  · rfl
theorem prC_all (p : Rx.Pr) : (prC p).all (·.oneCell') = true := by
  rw [Array.all_eq_true_iff_forall_mem]
  intro v hv
  exact prC_one p v (by simpa using hv)
theorem prC_setV (p : Rx.Pr) (z : Int) : (prC p).setIfInBounds 1 (.int .i64 z) = prC { p with v := z } := by
  apply Array.ext'
  rw [Array.toList_setIfInBounds]
  rfl
theorem bt_keptO : Tryz.prog.built 37 [] = some #[.slice none 0 0, .slice none 0 0] := by kernel_rfl
theorem newO (w : World) : Calls Tryz.prog 6 #[.int .i64 4194304] w fun e w' => ∃ B, e = .returned (.pointer (some ⟨B, 0, none⟩)) ∧ IsDk w' w.heap.size B (Dsk.newD 4194304) ∧ Below w.heap.size w w' := by
  have := new_any w 4194304 (by omega)
  rw [show ((4194304 : Nat) : Int) = 4194304 from rfl] at this
  exact this
set_option maxHeartbeats 8000000 in
set_option maxRecDepth 100000 in
theorem radixOrders_walk (w : World) (hE : EType w) (s0 : Option Addr) (n0 c0 : Nat) (l0 : List Rx.Pr) (g0 : ArgP 140737488351232 w s0 n0 c0 l0) (s1 : Option Addr) (n1 c1 : Nat) (l1 : List Int) (g1 : ArgI 140737488351232 w s1 n1 c1 l1) (s2 : Option Addr) (n2 c2 : Nat) (l2 : List Bool) (g2 : ArgBo 140737488351232 w s2 n2 c2 l2) (s3 : Option Addr) (n3 c3 : Nat) (l3 : List Int) (g3 : ArgI 140737488351232 w s3 n3 c3 l3) :
    Calls Tryz.prog 4 #[.slice s0 n0 c0, .slice s1 n1 c1, .slice s2 n2 c2, .slice s3 n3 c3] w fun e w' => e = .returned (.bool true) ∧ Below w.heap.size w w' := by
  have hnew := rnew_any w
  have HE := Lib.hid hE
  obtain ⟨hrp, hro⟩ := argP_rd g0
  have HR : Hid (RdA prC 35 w s0 n0 l0) := Lib.hid hrp
  have HO : Hid (∀ p ∈ l0, Rx.prOk p) := Lib.hid hro
  have HRO : Hid (RdZ w s1 n1 l1) := Lib.hid (rdz_of9o g1)
  have HRB : Hid (RdBo w s2 n2 l2) := Lib.hid (argBo_rd g2)
  have HP : Hid (RdZ w s3 n3 l3) := Lib.hid (rdz_of9o g3)
  have N0 : Hid (n0 ≤ 140737488351232) := Lib.hid (by have := g0.le; have := g0.reach; omega)
  have N1 : Hid (n1 ≤ 140737488351232) := Lib.hid (by have := g1.le; have := g1.reach; omega)
  clear hE g0 g1 g2 g3 hrp hro
  go_enter Tryz.func4, Tryz.ntmps4
  go_wp2_with fail
  refine hnew.mono ?_
  clear hnew
  rintro e w1 ⟨rfl, hT, b1⟩
  obtain ⟨TB, hTB⟩ : ∃ TB, TB = w.heap.size := ⟨_, rfl⟩
  have T1 : Hid (TreeAt w1 w.heap.size TB .nil) := Lib.hid (by rw [hTB]; exact hT)
  rw [← hTB]
  have B1 := Lib.hid b1
  have hdk := newO w1
  clear hT b1 hTB
  go_wp2_with fail
  refine hdk.mono ?_
  clear hdk
  rintro e w2 ⟨B, rfl, hD, b2⟩
  have hop := ls_open hD
  have T2 := Lib.hid (T1.out.below b2)
  have B2 := Lib.hid (B1.out.trans (b2.mono B1.out.size))
  have L12 : Hid (w.heap.size ≤ w1.heap.size) := Lib.hid B1.out.size
  clear hD b2
  go_wp2_with fail
  refine hop.mono ?_
  clear hop
  rintro e w3 ⟨LB, rfl, l3', b3⟩
  have hkn := known9_any w3 (HE.out.keep (B2.out.trans (b3.mono L12.out)))
  have R3 : Hid (RSt w w3 TB LB B 4194304 .nil []) := Lib.hid ⟨⟨(b3.block _ (blk_lt T1.out.top)).trans T2.out.top, trivial, trivial, trivial, T2.out.lo_, fun x hx => hx.elim⟩, l3'.base L12.out, trivial, trivial, B2.out.trans (b3.mono L12.out)⟩
  clear l3' b3 T1 T2 B1 B2 L12
  go_wp2_with fail
  refine hkn.mono ?_
  clear hkn
  rintro e w4 ⟨rfl, b4⟩
  have R4 := Lib.hid (R3.out.step b4)
  clear b4 R3
  obtain ⟨KB, hKB⟩ : ∃ KB, KB = w4.heap.size := ⟨_, rfl⟩
  obtain ⟨w5, hw5⟩ : ∃ w5, w5 = w4.alloc (.cells #[.slice none 0 0, .slice none 0 0] 37) := ⟨_, rfl⟩
  have b5 : Below w4.heap.size w4 w5 := by rw [hw5]; exact (Below.refl _ _).alloc (Nat.le_refl _) _
  have A5 : w5.heap[KB]? = some (.cells #[.slice none 0 0, .slice none 0 0] 37 (0, 0)) := by rw [hw5, hKB]; exact heap_alloc_new _ _
  have H5 : Hid (OSt w w5 TB LB B KB .nil [] [] [] (.slice none 0 0) (.slice none 0 0) (.slice none 0 0) []) := Lib.hid ⟨R4.out.step b5, ⟨A5, World.ownsRow_nil _ _ _ _, World.ownsRow_nil _ _ _ _, by rw [hKB]; exact R4.out.bel.size, fun x hx => by cases hx⟩, Rx.Mt.nil, World.ownsRow_nil _ _ _ _, fun s hs => (by cases hs)⟩
  clear b5 A5 R4
  go_upto_region 7 with (first | (refine wpL_mk (by kernel_rfl) 37 #[] rfl [] (by rfl) #[.slice none 0 0, .slice none 0 0] bt_keptO ?_))
  rw [← hw5, ← hKB]
  clear hw5 hKB
  go_upto_block 0 with (fail)
  go_cut [14, 15, 16] from 48 to 77 (fun lv _ _ wx => ∃ (k : Rx.K) (vh vn : Value) (ps : List Rx.Pr), Hid (OSt w wx TB LB B KB .nil [] k [] vh vn lv ps) ∧ Hid (Rx.Lf k [] ps) ∧ Hid (ps.length ≤ 25 ∧ k.length ≤ 25))
  case first =>
    --<F
    go_wp2_with fail
    go_loopw [14, 15] (fun lv iv wr => ∃ (i : Nat) (k : Rx.K) (vh vn : Value) (ps : List Rx.Pr), i ≤ n0 ∧ i ≤ 25 ∧ iv = .int .i64 (i : Int) ∧ Hid (OSt w wr TB LB B KB .nil [] k [] vh vn lv ps) ∧ Hid (Rx.Lf k [] ps) ∧ Hid (ps.length ≤ i ∧ k.length ≤ i)) (fun _ iv _ => 25 - (intOf iv).toNat)
    case atStart => exact ⟨0, [], _, _, [], Nat.zero_le _, by omega, rfl, H5, Lib.hid Rx.Lf.nil, Lib.hid ⟨Nat.le_refl _, Nat.le_refl _⟩⟩
    case round =>
      obtain ⟨i, k, vh, vn, ps, hi, h25, rfl, HS, HF, HN⟩ := hrel
      clear H5
      by_cases hlt : i < n0
      · have d0 : decide ((i : Int) < (n0 : Int)) = true := decide_eq_true (by omega)
        have d0' : decide (i < n0) = true := decide_eq_true hlt
        by_cases h8 : i < 25
        · have d1 : decide ((i : Int) < 25) = true := decide_eq_true (by omega)
          have d1' : decide (i < 25) = true := decide_eq_true h8
          have i0 : (0 : Int) ≤ (i : Int) := by omega
          have i1 : (i : Int) < (n0 : Int) := by omega
          have hw := wrapi' ((i : Int) + 1) (by omega)
          have hz : l0[i]? = some (l0[i]'(by have := HR.out.1; omega)) := List.getElem?_eq_getElem _
          generalize l0[i]'(by have := HR.out.1; omega) = p at hz
          have hpo := HO.out p (List.mem_of_getElem? hz)
          obtain ⟨pb, po, hpa, hpl, hpc⟩ := HR.out.at hz
          subst hpa
          have PX : Hid (∀ w', Below w.heap.size w w' → Part w' pb (po + i * 35) (prC p)) := Lib.hid (fun w' h c v hv => (h.cell (p := ⟨pb, po + i * 35 + c, none⟩) hpl).trans (hpc c v hv))
          have HPO := Lib.hid hpo
          have PP : Hid (Part wr pb (po + i * 35) (prC p)) := Lib.hid (PX.out wr HS.out.st.bel)
          obtain ⟨X, hX⟩ : ∃ X, X = Rx.hashOf p := ⟨_, rfl⟩
          have HXE := Lib.hid hX
          have HX : Hid (X.length = 32) := Lib.hid (by rw [hX]; exact hashOf_len p HPO.out.1)
          obtain ⟨x2, hx2⟩ : ∃ x2, X[2]? = some x2 := ⟨_, List.getElem?_eq_getElem (by have := HX.out; omega)⟩
          obtain ⟨z, hz2⟩ : ∃ z : Int, z = 1 + (x2.toNat : Int) := ⟨_, rfl⟩
          have HZ : Hid (z = Rx.fv (Rx.hashOf p) ∧ 1 ≤ z ∧ z ≤ 256) := Lib.hid (by
            have := x2.toNat_lt
            refine ⟨?_, by omega, by omega⟩
            rw [hz2, ← hX, Rx.fv, List.getD_eq_getElem?_getD, hx2]; rfl)
          have hwy : IntKind.i64.wrap (x2.toNat : Int) = (x2.toNat : Int) := wrapi' _ (by have := x2.toNat_lt; omega)
          have hwz : IntKind.i64.wrap (1 + (x2.toNat : Int)) = z := by rw [wrapi' _ (by have := x2.toNat_lt; omega), hz2]
          have hix : ∀ W, (Instr.index 42 (.agg (hashC X)) (.int .i64 2)).run Tryz.prog W = .ok (.int .u8 (x2.toNat : Int)) W := fun W => idx_hash (hashC X) 2 _ (by omega) (by simp [hashC, bv_getElem?, hx2]) W
          obtain ⟨p', hp'⟩ : ∃ p', p' = ({ p with v := z } : Rx.Pr) := ⟨_, rfl⟩
          have HP' : Hid (Rx.prOk p' ∧ Rx.hashOf p' = X ∧ p'.v = z) := Lib.hid (by rw [hp']; exact ⟨⟨HPO.out.1, HPO.out.2.1, by have := HZ.out; show In64 z; unfold In64; omega⟩, hX.symm, rfl⟩)
          have HSET : Hid ((prC p).setIfInBounds 1 (.int .i64 z) = prC p') := Lib.hid (by rw [hp']; exact prC_setV p z)
          have HPH : Hid (∀ W, Calls Tryz.prog 11 #[.agg (prC p)] W fun e w' => e = .returned (.agg (hashC X)) ∧ Below W.heap.size W w') := Lib.hid (fun W => by rw [hX]; exact pairHash_any W p HPO.out.1 HPO.out.2.1)
          have HPH' : Hid (∀ W, Calls Tryz.prog 11 #[.agg (prC p')] W fun e w' => e = .returned (.agg (hashC X)) ∧ Below W.heap.size W w') := Lib.hid (fun W => by rw [← HP'.out.2.1]; exact pairHash_any W p' HP'.out.1.1 HP'.out.1.2.1)
          obtain ⟨PC, hPC⟩ : ∃ PC, PC = prC p := ⟨_, rfl⟩
          obtain ⟨PD, hPD⟩ : ∃ PD, PD = prC p' := ⟨_, rfl⟩
          have SZP : Hid (PC.size = 35) := Lib.hid (by rw [hPC]; exact prC_size p HPO.out.1)
          have SZD : Hid (PD.size = 35) := Lib.hid (by rw [hPD]; exact prC_size p' HP'.out.1.1)
          have PV : Hid (PC[1]? = some (.int .i64 p.v)) := Lib.hid (by rw [hPC]; exact prC_v p)
          have PVD : Hid (PD[1]? = some (.int .i64 z)) := Lib.hid (by rw [hPD, ← HP'.out.2.2]; exact prC_v p')
          have ONE : Hid (PC.all (·.oneCell') = true) := Lib.hid (by rw [hPC]; exact prC_all p)
          have ONED : Hid (∀ u ∈ PD.toList, u.oneCell' = true) := Lib.hid (by rw [hPD]; exact prC_one p')
          have SPAIR : Hid ((Tryz.prog.info? 44).map (·.size) = some 35) := Lib.hid (by kernel_rfl)
          have ZIP : Hid ((Tryz.prog.info? 44).map (fun i => (i.zero, i.size)) = some (some (.agg (prC ⟨0, 0, Wi.z32, false⟩)), PC.size)) := Lib.hid (by rw [SZP.out]; exact zi_pair)
          have HPCE := Lib.hid hPC
          have HPDE := Lib.hid hPD
          rw [← hPC] at HPH PP PX
          rw [← hPD] at HPH'
          rw [← hPC, ← hPD] at HSET
          clear hz hpo hpl hpc hX hx2 hz2 hp' hPC hPD
          obtain ⟨XB, hXB⟩ : ∃ XB, XB = wr.heap.size := ⟨_, rfl⟩
          obtain ⟨W1, hW1⟩ : ∃ W1, W1 = wr.alloc (.cells PC 44) := ⟨_, rfl⟩
          have b1 : Below wr.heap.size wr W1 := by rw [hW1]; exact (Below.refl _ _).alloc (Nat.le_refl _) _
          have X1 : Hid (W1.heap[XB]? = some (.cells PC 44 (0, 0))) := Lib.hid (by rw [hW1, hXB]; exact heap_alloc_new _ _)
          have H1 := Lib.hid (HS.out.step b1)
          have XBL : Hid (wr.heap.size ≤ XB) := Lib.hid (by rw [hXB]; exact Nat.le_refl _)
          have B1 := Lib.hid b1
          have PW1 : Hid (Part W1 XB 0 PC) := Lib.hid (Part.of_blk X1.out)
          have hph := HPH.out W1
          clear b1
          go_upto_region 12 with (first | (refine wpL_load ?hw 44 (.tmp 60) rfl pb (po + i * 35) (by kernel_rfl) PC _ PP.out Tryz.underlying44 rfl (by rw [SZP.out]; exact SPAIR.out) ?_; case hw => kernel_rfl) | (refine wpL_var 44 61 16 (prC ⟨0, 0, Wi.z32, false⟩) rfl rfl rfl rfl rfl rfl PC (by rfl) ZIP.out (by rw [SZP.out]; rfl) ONE.out (by decide) (by kernel_rfl) ?_))
          rw [← hW1, ← hXB]
          clear hW1 hXB
          go_wp2_with (first | (refine wpL_load ?hw 44 (.tmp 16) rfl XB 0 rfl PC _ PW1.out Tryz.underlying44 rfl (by rw [SZP.out]; exact SPAIR.out) ?_; case hw => kernel_rfl))
          refine hph.mono ?_
          clear hph PP PW1
          rintro e w2 ⟨rfl, b2⟩
          have X2 : Hid (w2.heap[XB]? = some (.cells PC 44 (0, 0))) := Lib.hid ((b2.block _ (blk_lt X1.out)).trans X1.out)
          have H2 := Lib.hid (H1.out.step b2)
          have B2 := Lib.hid (B1.out.trans (b2.mono B1.out.size))
          have cx : w2.cell? ⟨XB, 1, none⟩ = some (.int .i64 p.v) := blk_cell (i := 1) X2.out PV.out
          have fx : w2.frozen? ⟨XB, 1, none⟩ = false := blk_free X2.out 1
          obtain ⟨w3, hw3⟩ : ∃ w3, w3 = w2.setCell ⟨XB, 1, none⟩ (.int .i64 z) := ⟨_, rfl⟩
          have X3 : Hid (w3.heap[XB]? = some (.cells PD 44 (0, 0))) := Lib.hid (by rw [hw3, heap_setCell_same w2 XB 1 _ _ _ X2.out, HSET.out])
          have B3 : Hid (Below wr.heap.size wr w3) := Lib.hid (by rw [hw3]; exact Below.trans_stay (S := fun j => j = XB) B2.out ((TStay.refl (fun j => j = XB) _).setCell (p := ⟨XB, 1, none⟩) (.inl rfl) _) (Nat.le_refl _) (fun j hj e => by have := XBL.out; omega))
          have H3 := Lib.hid (HS.out.step B3.out)
          clear b2 H1 H2 X1 B1 B2
          go_upto_region 13 with (fail)
          rw [← hw3]
          clear hw3 cx fx hix hwz hwy
          have PW3 : Hid (Part w3 XB 0 PD) := Lib.hid (Part.of_blk X3.out)
          have b4 : Below w3.heap.size w3 (w3.alloc (.cells PD 44)) := (Below.refl _ _).alloc (Nat.le_refl _) _
          have TAX : Hid ((w3.alloc (.cells PD 44)).heap[w3.heap.size]? = some (.cells PD 44 (0, 0))) := Lib.hid (heap_alloc_new _ _)
          have OA : Hid (OwnL (w3.alloc (.cells PD 44)) w.heap.size u14 ps) := Lib.hid (ownsRow_stay H3.out.left (TStay.of_below b4 (fun _ => False)) (fun _ _ h => h))
          have SZ : Hid (w.heap.size ≤ (w3.alloc (.cells PD 44)).heap.size) := Lib.hid (Nat.le_trans H3.out.st.bel.size b4.size)
          have B4 := Lib.hid b4
          have X4 : Hid ((w3.alloc (.cells PD 44)).heap[XB]? = some (.cells PD 44 (0, 0))) := Lib.hid ((b4.block _ (blk_lt X3.out)).trans X3.out)
          obtain ⟨iQ, hi0, hz0, hz1, hz2⟩ := info_parts in_pair
          clear b4
          go_upto_region 14 with (first | (refine wpL_load ?hw 44 (.tmp 16) rfl XB 0 rfl PD _ PW3.out Tryz.underlying44 rfl (by rw [SZD.out]; exact SPAIR.out) ?_; case hw => kernel_rfl) | (refine wpL_rowOne rfl 39 44 (.tmp 69) rfl 70 rfl Tryz.underlying39 PD (by rfl) (.agg (prC ⟨0, 0, Wi.z32, false⟩)) 35 zi_pair (by decide) SZD.out ?_) | (at_builtin; refine wpList_append_lies _ rfl (.tmp 68) (.tmp 70) 39 rfl w.heap.size 44 iQ _ 35 56 Tryz.underlying39 hi0 hz0 hz1 hz2 (by decide) (by omega) u14 ps.length (flatC prC ps) (by rfl) OA.out ⟨w3.heap.size, 0, none⟩ 1 1 PD.toList (by rfl) (by rw [Array.length_toList, SZD.out]) (World.news_of_block TAX.out) ONED.out (by omega) (by have := HN.out; unfold maxLen; omega) (by have := HN.out; omega) SZ.out _ rfl ?_))
          intro g cap w5 hown hgrow hat hlt5
          have H5 : Hid (OSt w w5 TB LB B KB .nil [] k [] vh vn (.slice (some ⟨g, 0, none⟩) (ps.length + 1) cap) (ps ++ [p'])) := Lib.hid (H3.out.push HP'.out.1 B4.out (by rw [← show PD = _ from HPDE.out]; exact hown) hgrow)
          have X5 : Hid (w5.heap[XB]? = some (.cells PD 44 (0, 0))) := Lib.hid ((hgrow.block XB (blk_lt X4.out) (fun e => by have h1 := (own_at HS.out.left e.symm).2.1; have := XBL.out; omega)).trans X4.out)
          obtain ⟨vl5, hvl5⟩ : ∃ v, v = Value.slice (some ⟨g, 0, none⟩) (ps.length + 1) cap := ⟨_, rfl⟩
          rw [← hvl5] at H5
          clear hown hgrow hat hlt5 hi0 hz0 hz1 hz2 TAX OA SZ B4 X4 PW3 H3 X3
          go_upto_region 14 with (fail)
          rw [← hvl5]
          clear hvl5
          refine wp_region_held_drew (S := fun w' => w'.heap[XB]? = some (.cells PD 44 (0, 0))) (by kernel_rfl) X5.out (fun hS0 => ?_)
          have H5D := Lib.hid (H5.out.step (bel_drw w5))
          refine takeK (i := 0) (.pointer (some ⟨KB, 0, none⟩)) (some 72) rfl (by kernel_rfl) (by kernel_rfl) (by kernel_rfl) (by kernel_rfl) (fun _ _ _ h => h) (by kernel_rfl) (fun w' _ => by go_simp) hS0 ?_
          simp only [Act.put, List.setIfInBounds_toArray, List.set_cons_zero, List.set_cons_succ]
          refine takeK (i := 1) (.agg PD) (some 73) rfl (by kernel_rfl) (by kernel_rfl) (by kernel_rfl) (by kernel_rfl) (fun _ _ _ h => h) (by kernel_rfl) (fun w' h => ex_load 44 (.tmp 16) rfl XB 0 (by kernel_rfl) PD _ (Part.of_blk h) Tryz.underlying44 rfl (by rw [SZD.out]; exact SPAIR.out)) hS0 ?_
          simp only [Act.put, List.setIfInBounds_toArray, List.set_cons_zero, List.set_cons_succ]
          refine takeK (i := 3) (.pointer (some ⟨XB, 1, none⟩)) (some 75) rfl (by kernel_rfl) (by kernel_rfl) (by kernel_rfl) (by kernel_rfl) (fun _ _ _ h => h) (by kernel_rfl) (fun w' _ => by go_simp) hS0 ?_
          simp only [Act.put, List.setIfInBounds_toArray, List.set_cons_zero, List.set_cons_succ]
          refine takeK (i := 4) (.int .i64 z) (some 76) rfl (by kernel_rfl) (by kernel_rfl) (by kernel_rfl) (by kernel_rfl) (fun _ _ _ h => h) (by kernel_rfl) (fun w' h => by have hc := blk_cell (i := 1) h PVD.out; go_simp) hS0 ?_
          simp only [Act.put, List.setIfInBounds_toArray, List.set_cons_zero, List.set_cons_succ]
          refine callK (i := 2) 11 #[.agg PD] (some 74) rfl (by kernel_rfl) (by kernel_rfl) (by kernel_rfl) (by kernel_rfl) (HPH'.out _) ?_
          rintro e w6 ⟨rfl, b6⟩
          refine ⟨_, rfl, (b6.block _ (blk_lt hS0)).trans hS0, fun hS6 => ?_⟩
          have H6 := Lib.hid (H5D.out.step b6)
          clear b6 hS0
          simp only [Act.put, List.setIfInBounds_toArray, List.set_cons_zero, List.set_cons_succ]
          refine callK (i := 5) 12 #[.pointer (some ⟨KB, 0, none⟩), .agg (hashC X), .int .i64 z] (some 77) rfl (by kernel_rfl) (by kernel_rfl) (by kernel_rfl) (by kernel_rfl) (kput_x w6 w.heap.size KB k vh vn H6.out.kept X z HX.out (by have := HN.out; omega) H6.out.st.bel.size) ?_
          rintro e w7 ⟨rfl, vh7, vn7, h7, s7, _, _⟩
          have X7 : w7.heap[XB]? = some (.cells PD 44 (0, 0)) := (s7.block XB (blk_lt hS6) (fun e => by
            rcases e with e | e | e
            · have h1 := H6.out.kept.top; rw [← e, hS6] at h1; simp at h1
            · exact absurd (own_tne H6.out.kept.hs e hS6) (by decide)
            · exact absurd (own_tne H6.out.kept.ns e hS6) (by decide))).trans hS6
          refine ⟨_, rfl, X7, fun hS7 => ?_⟩
          have H7 := Lib.hid (H6.out.kput h7 s7)
          have LF7 : Hid (Rx.Lf (Rx.kput k X z) [] (ps ++ [p'])) := Lib.hid (by
            have := HF.out.push p' (by rw [HP'.out.2.2, HP'.out.2.1, HZ.out.1, ← HXE.out]) (by rw [HP'.out.2.1]; exact HX.out)
            rwa [HP'.out.2.2, HP'.out.2.1] at this)
          have HKL := Rx.kput_len k X z
          have HNN := Lib.hid (show (ps ++ [p']).length ≤ i + 1 ∧ (Rx.kput k X z).length ≤ i + 1 from ⟨by have := HN.out; rw [List.length_append]; simp; omega, by have := HN.out; omega⟩)
          clear h7 s7 X7 hS6 hS7 HKL H6 H5 H5D
          refine wpAnyH_done (by kernel_rfl) ?_ _
          go_wp2
          go_roundw
          case rel => exact ⟨i + 1, Rx.kput k X z, vh7, vn7, ps ++ [p'], by omega, by omega, by go_num, H7, LF7, HNN⟩
          case measure => simp [intOf]; omega
        · have d1 : decide ((i : Int) < 25) = false := decide_eq_false (by omega)
          have d1' : decide (i < 25) = false := decide_eq_false h8
          have FIN := Lib.hid (show ps.length ≤ 25 ∧ k.length ≤ 25 from ⟨by have := HN.out; omega, by have := HN.out; omega⟩)
          go_wp2
          go_meet
          exact ⟨k, vh, vn, ps, HS, HF, FIN⟩
      · have d0 : decide ((i : Int) < (n0 : Int)) = false := decide_eq_false (by omega)
        have d0' : decide (i < n0) = false := decide_eq_false hlt
        have FIN := Lib.hid (show ps.length ≤ 25 ∧ k.length ≤ 25 from ⟨by have := HN.out; omega, by have := HN.out; omega⟩)
        go_wp2
        go_meet
        exact ⟨k, vh, vn, ps, HS, HF, FIN⟩
    --F>
  case rest =>
    obtain ⟨k, vh, vn, ps0, HS, HF, HN⟩ := hcut
    clear H5
    go_wp2_with fail
    go_loopw [14, 17] (fun lv iv wr => ∃ (i : Nat) (t : Rx.T) (I : Rx.Its) (km : Rx.K) (ps : List Rx.Pr), iv = .int .i64 (i : Int) ∧ Hid (OSt w wr TB LB B KB t I k km vh vn lv ps) ∧ Hid (Rx.Lf k km ps) ∧ Hid (i + ps.length ≤ 25 ∧ I.length + Rx.uns t ≤ 65 * i ∧ km.length ≤ i)) (fun _ iv _ => 25 - (intOf iv).toNat)
    case atStart => exact ⟨0, .nil, [], [], ps0, rfl, HS, HF, Lib.hid ⟨by have := HN.out; omega, by simp [Rx.uns], by simp⟩⟩
    case round =>
      obtain ⟨i, t, I, km, ps, rfl, HO2, HLF, HB⟩ := hrel
      clear HS HF
      obtain ⟨L, hL⟩ : ∃ L, L = ps.length := ⟨_, rfl⟩
      have HL := Lib.hid hL
      obtain ⟨al, cl, hvl, hcl, _, _⟩ := ownsRow_slice HO2.out.left
      rw [← hL] at hvl hcl
      subst hvl
      have HCL := Lib.hid hcl
      clear hL hcl
      by_cases hl0 : 0 < L
      · have d0 : decide ((0 : Int) < (L : Int)) = true := decide_eq_true (by omega)
        have d0' : decide (0 < L) = true := decide_eq_true hl0
        have L25 : Hid (i + L ≤ 25) := Lib.hid (by have := HB.out; have := HL.out; omega)
        obtain ⟨bq, hbq⟩ : ∃ bq, bq = decide (i < n1) := ⟨_, rfl⟩
        have e0 : decide ((i : Int) < (n1 : Int)) = bq := by rw [hbq, decide_eq_decide]; omega
        have e0' : decide (i < n1) = bq := hbq.symm
        clear hbq
        go_upto_if 86 with (fail)
        go_cut [18] from 87 to 134 (fun jv wx => ∃ j : Nat, j < L ∧ jv = .int .i64 (j : Int) ∧ wr = wx)
        case first =>
          --<F
          cases bq
          · go_wp2
            go_meet
            exact ⟨0, hl0, rfl, rfl⟩
          · have hin : i < n1 := of_decide_eq_true e0'
            have i0 : (0 : Int) ≤ (i : Int) := by omega
            have i1 : (i : Int) < (n1 : Int) := by omega
            obtain ⟨ob, oo, hoa, hol, hoc⟩ := HRO.out.2.2 (by omega)
            subst hoa
            have hz : l1[i]? = some (l1[i]'(by have := HRO.out.1; omega)) := List.getElem?_eq_getElem _
            generalize l1[i]'(by have := HRO.out.1; omega) = z at hz
            have hin64 := HRO.out.2.1 z (List.mem_of_getElem? hz)
            have ci : wr.cell? ⟨ob, oo + i, none⟩ = some (.int .i64 z) := (HO2.out.st.bel.cell (p := ⟨ob, oo + i, none⟩) hol).trans (hoc i z hz)
            have hpk := pick_any wr z (L : Int) hin64.1 hin64.2 (by omega) (by have := L25.out; omega)
            obtain ⟨j, hj⟩ : ∃ j : Nat, z % (L : Int) = (j : Int) := Int.eq_ofNat_of_zero_le (Int.emod_nonneg _ (by omega))
            have hj1 : j < L := by have := Int.emod_lt_of_pos z (show (0 : Int) < (L : Int) by omega); omega
            rw [hj] at hpk
            clear hoc hol hz hin64 hj
            go_wp2_with fail
            refine hpk.mono ?_
            clear hpk
            rintro e w' ⟨rfl, rfl⟩
            go_wp2
            go_meet
            exact ⟨j, hj1, rfl, rfl⟩
          --F>
        case rest =>
          obtain ⟨j, hj, rfl, hwx⟩ := hcut
          subst hwx
          clear e0 e0'
          have hz : ps[j]? = some (ps[j]'(by have := HL.out; omega)) := List.getElem?_eq_getElem _
          generalize ps[j]'(by have := HL.out; omega) = p at hz
          have hpo := HO2.out.ok p (List.mem_of_getElem? hz)
          have HZ := Lib.hid hz
          have OL : Hid (∀ (X : World) (t' : Rx.T) (I' : Rx.Its) (km' : Rx.K), OSt w X TB LB B KB t' I' k km' vh vn (.slice al L cl) ps → X.ownsRow w.heap.size 44 35 (.slice al L cl) L (flatC prC ps)) := Lib.hid (fun X t' I' km' h => by
            have h1 : X.ownsRow w.heap.size 44 35 (.slice al L cl) ps.length (flatC prC ps) := h.left
            rwa [← show L = _ from HL.out] at h1)
          have HPS : Hid (∀ x ∈ ps, (prC x).size = 35) := Lib.hid (fun x hx => prC_size x (HO2.out.ok x hx).1)
          obtain ⟨g, hg⟩ : ∃ g, al = some ⟨g, 0, none⟩ := by
            rcases (OL.out _ _ _ _ HO2.out).2 with ⟨e1, _⟩ | ⟨g, cap, cur, e1, _⟩
            · simp only [Value.slice.injEq] at e1; omega
            · simp only [Value.slice.injEq] at e1; exact ⟨g, e1.1⟩
          subst hg
          have PARTX : Hid (∀ X, X.ownsRow w.heap.size 44 35 (.slice (some ⟨g, 0, none⟩) L cl) L (flatC prC ps) → Part X g (j * 35) (prC p)) := Lib.hid (fun X h => by
            obtain ⟨b, o, e, _, hp⟩ := (RdA.of_own h HL.out.symm HPS.out).at HZ.out
            simp only [Option.some.injEq, Addr.mk.injEq, and_true] at e
            obtain ⟨rfl, rfl⟩ := e
            rwa [Nat.zero_add] at hp)
          obtain ⟨X, hX⟩ : ∃ X, X = Rx.hashOf p := ⟨_, rfl⟩
          have HXE := Lib.hid hX
          have HX : Hid (X.length = 32) := Lib.hid (by rw [hX]; exact hashOf_len p hpo.1)
          have HPH : Hid (∀ W, Calls Tryz.prog 11 #[.agg (prC p)] W fun e w' => e = .returned (.agg (hashC X)) ∧ Below W.heap.size W w') := Lib.hid (fun W => by rw [hX]; exact pairHash_any W p hpo.1 hpo.2.1)
          obtain ⟨z, hzv⟩ : ∃ z, z = p.v := ⟨_, rfl⟩
          have HZV := Lib.hid hzv
          have HZB : Hid (0 ≤ z ∧ z ≤ 256) := Lib.hid (by rw [hzv, HLF.out.pv p (List.mem_of_getElem? hz)]; exact Rx.fv_le _)
          obtain ⟨PC, hPC⟩ : ∃ PC, PC = prC p := ⟨_, rfl⟩
          have SZP : Hid ((Tryz.prog.info? 44).map (·.size) = some PC.size) := Lib.hid (by rw [hPC]; exact sz_pairO p hpo.1)
          have PV : Hid (PC[1]? = some (.int .i64 z)) := Lib.hid (by rw [hPC, hzv]; exact prC_v p)
          rw [← hPC] at HPH PARTX
          have j0 : (0 : Int) ≤ (j : Int) := by omega
          have j1 : (j : Int) < (L : Int) := by omega
          clear hz hpo hX hzv hPC
          have H0 := Lib.hid (HO2.out.step (bel_drw wr))
          go_upto_region 21 with (fail)
          refine wp_region_held_drew (S := fun w' => Part w' g (j * 35) PC) (by kernel_rfl) (PARTX.out _ (OL.out _ _ _ _ H0.out)) (fun hS0 => ?_)
          refine takeK (i := 0) (.pointer (some ⟨TB, 0, none⟩)) (some 94) rfl (by kernel_rfl) (by kernel_rfl) (by kernel_rfl) (by kernel_rfl) (fun _ _ _ h => h) (by kernel_rfl) (fun w' _ => by go_simp) hS0 ?_
          try simp only [Act.put, List.setIfInBounds_toArray, List.set_cons_zero, List.set_cons_succ]
          refine takeK (i := 1) (.slice (some ⟨g, 0, none⟩) L cl) (some 95) rfl (by kernel_rfl) (by kernel_rfl) (by kernel_rfl) (by kernel_rfl) (fun _ _ _ h => h) (by kernel_rfl) (fun w' _ => by go_simp) hS0 ?_
          try simp only [Act.put, List.setIfInBounds_toArray, List.set_cons_zero, List.set_cons_succ]
          refine takeK (i := 2) (.int .i64 (j : Int)) (some 96) rfl (by kernel_rfl) (by kernel_rfl) (by kernel_rfl) (by kernel_rfl) (fun _ _ _ h => h) (by kernel_rfl) (fun w' _ => by go_simp) hS0 ?_
          try simp only [Act.put, List.setIfInBounds_toArray, List.set_cons_zero, List.set_cons_succ]
          refine takeK (i := 3) (.pointer (some ⟨g, j * 35, none⟩)) (some 97) rfl (by kernel_rfl) (by kernel_rfl) (by kernel_rfl) (by kernel_rfl) (fun _ _ _ h => h) (by kernel_rfl) (fun w' _ => by go_simp) hS0 ?_
          try simp only [Act.put, List.setIfInBounds_toArray, List.set_cons_zero, List.set_cons_succ]
          refine takeK (i := 4) (.agg PC) (some 98) rfl (by kernel_rfl) (by kernel_rfl) (by kernel_rfl) (by kernel_rfl) (fun _ _ _ h => h) (by kernel_rfl) (fun w' h => ex_load 44 (.tmp 97) rfl g (j * 35) (by kernel_rfl) PC _ h Tryz.underlying44 rfl SZP.out) hS0 ?_
          try simp only [Act.put, List.setIfInBounds_toArray, List.set_cons_zero, List.set_cons_succ]
          refine takeK (i := 6) (.slice (some ⟨g, 0, none⟩) L cl) (some 100) rfl (by kernel_rfl) (by kernel_rfl) (by kernel_rfl) (by kernel_rfl) (fun _ _ _ h => h) (by kernel_rfl) (fun w' _ => by go_simp) hS0 ?_
          try simp only [Act.put, List.setIfInBounds_toArray, List.set_cons_zero, List.set_cons_succ]
          refine takeK (i := 7) (.int .i64 (j : Int)) (some 101) rfl (by kernel_rfl) (by kernel_rfl) (by kernel_rfl) (by kernel_rfl) (fun _ _ _ h => h) (by kernel_rfl) (fun w' _ => by go_simp) hS0 ?_
          try simp only [Act.put, List.setIfInBounds_toArray, List.set_cons_zero, List.set_cons_succ]
          refine takeK (i := 8) (.pointer (some ⟨g, j * 35, none⟩)) (some 102) rfl (by kernel_rfl) (by kernel_rfl) (by kernel_rfl) (by kernel_rfl) (fun _ _ _ h => h) (by kernel_rfl) (fun w' _ => by go_simp) hS0 ?_
          try simp only [Act.put, List.setIfInBounds_toArray, List.set_cons_zero, List.set_cons_succ]
          refine takeK (i := 9) (.pointer (some ⟨g, j * 35 + 1, none⟩)) (some 103) rfl (by kernel_rfl) (by kernel_rfl) (by kernel_rfl) (by kernel_rfl) (fun _ _ _ h => h) (by kernel_rfl) (fun w' _ => by go_simp) hS0 ?_
          try simp only [Act.put, List.setIfInBounds_toArray, List.set_cons_zero, List.set_cons_succ]
          refine takeK (i := 10) (.int .i64 z) (some 104) rfl (by kernel_rfl) (by kernel_rfl) (by kernel_rfl) (by kernel_rfl) (fun _ _ _ h => h) (by kernel_rfl) (fun w' h => by have hc := h 1 _ PV.out; go_simp) hS0 ?_
          try simp only [Act.put, List.setIfInBounds_toArray, List.set_cons_zero, List.set_cons_succ]
          refine callK (i := 5) 11 #[.agg PC] (some 99) rfl (by kernel_rfl) (by kernel_rfl) (by kernel_rfl) (by kernel_rfl) (HPH.out _) ?_
          rintro e w6 ⟨rfl, b6⟩
          have H6 := Lib.hid (H0.out.step b6)
          refine ⟨_, rfl, PARTX.out _ (OL.out _ _ _ _ H6.out), fun hS6 => ?_⟩
          clear b6 hS0
          try simp only [Act.put, List.setIfInBounds_toArray, List.set_cons_zero, List.set_cons_succ]
          refine callK (i := 11) 10 #[.pointer (some ⟨TB, 0, none⟩), .agg (hashC X), .int .i64 z] (some 105) rfl (by kernel_rfl) (by kernel_rfl) (by kernel_rfl) (by kernel_rfl) (rPut_any w6 w.heap.size TB t H6.out.st.tree X z HX.out (by have := HZB.out; omega) (by rw [H6.out.mt.cnt H6.out.st.tree.ok]; have := HB.out; omega) H6.out.st.bel.size) ?_
          rintro e w7 ⟨rfl, hpt⟩
          obtain ⟨t2, h7, u7⟩ := H6.out.put HX.out hpt
          refine ⟨_, rfl, PARTX.out _ (OL.out _ _ _ _ h7), fun hS0 => ?_⟩
          have H7 := Lib.hid h7
          have U7 := Lib.hid u7
          clear hpt h7 u7 hS6 H6 H0
          try simp only [Act.put, List.setIfInBounds_toArray, List.set_cons_zero, List.set_cons_succ]
          refine takeK (i := 12) (.bool false) (some 106) rfl (by kernel_rfl) (by kernel_rfl) (by kernel_rfl) (by kernel_rfl) (fun _ _ _ h => h) (by kernel_rfl) (fun w' _ => by go_simp) hS0 ?_
          try simp only [Act.put, List.setIfInBounds_toArray, List.set_cons_zero, List.set_cons_succ]
          refine wpAnyH_done (by kernel_rfl) ?_ _
          obtain ⟨km2, hkm2⟩ : ∃ km2, km2 = Rx.kput km X z := ⟨_, rfl⟩
          obtain ⟨qs, hqs⟩ : ∃ qs, qs = ps.take j ++ ps.drop (j + 1) := ⟨_, rfl⟩
          have LF2 : Hid (Rx.Lf k km2 qs) := Lib.hid (by rw [hkm2, hqs, HXE.out, HZV.out]; exact HLF.out.put HZ.out)
          have KL2 : Hid (km2.length ≤ i + 1) := Lib.hid (by have := Rx.kput_len km X z; have := HB.out; rw [hkm2]; omega)
          rw [← hkm2] at H7
          obtain ⟨m, hm⟩ : ∃ m, m = j + 1 := ⟨_, rfl⟩
          have hwm : IntKind.i64.wrap ((j : Int) + 1) = (m : Int) := by rw [wrapi' _ (by have := L25.out; omega), hm]; omega
          have HM : Hid (m = j + 1 ∧ j < L) := Lib.hid ⟨hm, hj⟩
          have HQL : Hid (qs.length = j + (L - m)) := Lib.hid (by rw [hqs, List.length_append, List.length_take, List.length_drop, ← show L = _ from HL.out]; omega)
          have HQM : Hid (∀ q ∈ qs, q ∈ ps) := Lib.hid (by
            rw [hqs]; intro q hq
            rcases List.mem_append.1 hq with h | h
            · exact List.mem_of_mem_take h
            · exact List.mem_of_mem_drop h)
          have HQF : Hid (flatC prC qs = flatC prC (ps.take j) ++ flatC prC (ps.drop m)) := Lib.hid (by rw [hqs, flatC_app', hm])
          have LEN1 : Hid ((flatC prC (ps.take j)).length = j * 35) := Lib.hid (by
            rw [flatC_length (sz := 35) (fun x hx => HPS.out x (List.mem_of_mem_take hx)), List.length_take, ← show L = _ from HL.out, Nat.min_eq_left (by omega)])
          have LEN2 : Hid ((flatC prC (ps.drop m)).length = (L - m) * 35) := Lib.hid (by
            rw [flatC_length (sz := 35) (fun x hx => HPS.out x (List.mem_of_mem_drop hx)), List.length_drop, ← show L = _ from HL.out])
          have ONE1 : Hid (∀ l : List Rx.Pr, ∀ u ∈ flatC prC l, u.oneCell' = true) := Lib.hid (fun l u hu => by
            induction l with
            | nil => simp [flatC] at hu
            | cons x r ih =>
              have e : flatC prC (x :: r) = (prC x).toList ++ flatC prC r := rfl
              rw [e] at hu
              rcases List.mem_append.1 hu with h | h
              · exact prC_one x u h
              · exact ih h)
          have KEEP7 : Hid (∀ Y, Below w7.heap.size w7 Y → ∀ q u, (flatC prC ps)[q]? = some u → Y.cell? ⟨g, q, none⟩ = some u) := Lib.hid (fun Y hY q u hu => by
            have := own_src (OL.out _ _ _ _ (H7.out.step hY)) q u hu
            rwa [Addr.add_lit, Nat.zero_add] at this)
          have SRC1 : Hid (∀ Y, Below w7.heap.size w7 Y → ∀ ad, (some ⟨g, 0, none⟩ : Option Addr) = some ad → ∀ q u, (flatC prC (ps.take j))[q]? = some u → Y.cell? (ad.add q) = some u) := Lib.hid (fun Y hY ad e q u hu => by
            cases e
            rw [Addr.add_lit, Nat.zero_add]
            refine KEEP7.out Y hY q u ?_
            have e2 : flatC prC ps = flatC prC (ps.take j) ++ flatC prC (ps.drop j) := by rw [← flatC_app', List.take_append_drop]
            rw [e2, List.getElem?_append_left (List.getElem?_eq_some_iff.1 hu).1]
            exact hu)
          obtain ⟨off, hoff⟩ : ∃ off, off = if cl = m then 0 else m * 35 := ⟨_, rfl⟩
          have SL8 : Hid (∀ Y : World, (Instr.sliceAt 39 (.slice (some ⟨g, 0, none⟩) L cl) (some (.int .i64 (m : Int))) none none).run Tryz.prog Y = .ok (.slice (some ⟨g, off, none⟩) (L - m) (cl - m)) Y) := Lib.hid (fun Y => by rw [hoff]; exact slP_from g m L cl (by omega) HCL.out Y)
          have SL3 : Hid (∀ Y : World, (Instr.sliceAt 39 (.slice (some ⟨g, 0, none⟩) L cl) none (some (.int .i64 (j : Int))) none).run Tryz.prog Y = .ok (.slice (some ⟨g, 0, none⟩) j cl) Y) := Lib.hid (fun Y => slP_to g j L cl (by have := HCL.out; omega) (by have := HCL.out; omega) Y)
          have SRC2 : Hid (∀ Y, Below w7.heap.size w7 Y → ∀ ad, (some ⟨g, off, none⟩ : Option Addr) = some ad → ∀ q u, (flatC prC (ps.drop m))[q]? = some u → Y.cell? (ad.add q) = some u) := Lib.hid (fun Y hY ad e q u hu => by
            cases e
            have hq := (List.getElem?_eq_some_iff.1 hu).1
            rw [LEN2.out] at hq
            have hne : ¬ cl = m := fun e => by have := HCL.out; have h0 : L - m = 0 := by omega
                                               rw [h0] at hq; omega
            rw [hoff, if_neg hne, Addr.add_lit]
            refine KEEP7.out Y hY _ u ?_
            have e2 : flatC prC ps = flatC prC (ps.take m) ++ flatC prC (ps.drop m) := by rw [← flatC_app', List.take_append_drop]
            have l2 : (flatC prC (ps.take m)).length = m * 35 := by
              rw [flatC_length (sz := 35) (fun x hx => HPS.out x (List.mem_of_mem_take hx)), List.length_take, ← show L = _ from HL.out, Nat.min_eq_left (by omega)]
            rw [e2, List.getElem?_append_right (by rw [l2]; omega), l2, Nat.add_sub_cancel_left]
            exact hu)
          obtain ⟨iQ, hi0, hz0, hz1, hz2⟩ := info_parts in_pair
          have IQ0 := Lib.hid hi0
          have IQ1 := Lib.hid hz0
          have IQ2 := Lib.hid hz1
          have IQ3 := Lib.hid hz2
          clear hkm2 hqs hm hoff hi0 hz0 hz1 hz2 hS0 HPH PV SZP HLF PARTX
          go_upto_region 23 with (fail)
          refine wp_region_held_drew (S := fun w' => Below w7.heap.size w7 w') (by kernel_rfl) (bel_drw w7) (fun hS0 => ?_)
          refine takeK (i := 1) (.slice (some ⟨g, 0, none⟩) L cl) (some 108) rfl (by kernel_rfl) (by kernel_rfl) (by kernel_rfl) (by kernel_rfl) (fun _ _ _ h => h) (by kernel_rfl) (fun w' _ => by go_simp) hS0 ?_
          try simp only [Act.put, List.setIfInBounds_toArray, List.set_cons_zero, List.set_cons_succ]
          refine takeK (i := 2) (.int .i64 (j : Int)) (some 109) rfl (by kernel_rfl) (by kernel_rfl) (by kernel_rfl) (by kernel_rfl) (fun _ _ _ h => h) (by kernel_rfl) (fun w' _ => by go_simp) hS0 ?_
          try simp only [Act.put, List.setIfInBounds_toArray, List.set_cons_zero, List.set_cons_succ]
          refine takeK (i := 3) (.slice (some ⟨g, 0, none⟩) j cl) (some 110) rfl (by kernel_rfl) (by kernel_rfl) (by kernel_rfl) (by kernel_rfl) (fun _ _ _ h => h) (by kernel_rfl) (fun w' _ => ex_slTo 39 (.tmp 108) (.tmp 109) rfl _ _ _ (by kernel_rfl) (by kernel_rfl) (SL3.out w')) hS0 ?_
          try simp only [Act.put, List.setIfInBounds_toArray, List.set_cons_zero, List.set_cons_succ]
          refine takeK (i := 5) (.slice (some ⟨g, 0, none⟩) L cl) (some 112) rfl (by kernel_rfl) (by kernel_rfl) (by kernel_rfl) (by kernel_rfl) (fun _ _ _ h => h) (by kernel_rfl) (fun w' _ => by go_simp) hS0 ?_
          try simp only [Act.put, List.setIfInBounds_toArray, List.set_cons_zero, List.set_cons_succ]
          refine takeK (i := 6) (.int .i64 (j : Int)) (some 113) rfl (by kernel_rfl) (by kernel_rfl) (by kernel_rfl) (by kernel_rfl) (fun _ _ _ h => h) (by kernel_rfl) (fun w' _ => by go_simp) hS0 ?_
          try simp only [Act.put, List.setIfInBounds_toArray, List.set_cons_zero, List.set_cons_succ]
          refine takeK (i := 7) (.int .i64 (m : Int)) (some 114) rfl (by kernel_rfl) (by kernel_rfl) (by kernel_rfl) (by kernel_rfl) (fun _ _ _ h => h) (by kernel_rfl) (fun w' _ => by go_simp) hS0 ?_
          try simp only [Act.put, List.setIfInBounds_toArray, List.set_cons_zero, List.set_cons_succ]
          refine takeK (i := 8) (.slice (some ⟨g, off, none⟩) (L - m) (cl - m)) (some 115) rfl (by kernel_rfl) (by kernel_rfl) (by kernel_rfl) (by kernel_rfl) (fun _ _ _ h => h) (by kernel_rfl) (fun w' _ => ex_slFrom 39 (.tmp 112) (.tmp 114) rfl _ _ _ (by kernel_rfl) (by kernel_rfl) (SL8.out w')) hS0 ?_
          try simp only [Act.put, List.setIfInBounds_toArray, List.set_cons_zero, List.set_cons_succ]
          have BX0 : Hid (Below w7.heap.size w7 w7.drew) := Lib.hid (bel_drw w7)
          obtain ⟨x0, hx0⟩ : ∃ x0, x0 = w7.drew := ⟨_, rfl⟩
          rw [← hx0] at hS0 BX0 ⊢
          clear hx0
          refine wpAnyH_ready (rs := [0]) (by kernel_rfl) (by simp) ?_
          refine AllReadyH.cons rfl (fun K hK => ?_) AllReadyH.nil
          rw [if_pos (by kernel_rfl)]
          go_simp
          have hS0' : Below w7.heap.size w7 (x0.alloc (.cells #[] 44)) := BX0.out.alloc (BX0.out.size) _
          refine hK.out _ _ hS0' (fun hS0 => ?_)
          clear hK K hS0'
          obtain ⟨x1, hx1⟩ : ∃ x, x = (x0.alloc (.cells #[] 44)) := ⟨_, rfl⟩
          obtain ⟨b1, hb1⟩ : ∃ b, b = x0.heap.size := ⟨_, rfl⟩
          have BX1 : Hid (Below w7.heap.size w7 x1) := Lib.hid (by rw [hx1]; exact BX0.out.alloc BX0.out.size _)
          have Eb1 : Hid (x1.heap[b1]? = some (.cells #[] 44 (0, 0)) ∧ w7.heap.size ≤ b1) := Lib.hid (by rw [hx1, hb1]; exact ⟨heap_alloc_new _ _, BX0.out.size⟩)
          rw [← hx1] at hS0 ⊢
          rw [← hb1]
          clear hx1 hb1
          try simp only [Act.put, List.setIfInBounds_toArray, List.set_cons_zero, List.set_cons_succ]
          refine wpAnyH_ready (rs := [4]) (by kernel_rfl) (by simp) ?_
          refine AllReadyH.cons rfl (fun K hK => ?_) AllReadyH.nil
          refine step_append_cells (some 111) rfl rfl (.tmp 107) (.tmp 110) 39 rfl w7.heap.size 44 iQ _ 35 56 Tryz.underlying39 IQ0.out IQ1.out IQ2.out IQ3.out (by rfl) (by decide) (.slice (some ⟨b1, 0, none⟩) 0 0) 0 [] (by kernel_rfl) (own_new0 Eb1.out.1 Eb1.out.2) (some ⟨g, 0, none⟩) j cl (flatC prC (ps.take j)) (by kernel_rfl) LEN1.out (fun e => by cases e) (SRC1.out _ BX1.out) (ONE1.out _) (by have := L25.out; unfold maxLen; omega) (by have := L25.out; omega) BX1.out.size ?_
          intro a2 c2 x2 o2 g2
          simp only [Nat.zero_add, List.nil_append] at o2 ⊢
          have BX2 : Hid (Below w7.heap.size w7 x2) := Lib.hid (BX1.out.grown g2 BX1.out.size (fun j e => by cases e; exact Eb1.out.2))
          have O2 := Lib.hid o2
          refine hK.out _ _ BX2.out (fun hS0 => ?_)
          clear hK K o2 g2
          try simp only [Act.put, List.setIfInBounds_toArray, List.set_cons_zero, List.set_cons_succ]
          refine wpAnyH_ready (rs := [9]) (by kernel_rfl) (by simp) ?_
          refine AllReadyH.cons rfl (fun K hK => ?_) AllReadyH.nil
          refine step_append_cells (some 116) rfl rfl (.tmp 111) (.tmp 115) 39 rfl w7.heap.size 44 iQ _ 35 56 Tryz.underlying39 IQ0.out IQ1.out IQ2.out IQ3.out (by rfl) (by decide) (.slice a2 j c2) j (flatC prC (ps.take j)) (by kernel_rfl) O2.out (some ⟨g, off, none⟩) (L - m) (cl - m) (flatC prC (ps.drop m)) (by kernel_rfl) LEN2.out (fun e => by cases e) (SRC2.out _ BX2.out) (ONE1.out _) (by have := L25.out; have := HM.out; unfold maxLen; omega) (by have := L25.out; have := HM.out; omega) BX2.out.size ?_
          intro a3 c3 x3 o3 g3
          have BX3 : Hid (Below w7.heap.size w7 x3) := Lib.hid (BX2.out.grown g3 BX2.out.size (fun j e => (O2.out.lt j e).1))
          have H8 : Hid (OSt w x3 TB LB B KB t2 I k km2 vh vn (.slice a3 (j + (L - m)) c3) qs) := Lib.hid (H7.out.turn BX3.out (by rw [HQL.out, HQF.out]; exact o3) HQM.out)
          obtain ⟨v14, hv14⟩ : ∃ v, v = Value.slice a3 (j + (L - m)) c3 := ⟨_, rfl⟩
          rw [← hv14] at H8 ⊢
          refine hK.out _ _ BX3.out (fun hS0 => ?_)
          clear hK K o3 g3 hv14
          try simp only [Act.put, List.setIfInBounds_toArray, List.set_cons_zero, List.set_cons_succ]
          refine takeK (i := 10) v14 (some 14) rfl (by kernel_rfl) (by kernel_rfl) (by kernel_rfl) (by kernel_rfl) (fun _ _ _ h => h) (by kernel_rfl) (fun w' _ => by kernel_rfl) hS0 ?_
          try simp only [Act.put, List.setIfInBounds_toArray, List.set_cons_zero, List.set_cons_succ]
          refine wpAnyH_done (by kernel_rfl) ?_ _
          have hw := wrapi' ((i : Int) + 1) (by have := L25.out; omega)
          have HB2 : Hid (i + 1 + qs.length ≤ 25 ∧ I.length + Rx.uns t2 ≤ 65 * (i + 1) ∧ km2.length ≤ i + 1) := Lib.hid ⟨by have := HQL.out; have := L25.out; have := HM.out; omega, by have := U7.out; have := HB.out; omega, KL2.out⟩
          have IL25 : i + 1 ≤ 25 := by have := HB2.out; omega
          clear SRC1 SRC2 SL8 SL3 KEEP7 ONE1 LEN1 LEN2 HQF HQM O2 BX3 BX2 BX1 BX0 Eb1 H7 HPS OL hwm hS0 j0 j1 d0 d0' hl0 U7 HO2
          by_cases hin : i < n2
          · have e0 : decide ((i : Int) < (n2 : Int)) = true := decide_eq_true (by omega)
            have e0' : decide (i < n2) = true := decide_eq_true hin
            have i0 : (0 : Int) ≤ (i : Int) := by omega
            have i1 : (i : Int) < (n2 : Int) := by omega
            have hz : l2[i]? = some (l2[i]'(by have := HRB.out.1; omega)) := List.getElem?_eq_getElem _
            generalize l2[i]'(by have := HRB.out.1; omega) = bz at hz
            obtain ⟨ob, oo, hoa, hol, hoc⟩ := HRB.out.2 i bz hz
            subst hoa
            have ci : x3.cell? ⟨ob, oo + i, none⟩ = some (.bool bz) := (H8.out.st.bel.cell (p := ⟨ob, oo + i, none⟩) hol).trans hoc
            clear hz hol hoc
            cases bz
            · go_wp2
              go_roundw
              case rel => exact ⟨i + 1, t2, I, km2, qs, by go_num, H8, LF2, HB2⟩
              case measure => simp [intOf]; omega
            · have hsv := H8.out.st.save_call (by have := HB2.out; omega) (by have := HB2.out; omega) (by omega)
              go_wp2_with fail
              refine hsv.mono ?_
              clear hsv ci
              intro e w9 hse
              obtain ⟨t3, I3, rfl, h9, s9⟩ := H8.out.save hse
              have H9 := Lib.hid h9
              have HB3 : Hid (i + 1 + qs.length ≤ 25 ∧ I3.length + Rx.uns t3 ≤ 65 * (i + 1) ∧ km2.length ≤ i + 1) := Lib.hid ⟨HB2.out.1, by have h1 := s9.len; have h2 := s9.uns; have := HB2.out; omega, HB2.out.2.2⟩
              clear hse h9 s9
              go_wp2
              go_roundw
              case rel => exact ⟨i + 1, t3, I3, km2, qs, by go_num, H9, LF2, HB3⟩
              case measure => simp [intOf]; omega
          · have e0 : decide ((i : Int) < (n2 : Int)) = false := decide_eq_false (by omega)
            have e0' : decide (i < n2) = false := decide_eq_false hin
            go_wp2
            go_roundw
            case rel => exact ⟨i + 1, t2, I, km2, qs, by go_num, H8, LF2, HB2⟩
            case measure => simp [intOf]; omega
      · obtain rfl : L = 0 := by omega
        have hps : ps = [] := List.eq_nil_of_length_eq_zero HL.out.symm
        subst hps
        have hM : Hid (∀ t', Rx.Mt t' km → Rx.Mt t' k) := Lib.hid (fun t' h => HLF.out.done h)
        have hsv := HO2.out.st.save_call (by have := HB.out; omega) (by have := HB.out; omega) (by omega)
        clear HL HCL hl0
        go_wp2_with fail
        refine hsv.mono ?_
        clear hsv
        intro e w5 hse
        obtain ⟨t2, I2, rfl, h5, s5⟩ := HO2.out.save hse
        have H5 := Lib.hid h5
        have K25 : Hid (k.length ≤ 25 ∧ I2.length ≤ 1625 ∧ km.length ≤ 25) := Lib.hid ⟨HN.out.2, by have := s5.len; have := HB.out; omega, by have := HB.out; omega⟩
        have hld := rLoad_tree w5 w.heap.size LB B 4194304 I2 t2 h5.st.ls (by have := K25.out; omega) s5.all h5.st.sv h5.st.tree.ok h5.st.big (by rw [h5.mt.cnt h5.st.tree.ok]; have := K25.out; omega)
        obtain ⟨q, hq⟩ : ∃ q, q = t2.saved := ⟨_, rfl⟩
        rw [← hq] at hld ⊢
        clear hse h5 s5 hq HO2
        go_wp2_with fail
        refine hld.mono ?_
        clear hld
        rintro e w6 ⟨UB, t3, rfl, h6, e6, b6⟩
        have H6 := Lib.hid (H5.out.step b6)
        have U6 := Lib.hid h6
        have E6 := Lib.hid e6
        have B6L := Lib.hid b6.size
        have his := is_any w6 w.heap.size w.heap.size TB KB t2 k vh vn s3 n3 c3 l3 H6.out.st.tree H6.out.kept (hM.out t2 H6.out.mt) (by have := K25.out; omega) (HP.out.below H6.out.st.bel) (HE.out.keep H6.out.st.bel)
        clear h6 e6 b6
        go_wp2_with fail
        refine his.mono ?_
        clear his
        rintro e w7 ⟨rfl, b7⟩
        have H7 := Lib.hid (H6.out.step b7)
        have M7 : Rx.Mt t3 k := hM.out t3 ⟨fun x n hx => by rw [Rx.er_has E6.out]; exact H7.out.mt.mem x n hx, H7.out.mt.nd, H7.out.mt.h32⟩
        have his := is_any w7 w5.heap.size w.heap.size UB KB t3 k vh vn s3 n3 c3 l3 (U6.out.below b7) H7.out.kept M7 (by have := K25.out; omega) (HP.out.below H7.out.st.bel) (HE.out.keep H7.out.st.bel)
        clear b7 M7
        go_wp2_with fail
        refine his.mono ?_
        clear his
        rintro e w8 ⟨rfl, b8⟩
        have BF := Lib.hid (H7.out.st.bel.trans (b8.mono H7.out.st.bel.size))
        clear b8
        go_wp2
        go_ret
        exact ⟨rfl, BF.out⟩
end Go.Proofs.YthampbiabkfmoaaGreatDoor
