/- taprootlaw9.RadixSaves: the walk. -/
import Derived.Test.YthampbiabkfmoaaGreatDoorRxSst
namespace Go.Proofs.YthampbiabkfmoaaGreatDoor
open Go.RowKit Go.Tap
set_option linter.unusedVariables false
set_option linter.unusedSimpArgs false
theorem rdz_of9s {N : Nat} {W : World} {a : Option Addr} {n c : Nat} {l : List Int} (g : ArgI N W a n c l) : RdZ W a n l := by
  refine ⟨g.len, fun z hz => ?_, fun h0 => ?_⟩
  · have h0 : 0 < n := by have := List.length_pos_of_mem hz; have := g.len; omega
    obtain ⟨b, o, _, hx⟩ := g.at_ h0
    obtain ⟨i, hi, rfl⟩ := List.getElem_of_mem hz
    exact (hx i _ (List.getElem?_eq_getElem hi)).2
  · obtain ⟨b, o, e, hx⟩ := g.at_ h0
    have hi : 0 < l.length := by have := g.len; omega
    have hc := (hx 0 _ (List.getElem?_eq_getElem hi)).1
    refine ⟨b, o, e, block_lt_of_cell hc, fun i z hz => ?_⟩
    have := (hx i z hz).1
    rwa [Nat.mul_one] at this
theorem sz_pairS (p : Rx.Pr) (h : p.h.length = 32) : (Tryz.prog.info? 44).map (·.size) = some (prC p).size := by rw [prC_size p h]; kernel_rfl
theorem bt_keptS : Tryz.prog.built 37 [] = some #[.slice none 0 0, .slice none 0 0] := by kernel_rfl
theorem newS (w : World) : Calls Tryz.prog 6 #[.int .i64 16777216] w fun e w' => ∃ B, e = .returned (.pointer (some ⟨B, 0, none⟩)) ∧ IsDk w' w.heap.size B (Dsk.newD 16777216) ∧ Below w.heap.size w w' := by
  have := new_any w 16777216 (by omega)
  rw [show ((16777216 : Nat) : Int) = 16777216 from rfl] at this
  exact this
set_option maxHeartbeats 8000000 in
set_option maxRecDepth 100000 in
theorem radixSaves_walk (w : World) (hE : EType w) (s0 : Option Addr) (n0 c0 : Nat) (l0 : List SlP) (g0 : ArgPP 140737488351232 w s0 n0 c0 l0) (s1 : Option Addr) (n1 c1 : Nat) (l1 : List Int) (g1 : ArgI 140737488351232 w s1 n1 c1 l1) :
    Calls Tryz.prog 3 #[.slice s0 n0 c0, .slice s1 n1 c1] w fun e w' => e = .returned (.bool true) ∧ Below w.heap.size w w' := by
  have hnew := rnew_any w
  have HE := Lib.hid hE
  have HR : Hid (RdPP w s0 n0 l0) := Lib.hid (argPP_rd g0)
  have HP : Hid (RdZ w s1 n1 l1) := Lib.hid (rdz_of9s g1)
  clear hE g0 g1
  go_enter Tryz.func3, Tryz.ntmps3
  go_wp2_with fail
  refine hnew.mono ?_
  clear hnew
  rintro e w1 ⟨rfl, hT, b1⟩
  obtain ⟨TB, hTB⟩ : ∃ TB, TB = w.heap.size := ⟨_, rfl⟩
  have T1 : Hid (TreeAt w1 w.heap.size TB .nil) := Lib.hid (by rw [hTB]; exact hT)
  rw [← hTB]
  have B1 := Lib.hid b1
  have hdk := newS w1
  clear hT b1 hTB
  go_wp2_with fail
  refine hdk.mono ?_
  clear hdk
  rintro e w2 ⟨B, rfl, hD, b2⟩
  have hop := ls_open hD
  have T2 := Lib.hid (T1.out.below b2)
  have B2 := Lib.hid (B1.out.trans (b2.mono B1.out.size))
  have L12 : Hid (w.heap.size ≤ w1.heap.size) := Lib.hid B1.out.size
  clear hD b2
  go_wp2_with fail
  refine hop.mono ?_
  clear hop
  rintro e w3 ⟨LB, rfl, l3, b3⟩
  have hkn := known9_any w3 (HE.out.keep (B2.out.trans (b3.mono L12.out)))
  have R3 : Hid (RSt w w3 TB LB B 16777216 .nil []) := Lib.hid ⟨⟨(b3.block _ (blk_lt T1.out.top)).trans T2.out.top, trivial, trivial, trivial, T2.out.lo_, fun x hx => hx.elim⟩, l3.base L12.out, trivial, trivial, B2.out.trans (b3.mono L12.out)⟩
  clear l3 b3 T1 T2 B1 B2 L12
  go_wp2_with fail
  refine hkn.mono ?_
  clear hkn
  rintro e w4 ⟨rfl, b4⟩
  have R4 := Lib.hid (R3.out.step b4)
  clear b4 R3
  obtain ⟨KB, hKB⟩ : ∃ KB, KB = w4.heap.size := ⟨_, rfl⟩
  obtain ⟨w5, hw5⟩ : ∃ w5, w5 = w4.alloc (.cells #[.slice none 0 0, .slice none 0 0] 37) := ⟨_, rfl⟩
  have b5 : Below w4.heap.size w4 w5 := by rw [hw5]; exact (Below.refl _ _).alloc (Nat.le_refl _) _
  have A5 : w5.heap[KB]? = some (.cells #[.slice none 0 0, .slice none 0 0] 37 (0, 0)) := by rw [hw5, hKB]; exact heap_alloc_new _ _
  have H5 : Hid (SSt w w5 TB LB B KB .nil [] [] [] (.slice none 0 0) (.slice none 0 0) (.slice none 0 0) (.slice none 0 0) []) := Lib.hid ⟨R4.out.step b5, ⟨A5, World.ownsRow_nil _ _ _ _, World.ownsRow_nil _ _ _ _, by rw [hKB]; exact R4.out.bel.size, fun x hx => by cases hx⟩, Rx.Mt.nil, World.ownsRow_nil _ _ _ _, World.ownsRow_nil _ _ _ _, fun s hs => (by cases hs), fun s hs => (by cases hs), fun j hj => (by cases hj), fun s hs => (by cases hs)⟩
  clear b5 A5 R4
  go_upto_region 7 with (first | (refine wpL_mk (by kernel_rfl) 37 #[] rfl [] (by rfl) #[.slice none 0 0, .slice none 0 0] bt_keptS ?_))
  rw [← hw5, ← hKB]
  clear hw5 hKB
  go_upto_block 0 with (fail)
  go_cut [5, 10, 11, 12, 13, 14, 15, 16, 17, 18, 19, 20, 21] from 48 to 183 (fun _ rv wv _ _ _ _ _ _ _ _ _ _ wx => ∃ (TB' : Nat) (t : Rx.T) (I : Rx.Its) (k : Rx.K) (vh vn : Value) (S : List Rx.Sd), Hid (SSt w wx TB' LB B KB t I k k vh vn rv wv S) ∧ Hid (I.length ≤ 4680 ∧ S.length ≤ 6))
  case first =>
    go_wp2_with fail
    go_loopw [5, 10, 11, 12] (fun tv rv wv iv wr => ∃ (i TB' : Nat) (t : Rx.T) (I : Rx.Its) (k : Rx.K) (vh vn : Value) (S : List Rx.Sd), i ≤ n0 ∧ i ≤ 6 ∧ tv = .pointer (some ⟨TB', 0, none⟩) ∧ iv = .int .i64 (i : Int) ∧ Hid (SSt w wr TB' LB B KB t I k k vh vn rv wv S) ∧ Hid (k.length ≤ 12 * i ∧ I.length ≤ 780 * i ∧ Rx.uns t = 0 ∧ S.length = i)) (fun _ _ _ iv _ => 6 - (intOf iv).toNat)
    case atStart => exact ⟨0, TB, .nil, [], [], _, _, [], Nat.zero_le _, by omega, rfl, rfl, H5, Lib.hid ⟨Nat.le_refl _, Nat.le_refl _, rfl, rfl⟩⟩
    case round =>
      obtain ⟨i, TB', t, I, k, vh, vn, S, hi, h6, rfl, rfl, HS, HN⟩ := hrel
      clear H5
      by_cases hlt : i < n0
      · have d0 : decide ((i : Int) < (n0 : Int)) = true := decide_eq_true (by omega)
        have d0' : decide (i < n0) = true := decide_eq_true hlt
        by_cases h8 : i < 6
        · have d1 : decide ((i : Int) < 6) = true := decide_eq_true (by omega)
          have d1' : decide (i < 6) = true := decide_eq_true h8
          have i0 : (0 : Int) ≤ (i : Int) := by omega
          have i1 : (i : Int) < (n0 : Int) := by omega
          have hw := wrapi' ((i : Int) + 1) (by omega)
          have hz : l0[i]? = some (l0[i]'(by have := HR.out.1; omega)) := List.getElem?_eq_getElem _
          generalize l0[i]'(by have := HR.out.1; omega) = x at hz
          obtain ⟨xa, xn, xc, xl⟩ := x
          obtain ⟨pb, po, hpa, hpl, hpc, hpr, hpo, hpn⟩ := HR.out.2 i _ hz
          subst hpa
          dsimp only at hpc hpr hpo hpn
          have CI : Hid (∀ w', Below w.heap.size w w' → w'.cell? ⟨pb, po + i, none⟩ = some (.slice xa xn xc)) := Lib.hid (fun w' hb => (hb.cell (p := ⟨pb, po + i, none⟩) hpl).trans hpc)
          have HXR : Hid (RdA prC 35 w xa xn xl) := Lib.hid hpr
          have HXO : Hid (∀ p ∈ xl, Rx.prOk p) := Lib.hid hpo
          have HXN : Hid (xn ≤ 140737488351232) := Lib.hid hpn
          clear hz hpl hpc hpr hpo hpn
          obtain ⟨mn, hmn⟩ : ∃ mn, mn = min xn 12 := ⟨_, rfl⟩
          have HMN := Lib.hid hmn
          clear hmn
          go_upto_block 2 with (fail)
          go_cut [13, 14] from 58 to 183 (fun _ _ wx => ∃ (t' : Rx.T) (k' : Rx.K) (vh' vn' : Value), Hid (SSt w wx TB' LB B KB t' I k' k' vh' vn' u10 u11 S) ∧ Hid (k'.length ≤ 12 * i + 12 ∧ Rx.uns t' ≤ 65 * mn))
          case first =>
            --<F
            go_wp2_with fail
            go_loopw [13] (fun jv wy => ∃ (j : Nat) (t' : Rx.T) (k' : Rx.K) (vh' vn' : Value), j ≤ xn ∧ j ≤ 12 ∧ jv = .int .i64 (j : Int) ∧ Hid (SSt w wy TB' LB B KB t' I k' k' vh' vn' u10 u11 S) ∧ Hid (k'.length ≤ 12 * i + j ∧ Rx.uns t' ≤ 65 * j)) (fun jv _ => 12 - (intOf jv).toNat)
            case atStart => exact ⟨0, t, k, vh, vn, Nat.zero_le _, by omega, rfl, HS, Lib.hid ⟨by have := HN.out; omega, by have := HN.out; omega⟩⟩
            case round =>
              obtain ⟨j, t1, k1, vh1, vn1, hj, h12, rfl, HS1, HN1⟩ := hrel
              have ci := CI.out _ HS1.out.st.bel
              by_cases hjt : j < xn
              · have e0 : decide ((j : Int) < (xn : Int)) = true := decide_eq_true (by omega)
                have e0' : decide (j < xn) = true := decide_eq_true hjt
                by_cases hj8 : j < 12
                · have e1 : decide ((j : Int) < 12) = true := decide_eq_true (by omega)
                  have e1' : decide (j < 12) = true := decide_eq_true hj8
                  have j0 : (0 : Int) ≤ (j : Int) := by omega
                  have j1 : (j : Int) < (xn : Int) := by omega
                  have hwj := wrapi' ((j : Int) + 1) (by omega)
                  have hz : xl[j]? = some (xl[j]'(by have := HXR.out.1; omega)) := List.getElem?_eq_getElem _
                  generalize xl[j]'(by have := HXR.out.1; omega) = p at hz
                  have hpo := HXO.out p (List.mem_of_getElem? hz)
                  obtain ⟨qb, qo, hxa, hqb, hqc⟩ := HXR.out.at hz
                  subst hxa
                  have PX : Hid (∀ w', Below w.heap.size w w' → Part w' qb (qo + j * 35) (prC p)) := Lib.hid (fun w' h c v hv => (h.cell (p := ⟨qb, qo + j * 35 + c, none⟩) hqb).trans (hqc c v hv))
                  have cv : wr.cell? ⟨qb, qo + j * 35 + 1, none⟩ = some (.int .i64 p.v) := PX.out wr HS1.out.st.bel 1 _ (prC_v p)
                  have hpk := pick_any wr p.v 1000 hpo.2.2.1 hpo.2.2.2 (by omega) (by omega)
                  obtain ⟨r, hrr⟩ : ∃ r : Nat, p.v % 1000 = (r : Int) := Int.eq_ofNat_of_zero_le (Int.emod_nonneg _ (by omega))
                  have hr1 : r < 1000 := by have := Int.emod_lt_of_pos p.v (show (0 : Int) < 1000 by omega); omega
                  rw [hrr] at hpk
                  have HR1 := Lib.hid hr1
                  have HPO := Lib.hid hpo
                  clear hz hpo hqb hqc hrr hr1
                  go_wp2_with fail
                  refine hpk.mono ?_
                  clear hpk
                  rintro e w' ⟨rfl, rfl⟩
                  clear cv
                  have PP : Hid (Part wr qb (qo + j * 35) (prC p)) := Lib.hid (PX.out wr HS1.out.st.bel)
                  obtain ⟨X, hX⟩ : ∃ X, X = Rx.hashOf p := ⟨_, rfl⟩
                  have HX : Hid (X.length = 32) := Lib.hid (by rw [hX]; exact hashOf_len p HPO.out.1)
                  have HPH : Hid (∀ W, Calls Tryz.prog 11 #[.agg (prC p)] W fun e w' => e = .returned (.agg (hashC X)) ∧ Below W.heap.size W w') := Lib.hid (fun W => by rw [hX]; exact pairHash_any W p HPO.out.1 HPO.out.2.1)
                  have hph := HPH.out wr
                  obtain ⟨PC, hPC⟩ : ∃ PC, PC = prC p := ⟨_, rfl⟩
                  have SZP : Hid ((Tryz.prog.info? 44).map (·.size) = some PC.size) := Lib.hid (by rw [hPC]; exact sz_pairS p HPO.out.1)
                  rw [← hPC] at hph HPH PP PX
                  clear hX hPC
                  go_wp2_with (first | (refine wpL_load ?hw 44 (.tmp 86) rfl qb (qo + j * 35) (by kernel_rfl) PC _ PP.out Tryz.underlying44 rfl SZP.out ?_; case hw => kernel_rfl))
                  refine hph.mono ?_
                  clear hph ci PP
                  rintro e w4 ⟨rfl, b4⟩
                  have H4 := Lib.hid (HS1.out.step b4)
                  clear b4
                  have hpt := rPut_any w4 w.heap.size TB' t1 H4.out.st.tree X (r : Int) HX.out (by have := HR1.out; omega) (by rw [H4.out.mt.cnt H4.out.st.tree.ok]; have := HN1.out; omega) H4.out.st.bel.size
                  go_wp2_with fail
                  refine hpt.mono ?_
                  clear hpt
                  rintro e w5 ⟨rfl, hpt⟩
                  obtain ⟨t2, h5, u5⟩ := H4.out.put HX.out hpt
                  have H5 := Lib.hid h5
                  have U5 := Lib.hid u5
                  have ci := CI.out _ H5.out.st.bel
                  have PP : Hid (Part w5 qb (qo + j * 35) PC) := Lib.hid (PX.out w5 H5.out.st.bel)
                  have hph := HPH.out w5
                  clear hpt h5 u5 H4
                  go_wp2_with (first | (refine wpL_load ?hw 44 (.tmp 97) rfl qb (qo + j * 35) (by kernel_rfl) PC _ PP.out Tryz.underlying44 rfl SZP.out ?_; case hw => kernel_rfl))
                  refine hph.mono ?_
                  clear hph ci PP
                  rintro e w6 ⟨rfl, b6⟩
                  have H6 := Lib.hid (H5.out.step b6)
                  clear b6
                  have hkp := kput_x w6 w.heap.size KB k1 vh1 vn1 H6.out.kept X (r : Int) HX.out (by have := HN1.out; omega) H6.out.st.bel.size
                  go_wp2_with fail
                  refine hkp.mono ?_
                  clear hkp
                  rintro e w7 ⟨rfl, vh2, vn2, h7, s7, q7, z7⟩
                  have H7 := Lib.hid (H6.out.kput h7 s7 q7 z7)
                  have HL7 := Rx.kput_len k1 X (r : Int)
                  have HNN := Lib.hid (show (Rx.kput k1 X (r : Int)).length ≤ 12 * i + (j + 1) ∧ Rx.uns t2 ≤ 65 * (j + 1) from ⟨by have := HN1.out; omega, by have := HN1.out; have := U5.out; omega⟩)
                  clear h7 s7 q7 z7 HL7
                  go_wp2
                  go_roundw
                  case rel => exact ⟨j + 1, t2, _, vh2, vn2, by omega, by omega, by go_num, H7, HNN⟩
                  case measure => simp [intOf]; omega
                · have e1 : decide ((j : Int) < 12) = false := decide_eq_false (by omega)
                  have e1' : decide (j < 12) = false := decide_eq_false hj8
                  have FIN := Lib.hid (show k1.length ≤ 12 * i + 12 ∧ Rx.uns t1 ≤ 65 * mn from ⟨by have := HN1.out; omega, by have := HN1.out; have := HMN.out; omega⟩)
                  go_wp2
                  go_meet
                  exact ⟨t1, k1, vh1, vn1, HS1, FIN⟩
              · have e0 : decide ((j : Int) < (xn : Int)) = false := decide_eq_false (by omega)
                have e0' : decide (j < xn) = false := decide_eq_false hjt
                have FIN := Lib.hid (show k1.length ≤ 12 * i + 12 ∧ Rx.uns t1 ≤ 65 * mn from ⟨by have := HN1.out; omega, by have := HN1.out; have := HMN.out; omega⟩)
                go_wp2
                go_meet
                exact ⟨t1, k1, vh1, vn1, HS1, FIN⟩
            --F>
          case rest =>
            obtain ⟨t1, k1, vh1, vn1, HS1, HN1⟩ := hcut
            have hcn := ls_count HS1.out.st.ls
            obtain ⟨m1, hm1⟩ : ∃ m1, m1 = I.length := ⟨_, rfl⟩
            have HM1 := Lib.hid hm1
            rw [← hm1] at hcn
            have UB : Hid (I.length ≤ 3900 ∧ Rx.uns t1 ≤ 780) := Lib.hid (by have := HN.out; have := HN1.out; have := HMN.out; omega)
            clear hm1
            go_wp2_with fail
            refine hcn.mono ?_
            clear hcn
            rintro e w' ⟨rfl, rfl⟩
            have hsv := HS1.out.st.save_call (by have := UB.out; omega) (by have := UB.out; omega) (by omega)
            go_wp2_with fail
            refine hsv.mono ?_
            clear hsv
            intro e w5 hse
            obtain ⟨t2, I2, rfl, h5, s5⟩ := HS1.out.save hse
            have H5 := Lib.hid h5
            have S5 := Lib.hid s5
            obtain ⟨m2, hm2⟩ : ∃ m2, m2 = I2.length := ⟨_, rfl⟩
            obtain ⟨q, hq⟩ : ∃ q, q = t2.saved := ⟨_, rfl⟩
            have HM2 := Lib.hid hm2
            have HQ := Lib.hid hq
            have D5 : Hid (SSt w w5.drew TB' LB B KB t2 I2 k1 k1 vh1 vn1 u10 u11 S) := Lib.hid (h5.step (bel_drw w5))
            have hcn := ls_count D5.out.st.ls
            have hcn' := ls_count h5.st.ls
            rw [← hm2] at hcn hcn'
            have ci := CI.out _ h5.st.bel
            have cid := CI.out _ D5.out.st.bel
            obtain ⟨dm, hdm⟩ : ∃ dm : Int, dm = (m2 : Int) - (m1 : Int) := ⟨_, rfl⟩
            obtain ⟨q65, hq65⟩ : ∃ q65 : Int, q65 = 65 * (mn : Int) := ⟨_, rfl⟩
            have hmi : min (xn : Int) 12 = (mn : Int) := by have := HMN.out; omega
            have hwd : IntKind.i64.wrap ((m2 : Int) - (m1 : Int)) = dm := by rw [wrapi' _ (by have := HM1.out; have := HM2.out; have := s5.len; have := UB.out; omega), hdm]
            have hw65 : IntKind.i64.wrap (65 * (mn : Int)) = q65 := by rw [wrapi' _ (by have := HMN.out; omega), hq65]
            have dgt : decide (q65 < dm) = false := decide_eq_false (by have := HM1.out; have := HM2.out; have := s5.len; have := HN1.out; omega)
            rw [← hq]
            clear hse h5 s5 hm2 hq hdm hq65
            go_upto_region 20 with (fail)
            go_cut [125] from 110 to 183 (fun v wx => v = .bool false ∧ w5.drew = wx)
            case first =>
              --<F
              go_region_held3 (fun w' => w'.cell? ⟨pb, po + i, none⟩ = some (.slice xa xn xc)) (exact cid) (first | (go_at_call 13; refine hcn.mono ?_; rintro e Y ⟨rfl, rfl⟩))
              all_goals
                go_wp2
                go_meet
                exact ⟨rfl, rfl⟩
              --F>
            case rest =>
              obtain ⟨rfl, hwx⟩ := hcut
              clear hcn hcn' ci cid hwd hw65 dgt hmi
              rw [hwx] at D5
              clear hwx
              have hcn := ls_count D5.out.st.ls
              rw [← show m2 = _ from HM2.out] at hcn
              have SB : Hid (I2.length ≤ 4680 ∧ Rx.uns t2 = 0) := Lib.hid ⟨by have := S5.out.len; have := UB.out; omega, S5.out.uns⟩
              clear H5
              go_wp2_with fail
              refine hcn.mono ?_
              clear hcn
              rintro e w' ⟨rfl, rfl⟩
              have hsv := D5.out.st.save_call (by have := SB.out; omega) (by have := SB.out; omega) (by omega)
              go_wp2_with fail
              refine hsv.mono ?_
              clear hsv
              intro e w6 hse
              obtain ⟨rfl, h6'⟩ := D5.out.again S5.out hse
              rw [← show q = _ from HQ.out]
              have H6 := Lib.hid h6'
              have hcn := ls_count h6'.st.ls
              rw [← show m2 = _ from HM2.out] at hcn
              clear hse h6' D5
              go_wp2_with fail
              refine hcn.mono ?_
              clear hcn
              rintro e w' ⟨rfl, rfl⟩
              have b7 : Below w'.heap.size w' (w'.alloc (.cells #[.int .i64 q] 3)) := (Below.refl _ _).alloc (Nat.le_refl _) _
              have TAX : Hid ((w'.alloc (.cells #[.int .i64 q] 3)).heap[w'.heap.size]? = some (.cells #[.int .i64 q] 3 (0, 0))) := Lib.hid (heap_alloc_new _ _)
              have OA : Hid (OwnR (w'.alloc (.cells #[.int .i64 q] 3)) w.heap.size u10 S) := Lib.hid (ownsRow_stay H6.out.roots (TStay.of_below b7 (fun _ => False)) (fun _ _ h => h))
              have SZ : Hid (w.heap.size ≤ (w'.alloc (.cells #[.int .i64 q] 3)).heap.size) := Lib.hid (Nat.le_trans H6.out.st.bel.size b7.size)
              have B7 := Lib.hid b7
              have SL : Hid (S.length = i) := Lib.hid HN.out.2.2.2
              obtain ⟨i1', hi0, hz0, hz1, hz2⟩ := info_parts in_int
              clear b7
              go_upto_region 26 with (fail)
              go_upto_region 27 with (at_builtin; refine wpList_append_lies _ rfl (.tmp 147) (.tmp 149) 23 rfl w.heap.size 3 i1' _ 1 8 Tryz.underlying23 hi0 hz0 hz1 hz2 (by decide) (by omega) u10 S.length (S.map fun s => Value.int .i64 s.r) (by rfl) OA.out ⟨w'.heap.size, 0, none⟩ 1 1 [.int .i64 q] (by rfl) rfl (World.news_of_block TAX.out) (by simp [Value.oneCell']) (by omega) (by have := SL.out; unfold maxLen; omega) (by have := SL.out; omega) SZ.out _ rfl ?_)
              intro g cap w8 hown hgrow hat hlt8
              have U8 : Hid (SSu w w8 TB' LB B KB t2 I2 k1 k1 vh1 vn1 (.slice (some ⟨g, 0, none⟩) (S.length + 1) cap) u11 S q) := Lib.hid (H6.out.root B7.out hown hgrow (fun j hj => by
                have e : g = j := by simpa [Value.ownBlock] using hj
                subst e
                rcases hat with h | h
                · exact .inl h
                · have := B7.out.size; exact .inr (by omega)))
              obtain ⟨vr8, hvr8⟩ : ∃ v, v = Value.slice (some ⟨g, 0, none⟩) (S.length + 1) cap := ⟨_, rfl⟩
              rw [← hvr8] at U8
              clear hown hgrow hat hlt8 hi0 hz0 hz1 hz2 TAX OA SZ B7 H6
              go_upto_region 27 with (fail)
              rw [← hvr8]
              clear hvr8
              go_cut [11] from 151 to 183 (fun v11 wx => ∃ s : Rx.Sd, Hid (SSt w wx TB' LB B KB t2 I2 k1 k1 vh1 vn1 vr8 v11 (S ++ [s])))
              case first =>
                --<F
                --<W27
                obtain ⟨N, hN⟩ : ∃ N, N = k1.length := ⟨_, rfl⟩
                obtain ⟨ah, ch, hvh, _, hch, _⟩ := ownsRow_slice (U8.out.kept.hsN hN)
                obtain ⟨an, cn, hvn, _, hcn, _⟩ := ownsRow_slice (U8.out.kept.nsN hN)
                subst hvh; subst hvn
                have HN9 := Lib.hid hN
                have N84 : Hid (N ≤ 84) := Lib.hid (by rw [hN]; have := HN1.out; omega)
                have KNE : Hid (u11.ownBlock ≠ some KB) := Lib.hid (fun e => absurd (own_tne U8.out.was e U8.out.kept.top) (by decide))
                have C0 : Hid (∀ w', TStay (fun j => u11.ownBlock = some j) w8 w' → w'.cell? ⟨KB, 0, none⟩ = some (.slice ah N ch)) := Lib.hid (fun w' h => blk_cell (i := 0) ((h.block KB (blk_lt U8.out.kept.top) KNE.out).trans U8.out.kept.top) rfl)
                have C1 : Hid (∀ w', TStay (fun j => u11.ownBlock = some j) w8 w' → w'.cell? ⟨KB, 1, none⟩ = some (.slice an N cn)) := Lib.hid (fun w' h => blk_cell (i := 1) ((h.block KB (blk_lt U8.out.kept.top) KNE.out).trans U8.out.kept.top) rfl)
                have SH : Hid (∀ w', Below w8.heap.size w8 w' → w'.ownsRow w.heap.size 42 32 (.slice ah N ch) N (flatC hashC (k1.map (·.1)))) := Lib.hid (fun w' h => ownsRow_stay (U8.out.kept.hsN HN9.out) (TStay.of_below h (fun _ => False)) (fun _ _ h => h))
                have SI : Hid (∀ w', Below w8.heap.size w8 w' → w'.ownsRow w.heap.size 3 1 (.slice an N cn) N ((k1.map (·.2)).map (Value.int .i64))) := Lib.hid (fun w' h => ownsRow_stay (U8.out.kept.nsN HN9.out) (TStay.of_below h (fun _ => False)) (fun _ _ h => h))
                obtain ⟨iH, hiH, hzH, hsH, hbH⟩ := info_parts in_hash
                obtain ⟨iI, hiI, hzI, hsI, hbI⟩ := info_parts in_int
                obtain ⟨iP, hiP, hzP, hsP, hbP⟩ := info_parts in_kptr
                have IHi := Lib.hid hiH
                have IHz := Lib.hid hzH
                have IHs := Lib.hid hsH
                have IHb := Lib.hid hbH
                have IIi := Lib.hid hiI
                have IIz := Lib.hid hzI
                have IIs := Lib.hid hsI
                have IIb := Lib.hid hbI
                have IPi := Lib.hid hiP
                have IPz := Lib.hid hzP
                have IPs := Lib.hid hsP
                have IPb := Lib.hid hbP
                clear hiH hzH hsH hbH hiI hzI hsI hbI hiP hzP hsP hbP hN hch hcn
                have WRL : Hid (w.heap.size ≤ w8.heap.size) := Lib.hid U8.out.st.bel.size
                have SLN : Hid (S.length ≤ 6) := Lib.hid (by rw [SL.out]; omega)
                refine wp_region_held_drew (S := fun w' => TStay (fun j => u11.ownBlock = some j) w8 w') (by kernel_rfl) ((TStay.refl _ _).drew _) (fun hS0 => ?_)
                refine takeK (i := 0) (u11) (some 151) rfl (by kernel_rfl) (by kernel_rfl) (by kernel_rfl) (by kernel_rfl) (fun _ _ _ h => h) (by kernel_rfl) (fun w' _ => by go_simp) hS0 ?_
                try simp only [Act.put, List.setIfInBounds_toArray, List.set_cons_zero, List.set_cons_succ]
                refine takeK (i := 2) (.pointer (some ⟨KB, 0, none⟩)) (some 153) rfl (by kernel_rfl) (by kernel_rfl) (by kernel_rfl) (by kernel_rfl) (fun _ _ _ h => h) (by kernel_rfl) (fun w' _ => by go_simp) hS0 ?_
                try simp only [Act.put, List.setIfInBounds_toArray, List.set_cons_zero, List.set_cons_succ]
                refine takeK (i := 3) (.pointer (some ⟨KB, 0, none⟩)) (some 154) rfl (by kernel_rfl) (by kernel_rfl) (by kernel_rfl) (by kernel_rfl) (fun _ _ _ h => h) (by kernel_rfl) (fun w' _ => by go_simp) hS0 ?_
                try simp only [Act.put, List.setIfInBounds_toArray, List.set_cons_zero, List.set_cons_succ]
                refine takeK (i := 4) (.pointer (some ⟨KB, 0, none⟩)) (some 155) rfl (by kernel_rfl) (by kernel_rfl) (by kernel_rfl) (by kernel_rfl) (fun _ _ _ h => h) (by kernel_rfl) (fun w' _ => by go_simp) hS0 ?_
                try simp only [Act.put, List.setIfInBounds_toArray, List.set_cons_zero, List.set_cons_succ]
                refine takeK (i := 5) (.slice ah N ch) (some 156) rfl (by kernel_rfl) (by kernel_rfl) (by kernel_rfl) (by kernel_rfl) (fun _ _ _ h => h) (by kernel_rfl) (fun w' h => ex_cell 35 (.tmp 155) rfl KB 0 (by kernel_rfl) 42 Tryz.underlying35 (.slice ah N ch) (C0.out w' h)) hS0 ?_
                try simp only [Act.put, List.setIfInBounds_toArray, List.set_cons_zero, List.set_cons_succ]
                refine takeK (i := 8) (.pointer (some ⟨KB, 0, none⟩)) (some 159) rfl (by kernel_rfl) (by kernel_rfl) (by kernel_rfl) (by kernel_rfl) (fun _ _ _ h => h) (by kernel_rfl) (fun w' _ => by go_simp) hS0 ?_
                try simp only [Act.put, List.setIfInBounds_toArray, List.set_cons_zero, List.set_cons_succ]
                refine takeK (i := 9) (.pointer (some ⟨KB, 0, none⟩)) (some 160) rfl (by kernel_rfl) (by kernel_rfl) (by kernel_rfl) (by kernel_rfl) (fun _ _ _ h => h) (by kernel_rfl) (fun w' _ => by go_simp) hS0 ?_
                try simp only [Act.put, List.setIfInBounds_toArray, List.set_cons_zero, List.set_cons_succ]
                refine takeK (i := 10) (.pointer (some ⟨KB, 1, none⟩)) (some 161) rfl (by kernel_rfl) (by kernel_rfl) (by kernel_rfl) (by kernel_rfl) (fun _ _ _ h => h) (by kernel_rfl) (fun w' _ => by go_simp) hS0 ?_
                try simp only [Act.put, List.setIfInBounds_toArray, List.set_cons_zero, List.set_cons_succ]
                refine takeK (i := 11) (.slice an N cn) (some 162) rfl (by kernel_rfl) (by kernel_rfl) (by kernel_rfl) (by kernel_rfl) (fun _ _ _ h => h) (by kernel_rfl) (fun w' h => ex_cell 23 (.tmp 161) rfl KB 1 (by kernel_rfl) 3 Tryz.underlying23 (.slice an N cn) (C1.out w' h)) hS0 ?_
                try simp only [Act.put, List.setIfInBounds_toArray, List.set_cons_zero, List.set_cons_succ]
                have BX0 : Hid (Below w8.heap.size w8 w8.drew) := Lib.hid (bel_drw w8)
                obtain ⟨x0, hx0⟩ : ∃ x0, x0 = w8.drew := ⟨_, rfl⟩
                have HX0 := Lib.hid hx0
                rw [← hx0] at hS0 BX0 ⊢
                clear hx0
                refine wpAnyH_ready (rs := [1, 7]) (by kernel_rfl) (by simp) ?_
                refine AllReadyH.cons rfl (fun K hK => ?_) (AllReadyH.cons rfl (fun K hK => ?_) AllReadyH.nil)
                · rw [if_pos (by kernel_rfl)]
                  go_simp
                  have hS0' : TStay (fun j => u11.ownBlock = some j) w8 (x0.alloc (.cells #[] 42)) := TStay.of_below (BX0.out.alloc (BX0.out.size) _) _
                  refine hK.out _ _ hS0' (fun hS0 => ?_)
                  clear hK K hS0'
                  obtain ⟨x1, hx1⟩ : ∃ x, x = (x0.alloc (.cells #[] 42)) := ⟨_, rfl⟩
                  obtain ⟨b1, hb1⟩ : ∃ b, b = x0.heap.size := ⟨_, rfl⟩
                  have BX1 : Hid (Below w8.heap.size w8 x1) := Lib.hid (by rw [hx1]; exact BX0.out.alloc BX0.out.size _)
                  have Eb1 : Hid (x1.heap[b1]? = some (.cells #[] 42 (0, 0)) ∧ w8.heap.size ≤ b1) := Lib.hid (by rw [hx1, hb1]; exact ⟨heap_alloc_new _ _, BX0.out.size⟩)
                  have KEEP1 : Hid (Below x0.heap.size x0 x1) := Lib.hid (by rw [hx1]; exact (Below.refl _ _).alloc (Nat.le_refl _) _)
                  rw [← hx1] at hS0 ⊢
                  rw [← hb1]
                  clear hx1 hb1
                  try simp only [Act.put, List.setIfInBounds_toArray, List.set_cons_zero, List.set_cons_succ]
                  refine wpAnyH_ready (rs := [6, 7]) (by kernel_rfl) (by simp) ?_
                  refine AllReadyH.cons rfl (fun K hK => ?_) (AllReadyH.cons rfl (fun K hK => ?_) AllReadyH.nil)
                  · refine step_append_new (some 157) rfl rfl (.tmp 152) (.tmp 156) 35 rfl w8.heap.size b1 42 iH (.agg (hashC Wi.z32)) 32 32 Tryz.underlying35 IHi.out IHz.out IHs.out IHb.out (by rfl) (by decide) (by kernel_rfl) Eb1.out.1 Eb1.out.2 w.heap.size ah N ch (flatC hashC (k1.map (·.1))) (by kernel_rfl) (SH.out _ BX1.out) (flatH_one _) (by have := N84.out; unfold maxLen; omega) (by have := N84.out; omega) BX1.out.size ?_
                    intro aH cH x2 oH gH
                    have BX2 : Hid (Below w8.heap.size w8 x2) := Lib.hid (BX1.out.grown gH BX1.out.size (fun j e => by cases e; exact Eb1.out.2))
                    have OH : Hid (x2.ownsRow w8.heap.size 42 32 (.slice aH N cH) N (flatC hashC (k1.map (·.1)))) := Lib.hid oH
                    have GH : Hid (x1.grownBy x2 (some b1)) := Lib.hid gH
                    refine hK.out _ _ (TStay.of_below BX2.out _) (fun hS0 => ?_)
                    clear hK K oH gH
                    try simp only [Act.put, List.setIfInBounds_toArray, List.set_cons_zero, List.set_cons_succ]
                    refine wpAnyH_ready (rs := [7]) (by kernel_rfl) (by simp) ?_
                    refine AllReadyH.cons rfl (fun K hK => ?_) AllReadyH.nil
                    rw [if_pos (by kernel_rfl)]
                    go_simp
                    have hS0' : TStay (fun j => u11.ownBlock = some j) w8 (x2.alloc (.cells #[] 3)) := TStay.of_below (BX2.out.alloc (BX2.out.size) _) _
                    refine hK.out _ _ hS0' (fun hS0 => ?_)
                    clear hK K hS0'
                    obtain ⟨x3, hx3⟩ : ∃ x, x = (x2.alloc (.cells #[] 3)) := ⟨_, rfl⟩
                    obtain ⟨b3, hb3⟩ : ∃ b, b = x2.heap.size := ⟨_, rfl⟩
                    have BX3 : Hid (Below w8.heap.size w8 x3) := Lib.hid (by rw [hx3]; exact BX2.out.alloc BX2.out.size _)
                    have Eb3 : Hid (x3.heap[b3]? = some (.cells #[] 3 (0, 0)) ∧ w8.heap.size ≤ b3) := Lib.hid (by rw [hx3, hb3]; exact ⟨heap_alloc_new _ _, BX2.out.size⟩)
                    have KEEP3 : Hid (Below x2.heap.size x2 x3) := Lib.hid (by rw [hx3]; exact (Below.refl _ _).alloc (Nat.le_refl _) _)
                    rw [← hx3] at hS0 ⊢
                    rw [← hb3]
                    clear hx3 hb3
                    try simp only [Act.put, List.setIfInBounds_toArray, List.set_cons_zero, List.set_cons_succ]
                    refine wpAnyH_ready (rs := [12]) (by kernel_rfl) (by simp) ?_
                    refine AllReadyH.cons rfl (fun K hK => ?_) AllReadyH.nil
                    have OH2 := Lib.hid (ownsRow_stay OH.out (TStay.of_below KEEP3.out (fun _ => False)) (fun _ _ h => h))
                    replace OH := OH2
                    refine step_append_new (some 163) rfl rfl (.tmp 158) (.tmp 162) 23 rfl w8.heap.size b3 3 iI (.int .i64 0) 1 8 Tryz.underlying23 IIi.out IIz.out IIs.out IIb.out (by rfl) (by decide) (by kernel_rfl) Eb3.out.1 Eb3.out.2 w.heap.size an N cn (((k1.map (·.2)).map (Value.int .i64))) (by kernel_rfl) (SI.out _ BX3.out) (ints_one _) (by have := N84.out; unfold maxLen; omega) (by have := N84.out; omega) BX3.out.size ?_
                    intro aI cI x4 oI gI
                    have BX4 : Hid (Below w8.heap.size w8 x4) := Lib.hid (BX3.out.grown gI BX3.out.size (fun j e => by cases e; exact Eb3.out.2))
                    have OI : Hid (x4.ownsRow w8.heap.size 3 1 (.slice aI N cI) N (((k1.map (·.2)).map (Value.int .i64)))) := Lib.hid oI
                    have GI : Hid (x3.grownBy x4 (some b3)) := Lib.hid gI
                    refine hK.out _ _ (TStay.of_below BX4.out _) (fun hS0 => ?_)
                    clear hK K oI gI
                    try simp only [Act.put, List.setIfInBounds_toArray, List.set_cons_zero, List.set_cons_succ]
                    have OH3 := Lib.hid (own_grown OH.out GI.out (fun e => absurd (own_tne OH.out e Eb3.out.1) (by decide)))
                    replace OH := OH3
                    refine takeK (i := 13) (.agg #[.slice aH N cH, .slice aI N cI]) (some 164) rfl (by kernel_rfl) (by kernel_rfl) (by kernel_rfl) (by kernel_rfl) (fun _ _ _ h => h) (by kernel_rfl) (fun w' _ => ex_mk 37 #[(0, .tmp 157), (1, .tmp 163)] rfl [(0, .slice aH N cH), (1, .slice aI N cI)] (by kernel_rfl) #[.slice aH N cH, .slice aI N cI] (bt_kept2 aH aI N cH cI)) hS0 ?_
                    try simp only [Act.put, List.setIfInBounds_toArray, List.set_cons_zero, List.set_cons_succ]
                    refine wpAnyH_ready (rs := [14]) (by kernel_rfl) (by simp) ?_
                    refine AllReadyH.cons rfl (fun K hK => ?_) AllReadyH.nil
                    rw [if_pos (by kernel_rfl)]
                    go_simp
                    refine hK.out _ _ (show TStay (fun j => u11.ownBlock = some j) w8 (x4.alloc (.cells #[.slice aH N cH, .slice aI N cI] 37)) from TStay.of_below (BX4.out.alloc BX4.out.size _) _) (fun hS0 => ?_)
                    clear hK K
                    obtain ⟨x5, hx5⟩ : ∃ x, x = (x4.alloc (.cells #[.slice aH N cH, .slice aI N cI] 37)) := ⟨_, rfl⟩
                    obtain ⟨KB2, hK2⟩ : ∃ b, b = x4.heap.size := ⟨_, rfl⟩
                    have b45 : Below x4.heap.size x4 x5 := by rw [hx5]; exact (Below.refl _ _).alloc (Nat.le_refl _) _
                    have BX5 : Hid (Below w8.heap.size w8 x5) := Lib.hid (BX4.out.trans (b45.mono BX4.out.size))
                    have KK5 : Hid (KeptAt x5 w8.heap.size KB2 k1 (.slice aH N cH) (.slice aI N cI)) := Lib.hid ⟨by rw [hx5, hK2]; exact heap_alloc_new _ _, by show World.ownsRow _ _ _ _ _ _ _; rw [List.length_map, ← HN9.out]; exact ownsRow_stay OH.out (TStay.of_below b45 (fun _ => False)) (fun _ _ h => h), by show World.ownsRow _ _ _ _ _ _ _; rw [List.length_map, ← HN9.out]; exact ownsRow_stay OI.out (TStay.of_below b45 (fun _ => False)) (fun _ _ h => h), by rw [hK2]; exact BX4.out.size, U8.out.kept.h32⟩
                    rw [← hx5] at hS0 ⊢
                    rw [← hK2]
                    clear hx5 hK2 b45
                    try simp only [Act.put, List.setIfInBounds_toArray, List.set_cons_zero, List.set_cons_succ]
                    refine wpAnyH_ready (rs := [15]) (by kernel_rfl) (by simp) ?_
                    refine AllReadyH.cons rfl (fun K hK => ?_) AllReadyH.nil
                    rw [if_pos (by kernel_rfl)]
                    go_simp
                    refine hK.out _ _ (show TStay (fun j => u11.ownBlock = some j) w8 (x5.alloc (.cells #[.pointer (some ⟨KB2, 0, none⟩)] 34)) from TStay.of_below (BX5.out.alloc BX5.out.size _) _) (fun hS0 => ?_)
                    clear hK K
                    obtain ⟨x6, hx6⟩ : ∃ x, x = (x5.alloc (.cells #[.pointer (some ⟨KB2, 0, none⟩)] 34)) := ⟨_, rfl⟩
                    obtain ⟨XB, hXB⟩ : ∃ b, b = x5.heap.size := ⟨_, rfl⟩
                    have B56 : Hid (Below x5.heap.size x5 x6) := Lib.hid (by rw [hx6]; exact (Below.refl _ _).alloc (Nat.le_refl _) _)
                    have BX6 : Hid (Below w8.heap.size w8 x6) := Lib.hid (BX5.out.trans (B56.out.mono BX5.out.size))
                    have TX6 : Hid (x6.heap[XB]? = some (.cells #[.pointer (some ⟨KB2, 0, none⟩)] 34 (0, 0))) := Lib.hid (by rw [hx6, hXB]; exact heap_alloc_new _ _)
                    rw [← hx6] at hS0 ⊢
                    rw [← hXB]
                    clear hx6 hXB
                    try simp only [Act.put, List.setIfInBounds_toArray, List.set_cons_zero, List.set_cons_succ]
                    have OW6 : Hid (OwnP x6 w.heap.size u11 S) := Lib.hid (ownsRow_stay U8.out.was (TStay.of_below BX6.out (fun _ => False)) (fun _ _ h => h))
                    refine wpAnyH_ready (rs := [16]) (by kernel_rfl) (by simp) ?_
                    refine AllReadyH.cons rfl (fun K hK => ?_) AllReadyH.nil
                    refine step_append_liesD (some 167) rfl rfl (.tmp 151) (.tmp 166) 38 rfl w.heap.size 34 iP _ 1 8 Tryz.underlying38 IPi.out IPz.out IPs.out IPb.out (by decide) (by omega) u11 S.length (S.map fun s => Value.pointer (some ⟨s.KB, 0, none⟩)) (by kernel_rfl) OW6.out ⟨XB, 0, none⟩ 1 1 [.pointer (some ⟨KB2, 0, none⟩)] (by kernel_rfl) rfl (World.news_of_block TX6.out) (by simp [Value.oneCell']) (by omega) (by have := SLN.out; unfold maxLen; omega) (by have := SLN.out; omega) (Nat.le_trans WRL.out BX6.out.size) _ rfl ?_
                    intro g cap x7 hown hgrow hat hlt7
                    have FIN : Hid (SSt w x7 TB' LB B KB t2 I2 k1 k1 (.slice ah N ch) (.slice an N cn) vr8 (.slice (some ⟨g, 0, none⟩) (S.length + 1) cap) (S ++ [⟨q, KB2, t2, k1, .slice aH N cH, .slice aI N cI⟩])) := Lib.hid (U8.out.was_ BX5.out KK5.out B56.out hown hgrow HQ.out S5.out.all (by have := N84.out; have := HN9.out; omega))
                    refine hK.out _ _ ((TStay.of_below BX6.out _).grown hgrow (fun j e => .inl e)) (fun hS0 => ?_)
                    clear hK K hown hgrow hat hlt7
                    simp only [Act.put, List.setIfInBounds_toArray, List.set_cons_zero, List.set_cons_succ]
                    refine takeK (i := 17) (.slice (some ⟨g, 0, none⟩) (S.length + 1) cap) (some 11) rfl (by kernel_rfl) (by kernel_rfl) (by kernel_rfl) (by kernel_rfl) (fun _ _ _ h => h) (by kernel_rfl) (fun w' _ => by kernel_rfl) hS0 ?_
                    try simp only [Act.put, List.setIfInBounds_toArray, List.set_cons_zero, List.set_cons_succ]
                    refine wpAnyH_done (by kernel_rfl) ?_ _
                    go_wp2
                    go_meet
                    exact ⟨_, FIN⟩
                  · rw [if_pos (by kernel_rfl)]
                    go_simp
                    have hS0' : TStay (fun j => u11.ownBlock = some j) w8 (x1.alloc (.cells #[] 3)) := TStay.of_below (BX1.out.alloc (BX1.out.size) _) _
                    refine hK.out _ _ hS0' (fun hS0 => ?_)
                    clear hK K hS0'
                    obtain ⟨x2, hx2⟩ : ∃ x, x = (x1.alloc (.cells #[] 3)) := ⟨_, rfl⟩
                    obtain ⟨b2, hb2⟩ : ∃ b, b = x1.heap.size := ⟨_, rfl⟩
                    have BX2 : Hid (Below w8.heap.size w8 x2) := Lib.hid (by rw [hx2]; exact BX1.out.alloc BX1.out.size _)
                    have Eb2 : Hid (x2.heap[b2]? = some (.cells #[] 3 (0, 0)) ∧ w8.heap.size ≤ b2) := Lib.hid (by rw [hx2, hb2]; exact ⟨heap_alloc_new _ _, BX1.out.size⟩)
                    have KEEP2 : Hid (Below x1.heap.size x1 x2) := Lib.hid (by rw [hx2]; exact (Below.refl _ _).alloc (Nat.le_refl _) _)
                    rw [← hx2] at hS0 ⊢
                    rw [← hb2]
                    clear hx2 hb2
                    try simp only [Act.put, List.setIfInBounds_toArray, List.set_cons_zero, List.set_cons_succ]
                    refine wpAnyH_ready (rs := [6]) (by kernel_rfl) (by simp) ?_
                    refine AllReadyH.cons rfl (fun K hK => ?_) AllReadyH.nil
                    have Eb1' : Hid (x2.heap[b1]? = some (.cells #[] 42 (0, 0)) ∧ w8.heap.size ≤ b1) := Lib.hid ⟨(KEEP2.out.block _ (blk_lt Eb1.out.1)).trans Eb1.out.1, Eb1.out.2⟩
                    replace Eb1 := Eb1'
                    refine step_append_new (some 157) rfl rfl (.tmp 152) (.tmp 156) 35 rfl w8.heap.size b1 42 iH (.agg (hashC Wi.z32)) 32 32 Tryz.underlying35 IHi.out IHz.out IHs.out IHb.out (by rfl) (by decide) (by kernel_rfl) Eb1.out.1 Eb1.out.2 w.heap.size ah N ch (flatC hashC (k1.map (·.1))) (by kernel_rfl) (SH.out _ BX2.out) (flatH_one _) (by have := N84.out; unfold maxLen; omega) (by have := N84.out; omega) BX2.out.size ?_
                    intro aH cH x3 oH gH
                    have BX3 : Hid (Below w8.heap.size w8 x3) := Lib.hid (BX2.out.grown gH BX2.out.size (fun j e => by cases e; exact Eb1.out.2))
                    have OH : Hid (x3.ownsRow w8.heap.size 42 32 (.slice aH N cH) N (flatC hashC (k1.map (·.1)))) := Lib.hid oH
                    have GH : Hid (x2.grownBy x3 (some b1)) := Lib.hid gH
                    refine hK.out _ _ (TStay.of_below BX3.out _) (fun hS0 => ?_)
                    clear hK K oH gH
                    try simp only [Act.put, List.setIfInBounds_toArray, List.set_cons_zero, List.set_cons_succ]
                    have Eb2' : Hid (x3.heap[b2]? = some (.cells #[] 3 (0, 0)) ∧ w8.heap.size ≤ b2) := Lib.hid ⟨(GH.out.block b2 (blk_lt Eb2.out.1) (fun e => by cases e; have h1 := Eb1.out.1; rw [Eb2.out.1] at h1; cases h1)).trans Eb2.out.1, Eb2.out.2⟩
                    replace Eb2 := Eb2'
                    refine wpAnyH_ready (rs := [12]) (by kernel_rfl) (by simp) ?_
                    refine AllReadyH.cons rfl (fun K hK => ?_) AllReadyH.nil
                    refine step_append_new (some 163) rfl rfl (.tmp 158) (.tmp 162) 23 rfl w8.heap.size b2 3 iI (.int .i64 0) 1 8 Tryz.underlying23 IIi.out IIz.out IIs.out IIb.out (by rfl) (by decide) (by kernel_rfl) Eb2.out.1 Eb2.out.2 w.heap.size an N cn (((k1.map (·.2)).map (Value.int .i64))) (by kernel_rfl) (SI.out _ BX3.out) (ints_one _) (by have := N84.out; unfold maxLen; omega) (by have := N84.out; omega) BX3.out.size ?_
                    intro aI cI x4 oI gI
                    have BX4 : Hid (Below w8.heap.size w8 x4) := Lib.hid (BX3.out.grown gI BX3.out.size (fun j e => by cases e; exact Eb2.out.2))
                    have OI : Hid (x4.ownsRow w8.heap.size 3 1 (.slice aI N cI) N (((k1.map (·.2)).map (Value.int .i64)))) := Lib.hid oI
                    have GI : Hid (x3.grownBy x4 (some b2)) := Lib.hid gI
                    refine hK.out _ _ (TStay.of_below BX4.out _) (fun hS0 => ?_)
                    clear hK K oI gI
                    try simp only [Act.put, List.setIfInBounds_toArray, List.set_cons_zero, List.set_cons_succ]
                    have OH3 := Lib.hid (own_grown OH.out GI.out (fun e => absurd (own_tne OH.out e Eb2.out.1) (by decide)))
                    replace OH := OH3
                    refine takeK (i := 13) (.agg #[.slice aH N cH, .slice aI N cI]) (some 164) rfl (by kernel_rfl) (by kernel_rfl) (by kernel_rfl) (by kernel_rfl) (fun _ _ _ h => h) (by kernel_rfl) (fun w' _ => ex_mk 37 #[(0, .tmp 157), (1, .tmp 163)] rfl [(0, .slice aH N cH), (1, .slice aI N cI)] (by kernel_rfl) #[.slice aH N cH, .slice aI N cI] (bt_kept2 aH aI N cH cI)) hS0 ?_
                    try simp only [Act.put, List.setIfInBounds_toArray, List.set_cons_zero, List.set_cons_succ]
                    refine wpAnyH_ready (rs := [14]) (by kernel_rfl) (by simp) ?_
                    refine AllReadyH.cons rfl (fun K hK => ?_) AllReadyH.nil
                    rw [if_pos (by kernel_rfl)]
                    go_simp
                    refine hK.out _ _ (show TStay (fun j => u11.ownBlock = some j) w8 (x4.alloc (.cells #[.slice aH N cH, .slice aI N cI] 37)) from TStay.of_below (BX4.out.alloc BX4.out.size _) _) (fun hS0 => ?_)
                    clear hK K
                    obtain ⟨x5, hx5⟩ : ∃ x, x = (x4.alloc (.cells #[.slice aH N cH, .slice aI N cI] 37)) := ⟨_, rfl⟩
                    obtain ⟨KB2, hK2⟩ : ∃ b, b = x4.heap.size := ⟨_, rfl⟩
                    have b45 : Below x4.heap.size x4 x5 := by rw [hx5]; exact (Below.refl _ _).alloc (Nat.le_refl _) _
                    have BX5 : Hid (Below w8.heap.size w8 x5) := Lib.hid (BX4.out.trans (b45.mono BX4.out.size))
                    have KK5 : Hid (KeptAt x5 w8.heap.size KB2 k1 (.slice aH N cH) (.slice aI N cI)) := Lib.hid ⟨by rw [hx5, hK2]; exact heap_alloc_new _ _, by show World.ownsRow _ _ _ _ _ _ _; rw [List.length_map, ← HN9.out]; exact ownsRow_stay OH.out (TStay.of_below b45 (fun _ => False)) (fun _ _ h => h), by show World.ownsRow _ _ _ _ _ _ _; rw [List.length_map, ← HN9.out]; exact ownsRow_stay OI.out (TStay.of_below b45 (fun _ => False)) (fun _ _ h => h), by rw [hK2]; exact BX4.out.size, U8.out.kept.h32⟩
                    rw [← hx5] at hS0 ⊢
                    rw [← hK2]
                    clear hx5 hK2 b45
                    try simp only [Act.put, List.setIfInBounds_toArray, List.set_cons_zero, List.set_cons_succ]
                    refine wpAnyH_ready (rs := [15]) (by kernel_rfl) (by simp) ?_
                    refine AllReadyH.cons rfl (fun K hK => ?_) AllReadyH.nil
                    rw [if_pos (by kernel_rfl)]
                    go_simp
                    refine hK.out _ _ (show TStay (fun j => u11.ownBlock = some j) w8 (x5.alloc (.cells #[.pointer (some ⟨KB2, 0, none⟩)] 34)) from TStay.of_below (BX5.out.alloc BX5.out.size _) _) (fun hS0 => ?_)
                    clear hK K
                    obtain ⟨x6, hx6⟩ : ∃ x, x = (x5.alloc (.cells #[.pointer (some ⟨KB2, 0, none⟩)] 34)) := ⟨_, rfl⟩
                    obtain ⟨XB, hXB⟩ : ∃ b, b = x5.heap.size := ⟨_, rfl⟩
                    have B56 : Hid (Below x5.heap.size x5 x6) := Lib.hid (by rw [hx6]; exact (Below.refl _ _).alloc (Nat.le_refl _) _)
                    have BX6 : Hid (Below w8.heap.size w8 x6) := Lib.hid (BX5.out.trans (B56.out.mono BX5.out.size))
                    have TX6 : Hid (x6.heap[XB]? = some (.cells #[.pointer (some ⟨KB2, 0, none⟩)] 34 (0, 0))) := Lib.hid (by rw [hx6, hXB]; exact heap_alloc_new _ _)
                    rw [← hx6] at hS0 ⊢
                    rw [← hXB]
                    clear hx6 hXB
                    try simp only [Act.put, List.setIfInBounds_toArray, List.set_cons_zero, List.set_cons_succ]
                    have OW6 : Hid (OwnP x6 w.heap.size u11 S) := Lib.hid (ownsRow_stay U8.out.was (TStay.of_below BX6.out (fun _ => False)) (fun _ _ h => h))
                    refine wpAnyH_ready (rs := [16]) (by kernel_rfl) (by simp) ?_
                    refine AllReadyH.cons rfl (fun K hK => ?_) AllReadyH.nil
                    refine step_append_liesD (some 167) rfl rfl (.tmp 151) (.tmp 166) 38 rfl w.heap.size 34 iP _ 1 8 Tryz.underlying38 IPi.out IPz.out IPs.out IPb.out (by decide) (by omega) u11 S.length (S.map fun s => Value.pointer (some ⟨s.KB, 0, none⟩)) (by kernel_rfl) OW6.out ⟨XB, 0, none⟩ 1 1 [.pointer (some ⟨KB2, 0, none⟩)] (by kernel_rfl) rfl (World.news_of_block TX6.out) (by simp [Value.oneCell']) (by omega) (by have := SLN.out; unfold maxLen; omega) (by have := SLN.out; omega) (Nat.le_trans WRL.out BX6.out.size) _ rfl ?_
                    intro g cap x7 hown hgrow hat hlt7
                    have FIN : Hid (SSt w x7 TB' LB B KB t2 I2 k1 k1 (.slice ah N ch) (.slice an N cn) vr8 (.slice (some ⟨g, 0, none⟩) (S.length + 1) cap) (S ++ [⟨q, KB2, t2, k1, .slice aH N cH, .slice aI N cI⟩])) := Lib.hid (U8.out.was_ BX5.out KK5.out B56.out hown hgrow HQ.out S5.out.all (by have := N84.out; have := HN9.out; omega))
                    refine hK.out _ _ ((TStay.of_below BX6.out _).grown hgrow (fun j e => .inl e)) (fun hS0 => ?_)
                    clear hK K hown hgrow hat hlt7
                    simp only [Act.put, List.setIfInBounds_toArray, List.set_cons_zero, List.set_cons_succ]
                    refine takeK (i := 17) (.slice (some ⟨g, 0, none⟩) (S.length + 1) cap) (some 11) rfl (by kernel_rfl) (by kernel_rfl) (by kernel_rfl) (by kernel_rfl) (fun _ _ _ h => h) (by kernel_rfl) (fun w' _ => by kernel_rfl) hS0 ?_
                    try simp only [Act.put, List.setIfInBounds_toArray, List.set_cons_zero, List.set_cons_succ]
                    refine wpAnyH_done (by kernel_rfl) ?_ _
                    go_wp2
                    go_meet
                    exact ⟨_, FIN⟩
                · rw [if_pos (by kernel_rfl)]
                  go_simp
                  have hS0' : TStay (fun j => u11.ownBlock = some j) w8 (x0.alloc (.cells #[] 3)) := TStay.of_below (BX0.out.alloc (BX0.out.size) _) _
                  refine hK.out _ _ hS0' (fun hS0 => ?_)
                  clear hK K hS0'
                  obtain ⟨x1, hx1⟩ : ∃ x, x = (x0.alloc (.cells #[] 3)) := ⟨_, rfl⟩
                  obtain ⟨b1, hb1⟩ : ∃ b, b = x0.heap.size := ⟨_, rfl⟩
                  have BX1 : Hid (Below w8.heap.size w8 x1) := Lib.hid (by rw [hx1]; exact BX0.out.alloc BX0.out.size _)
                  have Eb1 : Hid (x1.heap[b1]? = some (.cells #[] 3 (0, 0)) ∧ w8.heap.size ≤ b1) := Lib.hid (by rw [hx1, hb1]; exact ⟨heap_alloc_new _ _, BX0.out.size⟩)
                  have KEEP1 : Hid (Below x0.heap.size x0 x1) := Lib.hid (by rw [hx1]; exact (Below.refl _ _).alloc (Nat.le_refl _) _)
                  rw [← hx1] at hS0 ⊢
                  rw [← hb1]
                  clear hx1 hb1
                  try simp only [Act.put, List.setIfInBounds_toArray, List.set_cons_zero, List.set_cons_succ]
                  refine wpAnyH_ready (rs := [1]) (by kernel_rfl) (by simp) ?_
                  refine AllReadyH.cons rfl (fun K hK => ?_) AllReadyH.nil
                  rw [if_pos (by kernel_rfl)]
                  go_simp
                  have hS0' : TStay (fun j => u11.ownBlock = some j) w8 (x1.alloc (.cells #[] 42)) := TStay.of_below (BX1.out.alloc (BX1.out.size) _) _
                  refine hK.out _ _ hS0' (fun hS0 => ?_)
                  clear hK K hS0'
                  obtain ⟨x2, hx2⟩ : ∃ x, x = (x1.alloc (.cells #[] 42)) := ⟨_, rfl⟩
                  obtain ⟨b2, hb2⟩ : ∃ b, b = x1.heap.size := ⟨_, rfl⟩
                  have BX2 : Hid (Below w8.heap.size w8 x2) := Lib.hid (by rw [hx2]; exact BX1.out.alloc BX1.out.size _)
                  have Eb2 : Hid (x2.heap[b2]? = some (.cells #[] 42 (0, 0)) ∧ w8.heap.size ≤ b2) := Lib.hid (by rw [hx2, hb2]; exact ⟨heap_alloc_new _ _, BX1.out.size⟩)
                  have KEEP2 : Hid (Below x1.heap.size x1 x2) := Lib.hid (by rw [hx2]; exact (Below.refl _ _).alloc (Nat.le_refl _) _)
                  rw [← hx2] at hS0 ⊢
                  rw [← hb2]
                  clear hx2 hb2
                  try simp only [Act.put, List.setIfInBounds_toArray, List.set_cons_zero, List.set_cons_succ]
                  have Eb1' : Hid (x2.heap[b1]? = some (.cells #[] 3 (0, 0)) ∧ w8.heap.size ≤ b1) := Lib.hid ⟨(KEEP2.out.block _ (blk_lt Eb1.out.1)).trans Eb1.out.1, Eb1.out.2⟩
                  replace Eb1 := Eb1'
                  refine wpAnyH_ready (rs := [6]) (by kernel_rfl) (by simp) ?_
                  refine AllReadyH.cons rfl (fun K hK => ?_) AllReadyH.nil
                  refine step_append_new (some 157) rfl rfl (.tmp 152) (.tmp 156) 35 rfl w8.heap.size b2 42 iH (.agg (hashC Wi.z32)) 32 32 Tryz.underlying35 IHi.out IHz.out IHs.out IHb.out (by rfl) (by decide) (by kernel_rfl) Eb2.out.1 Eb2.out.2 w.heap.size ah N ch (flatC hashC (k1.map (·.1))) (by kernel_rfl) (SH.out _ BX2.out) (flatH_one _) (by have := N84.out; unfold maxLen; omega) (by have := N84.out; omega) BX2.out.size ?_
                  intro aH cH x3 oH gH
                  have BX3 : Hid (Below w8.heap.size w8 x3) := Lib.hid (BX2.out.grown gH BX2.out.size (fun j e => by cases e; exact Eb2.out.2))
                  have OH : Hid (x3.ownsRow w8.heap.size 42 32 (.slice aH N cH) N (flatC hashC (k1.map (·.1)))) := Lib.hid oH
                  have GH : Hid (x2.grownBy x3 (some b2)) := Lib.hid gH
                  refine hK.out _ _ (TStay.of_below BX3.out _) (fun hS0 => ?_)
                  clear hK K oH gH
                  try simp only [Act.put, List.setIfInBounds_toArray, List.set_cons_zero, List.set_cons_succ]
                  have Eb1'' : Hid (x3.heap[b1]? = some (.cells #[] 3 (0, 0)) ∧ w8.heap.size ≤ b1) := Lib.hid ⟨(GH.out.block b1 (blk_lt Eb1.out.1) (fun e => by cases e; have h1 := Eb2.out.1; rw [Eb1.out.1] at h1; cases h1)).trans Eb1.out.1, Eb1.out.2⟩
                  replace Eb1 := Eb1''
                  refine wpAnyH_ready (rs := [12]) (by kernel_rfl) (by simp) ?_
                  refine AllReadyH.cons rfl (fun K hK => ?_) AllReadyH.nil
                  refine step_append_new (some 163) rfl rfl (.tmp 158) (.tmp 162) 23 rfl w8.heap.size b1 3 iI (.int .i64 0) 1 8 Tryz.underlying23 IIi.out IIz.out IIs.out IIb.out (by rfl) (by decide) (by kernel_rfl) Eb1.out.1 Eb1.out.2 w.heap.size an N cn (((k1.map (·.2)).map (Value.int .i64))) (by kernel_rfl) (SI.out _ BX3.out) (ints_one _) (by have := N84.out; unfold maxLen; omega) (by have := N84.out; omega) BX3.out.size ?_
                  intro aI cI x4 oI gI
                  have BX4 : Hid (Below w8.heap.size w8 x4) := Lib.hid (BX3.out.grown gI BX3.out.size (fun j e => by cases e; exact Eb1.out.2))
                  have OI : Hid (x4.ownsRow w8.heap.size 3 1 (.slice aI N cI) N (((k1.map (·.2)).map (Value.int .i64)))) := Lib.hid oI
                  have GI : Hid (x3.grownBy x4 (some b1)) := Lib.hid gI
                  refine hK.out _ _ (TStay.of_below BX4.out _) (fun hS0 => ?_)
                  clear hK K oI gI
                  try simp only [Act.put, List.setIfInBounds_toArray, List.set_cons_zero, List.set_cons_succ]
                  have OH3 := Lib.hid (own_grown OH.out GI.out (fun e => absurd (own_tne OH.out e Eb1.out.1) (by decide)))
                  replace OH := OH3
                  refine takeK (i := 13) (.agg #[.slice aH N cH, .slice aI N cI]) (some 164) rfl (by kernel_rfl) (by kernel_rfl) (by kernel_rfl) (by kernel_rfl) (fun _ _ _ h => h) (by kernel_rfl) (fun w' _ => ex_mk 37 #[(0, .tmp 157), (1, .tmp 163)] rfl [(0, .slice aH N cH), (1, .slice aI N cI)] (by kernel_rfl) #[.slice aH N cH, .slice aI N cI] (bt_kept2 aH aI N cH cI)) hS0 ?_
                  try simp only [Act.put, List.setIfInBounds_toArray, List.set_cons_zero, List.set_cons_succ]
                  refine wpAnyH_ready (rs := [14]) (by kernel_rfl) (by simp) ?_
                  refine AllReadyH.cons rfl (fun K hK => ?_) AllReadyH.nil
                  rw [if_pos (by kernel_rfl)]
                  go_simp
                  refine hK.out _ _ (show TStay (fun j => u11.ownBlock = some j) w8 (x4.alloc (.cells #[.slice aH N cH, .slice aI N cI] 37)) from TStay.of_below (BX4.out.alloc BX4.out.size _) _) (fun hS0 => ?_)
                  clear hK K
                  obtain ⟨x5, hx5⟩ : ∃ x, x = (x4.alloc (.cells #[.slice aH N cH, .slice aI N cI] 37)) := ⟨_, rfl⟩
                  obtain ⟨KB2, hK2⟩ : ∃ b, b = x4.heap.size := ⟨_, rfl⟩
                  have b45 : Below x4.heap.size x4 x5 := by rw [hx5]; exact (Below.refl _ _).alloc (Nat.le_refl _) _
                  have BX5 : Hid (Below w8.heap.size w8 x5) := Lib.hid (BX4.out.trans (b45.mono BX4.out.size))
                  have KK5 : Hid (KeptAt x5 w8.heap.size KB2 k1 (.slice aH N cH) (.slice aI N cI)) := Lib.hid ⟨by rw [hx5, hK2]; exact heap_alloc_new _ _, by show World.ownsRow _ _ _ _ _ _ _; rw [List.length_map, ← HN9.out]; exact ownsRow_stay OH.out (TStay.of_below b45 (fun _ => False)) (fun _ _ h => h), by show World.ownsRow _ _ _ _ _ _ _; rw [List.length_map, ← HN9.out]; exact ownsRow_stay OI.out (TStay.of_below b45 (fun _ => False)) (fun _ _ h => h), by rw [hK2]; exact BX4.out.size, U8.out.kept.h32⟩
                  rw [← hx5] at hS0 ⊢
                  rw [← hK2]
                  clear hx5 hK2 b45
                  try simp only [Act.put, List.setIfInBounds_toArray, List.set_cons_zero, List.set_cons_succ]
                  refine wpAnyH_ready (rs := [15]) (by kernel_rfl) (by simp) ?_
                  refine AllReadyH.cons rfl (fun K hK => ?_) AllReadyH.nil
                  rw [if_pos (by kernel_rfl)]
                  go_simp
                  refine hK.out _ _ (show TStay (fun j => u11.ownBlock = some j) w8 (x5.alloc (.cells #[.pointer (some ⟨KB2, 0, none⟩)] 34)) from TStay.of_below (BX5.out.alloc BX5.out.size _) _) (fun hS0 => ?_)
                  clear hK K
                  obtain ⟨x6, hx6⟩ : ∃ x, x = (x5.alloc (.cells #[.pointer (some ⟨KB2, 0, none⟩)] 34)) := ⟨_, rfl⟩
                  obtain ⟨XB, hXB⟩ : ∃ b, b = x5.heap.size := ⟨_, rfl⟩
                  have B56 : Hid (Below x5.heap.size x5 x6) := Lib.hid (by rw [hx6]; exact (Below.refl _ _).alloc (Nat.le_refl _) _)
                  have BX6 : Hid (Below w8.heap.size w8 x6) := Lib.hid (BX5.out.trans (B56.out.mono BX5.out.size))
                  have TX6 : Hid (x6.heap[XB]? = some (.cells #[.pointer (some ⟨KB2, 0, none⟩)] 34 (0, 0))) := Lib.hid (by rw [hx6, hXB]; exact heap_alloc_new _ _)
                  rw [← hx6] at hS0 ⊢
                  rw [← hXB]
                  clear hx6 hXB
                  try simp only [Act.put, List.setIfInBounds_toArray, List.set_cons_zero, List.set_cons_succ]
                  have OW6 : Hid (OwnP x6 w.heap.size u11 S) := Lib.hid (ownsRow_stay U8.out.was (TStay.of_below BX6.out (fun _ => False)) (fun _ _ h => h))
                  refine wpAnyH_ready (rs := [16]) (by kernel_rfl) (by simp) ?_
                  refine AllReadyH.cons rfl (fun K hK => ?_) AllReadyH.nil
                  refine step_append_liesD (some 167) rfl rfl (.tmp 151) (.tmp 166) 38 rfl w.heap.size 34 iP _ 1 8 Tryz.underlying38 IPi.out IPz.out IPs.out IPb.out (by decide) (by omega) u11 S.length (S.map fun s => Value.pointer (some ⟨s.KB, 0, none⟩)) (by kernel_rfl) OW6.out ⟨XB, 0, none⟩ 1 1 [.pointer (some ⟨KB2, 0, none⟩)] (by kernel_rfl) rfl (World.news_of_block TX6.out) (by simp [Value.oneCell']) (by omega) (by have := SLN.out; unfold maxLen; omega) (by have := SLN.out; omega) (Nat.le_trans WRL.out BX6.out.size) _ rfl ?_
                  intro g cap x7 hown hgrow hat hlt7
                  have FIN : Hid (SSt w x7 TB' LB B KB t2 I2 k1 k1 (.slice ah N ch) (.slice an N cn) vr8 (.slice (some ⟨g, 0, none⟩) (S.length + 1) cap) (S ++ [⟨q, KB2, t2, k1, .slice aH N cH, .slice aI N cI⟩])) := Lib.hid (U8.out.was_ BX5.out KK5.out B56.out hown hgrow HQ.out S5.out.all (by have := N84.out; have := HN9.out; omega))
                  refine hK.out _ _ ((TStay.of_below BX6.out _).grown hgrow (fun j e => .inl e)) (fun hS0 => ?_)
                  clear hK K hown hgrow hat hlt7
                  simp only [Act.put, List.setIfInBounds_toArray, List.set_cons_zero, List.set_cons_succ]
                  refine takeK (i := 17) (.slice (some ⟨g, 0, none⟩) (S.length + 1) cap) (some 11) rfl (by kernel_rfl) (by kernel_rfl) (by kernel_rfl) (by kernel_rfl) (fun _ _ _ h => h) (by kernel_rfl) (fun w' _ => by kernel_rfl) hS0 ?_
                  try simp only [Act.put, List.setIfInBounds_toArray, List.set_cons_zero, List.set_cons_succ]
                  refine wpAnyH_done (by kernel_rfl) ?_ _
                  go_wp2
                  go_meet
                  exact ⟨_, FIN⟩
                --W27>
                --F>
              case rest =>
                obtain ⟨sd, HS9⟩ := hcut
                obtain ⟨pr, hpr⟩ : ∃ pr, pr = i % 2 := ⟨_, rfl⟩
                have htm : ((i : Int)).tmod 2 = (pr : Int) := by rw [hpr]; exact tmod2 i
                have NEXT : Hid (k1.length ≤ 12 * (i + 1) ∧ I2.length ≤ 780 * (i + 1) ∧ (S ++ [sd]).length = i + 1) := Lib.hid ⟨by have := HN1.out; omega, by have := HN.out; have := HN1.out; have := HMN.out; have := S5.out.len; omega, by rw [List.length_append, SL.out]; rfl⟩
                have hpp : pr = 0 ∨ pr = 1 := by omega
                clear hpr
                rcases hpp with rfl | rfl
                · have FN := Lib.hid (show k1.length ≤ 12 * (i + 1) ∧ I2.length ≤ 780 * (i + 1) ∧ Rx.uns t2 = 0 ∧ (S ++ [sd]).length = i + 1 from ⟨NEXT.out.1, NEXT.out.2.1, SB.out.2, NEXT.out.2.2⟩)
                  go_wp2
                  go_roundw
                  case rel => exact ⟨i + 1, TB', t2, I2, k1, vh1, vn1, S ++ [sd], by omega, by omega, rfl, by go_num, HS9, FN⟩
                  case measure => simp [intOf]; omega
                · have hld := rLoad_tree wc w.heap.size LB B 16777216 I2 t2 HS9.out.st.ls (by have := SB.out; omega) S5.out.all HS9.out.st.sv HS9.out.st.tree.ok HS9.out.st.big (by rw [HS9.out.mt.cnt HS9.out.st.tree.ok]; have := NEXT.out; omega)
                  rw [← show q = _ from HQ.out] at hld
                  go_wp2_with fail
                  refine hld.mono ?_
                  clear hld
                  rintro e w10 ⟨UB2, t3, rfl, h10, e10, b10⟩
                  have H10 := Lib.hid (HS9.out.loaded h10 e10 b10)
                  have FN := Lib.hid (show k1.length ≤ 12 * (i + 1) ∧ I2.length ≤ 780 * (i + 1) ∧ Rx.uns t3 = 0 ∧ (S ++ [sd]).length = i + 1 from ⟨NEXT.out.1, NEXT.out.2.1, Rx.er_uns e10 H10.out.st.sv S5.out.all, NEXT.out.2.2⟩)
                  clear h10 e10 b10
                  go_wp2
                  go_roundw
                  case rel => exact ⟨i + 1, UB2, t3, I2, k1, vh1, vn1, S ++ [sd], by omega, by omega, rfl, by go_num, H10, FN⟩
                  case measure => simp [intOf]; omega
        · have d1 : decide ((i : Int) < 6) = false := decide_eq_false (by omega)
          have d1' : decide (i < 6) = false := decide_eq_false h8
          have FIN := Lib.hid (show I.length ≤ 4680 ∧ S.length ≤ 6 from ⟨by have := HN.out; omega, by have := HN.out; omega⟩)
          go_wp2
          go_meet
          exact ⟨TB', t, I, k, vh, vn, S, HS, FIN⟩
      · have d0 : decide ((i : Int) < (n0 : Int)) = false := decide_eq_false (by omega)
        have d0' : decide (i < n0) = false := decide_eq_false hlt
        have FIN := Lib.hid (show I.length ≤ 4680 ∧ S.length ≤ 6 from ⟨by have := HN.out; omega, by have := HN.out; omega⟩)
        go_wp2
        go_meet
        exact ⟨TB', t, I, k, vh, vn, S, HS, FIN⟩
  case rest =>
    obtain ⟨TB', t, I, k, vh, vn, S, HS, HN⟩ := hcut
    clear H5
    obtain ⟨L, hL⟩ : ∃ L, L = S.length := ⟨_, rfl⟩
    have HL := Lib.hid hL
    obtain ⟨ar, cr, hur, _⟩ := ownsRow_slice HS.out.roots
    obtain ⟨aw, cw, huw, _⟩ := ownsRow_slice HS.out.was
    rw [← hL] at hur huw
    subst hur; subst huw
    have HL6 : L ≤ 6 := by have := HN.out; omega
    clear hL
    go_wp2_with fail
    go_loopw [22] (fun iv wr => ∃ i : Nat, i ≤ L ∧ iv = .int .i64 (i : Int) ∧ Hid (SSt w wr TB' LB B KB t I k k vh vn (.slice ar L cr) (.slice aw L cw) S)) (fun iv _ => L - (intOf iv).toNat)
    case atStart => exact ⟨0, Nat.zero_le _, rfl, HS⟩
    case round =>
      obtain ⟨i, hi, rfl, HR9⟩ := hrel
      clear HS
      by_cases hlt : i < L
      · have d0 : decide ((i : Int) < (L : Int)) = true := decide_eq_true (by omega)
        have d0' : decide (i < L) = true := decide_eq_true hlt
        have i0 : (0 : Int) ≤ (i : Int) := by omega
        have i1 : (i : Int) < (L : Int) := by omega
        have hw := wrapi' ((i : Int) + 1) (by omega)
        have hz : S[i]? = some (S[i]'(by have := HL.out; omega)) := List.getElem?_eq_getElem _
        generalize S[i]'(by have := HL.out; omega) = s at hz
        have hall := HR9.out.all s (List.mem_of_getElem? hz)
        have OR : wr.ownsRow w.heap.size 3 1 (.slice ar L cr) L (S.map fun s => Value.int .i64 s.r) := by have h : wr.ownsRow w.heap.size 3 1 (.slice ar L cr) S.length (S.map fun s => Value.int .i64 s.r) := HR9.out.roots; rwa [← HL.out] at h
        have OW : wr.ownsRow w.heap.size 34 1 (.slice aw L cw) L (S.map fun s => Value.pointer (some ⟨s.KB, 0, none⟩)) := by have h : wr.ownsRow w.heap.size 34 1 (.slice aw L cw) S.length (S.map fun s => Value.pointer (some ⟨s.KB, 0, none⟩)) := HR9.out.was; rwa [← HL.out] at h
        obtain ⟨gr, hgr, _, hgrs⟩ := own_head OR (by omega)
        obtain ⟨gw, hgw, _, hgws⟩ := own_head OW (by omega)
        subst hgr; subst hgw
        have cr0 : wr.cell? ⟨gr, i, none⟩ = some (.int .i64 s.r) := by rw [OR.cellAt i (by omega)]; simp [hz]
        have CW : Hid (∀ w', Below wr.heap.size wr w' → w'.cell? ⟨gw, i, none⟩ = some (.pointer (some ⟨s.KB, 0, none⟩))) := Lib.hid (fun w' hb => (hb.cell (p := ⟨gw, i, none⟩) hgws).trans (by rw [OW.cellAt i (by omega)]; simp [hz]))
        have hld := rLoad_tree wr w.heap.size LB B 16777216 I s.t HR9.out.st.ls (by have := HN.out; omega) hall.2.all hall.2.sv hall.2.ok hall.2.big (by rw [hall.2.mt.cnt hall.2.ok]; have := hall.2.len; omega)
        rw [← hall.2.r] at hld
        have HALL := Lib.hid hall
        clear hz OR OW hgrs hgws hall
        obtain ⟨sr, hsr⟩ : ∃ sr, sr = s.r := ⟨_, rfl⟩
        rw [← hsr] at hld cr0
        clear hsr
        go_wp2_with fail
        refine hld.mono ?_
        clear hld cr0
        rintro e w5 ⟨UB, t5, rfl, h5, e5, b5⟩
        have H5 := Lib.hid (HR9.out.step b5)
        have cw0 := CW.out w5 b5
        have hM : Rx.Mt t5 s.k := ⟨fun x n hx => by rw [Rx.er_has e5]; exact HALL.out.2.mt.mem x n hx, HALL.out.2.mt.nd, HALL.out.2.mt.h32⟩
        have his := is_any w5 wr.heap.size w.heap.size UB s.KB t5 s.k s.vh s.vn s1 n1 c1 l1 h5 (HALL.out.1.below b5) hM (by have := HALL.out.2.len; omega) (HP.out.below H5.out.st.bel) (HE.out.keep H5.out.st.bel)
        obtain ⟨SKB, hSKB⟩ : ∃ b, b = s.KB := ⟨_, rfl⟩
        rw [← hSKB] at his cw0
        clear h5 e5 b5 hM hSKB
        go_wp2_with fail
        refine his.mono ?_
        clear his cw0
        rintro e w6 ⟨rfl, b6⟩
        have H6 := Lib.hid (H5.out.step b6)
        clear b6
        go_wp2
        go_roundw
        case rel => exact ⟨i + 1, by omega, by go_num, H6⟩
        case measure => simp [intOf]; omega
      · have d0 : decide ((i : Int) < (L : Int)) = false := decide_eq_false (by omega)
        have d0' : decide (i < L) = false := decide_eq_false hlt
        have BF := Lib.hid HR9.out.st.bel
        go_wp2
        go_ret
        exact ⟨rfl, BF.out⟩
end Go.Proofs.YthampbiabkfmoaaGreatDoor
