/- The reference's head: what it reads. -/
import Derived.Test.YthampbiabkfmoaaDoorRwHd
namespace Go.Proofs.YthampbiabkfmoaaDoor
open Go.RowKit Go.Tap
set_option linter.unusedVariables false
set_option linter.unusedSimpArgs false
theorem results_hd4 {fn : Func} {t u v x : Tmp} (h : fn.results = #[.tmp t, .tmp u, .tmp v, .tmp x]) (tmps : Array Value) (P : Program) (w : World) :
    (results fn tmps).run P w = .ok (.tuple #[tmps.getD t undef, tmps.getD u undef, tmps.getD v undef, tmps.getD x undef]) w := by
  simp [results, h]
/-- What head answers. -/
structure HdAft (w : World) (B D : Nat) (r : Wi.Rq × List UInt8 × Bool) (e : Ending) (w' : World) : Prop where
  e : ∃ f a c, e = .returned (.tuple #[.int .i64 f, .int .i64 r.1.seq, .int .i64 r.1.kind, .slice a r.1.items.length c]) ∧ RdI w' a r.1.items.length r.1.items ∧ (∀ x, a = some x → w.heap.size ≤ x.block)
  rd : Rd 98 w' B D r.2.1 r.2.2
  st : TStay (fun k => k = B) w w'
theorem rdIts_nil (kd : Int) (q : List UInt8 × Bool) (n : Nat) (h : n = 0 ∨ q.2 = true) : Wi.rdIts kd n q = ([], q) := by
  cases n with
  | zero => rfl
  | succ n =>
    rcases h with h | h
    · omega
    · rw [Wi.rdIts, if_pos h]
theorem rdIts_cons (kd : Int) (q : List UInt8 × Bool) (n : Nat) (h : q.2 = false) : Wi.rdIts kd (n + 1) q = ((Wi.rdIt kd q.1 q.2).1 :: (Wi.rdIts kd n (Wi.rdIt kd q.1 q.2).2).1, (Wi.rdIts kd n (Wi.rdIt kd q.1 q.2).2).2) := by
  rw [Wi.rdIts, if_neg (by rw [h]; decide)]
theorem it0_ok : (⟨Wi.z32, 0, []⟩ : Wi.It).ok := ⟨rfl, by unfold Wi.i64ok; decide, by decide⟩
set_option maxHeartbeats 4000000 in
set_option maxRecDepth 100000 in
theorem head_any {w : World} {B D : Nat} {l : List UInt8} {lk : Bool} (h : Rd 98 w B D l lk) :
    Calls Tryd.prog 34 #[.pointer (some ⟨B, 0, none⟩)] w (HdAft w B D (Wi.rdHead (Oct.rdU 1 l lk).2.1 (Oct.rdU 1 l lk).2.2)) := by
  obtain ⟨s1, hs1⟩ : ∃ s1, s1 = Oct.rdU 1 l lk := ⟨_, rfl⟩
  have hu0 := sd_u8 h
  rw [← hs1] at hu0 ⊢
  obtain ⟨H, hH⟩ : ∃ H, H = Wi.rdHead s1.2.1 s1.2.2 := ⟨_, rfl⟩
  rw [← hH]
  have HH := Lib.hid hH
  obtain ⟨fz, hfz⟩ : ∃ fz, fz = Oct.i64 s1.1 := ⟨_, rfl⟩
  rw [← hfz] at hu0
  have LT : Hid (B < w.heap.size ∧ D < w.heap.size) := Lib.hid ⟨h.lt, h.dlt⟩
  clear hH h hs1 hfz
  go_enter Tryd.func34, Tryd.ntmps34
  go_wp2_with fail
  refine hu0.mono ?_
  clear hu0
  rintro e w0 ⟨rfl, r0, s0⟩
  have S0 := Lib.hid s0
  have hu1 := sd_u32 r0
  obtain ⟨s4, hs4⟩ : ∃ s4, s4 = Oct.rdU 4 s1.2.1 s1.2.2 := ⟨_, rfl⟩
  rw [← hs4] at hu1
  obtain ⟨sq, hsq⟩ : ∃ sq, sq = Oct.i64 s4.1 := ⟨_, rfl⟩
  rw [← hsq] at hu1
  have HS4 := Lib.hid hs4
  have HSQ := Lib.hid hsq
  clear r0 s0 hs4 hsq
  go_wp2_with fail
  refine hu1.mono ?_
  clear hu1
  rintro e w1 ⟨rfl, r1, t1⟩
  have S1 := Lib.hid (S0.out.trans t1 (fun _ _ h => h))
  have hu2 := sd_u8 r1
  obtain ⟨k1, hk1⟩ : ∃ k1, k1 = Oct.rdU 1 s4.2.1 s4.2.2 := ⟨_, rfl⟩
  rw [← hk1] at hu2
  obtain ⟨kd, hkd⟩ : ∃ kd, kd = Oct.i64 k1.1 := ⟨_, rfl⟩
  rw [← hkd] at hu2
  have HK1 := Lib.hid hk1
  have HKD := Lib.hid hkd
  clear r1 t1 S0 hk1 hkd
  go_wp2_with fail
  refine hu2.mono ?_
  clear hu2
  rintro e w2 ⟨rfl, r2, t2⟩
  have S2 := Lib.hid (S1.out.trans t2 (fun _ _ h => h))
  have hu3 := sd_u8 r2
  obtain ⟨n1, hn1⟩ : ∃ n1, n1 = Oct.rdU 1 k1.2.1 k1.2.2 := ⟨_, rfl⟩
  rw [← hn1] at hu3
  have hnn : Oct.i64 n1.1 = (n1.1 : Int) := by rw [hn1]; exact Wi.rdU_i64 1 (by omega) _ _
  have hn256 : n1.1 < 256 := by rw [hn1]; exact Oct.rdU_lt 1 _ _
  rw [hnn] at hu3
  obtain ⟨n0, hn0⟩ : ∃ n0, n0 = n1.1 := ⟨_, rfl⟩
  rw [← hn0] at hu3 hn256
  have HN1 := Lib.hid hn1
  have HN0 := Lib.hid hn0
  have HN256 := Lib.hid hn256
  clear r2 t2 S1 hn1 hn0 hnn hn256
  go_wp2_with fail
  refine hu3.mono ?_
  clear hu3
  rintro e w4 ⟨rfl, r4, s4'⟩
  have R4 : Hid (HdSt w w4 B D [] n1.2 (.slice none 0 0)) := Lib.hid ⟨World.ownsRow_nil _ _ _ _, r4, S2.out.trans s4' (fun _ _ h => h), (fun i hi => by cases hi), LT.out⟩
  have HF : Hid (H = (⟨sq, kd, (Wi.rdIts kd n0 n1.2).1⟩, (Wi.rdIts kd n0 n1.2).2)) := Lib.hid (by
    rw [HH.out, Wi.rdHead, ← show s4 = _ from HS4.out, ← show k1 = _ from HK1.out, ← show n1 = _ from HN1.out, ← show sq = _ from HSQ.out, ← show kd = _ from HKD.out, ← show n0 = _ from HN0.out])
  clear r4 s4' HS4 HK1 HN1 HSQ HKD HN0 HH S2
  obtain ⟨q0, hq0⟩ : ∃ q0, q0 = n1.2 := ⟨_, rfl⟩
  rw [← hq0] at HF R4
  clear hq0
  go_wp2
  go_loopw [9, 10] (fun v nv wr => ∃ (nn : Nat) (li : List Wi.It) (q : List UInt8 × Bool), nv = .int .i64 (nn : Int) ∧ Hid (Wi.rdIts kd n0 q0 = (li ++ (Wi.rdIts kd nn q).1, (Wi.rdIts kd nn q).2)) ∧ Hid (li.length + nn ≤ 255) ∧ Hid (HdSt w wr B D li q v)) (fun _ nv _ => (intOf nv).toNat)
  case atStart => exact ⟨n0, [], q0, rfl, Lib.hid (by rw [List.nil_append]), Lib.hid (by have := HN256.out; simp; omega), R4⟩
  case round =>
    obtain ⟨nn, li, q, rfl, HE, HLN, HR⟩ := hrel
    clear R4
    have gl := rd_lack HR.out.rd
    by_cases hgo : 0 < nn ∧ q.2 = false
    · obtain ⟨h0, hlk⟩ := hgo
      obtain ⟨mm, hmm⟩ : ∃ mm, nn = mm + 1 := ⟨nn - 1, by omega⟩
      have d0 : decide ((0 : Int) < (nn : Int)) = true := decide_eq_true (by omega)
      have d0' : (0 : Int) < (nn : Int) := by omega
      have hw : IntKind.i64.wrap ((nn : Int) - 1) = (mm : Int) := by rw [wrapi' _ (by have := HLN.out; omega)]; omega
      have HMM := Lib.hid hmm
      rw [hmm] at HE
      rw [hlk] at gl
      have HLK := Lib.hid hlk
      have HS := Lib.hid (rdIts_cons kd q mm hlk)
      obtain ⟨it, hit⟩ : ∃ it, it = Wi.rdIt kd q.1 q.2 := ⟨_, rfl⟩
      rw [← hit] at HS
      have HIT := Lib.hid hit
      have HOK : Hid (it.1.ok) := Lib.hid (by rw [hit]; exact Wi.rdIt_ok _ _ _)
      obtain ⟨XB, hXB⟩ : ∃ XB, XB = wr.heap.size := ⟨_, rfl⟩
      obtain ⟨wa, hwa⟩ : ∃ wa, wa = wr.alloc (.cells (itC ⟨Wi.z32, 0, []⟩) 44) := ⟨_, rfl⟩
      have ba : Below wr.heap.size wr wa := by rw [hwa]; exact (Below.refl _ _).alloc (Nat.le_refl _) _
      have RA := Lib.hid (HR.out.below ba)
      have TA : Hid (wa.heap[XB]? = some (.cells (itC ⟨Wi.z32, 0, []⟩) 44 (0, 0))) := Lib.hid (by rw [hwa, hXB]; exact heap_alloc_new _ _)
      have NB : Hid (XB ≠ B ∧ w.heap.size ≤ XB ∧ ∀ k, u9.ownBlock = some k → k ≠ XB) := Lib.hid
        ⟨by have := HR.out.rd.lt; omega, by have := HR.out.st.size; omega, fun k hk => by have := (HR.out.own.lt k hk).2; omega⟩
      clear hlk hit ba h0
      have HE2 : Hid (Wi.rdIts kd n0 q0 = ((li ++ [it.1]) ++ (Wi.rdIts kd mm it.2).1, (Wi.rdIts kd mm it.2).2)) := Lib.hid (by rw [HE.out, HS.out, List.append_assoc]; rfl)
      have HLN2 : Hid ((li ++ [it.1]).length + mm ≤ 255) := Lib.hid (by have := HLN.out; rw [List.length_append, List.length_singleton]; omega)
      clear HE HS hmm
      by_cases hk1 : kd = 1
      · as_aux_lemma =>
          subst hk1
          obtain ⟨hq, hhq⟩ : ∃ hq, hq = Wi.rdHash q.1 q.2 := ⟨_, rfl⟩
          obtain ⟨vq, hvq⟩ : ∃ vq, vq = Oct.rdVar hq.2.1 hq.2.2 := ⟨_, rfl⟩
          have HITE : Hid (it = (⟨hq.1, vq.1, []⟩, vq.2)) := Lib.hid (by rw [HIT.out, Wi.rdIt, if_pos rfl, hvq, hhq])
          have HL32 : Hid (hq.1.length = 32) := Lib.hid (by rw [hhq]; exact Wi.rdHash_length _ _)
          have hh := refHash_any RA.out.rd
          rw [← hhq] at hh
          have HVQ := Lib.hid hvq
          clear hhq hvq HIT
          go_wp2_with (refine wpL_alloc rfl 44 rfl 11 rfl (itC ⟨Wi.z32, 0, []⟩) 34 zi_item ?_)
          rw [← hwa, ← hXB]
          clear hwa hXB gl
          refine hh.mono ?_
          clear hh
          rintro e w5 ⟨rfl, r5, s5⟩
          have R5 := Lib.hid (RA.out.step r5 s5)
          have T5 := Lib.hid ((s5.block _ (blk_lt TA.out) NB.out.1).trans TA.out)
          have hv := fun (x : World) (hx : Rd 98 x B D hq.2.1 hq.2.2) => sd_var hx
          clear r5 s5 RA TA
          have A1 := Lib.hid (itC_hash Wi.z32 hq.1 0 [] rfl HL32.out)
          have A2 : Hid (0 + (hashC hq.1).size ≤ (itC ⟨Wi.z32, 0, []⟩).size) := Lib.hid (by rw [hashC_size _ HL32.out, itC_size _ it0_ok]; decide)
          have A3 : Hid (∀ v ∈ (hashC hq.1).toList, v.oneCell' = true) := Lib.hid (one_bv _)
          have A4 : Hid ((Tryd.prog.info? 40).map (·.size) = some (hashC hq.1).size) := Lib.hid (by rw [hashC_size _ HL32.out]; exact sz_hash)
          go_wp2_with (first | (refine wpL_storeW ?hw 40 (.tmp 36) (.tmp 34) rfl XB 0 rfl (hashC hq.1) rfl (itC ⟨Wi.z32, 0, []⟩) 44 T5.out (itC ⟨hq.1, 0, []⟩) A1.out A2.out A3.out A4.out ?_; case hw => kernel_rfl))
          intro w6 T6 S6
          have R6 := Lib.hid (R5.out.turn S6 NB.out.2.1 NB.out.2.2)
          have HT6 := Lib.hid T6
          have hv6 := sd_var R6.out.rd
          rw [← show vq = _ from HVQ.out] at hv6
          clear T6 S6 R5 T5 hv
          go_wp2_with fail
          refine hv6.mono ?_
          clear hv6
          rintro e w7 ⟨rfl, r7, s7⟩
          have R7 := Lib.hid (R6.out.step r7 s7)
          have T7 := Lib.hid ((s7.block _ (blk_lt HT6.out) NB.out.1).trans HT6.out)
          have q32 : w7.cell? ⟨XB, 32, none⟩ = some (.int .i64 0) := by rw [cell_of_row w7 _ 32 _ _ _ T7.out]; exact itC_steps _ ⟨HL32.out, it0_ok.steps, it0_ok.text⟩
          have f32 : w7.frozen? ⟨XB, 32, none⟩ = false := blk_free T7.out 32
          obtain ⟨w8, hw8⟩ : ∃ w8, w8 = w7.setCell ⟨XB, 32, none⟩ (.int .i64 vq.1) := ⟨_, rfl⟩
          have T8 : w8.heap[XB]? = some (.cells (itC it.1) 44 (0, 0)) := by
            rw [hw8, heap_setCell_same _ _ 32 _ _ _ T7.out, itC_setS _ HL32.out, HITE.out]
          have S8 : TStay (fun k => k = XB) w7 w8 := by rw [hw8]; exact (TStay.refl (fun k => k = XB) _).setCell (p := ⟨XB, 32, none⟩) (.inl rfl) _
          have R8 := Lib.hid (R7.out.turn S8 NB.out.2.1 NB.out.2.2)
          have Q2 : Hid (it.2 = vq.2) := Lib.hid (by rw [HITE.out])
          rw [← Q2.out] at R8
          have P8 : Hid (Part w8 XB 0 (itC it.1)) := Lib.hid (Part.of_blk T8)
          have ba8 : Below w8.heap.size w8 (w8.alloc (.cells (itC it.1) 44)) := (Below.refl _ _).alloc (Nat.le_refl _) _
          have R9 : Hid (HdSt w (w8.alloc (.cells (itC it.1) 44)) B D li it.2 u9) := Lib.hid (R8.out.below ba8)
          have HLA : Hid (w.heap.size ≤ (w8.alloc (.cells (itC it.1) 44)).heap.size) := Lib.hid R9.out.st.size
          clear T8 S8 R6 HT6 ba8 r7 s7 R7
          go_upto_region 13 with (fail)
          rw [← hw8]
          clear hw8 q32 f32 T7
          go_wp2_with (first | (refine wpL_load ?hw 44 (.tmp 11) rfl XB 0 rfl (itC it.1) _ P8.out Tryd.underlying44 rfl (by rw [itC_size _ HOK.out]; exact sz_item) ?_; case hw => kernel_rfl) | (refine wpL_rowOne rfl 26 44 (.tmp 48) rfl 49 rfl Tryd.underlying26 (itC it.1) ?hx (.agg (itC ⟨Wi.z32, 0, []⟩)) 34 zi_item (by decide) (itC_size _ HOK.out) ?_; (try case hx => rfl)) | (at_builtin; refine wpL_appI _ rfl (.tmp 47) (.tmp 49) rfl w.heap.size u9 li ?ha R9.out.own w8.heap.size it.1 HOK.out ?hx (heap_alloc_new _ _) (by have := HLN.out; omega) HLA.out ?_; (try case ha => rfl); (try case hx => rfl)))
          intro v' w9 O9 G9
          have HR9 := Lib.hid (R9.out.app O9 G9 HOK.out)
          clear O9 G9 R9 R8 P8
          go_wp2
          go_roundw
          case rel => exact ⟨mm, li ++ [it.1], it.2, by go_num, HE2, HLN2, HR9⟩
          case measure => have := HMM.out; simp [intOf]; omega
      · as_aux_lemma =>
          have dk : (kd == 1) = false := by simp [hk1]
          obtain ⟨nq, hnq⟩ : ∃ nq, nq = Oct.rdU 1 q.1 q.2 := ⟨_, rfl⟩
          have hnn : Oct.i64 nq.1 = (nq.1 : Int) := by rw [hnq]; exact Wi.rdU_i64 1 (by omega) _ _
          have hn256 : nq.1 < 256 := by rw [hnq]; exact Oct.rdU_lt 1 _ _
          obtain ⟨xq, hxq⟩ : ∃ xq, xq = Oct.rdRaw (nq.1 : Int) nq.2.1 nq.2.2 := ⟨_, rfl⟩
          have HITE : Hid (it = (⟨Wi.z32, 0, xq.1⟩, xq.2)) := Lib.hid (by rw [HIT.out, Wi.rdIt, if_neg hk1, hxq, ← hnn, hnq])
          have hu := sd_u8 RA.out.rd
          rw [← hnq, hnn] at hu
          have HXQ := Lib.hid hxq
          have HN2 := Lib.hid hn256
          clear hnq hxq hnn hn256 HIT hk1
          go_wp2_with (refine wpL_alloc rfl 44 rfl 11 rfl (itC ⟨Wi.z32, 0, []⟩) 34 zi_item ?_)
          rw [← hwa, ← hXB]
          clear hwa hXB gl
          refine hu.mono ?_
          clear hu
          rintro e w5 ⟨rfl, r5, s5⟩
          have R5 := Lib.hid (RA.out.step r5 s5)
          have T5 := Lib.hid ((s5.block _ (blk_lt TA.out) NB.out.1).trans TA.out)
          have hv := sd_raw r5 (nq.1 : Int) (by have := HN2.out; omega)
          rw [← show xq = _ from HXQ.out] at hv
          clear r5 s5 RA TA
          go_wp2_with fail
          refine hv.mono ?_
          clear hv
          rintro e w6 ⟨⟨xa, xc, rfl, o6⟩, r6, s6⟩
          have R6 := Lib.hid (R5.out.step r6 s6)
          have T6 := Lib.hid ((s6.block _ (blk_lt T5.out) NB.out.1).trans T5.out)
          have hcv := convB w6 xa xq.1.length xc xq.1 (Rds.of_own o6 rfl)
          have q33 : w6.cell? ⟨XB, 33, none⟩ = some (.string (str [])) := by rw [cell_of_row w6 _ 33 _ _ _ T6.out]; rfl
          have f33 : w6.frozen? ⟨XB, 33, none⟩ = false := blk_free T6.out 33
          obtain ⟨w8, hw8⟩ : ∃ w8, w8 = w6.setCell ⟨XB, 33, none⟩ (.string (str xq.1)) := ⟨_, rfl⟩
          have T8 : w8.heap[XB]? = some (.cells (itC it.1) 44 (0, 0)) := by
            rw [hw8, heap_setCell_same _ _ 33 _ _ _ T6.out, itC_setT _ rfl, HITE.out]
          have S8 : TStay (fun k => k = XB) w6 w8 := by rw [hw8]; exact (TStay.refl (fun k => k = XB) _).setCell (p := ⟨XB, 33, none⟩) (.inl rfl) _
          have R8 := Lib.hid (R6.out.turn S8 NB.out.2.1 NB.out.2.2)
          have Q2 : Hid (it.2 = xq.2) := Lib.hid (by rw [HITE.out])
          rw [← Q2.out] at R8
          have P8 : Hid (Part w8 XB 0 (itC it.1)) := Lib.hid (Part.of_blk T8)
          have ba8 : Below w8.heap.size w8 (w8.alloc (.cells (itC it.1) 44)) := (Below.refl _ _).alloc (Nat.le_refl _) _
          have R9 : Hid (HdSt w (w8.alloc (.cells (itC it.1) 44)) B D li it.2 u9) := Lib.hid (R8.out.below ba8)
          have HLA : Hid (w.heap.size ≤ (w8.alloc (.cells (itC it.1) 44)).heap.size) := Lib.hid R9.out.st.size
          clear T8 S8 R6 ba8 o6 r6 s6 R5 T5
          go_upto_region 13 with (fail)
          rw [← hw8]
          clear hw8 q33 f33 T6 hcv
          go_wp2_with (first | (refine wpL_load ?hw 44 (.tmp 11) rfl XB 0 rfl (itC it.1) _ P8.out Tryd.underlying44 rfl (by rw [itC_size _ HOK.out]; exact sz_item) ?_; case hw => kernel_rfl) | (refine wpL_rowOne rfl 26 44 (.tmp 48) rfl 49 rfl Tryd.underlying26 (itC it.1) ?hx (.agg (itC ⟨Wi.z32, 0, []⟩)) 34 zi_item (by decide) (itC_size _ HOK.out) ?_; (try case hx => rfl)) | (at_builtin; refine wpL_appI _ rfl (.tmp 47) (.tmp 49) rfl w.heap.size u9 li ?ha R9.out.own w8.heap.size it.1 HOK.out ?hx (heap_alloc_new _ _) (by have := HLN.out; omega) HLA.out ?_; (try case ha => rfl); (try case hx => rfl)))
          intro v' w9 O9 G9
          have HR9 := Lib.hid (R9.out.app O9 G9 HOK.out)
          clear O9 G9 R9 R8 P8
          go_wp2
          go_roundw
          case rel => exact ⟨mm, li ++ [it.1], it.2, by go_num, HE2, HLN2, HR9⟩
          case measure => have := HMM.out; simp [intOf]; omega
    · as_aux_lemma =>
        have HST : Hid (Wi.rdIts kd nn q = ([], q)) := Lib.hid (rdIts_nil kd q nn (by cases hq : q.2 with | true => exact .inr rfl | false => left; simp [hq] at hgo; omega))
        have HFI : Hid (H = (⟨sq, kd, li⟩, q)) := Lib.hid (by rw [HF.out, HE.out, HST.out, List.append_nil])
        have KEY : Hid (HdAft w B D H (.returned (.tuple #[.int .i64 fz, .int .i64 sq, .int .i64 kd, u9])) wr) := Lib.hid (by
          obtain ⟨a, c, e, ri, hz, hlc, hblk⟩ := rdI_own HR.out.own HR.out.ok
          rw [HFI.out]
          exact ⟨⟨fz, a, c, by rw [e], ri, hblk⟩, HR.out.rd, HR.out.st⟩)
        have hcase : (nn = 0) ∨ (0 < nn ∧ q.2 = true) := by
          rcases Nat.eq_zero_or_pos nn with h | h
          · exact .inl h
          · exact .inr ⟨h, by cases hq : q.2 with | true => rfl | false => exact absurd ⟨h, hq⟩ hgo⟩
        clear hgo HF HE HST HFI HR HN256 HLN
        rcases hcase with rfl | ⟨h0, hq⟩
        · go_wp2
          (try simp only [Exit.inBlock, Exit.then]); refine bodyPost_ret (results_hd4 rfl _ _ _) rfl ?_
          exact KEY.out
        · have d0 : decide ((0 : Int) < (nn : Int)) = true := decide_eq_true (by omega)
          have d0' : (0 : Int) < (nn : Int) := by omega
          rw [hq] at gl
          clear hq h0
          go_wp2
          (try simp only [Exit.inBlock, Exit.then]); refine bodyPost_ret (results_hd4 rfl _ _ _) rfl ?_
          exact KEY.out
end Go.Proofs.YthampbiabkfmoaaDoor
