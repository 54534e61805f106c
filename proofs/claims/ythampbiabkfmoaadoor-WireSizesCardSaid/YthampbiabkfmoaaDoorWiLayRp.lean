/- LayReply: what it answers. -/
import Derived.Test.YthampbiabkfmoaaDoorWiLayRq
namespace Go.Proofs.YthampbiabkfmoaaDoor
open Go.RowKit Go.Tap
set_option linter.unusedVariables false
set_option linter.unusedSimpArgs false
theorem layRp_none {p : Wi.Rp} (h : ¬ (Wi.mayRq p.q = true ∧ p.ents.length = p.q.items.length ∧ p.ents.all (Wi.mayEn p.q.kind) = true)) : Wi.layRp p = none := if_neg h
theorem layRp_some {p : Wi.Rp} (h : Wi.mayRq p.q = true ∧ p.ents.length = p.q.items.length ∧ p.ents.all (Wi.mayEn p.q.kind) = true) : Wi.layRp p = some (Wi.sumB (Wi.headB 2 p.q ++ Wi.ensB p.q.kind p.ents)) := if_pos h
set_option maxHeartbeats 4000000 in
set_option maxRecDepth 100000 in
theorem layReply_any (w : World) (p : Wi.Rp) (hp : p.ok) (a : Option Addr) (n c : Nat) (hr : RdI w a n p.q.items) (hn : n ≤ 140737488351232) (a2 : Option Addr) (m c2 : Nat) (hr2 : RdE w a2 m p.ents) (hm : m ≤ 140737488351232) :
    Calls Tryd.prog 63 #[.agg #[.int .i64 p.q.seq, .int .i64 p.q.kind, .slice a n c, .slice a2 m c2]] w (LayAft w (Wi.layRp p)) := by
  obtain ⟨sq, hsq⟩ : ∃ sq, sq = p.q.seq := ⟨_, rfl⟩
  obtain ⟨kd, hkd⟩ : ∃ kd, kd = p.q.kind := ⟨_, rfl⟩
  rw [← hsq, ← hkd]
  have b1 : Below w.heap.size w (w.alloc (.cells #[.int .i64 sq, .int .i64 kd, .slice a n c, .slice a2 m c2] 88)) := (Below.refl _ _).alloc (Nat.le_refl _) _
  have P1 : Hid (Part (w.alloc (.cells #[.int .i64 sq, .int .i64 kd, .slice a n c, .slice a2 m c2] 88)) w.heap.size 0 #[.int .i64 sq, .int .i64 kd, .slice a n c, .slice a2 m c2]) := Lib.hid (Part.of_blk (heap_alloc_new _ _))
  have T1 : Hid ((w.alloc (.cells #[.int .i64 sq, .int .i64 kd, .slice a n c, .slice a2 m c2] 88)).heap[w.heap.size]? = some (.cells #[.int .i64 sq, .int .i64 kd, .slice a n c, .slice a2 m c2] 88 (0, 0))) := Lib.hid (heap_alloc_new _ _)
  have hreq := request_any (w.alloc (.cells #[.int .i64 sq, .int .i64 kd, .slice a n c, .slice a2 m c2] 88)) sq kd a n c a2 m c2
  have B1 := Lib.hid b1
  have HP := Lib.hid hp
  have R0 := Lib.hid hr
  have E0 := Lib.hid hr2
  have HSQ := Lib.hid hsq
  have HKD := Lib.hid hkd
  have HNL := Lib.hid hn
  have HML := Lib.hid hm
  clear b1 hp hr hr2 hsq hkd hn hm
  go_enter Tryd.func63, Tryd.ntmps63
  go_wp2_with (refine wpL_load ?hw 88 (.tmp 1) rfl w.heap.size 0 rfl #[.int .i64 sq, .int .i64 kd, .slice a n c, .slice a2 m c2] _ P1.out Tryd.underlying88 rfl (sz_rp _ _ _ _) ?_; case hw => kernel_rfl)
  refine hreq.mono ?_
  clear hreq
  rintro e w2 ⟨rfl, b2⟩
  have T2 := Lib.hid ((b2.block _ (blk_lt T1.out)).trans T1.out)
  have B2 := Lib.hid (B1.out.trans (b2.mono B1.out.size))
  have hM := mayRequest_any w2 p.q HP.out.q a n c (R0.out.below B2.out) HNL.out
  rw [← HSQ.out, ← HKD.out] at hM
  clear b2 P1 T1 B1
  go_wp2_with fail
  refine hM.mono ?_
  clear hM
  rintro e w3 ⟨rfl, b3⟩
  have T3 := Lib.hid ((b3.block _ (blk_lt T2.out)).trans T2.out)
  have B3 := Lib.hid (B2.out.trans (b3.mono B2.out.size))
  clear b3 T2 B2
  obtain ⟨r, hr⟩ : ∃ r, r = Wi.mayRq p.q := ⟨_, rfl⟩
  rw [← hr]
  have HR := Lib.hid hr
  clear hr
  cases r
  · have hnone : Hid (Wi.layRp p = none) := Lib.hid (layRp_none (fun h => by rw [← HR.out] at h; cases h.1))
    go_wp2
    go_ret2
    rw [hnone.out]
    exact ⟨B3.out, rfl⟩
  · obtain ⟨g0, g1, g2, g3⟩ := cells4 T3.out
    by_cases hmn : m = n
    · subst hmn
      have d0 : ((m : Int) != (m : Int)) = false := by simp
      have hnw := newW_any w w3 B3.out
      have HLEN : Hid (p.ents.length = p.q.items.length) := Lib.hid (by rw [R0.out.1, E0.out.1])
      have HM : Hid (Wi.mayRq p.q = true) := Lib.hid HR.out.symm
      have HM16 : Hid (m ≤ 16) := Lib.hid (by have := (Wi.mayRq_parts HM.out).2.2.2.2; have := R0.out.1; omega)
      clear HNL HML HR
      go_wp2_with fail
      refine hnw.mono ?_
      clear hnw g0 g1 g2 g3
      rintro e w4 ⟨B, rfl, h4, b4⟩
      have T4 := Lib.hid ((b4.block _ (blk_lt T3.out)).trans T3.out)
      have P4 : Hid (Part w4 w.heap.size 0 #[.int .i64 sq, .int .i64 kd, .slice a m c, .slice a2 m c2]) := Lib.hid (Part.of_blk T4.out)
      have H4 := Lib.hid h4
      have hreq := request_any w4 sq kd a m c a2 m c2
      clear T3 B3 h4 b4
      go_wp2_with (refine wpL_load ?hw 88 (.tmp 1) rfl w.heap.size 0 rfl #[.int .i64 sq, .int .i64 kd, .slice a m c, .slice a2 m c2] _ P4.out Tryd.underlying88 rfl (sz_rp _ _ _ _) ?_; case hw => kernel_rfl)
      refine hreq.mono ?_
      clear hreq
      rintro e w5 ⟨rfl, b5⟩
      have T5 := Lib.hid ((b5.block _ (blk_lt T4.out)).trans T4.out)
      have hh := layHead_any (H4.out.below b5) 2 p.q HP.out.q HM.out a m c R0.out (by simp)
      rw [← HSQ.out, ← HKD.out] at hh
      clear T4 H4 b5 P4
      go_wp2_with fail
      refine hh.mono ?_
      clear hh
      rintro e w6 ⟨rfl, h6, k6⟩
      rw [List.nil_append] at h6
      have T6 := Lib.hid ((k6 _ _ _ _ T5.out (by decide) (by decide)).trans T5.out)
      have H6 := Lib.hid h6
      obtain ⟨lh, hlh⟩ : ∃ lh, lh = Wi.headB 2 p.q := ⟨_, rfl⟩
      rw [← hlh] at H6
      have HLH := Lib.hid hlh
      have HLL : Hid (lh.length ≤ 1047) := Lib.hid (by rw [hlh]; exact Wi.headB_le HM.out HP.out.q 2)
      obtain ⟨g0, g1, g2, g3⟩ := cells4 T6.out
      clear h6 k6 T5 hlh
      go_wp2
      go_loopw [29] (fun kv wr => ∃ k : Nat, k ≤ m ∧ kv = .int .i64 (k : Int) ∧ Hid (Wr 145 w wr B (lh ++ Wi.ensB kd (p.ents.take k))) ∧ Hid ((p.ents.take k).all (Wi.mayEn kd) = true) ∧ Hid (wr.heap[w.heap.size]? = some (.cells #[.int .i64 sq, .int .i64 kd, .slice a m c, .slice a2 m c2] 88 (0, 0)))) (fun kv _ => m - (intOf kv).toNat)
      case atStart => exact ⟨0, Nat.zero_le _, rfl, Lib.hid (by have := H6.out; simpa [Wi.ensB] using this), Lib.hid rfl, T6⟩
      case round =>
        obtain ⟨k, hk, rfl, HW, HE, TR⟩ := hrel
        clear g0 g1 g2 g3 T6 H6
        obtain ⟨g0, g1, g2, g3⟩ := cells4 TR.out
        have hlt0 : w.heap.size < wr.heap.size := blk_lt TR.out
        by_cases hlt : k < m
        · have d0 : decide ((k : Int) < (m : Int)) = true := decide_eq_true (by omega)
          have d0' : decide (k < m) = true := decide_eq_true hlt
          have d1 : (k : Int) < (m : Int) := by omega
          have hx : p.ents[k]? = some (p.ents[k]'(by have := E0.out.1; omega)) := List.getElem?_eq_getElem _
          generalize p.ents[k]'(by have := E0.out.1; omega) = x at hx
          have RW : Hid (RdE wr a2 m p.ents) := Lib.hid (E0.out.below HW.out.bel)
          obtain ⟨b, o, rfl, hb, hpt⟩ := RW.out.at hx
          have HX := Lib.hid hx
          have HPT := Lib.hid hpt
          have HOK : Hid x.ok := Lib.hid (HP.out.ents x (List.mem_of_getElem? hx))
          have hw := wrapi' ((k : Int) + 1) (by have := HM16.out; omega)
          have ba : Below wr.heap.size wr (wr.alloc (.cells (enC x) 152)) := (Below.refl _ _).alloc (Nat.le_refl _) _
          have HA : Hid ((wr.alloc (.cells (enC x) 152)).heap[wr.heap.size]? = some (.cells (enC x) 152 (0, 0))) := Lib.hid (heap_alloc_new _ _)
          have TA : Hid ((wr.alloc (.cells (enC x) 152)).heap[w.heap.size]? = some (.cells #[.int .i64 sq, .int .i64 kd, .slice a m c, .slice (some ⟨b, o, none⟩) m c2] 88 (0, 0))) := Lib.hid ((ba.block _ hlt0).trans TR.out)
          have WA := Lib.hid (HW.out.below ba)
          have HLK : Hid ((lh ++ Wi.ensB kd (p.ents.take k)).length ≤ 3000) := Lib.hid (by
            have := Wi.ensB_le kd (p.ents.take k) (fun i hi => HP.out.ents i (List.mem_of_mem_take hi))
            rw [List.length_take] at this
            have := HLL.out; have := HM16.out; rw [List.length_append]; omega)
          have HS1 : Hid (lh ++ Wi.ensB kd (p.ents.take (k + 1)) = lh ++ Wi.ensB kd (p.ents.take k) ++ Wi.enB kd x) := Lib.hid (by rw [List.take_add_one, HX.out, Option.toList_some, Wi.ensB_snoc, List.append_assoc])
          have PA : Hid (Part (wr.alloc (.cells (enC x) 152)) wr.heap.size 0 (enC x)) := Lib.hid (Part.of_blk (heap_alloc_new _ _))
          have hME := mayEntry_any (wr.alloc (.cells (enC x) 152)) kd x HOK.out
          clear hx hpt ba
          go_wp2_with (first | (refine wpL_load ?hw 152 (.tmp 31) rfl b (o + k * 66) rfl (enC x) _ HPT.out Tryd.underlying152 rfl (by rw [enC_size _ HOK.out]; exact sz_entry) ?_; case hw => kernel_rfl) | (refine wpL_var 152 32 6 (enC ⟨0, Wi.z32, 0, Wi.z32⟩) rfl rfl rfl rfl rfl rfl (enC x) ?hv (by rw [enC_size _ HOK.out]; exact zi_entry) (by rw [enC_size _ HOK.out]; rfl) (enC_one _) (by decide) ?hj ?_; (try case hv => rfl); (try case hj => kernel_rfl)) | (refine wpL_load ?hw 152 (.tmp 6) rfl wr.heap.size 0 rfl (enC x) _ PA.out Tryd.underlying152 rfl (by rw [enC_size _ HOK.out]; exact sz_entry) ?_; case hw => kernel_rfl))
          refine hME.mono ?_
          clear hME
          rintro e w7 ⟨rfl, b7⟩
          have A7 := Lib.hid ((b7.block _ (blk_lt HA.out)).trans HA.out)
          have T7 := Lib.hid ((b7.block _ (blk_lt TA.out)).trans TA.out)
          have W7 := Lib.hid (WA.out.below b7)
          clear b7 HA TA WA PA g0 g1 g2 g3
          obtain ⟨z, hz⟩ : ∃ z, z = Wi.mayEn kd x := ⟨_, rfl⟩
          rw [← hz]
          have HZ := Lib.hid hz
          clear hz
          cases z
          · have hnone : Hid (Wi.layRp p = none) := Lib.hid (layRp_none (fun h => by
              have := List.all_eq_true.1 h.2.2 x (List.mem_of_getElem? HX.out)
              rw [← HKD.out, ← HZ.out] at this; cases this))
            go_wp2
            go_ret2
            rw [hnone.out]
            exact ⟨W7.out.bel, rfl⟩
          · have HE1 : Hid ((p.ents.take (k + 1)).all (Wi.mayEn kd) = true) := Lib.hid (by
              rw [List.take_add_one, HX.out, Option.toList_some, List.all_append, HE.out]
              simp [← HZ.out])
            have q0 : w7.cell? ⟨wr.heap.size, 0, none⟩ = some (.int .i64 x.status) := by rw [cell_of_row w7 _ 0 _ _ _ A7.out]; exact enC_status x
            have hu := wr_u8 W7.out x.status (by have := HLK.out; omega)
            go_wp2_with fail
            refine hu.mono ?_
            clear hu q0
            rintro e w8 ⟨rfl, h8, k8⟩
            have T8 := Lib.hid ((k8 _ _ _ _ T7.out (by decide) (by decide)).trans T7.out)
            have A8 := Lib.hid ((k8 _ _ _ _ A7.out (by decide) (by decide)).trans A7.out)
            have H8 := Lib.hid h8
            obtain ⟨g0, g1, g2, g3⟩ := cells4 T8.out
            have q0 : w8.cell? ⟨wr.heap.size, 0, none⟩ = some (.int .i64 x.status) := by rw [cell_of_row w8 _ 0 _ _ _ A8.out]; exact enC_status x
            clear h8 k8 T7 A7 W7
            by_cases hst : x.status = 1
            · have dst : (x.status != 1) = false := by simp [hst]
              have HPH : Hid (Part w8 wr.heap.size 34 (hashC x.hash)) := Lib.hid (part_of A8.out (enC_hash x HOK.out))
              have hraw := wr_raw H8.out (some ⟨wr.heap.size, 34, none⟩) 32 32 x.hash (rds_part HOK.out.hash HPH.out) (by intro e; cases e) (by have := HLK.out; rw [List.length_append, Wi.u8B_len]; omega) (by omega)
              have hsl := slice_arr
              have HST := Lib.hid hst
              clear hst
              go_wp2_with fail
              refine hraw.mono ?_
              clear hraw g0 g1 g2 g3 q0
              rintro e w9 ⟨rfl, h9, k9⟩
              have T9 := Lib.hid ((k9 _ _ _ _ T8.out (by decide) (by decide)).trans T8.out)
              have A9 := Lib.hid ((k9 _ _ _ _ A8.out (by decide) (by decide)).trans A8.out)
              have H9 := Lib.hid h9
              obtain ⟨g0, g1, g2, g3⟩ := cells4 T9.out
              clear h9 k9 T8 A8 H8
              by_cases hk2 : kd = 2
              · subst hk2
                have HPA : Hid (Part w9 wr.heap.size 1 (pathC x.high x.steps)) := Lib.hid (part_of A9.out (enC_path x HOK.out))
                have hlp := layPath_any H9.out x.high x.steps HOK.out.high (by have := HLK.out; rw [List.length_append, List.length_append, Wi.u8B_len, HOK.out.hash]; omega)
                go_wp2_with (refine wpL_load ?hw 42 (.tmp 54) rfl wr.heap.size 1 rfl (pathC x.high x.steps) _ HPA.out Tryd.underlying42 rfl (by rw [pathC_size _ _ HOK.out.high]; exact sz_path) ?_; case hw => kernel_rfl)
                refine hlp.mono ?_
                clear hlp
                rintro e w10 ⟨rfl, h10, k10⟩
                have T10 := Lib.hid ((k10 _ _ _ _ T9.out (by decide) (by decide)).trans T9.out)
                have H10 : Hid (Wr 145 w w10 B (lh ++ Wi.ensB 2 (p.ents.take (k + 1)))) := Lib.hid (by
                  rw [HS1.out, Wi.enB, if_pos HST.out, if_pos rfl]
                  simp only [List.append_assoc] at h10 ⊢; exact h10)
                clear h10 k10
                go_wp2
                go_roundw
                case rel => exact ⟨k + 1, by omega, by go_num, H10, HE1, T10⟩
                case measure => simp [intOf]; omega
              · have dk : (kd == 2) = false := by simp [hk2]
                have H10 : Hid (Wr 145 w w9 B (lh ++ Wi.ensB kd (p.ents.take (k + 1)))) := Lib.hid (by
                  rw [HS1.out, Wi.enB, if_pos HST.out, if_neg hk2, List.append_nil]
                  have := H9.out
                  simp only [List.append_assoc] at this ⊢; exact this)
                clear hk2
                go_wp2
                go_roundw
                case rel => exact ⟨k + 1, by omega, by go_num, H10, HE1, T9⟩
                case measure => simp [intOf]; omega
            · have dst : (x.status != 1) = true := by simp [hst]
              have H10 : Hid (Wr 145 w w8 B (lh ++ Wi.ensB kd (p.ents.take (k + 1)))) := Lib.hid (by
                rw [HS1.out, Wi.enB, if_neg hst, List.append_nil]
                exact H8.out)
              clear hst
              go_wp2
              go_roundw
              case rel => exact ⟨k + 1, by omega, by go_num, H10, HE1, T8⟩
              case measure => simp [intOf]; omega
        · obtain rfl : k = m := by omega
          have d0 : decide ((k : Int) < (k : Int)) = false := decide_eq_false (by omega)
          have htk : Hid (p.ents.take k = p.ents) := Lib.hid (List.take_of_length_le (by have := E0.out.1; omega))
          have hsome : Hid (Wi.layRp p = some (Wi.sumB (lh ++ Wi.ensB kd p.ents))) := Lib.hid (by
            rw [HLH.out, HKD.out]
            exact layRp_some ⟨HM.out, HLEN.out, by have := HE.out; rw [htk.out, HKD.out] at this; exact this⟩)
          have hs := summed_any HW.out (by
            have := Wi.ensB_le kd (p.ents.take k) (fun i hi => HP.out.ents i (List.mem_of_mem_take hi))
            rw [List.length_take] at this
            have := HLL.out; have := HM16.out; rw [List.length_append]; omega)
          rw [htk.out] at hs
          clear hk hlt
          go_wp2_with fail
          refine hs.mono ?_
          clear hs
          rintro e w11 ⟨a5, c5, rfl, o5, b5⟩
          have O5 := Lib.hid o5
          have B5 := Lib.hid b5
          clear o5 b5
          go_wp2
          go_ret2
          rw [hsome.out]
          exact ⟨B5.out, a5, c5, rfl, O5.out⟩
    · have d0 : ((m : Int) != (n : Int)) = true := by rw [bne, beq_eq_false_iff_ne.2 (by omega)]; rfl
      have hnone : Hid (Wi.layRp p = none) := Lib.hid (layRp_none (fun h => hmn (by rw [← R0.out.1, ← E0.out.1]; exact h.2.1)))
      clear hmn
      go_wp2
      go_ret2
      rw [hnone.out]
      exact ⟨B3.out, rfl⟩
end Go.Proofs.YthampbiabkfmoaaDoor
