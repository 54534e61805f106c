/- layHead, summed, LayRequest: what they lay. -/
import Derived.Test.YthampbiabkfmoaaDoorWiWr
namespace Go.Proofs.YthampbiabkfmoaaDoor
open Go.RowKit Go.Tap
set_option linter.unusedVariables false
set_option linter.unusedSimpArgs false
theorem cells3 {w : World} {b : Nat} {x y z : Value} {t : TypeId} (h : w.heap[b]? = some (.cells #[x, y, z] t (0, 0))) : w.cell? ⟨b, 0, none⟩ = some x ∧ w.cell? ⟨b, 1, none⟩ = some y ∧ w.cell? ⟨b, 2, none⟩ = some z :=
  ⟨blk_cell (i := 0) h rfl, blk_cell (i := 1) h rfl, blk_cell (i := 2) h rfl⟩
theorem cells4 {w : World} {b : Nat} {x y z u : Value} {t : TypeId} (h : w.heap[b]? = some (.cells #[x, y, z, u] t (0, 0))) : w.cell? ⟨b, 0, none⟩ = some x ∧ w.cell? ⟨b, 1, none⟩ = some y ∧ w.cell? ⟨b, 2, none⟩ = some z ∧ w.cell? ⟨b, 3, none⟩ = some u :=
  ⟨blk_cell (i := 0) h rfl, blk_cell (i := 1) h rfl, blk_cell (i := 2) h rfl, blk_cell (i := 3) h rfl⟩
set_option maxHeartbeats 4000000 in
set_option maxRecDepth 100000 in
theorem layHead_any {w0 w : World} {B : Nat} {l : List UInt8} (h : Wr 145 w0 w B l) (first : Int) (q : Wi.Rq) (hq : q.ok) (hm : Wi.mayRq q = true) (a : Option Addr) (n c : Nat) (hr : RdI w0 a n q.items) (hl : l.length ≤ 1000) :
    Calls Tryd.prog 29 #[.pointer (some ⟨B, 0, none⟩), .int .i64 first, .agg #[.int .i64 q.seq, .int .i64 q.kind, .slice a n c]] w (WrAft 145 w0 w B (l ++ Wi.headB first q)) := by
  have hnl : q.items.length = n := hr.1
  obtain ⟨sq, hsq⟩ : ∃ sq, sq = q.seq := ⟨_, rfl⟩
  obtain ⟨kd, hkd⟩ : ∃ kd, kd = q.kind := ⟨_, rfl⟩
  rw [← hsq, ← hkd]
  obtain ⟨lw, hlw⟩ : ∃ lw, lw = l ++ Wi.headB first q := ⟨_, rfl⟩
  rw [← hlw]
  have HLW := Lib.hid hlw
  have HSQ := Lib.hid hsq
  have HKD := Lib.hid hkd
  have HQ := Lib.hid hq
  have HM := Lib.hid hm
  have HN := Lib.hid hnl
  have HL := Lib.hid hl
  have R0 := Lib.hid hr
  have hn16 : n ≤ 16 := by have := (Wi.mayRq_parts hm).2.2.2.2; omega
  have HN16 := Lib.hid hn16
  have b1 : Below w.heap.size w (w.alloc (.cells #[.int .i64 sq, .int .i64 kd, .slice a n c] 28)) := (Below.refl _ _).alloc (Nat.le_refl _) _
  have hu1 := wr_u8 (h.below b1) first (by omega)
  have K1 := Lib.hid (KeepW.below (T := 145) b1)
  have T1 : Hid ((w.alloc (.cells #[.int .i64 sq, .int .i64 kd, .slice a n c] 28)).heap[w.heap.size]? = some (.cells #[.int .i64 sq, .int .i64 kd, .slice a n c] 28 (0, 0))) := Lib.hid (heap_alloc_new _ _)
  have LT : Hid (w.heap.size < (w.alloc (.cells #[.int .i64 sq, .int .i64 kd, .slice a n c] 28)).heap.size) := Lib.hid (by simp)
  clear hlw hsq hkd hq hm hnl hl hr hn16 b1 h
  go_enter Tryd.func29, Tryd.ntmps29
  go_wp2_with fail
  refine hu1.mono ?_
  clear hu1
  rintro e w2 ⟨rfl, h2, k2⟩
  have T2 := Lib.hid ((k2 _ _ _ _ T1.out (by decide) (by decide)).trans T1.out)
  obtain ⟨g0, g1, g2⟩ := cells3 T2.out
  have K2 := Lib.hid (K1.out.trans k2)
  have hu2 := wr_u32 h2 sq (by have := HL.out; simp [Wi.u8B_len]; omega)
  clear h2 k2 K1 T1
  go_wp2_with fail
  refine hu2.mono ?_
  clear hu2 g0 g1 g2
  rintro e w3 ⟨rfl, h3, k3⟩
  have T3 := Lib.hid ((k3 _ _ _ _ T2.out (by decide) (by decide)).trans T2.out)
  obtain ⟨g0, g1, g2⟩ := cells3 T3.out
  have K3 := Lib.hid (K2.out.trans k3)
  have hu3 := wr_u8 h3 kd (by have := HL.out; simp [Wi.u8B_len, Wi.u32B_len]; omega)
  clear h3 k3 K2 T2
  go_wp2_with fail
  refine hu3.mono ?_
  clear hu3 g0 g1 g2
  rintro e w4 ⟨rfl, h4, k4⟩
  have T4 := Lib.hid ((k4 _ _ _ _ T3.out (by decide) (by decide)).trans T3.out)
  obtain ⟨g0, g1, g2⟩ := cells3 T4.out
  have K4 := Lib.hid (K3.out.trans k4)
  have hu4 := wr_u8 h4 (n : Int) (by have := HL.out; simp [Wi.u8B_len, Wi.u32B_len]; omega)
  clear h4 k4 K3 T3
  go_wp2_with fail
  refine hu4.mono ?_
  clear hu4 g0 g1 g2
  rintro e w5 ⟨rfl, h5, k5⟩
  have T5 := Lib.hid ((k5 _ _ _ _ T4.out (by decide) (by decide)).trans T4.out)
  obtain ⟨g0, g1, g2⟩ := cells3 T5.out
  have K5 := Lib.hid (K4.out.trans k5)
  have H5 := Lib.hid h5
  clear h5 k5 K4 T4
  obtain ⟨lh, hlh⟩ : ∃ lh, lh = l ++ Wi.u8B first ++ Wi.u32B sq ++ Wi.u8B kd ++ Wi.u8B (n : Int) := ⟨_, rfl⟩
  rw [← hlh] at H5
  have HLH : Hid (lh.length ≤ 1007 ∧ lw = lh ++ Wi.itsB kd q.items) := Lib.hid ⟨by rw [hlh]; have := HL.out; simp [Wi.u8B_len, Wi.u32B_len]; omega, by
    rw [HLW.out, hlh, Wi.headB, HN.out, HSQ.out, HKD.out]; simp only [List.append_assoc]⟩
  clear hlh HLW
  go_wp2
  go_loopw [27] (fun kv wr => ∃ k : Nat, k ≤ n ∧ kv = .int .i64 (k : Int) ∧ Hid (Wr 145 w0 wr B (lh ++ Wi.itsB kd (q.items.take k))) ∧ Hid (KeepW 145 w wr) ∧ Hid (wr.heap[w.heap.size]? = some (.cells #[.int .i64 sq, .int .i64 kd, .slice a n c] 28 (0, 0)))) (fun kv _ => n - (intOf kv).toNat)
  case atStart => exact ⟨0, Nat.zero_le _, rfl, Lib.hid (by have := H5.out; simpa [Wi.itsB] using this), K5, T5⟩
  case round =>
    obtain ⟨k, hk, rfl, HW, KR, TR⟩ := hrel
    clear g0 g1 g2 T5 K5 H5
    obtain ⟨g0, g1, g2⟩ := cells3 TR.out
    have hlt0 : w.heap.size < wr.heap.size := blk_lt TR.out
    by_cases hlt : k < n
    · have d0 : decide ((k : Int) < (n : Int)) = true := decide_eq_true (by omega)
      have d0' : decide (k < n) = true := decide_eq_true hlt
      have d1 : (k : Int) < (n : Int) := by omega
      have hx : q.items[k]? = some (q.items[k]'(by have := HN.out; omega)) := List.getElem?_eq_getElem _
      generalize q.items[k]'(by have := HN.out; omega) = x at hx
      have RW : Hid (RdI wr a n q.items) := Lib.hid (R0.out.below HW.out.bel)
      obtain ⟨b, o, rfl, hb, hp⟩ := RW.out.at hx
      have HX := Lib.hid hx
      have HP := Lib.hid hp
      have HOK : Hid x.ok := Lib.hid (HQ.out.items x (List.mem_of_getElem? hx))
      have HMX : Hid (Wi.mayIt kd x = true) := Lib.hid (by
        have := List.all_eq_true.1 (Wi.mayRq_parts HM.out).1 x (List.mem_of_getElem? hx); rwa [← HKD.out] at this)
      have hw := wrapi' ((k : Int) + 1) (by have := HN16.out; omega)
      have ba : Below wr.heap.size wr (wr.alloc (.cells (itC x) 44)) := (Below.refl _ _).alloc (Nat.le_refl _) _
      have HA : Hid ((wr.alloc (.cells (itC x) 44)).heap[wr.heap.size]? = some (.cells (itC x) 44 (0, 0))) := Lib.hid (heap_alloc_new _ _)
      have TA : Hid ((wr.alloc (.cells (itC x) 44)).heap[w.heap.size]? = some (.cells #[.int .i64 sq, .int .i64 kd, .slice (some ⟨b, o, none⟩) n c] 28 (0, 0))) := Lib.hid ((ba.block _ hlt0).trans TR.out)
      have WA := Lib.hid (HW.out.below ba)
      have KA := Lib.hid (KR.out.trans (KeepW.below ba))
      have HLK : Hid ((lh ++ Wi.itsB kd (q.items.take k)).length ≤ 3000) := Lib.hid (by have := Wi.itsB_take_le HM.out HQ.out k; rw [← HKD.out] at this; have := HLH.out.1; rw [List.length_append]; omega)
      have HS1 : Hid (lh ++ Wi.itsB kd (q.items.take (k + 1)) = lh ++ Wi.itsB kd (q.items.take k) ++ Wi.itB kd x) := Lib.hid (by rw [List.take_add_one, HX.out, Option.toList_some, Wi.itsB_snoc, List.append_assoc])
      have c33 : (itC x)[33]? = some (.string (str x.text)) := itC_text x HOK.out
      clear hx hp ba
      by_cases hk1 : kd = 1
      · subst hk1
        have hlp := layPath_any WA.out x.high x.steps HOK.out.high (by have := HLK.out; omega)
        have HPA : Hid (Part (wr.alloc (.cells (itC x) 44)) wr.heap.size 0 (pathC x.high x.steps)) := Lib.hid (part_of HA.out (itC_path x HOK.out))
        go_wp2_with (first | (refine wpL_load ?hw 44 (.tmp 29) rfl b (o + k * 34) rfl (itC x) _ HP.out Tryd.underlying44 rfl (by rw [itC_size _ HOK.out]; exact sz_item) ?_; case hw => kernel_rfl) | (refine wpL_var 44 30 7 (itC ⟨Wi.z32, 0, []⟩) rfl rfl rfl rfl rfl rfl (itC x) ?hv (by rw [itC_size _ HOK.out]; exact zi_item) (by rw [itC_size _ HOK.out]; rfl) (itC_one _) (by decide) ?hj ?_; (try case hv => rfl); (try case hj => kernel_rfl)) | (refine wpL_load ?hw 42 (.tmp 35) rfl wr.heap.size 0 rfl (pathC x.high x.steps) _ HPA.out Tryd.underlying42 rfl (by rw [pathC_size _ _ HOK.out.high]; exact sz_path) ?_; case hw => kernel_rfl))
        refine hlp.mono ?_
        clear hlp
        rintro e w6 ⟨rfl, h6, k6⟩
        have T6 := Lib.hid ((k6 _ _ _ _ TA.out (by decide) (by decide)).trans TA.out)
        have K6 := Lib.hid (KA.out.trans k6)
        have H6 : Hid (Wr 145 w0 w6 B (lh ++ Wi.itsB 1 (q.items.take (k + 1)))) := Lib.hid (by rw [HS1.out]; exact h6)
        clear h6 k6
        go_wp2
        go_roundw
        case rel => exact ⟨k + 1, by omega, by go_num, H6, K6, T6⟩
        case measure => simp [intOf]; omega
      · have hk2 : kd = 2 := by have := Wi.mayRq_kind HM.out; rw [← HKD.out] at this; omega
        subst hk2
        have HSZ : Hid ((str x.text).size = x.text.length) := Lib.hid (by simp [str, ByteArray.size])
        have HTL : Hid (x.text.length ≤ 64) := Lib.hid (by
          have := HMX.out
          unfold Wi.mayIt at this
          rw [if_neg (by decide), if_pos rfl, Bool.and_eq_true] at this
          exact Wi.isPre_len this.1)
        have hu := wr_u8 WA.out ((str x.text).size : Int) (by have := HLK.out; omega)
        clear hk1
        go_wp2_with (first | (refine wpL_load ?hw 44 (.tmp 29) rfl b (o + k * 34) rfl (itC x) _ HP.out Tryd.underlying44 rfl (by rw [itC_size _ HOK.out]; exact sz_item) ?_; case hw => kernel_rfl) | (refine wpL_var 44 30 7 (itC ⟨Wi.z32, 0, []⟩) rfl rfl rfl rfl rfl rfl (itC x) ?hv (by rw [itC_size _ HOK.out]; exact zi_item) (by rw [itC_size _ HOK.out]; rfl) (itC_one _) (by decide) ?hj ?_; (try case hv => rfl); (try case hj => kernel_rfl)))
        refine hu.mono ?_
        clear hu
        rintro e w6 ⟨rfl, h6, k6⟩
        have T6 := Lib.hid ((k6 _ _ _ _ TA.out (by decide) (by decide)).trans TA.out)
        have A6 := Lib.hid ((k6 _ _ _ _ HA.out (by decide) (by decide)).trans HA.out)
        have K6 := Lib.hid (KA.out.trans k6)
        have q33 : w6.cell? ⟨wr.heap.size, 33, none⟩ = some (.string (str x.text)) := by rw [cell_of_row w6 _ 33 _ _ _ A6.out]; exact c33
        obtain ⟨c7, w7, hcv, hrd, hb7, _⟩ := convS w6 x.text
        have hraw := wr_raw (h6.below hb7) _ _ c7 _ hrd (by intro e; cases e) (by have := HLK.out; rw [List.length_append, Wi.u8B_len]; omega) (by have := HTL.out; omega)
        rw [HSZ.out] at hraw
        have T7 := Lib.hid ((hb7.block _ (blk_lt T6.out)).trans T6.out)
        have K7 := Lib.hid (K6.out.trans (KeepW.below hb7))
        clear h6 k6 hrd hb7 T6 A6 K6
        go_wp2_with fail
        refine hraw.mono ?_
        clear hraw
        rintro e w8 ⟨rfl, h8, k8⟩
        have T8 := Lib.hid ((k8 _ _ _ _ T7.out (by decide) (by decide)).trans T7.out)
        have K8 := Lib.hid (K7.out.trans k8)
        have H8 : Hid (Wr 145 w0 w8 B (lh ++ Wi.itsB 2 (q.items.take (k + 1)))) := Lib.hid (by
          rw [HS1.out]
          have : Wi.itB 2 x = Wi.u8B (x.text.length : Int) ++ x.text := rfl
          rw [this, ← List.append_assoc]; exact h8)
        clear h8 k8
        go_wp2
        go_roundw
        case rel => exact ⟨k + 1, by omega, by go_num, H8, K8, T8⟩
        case measure => simp [intOf]; omega
    · obtain rfl : k = n := by omega
      have d0 : decide ((k : Int) < (k : Int)) = false := decide_eq_false (by omega)
      have HF : Hid (Wr 145 w0 wr B lw) := Lib.hid (by
        have := HW.out
        rw [List.take_of_length_le (by have := HN.out; omega)] at this
        rw [HLH.out.2]; exact this)
      clear hk hlt
      go_wp2
      go_end0
      exact ⟨rfl, HF.out, KR.out⟩
set_option maxHeartbeats 1000000 in
theorem summed_any {w0 w : World} {B : Nat} {l : List UInt8} (h : Wr 145 w0 w B l) (hl : l.length ≤ 900000) :
    Calls Tryd.prog 30 #[.pointer (some ⟨B, 0, none⟩)] w fun e w' => ∃ a c, e = .returned (.slice a (Wi.sumB l).length c) ∧ w'.ownsRow w0.heap.size 5 1 (.slice a (Wi.sumB l).length c) (Wi.sumB l).length (bv (Wi.sumB l)) ∧ Below w0.heap.size w0 w' := by
  have hb := wr_bytes h (by omega)
  have HW := Lib.hid h
  have HL := Lib.hid hl
  clear h hl
  go_enter Tryd.func30, Tryd.ntmps30
  go_wp2_with fail
  refine hb.mono ?_
  clear hb
  rintro e w2 ⟨a2, c2, rfl, o2, b2⟩
  have hrd := Rds.of_own o2 rfl
  have H2 := Lib.hid (HW.out.below b2)
  have hcs := crcSum w2 a2 l.length c2 l hrd (by have := HL.out; omega)
  obtain ⟨s, hs⟩ : ∃ s, s = Crc.sum l := ⟨_, rfl⟩
  rw [← hs] at hcs
  have hs32 : s < 4294967296 := by rw [hs]; exact Crc.sum_lt l
  have HS := Lib.hid hs
  clear hs o2 b2 hrd
  go_wp2_with fail
  refine hcs.mono ?_
  clear hcs
  rintro e w' ⟨rfl, rfl⟩
  have hw : IntKind.i64.wrap (s : Int) = (s : Int) := wrapi' _ (by omega)
  have hu := wr_u32 H2.out (s : Int) (by have := HL.out; omega)
  have HS32 := Lib.hid hs32
  clear hs32
  go_wp2_with fail
  refine hu.mono ?_
  clear hu
  rintro e w3 ⟨rfl, h3, k3⟩
  have h3' : Wr 145 w0 w3 B (Wi.sumB l) := by unfold Wi.sumB; rw [← HS.out]; exact h3
  have hb3 := wr_bytes h3' (by rw [Wi.sumB_len]; have := HL.out; omega)
  have H3 := Lib.hid h3'
  clear h3 h3' k3
  go_wp2_with fail
  refine hb3.mono ?_
  clear hb3
  rintro e w4 ⟨a4, c4, rfl, o4, b4⟩
  have O4 := Lib.hid (ownsRow_base o4 H3.out.bel.size)
  have B4 := Lib.hid (H3.out.bel.trans (b4.mono H3.out.bel.size))
  clear o4 b4
  go_wp2
  go_ret
  exact ⟨a4, c4, rfl, O4.out, B4.out⟩
/-- What a laying call answers: bytes of one's own, or ErrArg. -/
def LayAft (w : World) (r : Option (List UInt8)) (e : Ending) (w' : World) : Prop :=
  Below w.heap.size w w' ∧ match r with
  | none => e = .returned (.tuple #[.slice none 0 0, .iface 45 (.int .i64 1)])
  | some b => ∃ a c, e = .returned (.tuple #[.slice a b.length c, .nilIface]) ∧ w'.ownsRow w.heap.size 5 1 (.slice a b.length c) b.length (bv b)
end Go.Proofs.YthampbiabkfmoaaDoor
