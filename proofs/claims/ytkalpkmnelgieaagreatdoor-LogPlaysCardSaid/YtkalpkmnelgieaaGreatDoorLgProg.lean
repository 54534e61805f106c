/- The program's log in general: Open that does not go well, Cut. -/
import Derived.Test.YtkalpkmnelgieaaGreatDoorLogCut
import Derived.Test.YtkalpkmnelgieaaGreatDoorLogErr
import Derived.Test.YtkalpkmnelgieaaGreatDoorEvK
import Derived.Deep.RegionHeld3
namespace Go.Proofs.YtkalpkmnelgieaaGreatDoor
open Go.RowKit Go.Tap Go.Maps
set_option linter.unusedVariables false
set_option linter.unusedSimpArgs false
attribute [local go_sem ↓] Go.wp_at_zero Go.wp_at_succ

set_option maxHeartbeats 4000000 in
set_option maxRecDepth 100000 in
theorem open_no (w : World) (lo B : Nat) (d d' : Dsk.Dk) (h : IsDk w lo B d) (hw : d.works ≤ 99999) (hd : d.dead = false) (nm : List UInt8) (hnm : Dsk.good nm) (len : Nat) (hle : len ≤ (Dsk.val d.now nm).length)
    (rs : List Rec) (hsc : scanF ((Dsk.val d.now nm).take len) = (rs, 0)) (j : Nat) (hj : j ≠ 0) (ho : openD d nm len = (d', j)) :
    Calls Tryz.prog 10 #[.pointer (some ⟨B, 0, none⟩), .string (str nm), .int .i64 (len : Int)] w fun e w' => e = .returned (.tuple #[.pointer none, .iface 35 (.int .i64 (j : Int))]) ∧ IsDk w' lo B d' ∧ Below lo w w' ∧ KeepT w w' := by
  have hlo := h.lo_le
  obtain ⟨L, hL⟩ : ∃ L, Dsk.val d.now nm = L := ⟨_, rfl⟩
  have hLs : L.length ≤ 16777216 := by
    obtain ⟨bd, bn, pv, h1, hok⟩ := h
    have q1 := Dsk.val_le h1.now.apart nm; have q2 := hok.small'; have q3 := hok.room; rw [hL] at q1; omega
  have hrd := read_is w lo B d h hd nm (by have := hnm.2; omega) L _ L.length hL rfl rfl
  unfold openD at ho
  rw [hL] at hle hsc ho
  have H := Lib.hid h
  have d0 : decide ((len : Int) < 0) = false := decide_eq_false (by omega)
  have d1 : decide ((L.length : Int) < (len : Int)) = false := decide_eq_false (by omega)
  have d1' : decide (L.length < len) = false := decide_eq_false (by omega)
  have hq0 : (0 : Int) ≤ (len : Int) := by omega
  have HSC := Lib.hid hsc
  clear h hL hsc hd
  obtain ⟨n, hn⟩ : ∃ n, n = L.length := ⟨_, rfl⟩
  rw [← hn] at hrd d1 d1' hle hLs ho
  have HN := Lib.hid hn
  clear hn
  obtain ⟨t, q2, q2', hT⟩ : ∃ t : Bool, decide ((len : Int) < (n : Int)) = t ∧ decide (len < n) = t ∧ (t = true ↔ len < n) := by
    by_cases h : len < n
    · exact ⟨true, decide_eq_true (by omega), decide_eq_true h, by simp [h]⟩
    · exact ⟨false, decide_eq_false (by omega), decide_eq_false h, by simp [h]⟩
  go_enter Tryz.func10, Tryz.ntmps10
  go_wp2_with fail
  refine hrd.mono ?_
  clear hrd
  rintro e w1 ⟨a, c, rfl, hown, hb1⟩
  obtain ⟨_, _, hsl, hnc, _, hno, _⟩ := ownsRow_slice hown
  simp only [Value.slice.injEq] at hsl
  obtain ⟨rfl, _, rfl⟩ := hsl
  have hr1 := Rds.of_own (n := n) (l := L) (by rw [← show n = L.length from HN.out]; exact hown) HN.out.symm
  obtain ⟨W2, hW2⟩ : ∃ W2, W2 = w1.alloc (.cells #[.pointer (some ⟨B, 0, none⟩), .string (str nm), .slice none 0 0] 95) := ⟨_, rfl⟩
  have hT2 : W2.heap[w1.heap.size]? = some (.cells #[.pointer (some ⟨B, 0, none⟩), .string (str nm), .slice none 0 0] 95 (0, 0)) := by rw [hW2]; exact heap_alloc_new _ _
  have hB2 : Below w1.heap.size w1 W2 := by rw [hW2]; exact (Below.refl _ _).alloc (Nat.le_refl _) _
  have hs2 : W2.heap.size = w1.heap.size + 1 := by rw [hW2]; simp
  have hr2 : Rds W2 a n L := hr1.below hB2 (fun h0 b o e => by subst e; exact hr1.lt h0)
  have bw2 : Below w.heap.size w W2 := hb1.trans (hB2.mono hb1.size)
  have HT2 := Lib.hid hT2
  have HS2 := Lib.hid hs2
  have hscan := scan_any W2 a len c (L.take len) (hr2.take hle) (by omega) hno (by omega)
  rw [HSC.out] at hscan
  have hsz1 := hb1.size
  clear hown hr1 hT2 hB2 hs2 hr2 hb1
  have fin : ∀ w3 rv, RecsIs w3 W2.heap.size rv rs → Below W2.heap.size W2 w3 → w3.cell? ⟨w1.heap.size, 2, none⟩ = some (.slice none 0 0) ∧ w3.frozen? ⟨w1.heap.size, 2, none⟩ = false ∧
      (IsDk (w3.setCell ⟨w1.heap.size, 2, none⟩ rv) lo B d ∧ LogIs (w3.setCell ⟨w1.heap.size, 2, none⟩ rv) lo w1.heap.size B nm rs ∧ Below w.heap.size w (w3.setCell ⟨w1.heap.size, 2, none⟩ rv)) := fun w3 rv hrec hb3 => by
    have hT3 := (hb3.block w1.heap.size (by rw [HS2.out]; omega)).trans HT2.out
    have bw3 := bw2.trans (hb3.mono bw2.size)
    have hku : KeepU w3 (w3.setCell ⟨w1.heap.size, 2, none⟩ rv) := KeepU.setCell (p := ⟨w1.heap.size, 2, none⟩) hT3 (by decide) _
    have hts : TStay (fun k => k = w1.heap.size) w3 (w3.setCell ⟨w1.heap.size, 2, none⟩ rv) := (TStay.refl (fun k => k = w1.heap.size) w3).setCell (p := ⟨w1.heap.size, 2, none⟩) (.inl rfl) _
    have hbf : Below w.heap.size w (w3.setCell ⟨w1.heap.size, 2, none⟩ rv) := bw3.setCell hsz1 _
    refine ⟨blk_cell (i := 2) hT3 rfl, blk_free hT3 2, H.out.below hbf, ⟨rv, heap_setCell_same w3 w1.heap.size 2 _ _ rv hT3, by omega, ?_⟩, hbf⟩
    obtain ⟨ps, g1, g2, g3⟩ := hrec.stay hku (fun k e => by
      obtain ⟨ps, _, _, h4⟩ := hrec
      obtain ⟨_, _, _, _, _, h5⟩ := h4.form
      obtain ⟨_, hge, cur, hc⟩ := h5 k e
      exact hts.block k (blk_lt hc) (fun e' => by have := HS2.out; omega))
    refine ⟨ps, g1, g2, ?_⟩
    have hlo2 : lo ≤ W2.heap.size := by have := HS2.out; omega
    rcases g3 with g3 | ⟨g, cur, e1, e2, e3⟩
    · exact .inl (ownsRow_base g3 hlo2)
    · exact .inr ⟨g, cur, e1, Nat.le_trans hlo2 e2, e3⟩
  have FIN := Lib.hid fin
  clear fin
  cases a with
  | none =>
    have hc0 := hno rfl
    subst hc0
    obtain rfl : n = 0 := by omega
    obtain rfl : len = 0 := by omega
    rw [if_neg (by omega)] at ho
    simp only [Prod.mk.injEq] at ho
    exact absurd ho.2.symm hj
  | some aa =>
    clear hno
    have hlc : (len : Int) ≤ (c : Int) := by omega
    have hlc' : len ≤ c := by omega
    cases t with
    | false =>
      have hnl : ¬ len < n := fun h => by have := hT.2 h; cases this
      rw [if_neg hnl] at ho
      simp only [Prod.mk.injEq] at ho
      exact absurd ho.2.symm hj
    | true =>
      rw [if_pos (hT.1 rfl)] at ho
      clear hT
      go_wp2_with fail
      rw [← hW2]
      clear hW2
      refine hscan.mono ?_
      rintro e w3 ⟨rv, rfl, hrec, hb3⟩
      obtain ⟨ra, rc, rfl⟩ := hrec.slice
      obtain ⟨c3, f3, hdk, hlog, hbf⟩ := FIN.out w3 _ hrec hb3
      have htr := trunc_any _ lo B d hdk hw nm hnm (len : Int)
      rw [ho] at htr
      have HL := Lib.hid hlog
      rw [show errv (rs, 0).2 = .nilIface from rfl]
      clear hrec hb3 hdk hlog hscan
      go_wp2_with fail
      refine htr.mono ?_
      rintro e w5 ⟨rfl, hdk5, hb5, kt5⟩
      have hlog5 := HL.out.keep kt5
      have bw5 := (hbf.mono hlo).trans hb5
      have kw5 := (KeepT.below hbf (Nat.le_refl _)).trans kt5
      have HD := Lib.hid hdk5
      have HL5 := Lib.hid hlog5
      rw [show errv (d', j).2 = .iface 35 (.int .i64 (j : Int)) from if_neg hj]
      clear htr hb5 kt5 hdk5 hlog5 hbf c3 f3
      go_wp2
      go_ret2
      exact ⟨rfl, HD.out, bw5, kw5⟩
theorem plcut_set (lo LB B k : Nat) (its : List (Nat × List UInt8)) (hk : k ≤ its.length) (hil : its.length ≤ 1000000) (w5 : World) (d' : Dsk.Dk) (h5 : IsDk w5 lo B d') (g5 : LogIs w5 lo LB B [102] (recsAt 0 its)) : ∃ ra rc, w5.cell? ⟨LB, 2, none⟩ = some (.slice ra its.length rc) ∧ its.length ≤ rc ∧ (ra = none → rc = 0) ∧ w5.frozen? ⟨LB, 2, none⟩ = false ∧
      IsDk (w5.setCell ⟨LB, 2, none⟩ (.slice ra k k)) lo B d' ∧ LogIs (w5.setCell ⟨LB, 2, none⟩ (.slice ra k k)) lo LB B [102] (recsAt 0 (its.take k)) ∧ Below lo w5 (w5.setCell ⟨LB, 2, none⟩ (.slice ra k k)) ∧ KeepN w5 (w5.setCell ⟨LB, 2, none⟩ (.slice ra k k)) := by
  obtain ⟨rv, p1, p2, p3⟩ := g5
  obtain ⟨ps, hps, hpk, hpr⟩ := p3
  obtain ⟨ra, rc, rfl, hnc, hrn, hrb⟩ := hpr.form
  have hpl : ps.length = its.length := by rw [← recsAt_length its 0, ← hps, List.length_map]
  rw [hpl] at p1 hpr hnc
  have hkn : ∀ u, KeepN w5 (w5.setCell ⟨LB, 2, none⟩ u) := fun u k' o hk' hno => by
    have hne : k' ≠ LB := fun e => by subst e; rw [p1] at hk'; cases hk'; exact (hno _ _ _ rfl).1 rfl
    exact ((TStay.refl (fun k => k = LB) w5).setCell (p := ⟨LB, 2, none⟩) (.inl rfl) u).block k' (blk_lt hk') hne
  refine ⟨ra, rc, blk_cell (i := 2) p1 rfl, hnc, hrn, blk_free p1 2, KeepN.dk h5 (hkn _), ⟨_, heap_setCell_same w5 LB 2 _ _ _ p1, p2, ?_⟩, (Below.refl lo w5).setCell p2 _, hkn _⟩
  refine ⟨ps.take k, by rw [List.map_take, hps, recsAt_take], fun p hp => (hpk p (List.mem_of_mem_take hp)).stay (hkn _).ku, ?_⟩
  rw [List.length_take, Nat.min_eq_left (by omega)]
  have hfl : ∀ (l : List Rp) (m : Nat), m ≤ l.length → ((l.take m).flatMap Rp.cells) = (l.flatMap Rp.cells).take (m * 3) := by
    intro l
    induction l with
    | nil => intro m hm; simp
    | cons u r ih =>
      intro m hm
      cases m with
      | zero => simp
      | succ m =>
        have e3 : u.cells.length = 3 := rfl
        rw [List.take_succ_cons, List.flatMap_cons, List.flatMap_cons, ih m (by simpa using hm), List.take_append, List.take_of_length_le (l := u.cells) (by rw [e3]; omega), e3, show (m + 1) * 3 - 3 = m * 3 by omega]
  have hLBne : ∀ g, (Value.slice ra its.length rc).ownBlock = some g → g ≠ LB := fun g e e' => by
    obtain ⟨_, _, cur, hc⟩ := hrb g (by rw [hpl]; exact e)
    subst e'
    rw [p1] at hc; simp at hc
  have hblk : ∀ g, (Value.slice ra its.length rc).ownBlock = some g → (w5.setCell ⟨LB, 2, none⟩ (.slice ra k k)).heap[g]? = w5.heap[g]? := fun g e => by
    obtain ⟨_, _, cur, hc⟩ := hrb g (by rw [hpl]; exact e)
    exact ((TStay.refl (fun k => k = LB) w5).setCell (p := ⟨LB, 2, none⟩) (.inl rfl) _).block g (blk_lt hc) (hLBne g e)
  rcases hpr with hpr | ⟨g, cur, e1, e2, e3, e4, e5, e6⟩
  · rcases hpr.2 with ⟨e1, e2⟩ | ⟨g, cap, cur, e1, e2, e3, e4, e5, e6, e7⟩
    · simp only [Value.slice.injEq] at e1
      obtain ⟨rfl, _, rfl⟩ := e1
      obtain rfl : k = 0 := by omega
      left
      rw [List.take_zero]
      exact World.ownsRow_nil _ _ _ _
    · simp only [Value.slice.injEq] at e1
      obtain ⟨rfl, _, rfl⟩ := e1
      right
      refine ⟨g, cur, rfl, e2, (hblk g rfl).trans e3, ?_, ?_, by omega⟩
      · rw [hfl ps k (by omega), List.length_take, hpr.1]; omega
      · rw [hfl ps k (by omega), ← e7, List.take_take, Nat.min_eq_left (by omega)]
  · simp only [Value.slice.injEq] at e1
    obtain ⟨rfl, _, rfl⟩ := e1
    right
    refine ⟨g, cur, rfl, e2, (hblk g rfl).trans e3, ?_, ?_, by omega⟩
    · rw [hfl ps k (by omega), List.length_take, e4]; omega
    · rw [hfl ps k (by omega), ← e5, List.take_take, Nat.min_eq_left (by omega)]
/-- Cut at the end of a record. -/
def Dsk.Dk.cutd (d : Dsk.Dk) (hs : Bool) (T : Nat) : Dsk.Dk × Nat := if hs = true ∨ 0 < T then d.trunc [102] (T : Int) else (d, 0)
set_option maxHeartbeats 8000000 in
set_option maxRecDepth 100000 in
theorem pcut_yes (w : World) (lo LB B : Nat) (d : Dsk.Dk) (r : Ref.Rd) (its : List (Nat × List UInt8)) (h : IsDk w lo B d) (he : Ref.Eq d r) (ho : Dsk.Ok d) (hw : d.works ≤ 99999) (hg : LogIs w lo LB B [102] (recsAt 0 its)) (hil : its.length ≤ 1000000) (hs : (frs its).length ≤ 16777216) (k : Nat) (hk : k ≤ its.length)
    (q : Dsk.Dk × Nat) (hq : q = d.cutd (r.has [102]) (frs (its.take k)).length) :
    Calls Tryz.prog 14 #[.pointer (some ⟨LB, 0, none⟩), .int .i64 ((frs (its.take k)).length : Int)] w fun e w' => e = .returned (errv q.2) ∧ IsDk w' lo B q.1 ∧ LogIs w' lo LB B [102] (recsAt 0 (if q.2 = 0 then its.take k else its)) ∧ Below lo w w' ∧ KeepG w w' := by
  have hlo := h.lo_le
  have hends := ends_ok w lo LB B [102] its hg k hk hil hs
  obtain ⟨T, hT⟩ : ∃ T, T = (frs (its.take k)).length := ⟨_, rfl⟩
  have hTs : T ≤ 16777216 := by have := frs_take_le its k; omega
  rw [← hT] at hends hq ⊢
  obtain ⟨hv, hhv⟩ : ∃ hv, hv = r.has [102] := ⟨_, rfl⟩
  obtain ⟨vl, hvl⟩ : ∃ vl, vl = (r.vals [102]).length := ⟨_, rfl⟩
  have FRD : Hid (∀ X, IsDk X lo B d → Calls Tryz.prog 35 #[.pointer (some ⟨B, 0, none⟩), .string (str [102])] X fun e Y => ∃ a c, e = .returned (.tuple #[.slice a vl c, .bool hv]) ∧ Hid (Below X.heap.size X Y)) := Lib.hid (fun X hX => by
    rw [hvl, hhv]
    exact (dread_any X lo B d hX ho r he [102] (by decide)).mono fun e Y ⟨a, c, q1, _, q3⟩ => ⟨a, c, q1, Lib.hid q3⟩)
  rw [← hhv] at hq
  have FIN : Hid (∀ (w5 : World) (d' : Dsk.Dk), IsDk w5 lo B d' → LogIs w5 lo LB B [102] (recsAt 0 its) → _) := Lib.hid (plcut_set lo LB B k its hk hil)
  have HDK := Lib.hid h
  have HG := Lib.hid hg
  have HQ := Lib.hid hq
  obtain ⟨m, hm⟩ : ∃ m, m = its.length := ⟨_, rfl⟩
  have HM := Lib.hid hm
  rw [← hm] at hk hil
  clear h hg hq hm hT hhv hvl he ho hs
  go_enter Tryz.func14, Tryz.ntmps14
  go_wp2_with fail
  refine hends.mono ?_
  clear hends
  rintro e w1 ⟨rfl, hb1⟩
  have hd1 := HDK.out.below hb1
  have hg1 := HG.out.below hb1
  obtain ⟨rv1, hB1, hlo1, _⟩ := hg1
  have HB1 := Lib.hid hB1
  have HG1 := Lib.hid (HG.out.below hb1)
  have HD1 := Lib.hid hd1
  have HDd := Lib.hid (hd1.below (bel_drew1 w1))
  clear hB1 hd1
  go_wp2_with fail
  go_region_held3 (fun w' => w'.cell? ⟨LB, 0, none⟩ = some (.pointer (some ⟨B, 0, none⟩)) ∧ w'.cell? ⟨LB, 1, none⟩ = some (.string (str [102])))
    (first | exact log3 HB2.out | exact log3 HB1.out)
    ((go_at_call 35; refine (FRD.out _ HDd.out).mono ?_; rintro e w2 ⟨ar, cr', rfl, hb2h⟩; have HB2 := Lib.hid ((hb2h.out.block LB (blk_lt HB1.out)).trans HB1.out)))
  have hb2 := hb2h.out
  have hb2' : Below w1.heap.size w1 w2 := ⟨hb2.os, hb2.tape, hb2.output, hb2.size, hb2.block⟩
  have bw2 : Below w.heap.size w w2 := hb1.trans (hb2'.mono hb1.size)
  have D2 := Lib.hid (HD1.out.below hb2')
  have G2 := Lib.hid (HG1.out.below hb2')
  clear hb2 hb2h FRD
  have hkm0 : (0 : Int) ≤ (k : Int) := by omega
  by_cases hgo : hv = true ∨ 0 < T
  · have htr := trunc_any w2.drew lo B d (D2.out.below (bel_drew1 w2)) hw [102] goodf (T : Int)
    have hq2 : q = d.trunc [102] (T : Int) := by rw [HQ.out]; unfold Dsk.Dk.cutd; rw [if_pos hgo]
    rw [← hq2] at htr
    have hex : (hv = true ∧ True) ∨ (hv = false ∧ decide ((0 : Int) < (T : Int)) = true ∧ decide (0 < T) = true) := by
      cases hv
      · refine .inr ⟨rfl, ?_⟩
        rcases hgo with h | h
        · cases h
        · exact ⟨decide_eq_true (by omega), decide_eq_true h⟩
      · exact .inl ⟨rfl, trivial⟩
    obtain ⟨d', j⟩ := q
    clear hgo hq2 HQ
    rcases hex with ⟨rfl, _⟩ | ⟨rfl, t0, t0'⟩
    all_goals
      go_wp2_with fail
      go_region_held3 (fun w' => w'.cell? ⟨LB, 0, none⟩ = some (.pointer (some ⟨B, 0, none⟩)) ∧ w'.cell? ⟨LB, 1, none⟩ = some (.string (str [102])))
        (first | exact log3 HB3.out | exact log3 HB2.out)
        ((go_at_call 38; refine htr.mono ?_; rintro e w3 ⟨rfl, hdk3, hb3, kt3⟩; have HB3 := Lib.hid ((kt3 LB _ _ _ HB2.out (by decide) (by decide)).trans HB2.out)))
      have hb3' : Below lo w2 w3 := ⟨hb3.os, hb3.tape, hb3.output, hb3.size, hb3.block⟩
      have kt3' : KeepT w2 w3 := fun k' xs t fr hk' h1 h2 => kt3 k' xs t fr hk' h1 h2
      have G3 := Lib.hid (G2.out.keep kt3')
      by_cases hj : j = 0
      · subst hj
        obtain ⟨ra, rc, c5, hmc, hrn, f5, hdk5, hlog5, hb5, hk5⟩ := FIN.out w3 d' hdk3 G3.out
        rw [← show m = its.length from HM.out] at c5 hmc
        have P1 := Lib.hid hdk5
        have P2 := Lib.hid hlog5
        have P3 := Lib.hid (((bw2.mono hlo).trans hb3').trans hb5)
        have P4 := Lib.hid (((KeepG.below bw2 (Nat.le_refl _)).trans (.ofT kt3')).trans (.ofN hk5))
        have hkc : (k : Int) ≤ (rc : Int) := by omega
        have hkc' : k ≤ rc := by omega
        rw [show errv (d', 0).2 = .nilIface from rfl]
        clear hdk5 hlog5 hb5 hk5 htr hdk3 hb3 kt3
        cases ra with
        | none =>
          obtain rfl : rc = 0 := hrn rfl
          obtain rfl : k = 0 := by omega
          go_wp2
          go_ret
          exact ⟨rfl, P1.out, P2.out, P3.out, P4.out⟩
        | some ra =>
          clear hrn
          go_wp2
          go_ret
          exact ⟨rfl, P1.out, P2.out, P3.out, P4.out⟩
      · have P1 := Lib.hid hdk3
        have P3 := Lib.hid ((bw2.mono hlo).trans hb3')
        have P4 := Lib.hid ((KeepG.below bw2 (Nat.le_refl _)).trans (.ofT kt3'))
        rw [show errv (d', j).2 = .iface 35 (.int .i64 (j : Int)) from if_neg hj]
        clear htr hdk3 hb3 kt3
        go_wp2
        go_ret
        exact ⟨by unfold errv; rw [if_neg hj]; rfl, P1.out, by first | exact G3.out | (rw [if_neg hj]; exact G3.out), P3.out, P4.out⟩
  · obtain rfl : T = 0 := by omega
    have hvf : hv = false := by cases hv; rfl; exact absurd (.inl rfl) hgo
    have hq2 : q = (d, 0) := by rw [HQ.out]; unfold Dsk.Dk.cutd; rw [if_neg hgo]
    subst hvf
    subst hq2
    clear HQ hgo
    obtain ⟨ra, rc, c5, hmc, hrn, f5, hdk5, hlog5, hb5, hk5⟩ := FIN.out w2 d D2.out G2.out
    rw [← show m = its.length from HM.out] at c5 hmc
    have P1 := Lib.hid hdk5
    have P2 := Lib.hid hlog5
    have P3 := Lib.hid ((bw2.mono hlo).trans hb5)
    have P4 := Lib.hid ((KeepG.below bw2 (Nat.le_refl _)).trans (.ofN hk5))
    have hkc : (k : Int) ≤ (rc : Int) := by omega
    have hkc' : k ≤ rc := by omega
    clear hdk5 hlog5 hb5 hk5
    cases ra with
    | none =>
      obtain rfl : rc = 0 := hrn rfl
      obtain rfl : k = 0 := by omega
      go_wp2
      go_ret
      exact ⟨rfl, P1.out, P2.out, P3.out, P4.out⟩
    | some ra =>
      clear hrn
      go_wp2
      go_ret
      exact ⟨rfl, P1.out, P2.out, P3.out, P4.out⟩
end Go.Proofs.YtkalpkmnelgieaaGreatDoor
