/- log.ends, Cut, where it goes well. -/
import Derived.Test.YtkalpkmnelgieaaGreatDoorLogPl2
namespace Go.Proofs.YtkalpkmnelgieaaGreatDoor
open Go.RowKit Go.Tap Go.Maps
set_option linter.unusedVariables false
attribute [local go_sem ↓] Go.wp_at_zero Go.wp_at_succ

theorem recsAt_take : ∀ (l : List (Nat × List UInt8)) (at_ k : Nat), (recsAt at_ l).take k = recsAt at_ (l.take k)
  | [], at_, k => by simp [recsAt]
  | p :: r, at_, 0 => rfl
  | p :: r, at_, k + 1 => by rw [recsAt, List.take_succ_cons, List.take_succ_cons, recsAt, recsAt_take r]
theorem frs_append (a b : List (Nat × List UInt8)) : frs (a ++ b) = frs a ++ frs b := by simp [frs]
theorem frs_take_lt (l : List (Nat × List UInt8)) : ∀ (i j : Nat), i < j → j ≤ l.length → (frs (l.take i)).length < (frs (l.take j)).length := by
  intro i j hij hj
  induction j with
  | zero => omega
  | succ j ih =>
    have hb : l[j]? = some (l[j]'(by omega)) := List.getElem?_eq_getElem _
    have e : l.take (j + 1) = l.take j ++ [l[j]'(by omega)] := by rw [List.take_add_one, hb]; rfl
    have h1 : (frs (l.take (j + 1))).length = (frs (l.take j)).length + (9 + (l[j]'(by omega)).2.length) := by rw [e, frs_snoc, List.length_append, frm_length]
    by_cases h : i = j
    · subst h; omega
    · have := ih (by omega) (by omega); omega
theorem frs_take_le (l : List (Nat × List UInt8)) (i : Nat) : (frs (l.take i)).length ≤ (frs l).length := by
  have h : frs l = frs (l.take i) ++ frs (l.drop i) := by
    rw [← frs_append, List.take_append_drop]
  rw [h, List.length_append]; omega
theorem frs_take (l : List (Nat × List UInt8)) (i : Nat) : (frs l).take (frs (l.take i)).length = frs (l.take i) := by
  have h : frs l = frs (l.take i) ++ frs (l.drop i) := by
    rw [← frs_append, List.take_append_drop]
  conv => lhs; rw [h]
  exact List.take_left
set_option maxHeartbeats 4000000 in
set_option maxRecDepth 100000 in
theorem ends_ok (w : World) (lo LB B : Nat) (nm : Dsk.Name) (its : List (Nat × List UInt8)) (h : LogIs w lo LB B nm (recsAt 0 its)) (k : Nat) (hk : k ≤ its.length) (hil : its.length ≤ 1000000) (hs : (frs its).length ≤ 16777216) :
    Calls Tryz.prog 43 #[.pointer (some ⟨LB, 0, none⟩), .int .i64 ((frs (its.take k)).length : Int)] w fun e w' => e = .returned (.tuple #[.int .i64 (k : Int), .bool true]) ∧ Below w.heap.size w w' := by
  obtain ⟨rv, h1, h2, h3⟩ := h
  have c2 : w.cell? ⟨LB, 2, none⟩ = some rv := blk_cell (i := 2) h1 rfl
  obtain ⟨ra, rc, rfl⟩ := h3.slice
  rw [recsAt_length] at c2
  obtain ⟨T, hT⟩ : ∃ T, T = (frs (its.take k)).length := ⟨_, rfl⟩
  rw [← hT]
  have hTs : T ≤ 16777216 := by have := frs_take_le its k; omega
  rcases Nat.eq_zero_or_pos k with hk0 | hk0
  · subst hk0
    have hT0 : T = 0 := by rw [hT]; rfl
    subst hT0
    clear hT h1 h3
    go_enter Tryz.func43, Tryz.ntmps43
    go_wp2
    go_ret2
    exact ⟨rfl, Below.refl _ _⟩
  · have hTp : 0 < T := by have := frs_take_lt its 0 k hk0 hk; rw [hT]; omega
    have z0 : ((T : Int) == 0) = false := beq_eq_false_iff_ne.2 (by omega)
    have z0' : (T == 0) = false := beq_eq_false_iff_ne.2 (by omega)
    obtain ⟨n, hn⟩ : ∃ n, n = its.length := ⟨_, rfl⟩
    rw [← hn] at c2 hk hil
    have HR := Lib.hid h3
    have HT := Lib.hid hT
    have HN := Lib.hid hn
    clear h1 h3 hT hn
    go_enter Tryz.func43, Tryz.ntmps43
    go_wp2_with fail
    go_loopw [15] (fun iv wr => ∃ j : Nat, j < k ∧ iv = .int .i64 (j : Int) ∧ Below w.heap.size w wr) (fun iv _ => n - (intOf iv).toNat)
    case atStart => exact ⟨0, hk0, rfl, Below.refl _ _⟩
    case round =>
      obtain ⟨j, hjk, rfl, hb⟩ := hrel
      have d0 : decide ((j : Int) < (n : Int)) = true := decide_eq_true (by omega)
      have d0' : decide (j < n) = true := decide_eq_true (by omega)
      have hb' : its[j]? = some (its[j]'(by have := HN.out; omega)) := List.getElem?_eq_getElem _
      obtain ⟨x, hx, hx1, hx2, hx3⟩ := recsAt_get its 0 j _ hb'
      have hrs := HR.out.stay (KeepU.below hb (Nat.le_refl _)) (fun k' e => by
        obtain ⟨ps, _, _, h4⟩ := HR.out
        obtain ⟨_, _, _, _, _, h5⟩ := h4.form
        obtain ⟨_, _, cur, hc⟩ := h5 k' e
        exact hb.block k' (blk_lt hc))
      obtain ⟨g, cap, a, c, hsl, _, e0, e1, e2⟩ := hrs.elem hx
      simp only [recsAt_length, Value.slice.injEq] at hsl
      obtain ⟨rfl, _, rfl⟩ := hsl
      obtain ⟨F, hF⟩ : ∃ F, F = x.fin := ⟨_, rfl⟩
      rw [← hF] at e2
      have hjw := wrapi' ((j : Int) + 1) (by omega)
      have hFT : F = T ↔ j + 1 = k := by
        rw [hF, hx3, show T = _ from HT.out, Nat.zero_add]
        constructor
        · intro e
          by_cases h1 : j + 1 = k
          · exact h1
          · have := frs_take_lt its (j + 1) k (by omega) (by have := HN.out; omega); omega
        · intro e; rw [e]
      have bw := hb.alloc hb.size (.cells #[.int .i64 (x.kind : Int), .slice a x.body.length c, .int .i64 (F : Int)] 104)
      clear hx hx1 hx2 hx3 hb' hrs hF
      by_cases hend : j + 1 = k
      · have q0 : ((F : Int) == (T : Int)) = true := by rw [hFT.2 hend]; simp
        have q0' : (F == T) = true := by rw [hFT.2 hend]; simp
        have hj2 : (j : Int) + 1 = (k : Int) := by omega
        rw [hj2] at hjw
        clear hFT hend
        go_wp2
        go_ret2
        exact ⟨rfl, bw⟩
      · have hne : F ≠ T := fun e => hend (hFT.1 e)
        have q0 : ((F : Int) == (T : Int)) = false := beq_eq_false_iff_ne.2 (by omega)
        have q0' : (F == T) = false := beq_eq_false_iff_ne.2 hne
        clear hFT hne
        go_wp2
        go_roundw
        case rel => exact ⟨j + 1, by omega, by push_cast; rfl, bw⟩
        case measure => first | (simp [intOf]; omega) | omega
theorem trunc_no {d : Dsk.Dk} {room w : Nat} {c : List UInt8} (h : Dsk.DsN d room [102] c w) (hne : (Dsk.get d.now [102]).isSome = false) : c = [] ∧ d.now = [] := by
  rcases h.now with e | ⟨e, e2⟩
  · rw [e] at hne; simp [Dsk.get] at hne
  · exact ⟨e2, e⟩
set_option maxHeartbeats 8000000 in
set_option maxRecDepth 100000 in
theorem cut_n (w : World) (lo LB B : Nat) (d : Dsk.Dk) (room wk : Nat) (its : List (Nat × List UInt8)) (h : IsDk w lo B d) (hn : Dsk.DsN d room [102] (frs its) wk) (hw : wk ≤ 99999) (hr24 : room ≤ 16777216) (hg : LogIs w lo LB B [102] (recsAt 0 its)) (hil : its.length ≤ 1000000) (hs : (frs its).length ≤ 16777216) (k : Nat) (hk : k ≤ its.length) :
    Calls Tryz.prog 14 #[.pointer (some ⟨LB, 0, none⟩), .int .i64 ((frs (its.take k)).length : Int)] w fun e w' => ∃ d', e = .returned .nilIface ∧ IsDk w' lo B d' ∧ Dsk.DsN d' room [102] (frs (its.take k)) (wk + 1) ∧ LogIs w' lo LB B [102] (recsAt 0 (its.take k)) ∧ Below lo w w' ∧ KeepG w w' := by
  have hlo := h.lo_le
  have hends := ends_ok w lo LB B [102] its hg k hk hil hs
  obtain ⟨T, hT⟩ : ∃ T, T = (frs (its.take k)).length := ⟨_, rfl⟩
  have hTs : T ≤ 16777216 := by have := frs_take_le its k; omega
  have hTl : T ≤ (frs its).length := by rw [hT]; exact frs_take_le its k
  rw [← hT] at hends ⊢
  have htake : (frs its).take T = frs (its.take k) := by rw [hT]; exact frs_take its k
  obtain ⟨Is, hIs⟩ : ∃ Is, (Dsk.get d.now [102]).isSome = Is := ⟨_, rfl⟩
  -- what is left of the records
  have fin : ∀ (w5 : World) (d' : Dsk.Dk), IsDk w5 lo B d' → LogIs w5 lo LB B [102] (recsAt 0 its) → ∃ ra rc, w5.cell? ⟨LB, 2, none⟩ = some (.slice ra its.length rc) ∧ its.length ≤ rc ∧ (ra = none → rc = 0) ∧ w5.frozen? ⟨LB, 2, none⟩ = false ∧
      IsDk (w5.setCell ⟨LB, 2, none⟩ (.slice ra k k)) lo B d' ∧ LogIs (w5.setCell ⟨LB, 2, none⟩ (.slice ra k k)) lo LB B [102] (recsAt 0 (its.take k)) ∧ Below lo w5 (w5.setCell ⟨LB, 2, none⟩ (.slice ra k k)) ∧ KeepN w5 (w5.setCell ⟨LB, 2, none⟩ (.slice ra k k)) := fun w5 d' h5 g5 => by
    obtain ⟨rv, p1, p2, p3⟩ := g5
    obtain ⟨ps, hps, hpk, hpr⟩ := p3
    obtain ⟨ra, rc, rfl, hnc, hrn, hrb⟩ := hpr.form
    have hpl : ps.length = its.length := by rw [← recsAt_length its 0, ← hps, List.length_map]
    rw [hpl] at p1 hpr hnc
    have hkn : ∀ u, KeepN w5 (w5.setCell ⟨LB, 2, none⟩ u) := fun u k' o hk' hno => by
      have hne : k' ≠ LB := fun e => by subst e; rw [p1] at hk'; cases hk'; exact (hno _ _ _ rfl).1 rfl
      exact ((TStay.refl (fun k => k = LB) w5).setCell (p := ⟨LB, 2, none⟩) (.inl rfl) u).block k' (blk_lt hk') hne
    refine ⟨ra, rc, blk_cell (i := 2) p1 rfl, hnc, hrn, blk_free p1 2, KeepN.dk h5 (hkn _), ⟨_, heap_setCell_same w5 LB 2 _ _ _ p1, p2, ?_⟩, (Below.refl lo w5).setCell p2 _, hkn _⟩
    refine ⟨ps.take k, by rw [List.map_take, hps, recsAt_take], fun p hp => (hpk p (List.mem_of_mem_take hp)).stay (hkn _).ku, ?_⟩
    rw [List.length_take, Nat.min_eq_left (by omega)]
    have hfl : ∀ (l : List Rp) (m : Nat), m ≤ l.length → ((l.take m).flatMap Rp.cells) = (l.flatMap Rp.cells).take (m * 3) := by
      intro l
      induction l with
      | nil => intro m hm; simp
      | cons u r ih =>
        intro m hm
        cases m with
        | zero => simp
        | succ m =>
          have e3 : u.cells.length = 3 := rfl
          rw [List.take_succ_cons, List.flatMap_cons, List.flatMap_cons, ih m (by simpa using hm), List.take_append, List.take_of_length_le (l := u.cells) (by rw [e3]; omega), e3, show (m + 1) * 3 - 3 = m * 3 by omega]
    have hLBne : ∀ g, (Value.slice ra its.length rc).ownBlock = some g → g ≠ LB := fun g e e' => by
      obtain ⟨_, _, cur, hc⟩ := hrb g (by rw [hpl]; exact e)
      subst e'
      rw [p1] at hc; simp at hc
    have hblk : ∀ g, (Value.slice ra its.length rc).ownBlock = some g → (w5.setCell ⟨LB, 2, none⟩ (.slice ra k k)).heap[g]? = w5.heap[g]? := fun g e => by
      obtain ⟨_, _, cur, hc⟩ := hrb g (by rw [hpl]; exact e)
      exact ((TStay.refl (fun k => k = LB) w5).setCell (p := ⟨LB, 2, none⟩) (.inl rfl) _).block g (blk_lt hc) (hLBne g e)
    rcases hpr with hpr | ⟨g, cur, e1, e2, e3, e4, e5, e6⟩
    · rcases hpr.2 with ⟨e1, e2⟩ | ⟨g, cap, cur, e1, e2, e3, e4, e5, e6, e7⟩
      · simp only [Value.slice.injEq] at e1
        obtain ⟨rfl, _, rfl⟩ := e1
        obtain rfl : k = 0 := by omega
        left
        rw [List.take_zero]
        exact World.ownsRow_nil _ _ _ _
      · simp only [Value.slice.injEq] at e1
        obtain ⟨rfl, _, rfl⟩ := e1
        right
        refine ⟨g, cur, rfl, e2, (hblk g rfl).trans e3, ?_, ?_, by omega⟩
        · rw [hfl ps k (by omega), List.length_take, hpr.1]; omega
        · rw [hfl ps k (by omega), ← e7, List.take_take, Nat.min_eq_left (by omega)]
    · simp only [Value.slice.injEq] at e1
      obtain ⟨rfl, _, rfl⟩ := e1
      right
      refine ⟨g, cur, rfl, e2, (hblk g rfl).trans e3, ?_, ?_, by omega⟩
      · rw [hfl ps k (by omega), List.length_take, e4]; omega
      · rw [hfl ps k (by omega), ← e5, List.take_take, Nat.min_eq_left (by omega)]
  have FIN := Lib.hid fin
  clear fin
  have HDK := Lib.hid h
  have HG := Lib.hid hg
  have HNN := Lib.hid hn
  have HTK := Lib.hid htake
  have HIS := Lib.hid hIs
  obtain ⟨m, hm⟩ : ∃ m, m = its.length := ⟨_, rfl⟩
  have HM := Lib.hid hm
  rw [← hm] at hk hil
  obtain ⟨LL, hLL⟩ : ∃ LL, LL = (frs its).length := ⟨_, rfl⟩
  rw [← hLL] at hTl hs
  have HLL := Lib.hid hLL
  have HT := Lib.hid hT
  clear h hg hn htake hIs hm hLL hT
  go_enter Tryz.func14, Tryz.ntmps14
  go_wp2_with fail
  refine hends.mono ?_
  clear hends
  rintro e w1 ⟨rfl, hb1⟩
  have hd1 := HDK.out.below hb1
  have hg1 := HG.out.below hb1
  obtain ⟨rv1, hB1, hlo1, _⟩ := hg1
  have HB1 := Lib.hid hB1
  have HG1 := Lib.hid (HG.out.below hb1)
  have hrd := read_is w1.drew lo B d (hd1.below (bel_drew1 w1)) HNN.out.dead [102] (by decide) (frs its) Is LL HNN.out.now.val HIS.out (show LL = _ from HLL.out).symm
  have HD1 := Lib.hid hd1
  clear hB1 hd1
  go_wp2_with fail
  go_region_held3 (fun w' => w'.cell? ⟨LB, 0, none⟩ = some (.pointer (some ⟨B, 0, none⟩)) ∧ w'.cell? ⟨LB, 1, none⟩ = some (.string (str [102])))
    (first | exact log3 HB2.out | exact log3 HB1.out)
    ((go_at_call 35; refine hrd.mono ?_; rintro e w2 ⟨ar, cr', rfl, _, hb2⟩; have HB2 := Lib.hid ((hb2.block LB (blk_lt HB1.out)).trans HB1.out)))
  have hb2' : Below w1.heap.size w1 w2 := ⟨hb2.os, hb2.tape, hb2.output, hb2.size, hb2.block⟩
  have bw2 : Below w.heap.size w w2 := hb1.trans (hb2'.mono hb1.size)
  have D2 := Lib.hid (HD1.out.below hb2')
  have G2 := Lib.hid (HG1.out.below hb2')
  clear hrd hb2
  have hkm0 : (0 : Int) ≤ (k : Int) := by omega
  cases Is with
  | false =>
    obtain ⟨hc, hnw⟩ := trunc_no HNN.out HIS.out
    have hL0 : LL = 0 := by rw [show LL = _ from HLL.out, hc]; rfl
    obtain rfl : T = 0 := by omega
    have hits : its = [] := by
      cases its with
      | nil => rfl
      | cons p r => exfalso; have := congrArg List.length hc; simp [frs, frm_length] at this
    obtain rfl : m = 0 := by rw [show m = _ from HM.out, hits]; rfl
    obtain rfl : k = 0 := by omega
    obtain ⟨ra, rc, c5, hmc, hrn, f5, hdk5, hlog5, hb5, hk5⟩ := FIN.out w2 d D2.out G2.out
    rw [← show 0 = its.length from HM.out] at c5
    have hfin : Dsk.DsN d room [102] (frs (its.take 0)) (wk + 1) := by
      have h0 := HNN.out
      rw [hits] at h0
      exact ⟨h0.room, h0.dead, h0.fuse, by rw [hits]; exact h0.now, by have := h0.works; omega⟩
    have P1 := Lib.hid hdk5
    have P2 := Lib.hid hlog5
    have P3 := Lib.hid hb5
    have P4 := Lib.hid hk5
    have P5 := Lib.hid hfin
    have hrc : (0 : Int) ≤ (rc : Int) := by omega
    clear hdk5 hlog5 hb5 hk5 hfin hc hnw hits
    cases ra with
    | none =>
      obtain rfl : rc = 0 := hrn rfl
      go_wp2
      go_ret
      first | exact ⟨rfl, d, P1.out, P5.out, P2.out, (bw2.mono hlo).trans P3.out, (KeepG.below bw2 (Nat.le_refl _)).trans (.ofN P4.out)⟩ | exact ⟨d, rfl, P1.out, P5.out, P2.out, (bw2.mono hlo).trans P3.out, (KeepG.below bw2 (Nat.le_refl _)).trans (.ofN P4.out)⟩
    | some ra =>
      clear hrn
      go_wp2
      go_ret
      first | exact ⟨rfl, d, P1.out, P5.out, P2.out, (bw2.mono hlo).trans P3.out, (KeepG.below bw2 (Nat.le_refl _)).trans (.ofN P4.out)⟩ | exact ⟨d, rfl, P1.out, P5.out, P2.out, (bw2.mono hlo).trans P3.out, (KeepG.below bw2 (Nat.le_refl _)).trans (.ofN P4.out)⟩
  | true =>
    have hteq := Dsk.trunc_eq HNN.out.dead HNN.out.fuse [102] T HIS.out (by rw [HNN.out.now.val, ← show LL = _ from HLL.out]; exact hTl)
    obtain ⟨d', hd'⟩ : ∃ d', d' = ({ d with pend := d.pend ++ [⟨1, [102], [], [], T⟩], now := Dsk.put d.now [102] ((Dsk.val d.now [102]).take T), works := d.works + 1 } : Dsk.Dk) := ⟨_, rfl⟩
    rw [← hd'] at hteq
    have hfin : Dsk.DsN d' room [102] (frs (its.take k)) (wk + 1) := by
      rw [hd']
      have h0 := HNN.out
      refine ⟨h0.room, h0.dead, h0.fuse, .inl ?_, by have := h0.works; show d.works + 1 ≤ _; omega⟩
      show Dsk.put d.now [102] ((Dsk.val d.now [102]).take T) = _
      rw [h0.now.put, h0.now.val, HTK.out]
    have htr := trunc_any w2.drew lo B d (D2.out.below (bel_drew1 w2)) (by have := HNN.out.works; omega) [102] goodf (T : Int)
    rw [hteq] at htr
    have P5 := Lib.hid hfin
    clear hd' hfin hteq
    go_wp2_with fail
    go_region_held3 (fun w' => w'.cell? ⟨LB, 0, none⟩ = some (.pointer (some ⟨B, 0, none⟩)) ∧ w'.cell? ⟨LB, 1, none⟩ = some (.string (str [102])))
      (first | exact log3 HB3.out | exact log3 HB2.out)
      ((go_at_call 38; refine htr.mono ?_; rintro e w3 ⟨rfl, hdk3, hb3, kt3⟩; have HB3 := Lib.hid ((kt3 LB _ _ _ HB2.out (by decide) (by decide)).trans HB2.out)))
    have hb3' : Below lo w2 w3 := ⟨hb3.os, hb3.tape, hb3.output, hb3.size, hb3.block⟩
    have kt3' : KeepT w2 w3 := fun k' xs t fr hk' h1 h2 => kt3 k' xs t fr hk' h1 h2
    obtain ⟨ra, rc, c5, hmc, hrn, f5, hdk5, hlog5, hb5, hk5⟩ := FIN.out w3 d' hdk3 (G2.out.keep kt3')
    rw [← show m = its.length from HM.out] at c5 hmc
    have P1 := Lib.hid hdk5
    have P2 := Lib.hid hlog5
    have P3 := Lib.hid (((bw2.mono hlo).trans hb3').trans hb5)
    have P4 := Lib.hid (((KeepG.below bw2 (Nat.le_refl _)).trans (.ofT kt3')).trans (.ofN hk5))
    have hkc : (k : Int) ≤ (rc : Int) := by omega
    have hkc' : k ≤ rc := by omega
    rw [show errv (d', 0).2 = .nilIface from rfl]
    clear hdk5 hlog5 hb5 hk5 htr hdk3 hb3 kt3
    cases ra with
    | none =>
      obtain rfl : rc = 0 := hrn rfl
      obtain rfl : k = 0 := by omega
      go_wp2
      go_ret
      first | exact ⟨rfl, d', P1.out, P5.out, P2.out, P3.out, P4.out⟩ | exact ⟨d', rfl, P1.out, P5.out, P2.out, P3.out, P4.out⟩
    | some ra =>
      clear hrn
      go_wp2
      go_ret
      first | exact ⟨rfl, d', P1.out, P5.out, P2.out, P3.out, P4.out⟩ | exact ⟨d', rfl, P1.out, P5.out, P2.out, P3.out, P4.out⟩
end Go.Proofs.YtkalpkmnelgieaaGreatDoor
