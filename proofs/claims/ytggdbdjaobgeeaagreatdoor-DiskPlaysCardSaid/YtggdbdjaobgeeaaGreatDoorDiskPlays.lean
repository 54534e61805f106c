/- DiskPlays: what it comes to. -/
import Derived.Test.YtggdbdjaobgeeaaGreatDoorDpOps
import Derived.Test.YtggdbdjaobgeeaaGreatDoorDskKn
import Derived.Test.YtggdbdjaobgeeaaGreatDoorRfCrash
import Derived.Test.YtggdbdjaobgeeaaGreatDoorOpen
import Derived.Deep.Cut
import Derived.Deep.CutRange
import Derived.Deep.CutBlock
import Derived.Deep.LoopGhost
namespace Go.Proofs.YtggdbdjaobgeeaaGreatDoor
open Go.RowKit Go.Tap Go.Maps
set_option linter.unusedVariables false
set_option linter.unusedSimpArgs false
attribute [local go_sem ↓] Go.wp_at_zero Go.wp_at_succ

theorem rds_bel {w w' : World} {a : Option Addr} {n : Nat} {l : List UInt8} (h : Rds w a n l) (hb : Below w.heap.size w w') : Rds w' a n l := h.below hb (fun h0 b o e => by subst e; exact h.lt h0)
set_option maxHeartbeats 8000000 in
set_option maxRecDepth 100000 in
theorem diskPlays_walk (w : World) (hg : EType w) (a1 : Int) (b1 : -9223372036854775808 ≤ a1 ∧ a1 ≤ 9223372036854775807) (s2 : Option Addr) (n2 c2 : Nat) (xs : List StepE) (g2 : ArgS6 140737488351232 w s2 n2 c2 xs) :
    Calls Tryz.prog 5 #[.int .i64 a1, .slice s2 n2 c2] w fun e w' => e = .returned (.bool true) ∧ Below w.heap.size w w' := by
  have hxl := g2.len
  have G2 := Lib.hid g2
  have HG := Lib.hid hg
  have hpk := pick_any w a1 120 b1.1 b1.2 (by omega) (by omega)
  obtain ⟨R, hR⟩ : ∃ R : Nat, a1 % 120 = R := ⟨(a1 % 120).toNat, by have := Int.emod_nonneg a1 (show (120 : Int) ≠ 0 by omega); omega⟩
  have hRl : R ≤ 200 := by have := Int.emod_lt_of_pos a1 (show (0 : Int) < 120 by omega); omega
  rw [hR] at hpk
  clear g2 hg hR b1
  go_enter Tryz.func5, Tryz.ntmps5
  go_wp2_with fail
  refine hpk.mono ?_
  clear hpk
  rintro e w' ⟨rfl, rfl⟩
  have hnw := new_any w R (by omega)
  go_wp2_with fail
  refine hnw.mono ?_
  clear hnw
  rintro e w1 ⟨B, rfl, h1, hb1⟩
  have hkn := known6 w1
  go_wp2_with fail
  refine hkn.mono ?_
  clear hkn
  rintro e w2 ⟨rfl, hb2⟩
  have b2 := hb1.trans (hb2.mono hb1.size)
  have H2 := h1.below hb2
  clear h1 hb1 hb2
  have hrn := rnew_any w2 R (by omega)
  go_wp2_with fail
  refine hrn.mono ?_
  clear hrn
  rintro e w3 ⟨RB, rfl, hRB, h3, hb3⟩
  have b3 := Lib.hid (b2.trans (hb3.mono b2.size))
  have H3 := Lib.hid (H2.below hb3)
  have R3 := Lib.hid h3
  have HRB := Lib.hid (Nat.le_trans b2.size hRB)
  have E3 := Lib.hid (Ref.eq_new R)
  have K3 := Lib.hid (Nat.zero_le 0)
  clear H2 hb3 b2 h3 hRB
  go_wp2_with fail
  go_loopg [7] 60 (fun gh iv wr => ∃ (i : Nat) (d : Dsk.Dk) (r : Ref.Rd), iv = .int .i64 (i : Int) ∧ i + gh = 60 ∧ i ≤ n2 ∧ i ≤ 60 ∧ Hid (IsDk wr w.heap.size B d) ∧ Hid (IsRd wr RB r) ∧ Hid (Ref.Eq d r) ∧ Hid (d.works ≤ i) ∧ Hid (Below w.heap.size w wr))
  case atStart => exact ⟨0, _, _, rfl, rfl, Nat.zero_le _, Nat.zero_le _, H3, R3, E3, K3, b3⟩
  case round =>
    clear H3 R3 E3 K3 b3
    obtain ⟨i, d, r, rfl, hgk, hin, hi10, HD, HR, HE, HW, HB⟩ := hrel
    by_cases hgo : i < n2 ∧ i < 60
    · have t0 : decide ((i : Int) < (n2 : Int)) = true := decide_eq_true (by omega)
      have t0' : decide (i < n2) = true := decide_eq_true hgo.1
      have t1 : decide ((i : Int) < 60) = true := decide_eq_true (by omega)
      have t1' : decide (i < 60) = true := decide_eq_true hgo.2
      have hi1 : (i : Int) < (n2 : Int) := by omega
      have hi0 : (0 : Int) ≤ (i : Int) := by omega
      have hx : xs[i]? = some (xs[i]'(by omega)) := List.getElem?_eq_getElem _
      generalize xs[i]'(by omega) = x at hx
      obtain ⟨b0, o0, rfl, hat⟩ := G2.out.at_ (by omega)
      obtain ⟨hxo, hcx, hxr⟩ := hat i x hx
      have hc0 := hcx 0 (by omega)
      have hc1 := hcx 1 (by omega)
      have hc2 := hcx 2 (by omega)
      have hc3 := hcx 3 (by omega)
      have hc4 := hcx 4 (by omega)
      have hc5 := hcx 5 (by omega)
      rw [Nat.add_zero, show x.cells[0]? = some (.int .i64 x.what) from rfl] at hc0
      rw [show x.cells[1]? = some (.int .i64 x.nm) from rfl] at hc1
      rw [show x.cells[2]? = some (.int .i64 x.tt) from rfl] at hc2
      rw [show x.cells[3]? = some (.int .i64 x.n) from rfl] at hc3
      rw [show x.cells[4]? = some (.int .i64 x.cut) from rfl] at hc4
      rw [show x.cells[5]? = some (.slice x.b.a x.b.n x.b.c) from rfl] at hc5
      have hltx := World.block_lt_of_cell? w _ hc0
      have hk : ∀ (j : Nat) (v : Value), w.cell? ⟨b0, j, none⟩ = some v → wr.cell? ⟨b0, j, none⟩ = some v := fun j v h => (World.cell?_of_block (HB.out.block b0 hltx)).trans h
      have ca0 := hk _ _ hc0
      have ca1 := hk _ _ hc1
      have ca2 := hk _ _ hc2
      have ca3 := hk _ _ hc3
      have ca4 := hk _ _ hc4
      have ca5 := hk _ _ hc5
      have HXR := Lib.hid hxr
      have HXO := Lib.hid hxo
      clear hat hxo hcx hxr hc0 hc1 hc2 hc3 hc4 hc5 hk hx
      obtain ⟨z, zn, zt, zN, zc, ⟨xa, xn, xc, xl⟩⟩ := x
      simp only at ca0 ca1 ca2 ca3 ca4 ca5 HXR HXO
      obtain ⟨hz, hzn, hzt, hzN, hzc⟩ := HXO.out
      have HZ := Lib.hid hz
      have HZn := Lib.hid hzn
      have HZt := Lib.hid hzt
      have HZN := Lib.hid hzN
      have HZc := Lib.hid hzc
      have hiw := wrapi' ((i : Int) + 1) (by omega)
      have HGK := Lib.hid hgk
      clear hgk hz hzn hzt hzN hzc HXO
      obtain ⟨xb, hxb⟩ : ∃ xb, xb = wr.heap.size := ⟨_, rfl⟩
      obtain ⟨WX, hWX⟩ : ∃ WX, WX = wr.alloc (.cells #[.int .i64 z, .int .i64 zn, .int .i64 zt, .int .i64 zN, .int .i64 zc, .slice xa xn xc] 85) := ⟨_, rfl⟩
      have hbX : Below wr.heap.size wr WX := by rw [hWX]; exact (Below.refl _ _).alloc (Nat.le_refl _) _
      have hTX : WX.heap[xb]? = some (.cells #[.int .i64 z, .int .i64 zn, .int .i64 zt, .int .i64 zN, .int .i64 zc, .slice xa xn xc] 85 (0, 0)) := by rw [hWX, hxb]; exact heap_alloc_new _ _
      have SX : Hid (DpSt w B RB xb #[.int .i64 z, .int .i64 zn, .int .i64 zt, .int .i64 zN, .int .i64 zc, .slice xa xn xc] 85 WX d r) := Lib.hid ⟨HD.out.below hbX, HR.out.below hbX, HB.out.trans (hbX.mono HB.out.size), hTX, HRB.out, by decide⟩
      have hnm := dpname_any WX zn HZn.out.1 HZn.out.2
      obtain ⟨s, hs⟩ : ∃ s, s = Dp.name zn := ⟨_, rfl⟩
      rw [← hs] at hnm
      have cw : WX.cell? ⟨xb, 0, none⟩ = some (.int .i64 z) := blk_cell (i := 0) hTX rfl
      have cn : WX.cell? ⟨xb, 1, none⟩ = some (.int .i64 zn) := blk_cell (i := 1) hTX rfl
      have HCX : Hid (∀ Y d r, DpSt w B RB xb #[.int .i64 z, .int .i64 zn, .int .i64 zt, .int .i64 zN, .int .i64 zc, .slice xa xn xc] 85 Y d r → Y.cell? ⟨xb, 2, none⟩ = some (.int .i64 zt) ∧ Y.cell? ⟨xb, 3, none⟩ = some (.int .i64 zN) ∧ Y.cell? ⟨xb, 4, none⟩ = some (.int .i64 zc) ∧ Y.cell? ⟨xb, 5, none⟩ = some (.slice xa xn xc) ∧ Rds Y xa xn xl) := Lib.hid (fun Y d r h => ⟨blk_cell (i := 2) h.x rfl, blk_cell (i := 3) h.x rfl, blk_cell (i := 4) h.x rfl, blk_cell (i := 5) h.x rfl, rds_bel HXR.out.rds h.bel⟩)
      have hsl : s.length ≤ 1048576 := by rw [hs]; have := Dp.name_len zn; omega
      have hp12 := pick_any WX z 12 HZ.out.1 HZ.out.2 (by omega) (by omega)
      obtain ⟨q, hq⟩ : ∃ q, q = z % 12 := ⟨_, rfl⟩
      rw [← hq] at hp12
      have hq12 : 0 ≤ q ∧ q < 12 := by rw [hq]; exact ⟨Int.emod_nonneg _ (by omega), Int.emod_lt_of_pos _ (by omega)⟩
      have HWX := Lib.hid hWX
      have HXB := Lib.hid hxb
      have HSN := Lib.hid hs
      have HNO := Lib.hid HXR.out.none
      have HRE : Hid (xn ≤ 140737488355328) := Lib.hid (by have h1 := HXR.out.reach; have h2 := HXR.out.le; omega)
      clear hbX hTX HD HR HB hWX hxb hs hq
      go_wp2_with fail
      rw [← HWX.out, ← HXB.out]
      clear ca0 ca1 ca2 ca3 ca4 ca5 HWX HXB
      go_wp2_with fail
      refine hnm.mono ?_
      clear hnm
      rintro e w' ⟨rfl, rfl⟩
      have HRK : Hid (Rok r) := Lib.hid ⟨d, HE.out, SX.out.ok⟩
      have HWK : Hid (d.works ≤ 99999) := Lib.hid (by have := HW.out; omega)
      go_wp2_with fail
      refine hp12.mono ?_
      clear hp12
      rintro e w' ⟨rfl, rfl⟩
      go_upto_block 2 with fail
      go_cut [10, 11, 12, 13] from 46 to 124 (fun ev fv _ _ wx => ∃ (d1 : Dsk.Dk) (r1 : Ref.Rd) (k : Nat), ev = errv k ∧ fv = .int .i64 (k : Int) ∧ Hid (DpSt w B RB xb #[.int .i64 z, .int .i64 zn, .int .i64 zt, .int .i64 zN, .int .i64 zc, .slice xa xn xc] 85 wx d1 r1) ∧ Hid (Ref.Eq d1 r1) ∧ Hid (d1.works ≤ i + 1))
      case first =>
        by_cases h5 : q = 5
        · subst h5
          obtain ⟨x2, x3, x4, x5, xr⟩ := HCX.out _ _ _ SX.out
          have hp30 := pick_any WX zN 30 HZN.out.1 HZN.out.2 (by omega) (by omega)
          obtain ⟨k, hk⟩ : ∃ k, k = zN % 30 := ⟨_, rfl⟩
          rw [← hk] at hp30
          have hk1 : 0 ≤ k ∧ k < 30 := by rw [hk]; exact ⟨Int.emod_nonneg _ (by omega), Int.emod_lt_of_pos _ (by omega)⟩
          have hkw := wrapi' (k - 1) (by omega)
          have hop := truncB_any WX _ B d SX.out.dk HWK.out s (k - 1)
          have hq := Lib.hid (HE.out.truncB SX.out.ok s (k - 1))
          have hwk := Lib.hid (Dsk.wkp_trunc d s (k - 1))
          clear hk xr
          go_wp2_with fail
          refine hp30.mono ?_
          clear hp30
          rintro e w'' ⟨rfl, rfl⟩
          go_wp2_with fail
          refine hop.mono ?_
          clear hop
          intro e w5 ho
          obtain ⟨rfl, h5⟩ := SX.out.op ho
          have S5 := Lib.hid h5
          clear ho h5
          have hrf := rtrunc_any w5 RB r S5.out.rd HRK.out s (k - 1) (by omega)
          go_wp2_with fail
          refine hrf.mono ?_
          clear hrf
          intro e w6 ho
          obtain ⟨rfl, h6⟩ := S5.out.ref ho
          have S6 := Lib.hid h6
          clear ho h6
          go_wp2_with fail
          go_meet
          exact ⟨_, _, _, rfl, by rw [hq.out.2], S6, Lib.hid hq.out.1, Lib.hid (by have := hwk.out; have := HW.out; omega)⟩
        · by_cases h6 : q = 6
          · subst h6
            obtain ⟨x2, x3, x4, x5, xr⟩ := HCX.out _ _ _ SX.out
            have hnt := dpname_any WX zt HZt.out.1 HZt.out.2
            obtain ⟨t, ht⟩ : ∃ t, t = Dp.name zt := ⟨_, rfl⟩
            rw [← ht] at hnt
            have HTN := Lib.hid ht
            have hop := renameB_any WX _ B d SX.out.dk HWK.out s t
            have hq := Lib.hid (HE.out.renameB SX.out.ok s t)
            have hwk := Lib.hid (Dsk.wkp_rename d s t)
            clear ht xr h5
            go_wp2_with fail
            refine hnt.mono ?_
            clear hnt
            rintro e w'' ⟨rfl, rfl⟩
            go_wp2_with fail
            refine hop.mono ?_
            clear hop
            intro e w5 ho
            obtain ⟨rfl, h5⟩ := SX.out.op ho
            have S5 := Lib.hid h5
            clear ho h5
            obtain ⟨y2, y3, y4, y5, yr⟩ := HCX.out _ _ _ S5.out
            have hnt := dpname_any w5 zt HZt.out.1 HZt.out.2
            rw [← HTN.out] at hnt
            have hrf := rrename_any w5 RB r S5.out.rd HRK.out s t
            clear x2 x3 x4 x5 yr
            go_wp2_with fail
            refine hnt.mono ?_
            clear hnt
            rintro e w'' ⟨rfl, rfl⟩
            go_wp2_with fail
            refine hrf.mono ?_
            clear hrf
            intro e w6 ho
            obtain ⟨rfl, h6⟩ := S5.out.ref ho
            have S6 := Lib.hid h6
            clear ho h6
            go_wp2_with fail
            go_meet
            exact ⟨_, _, _, rfl, by rw [hq.out.2], S6, Lib.hid hq.out.1, Lib.hid (by have := hwk.out; have := HW.out; omega)⟩
          · by_cases h7 : q = 7
            · subst h7
              have hop := removeB_any WX _ B d SX.out.dk HWK.out s
              have hq := Lib.hid (HE.out.removeB SX.out.ok s)
              have hwk := Lib.hid (Dsk.wkp_remove d s)
              clear h5 h6
              go_wp2_with fail
              refine hop.mono ?_
              clear hop
              intro e w5 ho
              obtain ⟨rfl, h5⟩ := SX.out.op ho
              have S5 := Lib.hid h5
              clear ho h5
              have hrf := rremove_any w5 RB r S5.out.rd HRK.out s
              go_wp2_with fail
              refine hrf.mono ?_
              clear hrf
              intro e w6 ho
              obtain ⟨rfl, h6⟩ := S5.out.ref ho
              have S6 := Lib.hid h6
              clear ho h6
              go_wp2_with fail
              go_meet
              exact ⟨_, _, _, rfl, by rw [hq.out.2], S6, Lib.hid hq.out.1, Lib.hid (by have := hwk.out; have := HW.out; omega)⟩
            · by_cases h89 : q = 8 ∨ q = 9
              · have hop := sync_any WX _ B d SX.out.dk HWK.out
                have hq := Lib.hid (HE.out.sync SX.out.ok)
                have hwk := Lib.hid (Dsk.wkp_sync d)
                clear h5 h6 h7
                rcases h89 with rfl | rfl
                all_goals
                  go_wp2_with fail
                  refine hop.mono ?_
                  clear hop
                  intro e w5 ho
                  obtain ⟨rfl, h5⟩ := SX.out.op ho
                  have S5 := Lib.hid h5
                  clear ho h5
                  have hrf := rsync_any w5 RB r S5.out.rd HRK.out
                  go_wp2_with fail
                  refine hrf.mono ?_
                  clear hrf
                  intro e w6 ho
                  obtain ⟨rfl, h6⟩ := S5.out.ref ho
                  have S6 := Lib.hid h6
                  clear ho h6
                  go_wp2_with fail
                  go_meet
                  exact ⟨_, _, _, rfl, by rw [hq.out.2], S6, Lib.hid hq.out.1, Lib.hid (by have := hwk.out; have := HW.out; omega)⟩
              · have h8 : ¬ q = 8 := fun e => h89 (.inl e)
                have h9 : ¬ q = 9 := fun e => h89 (.inr e)
                clear h89
                by_cases h10 : q = 10
                · subst h10
                  obtain ⟨x2, x3, x4, x5, xr⟩ := HCX.out _ _ _ SX.out
                  have hop := crash_any WX _ B d SX.out.dk zN zc
                  have hq := Lib.hid (HE.out.crash SX.out.ok zN zc)
                  clear h5 h6 h7 h8 h9 xr
                  go_wp2_with fail
                  refine hop.mono ?_
                  clear hop
                  rintro e w5 ⟨rfl, k1, k2, k3⟩
                  have S5 := Lib.hid (SX.out.go k1 k2 k3)
                  obtain ⟨y2, y3, y4, y5, yr⟩ := HCX.out _ _ _ S5.out
                  have hrf := rcrash_any w5 RB r S5.out.rd HRK.out zN zc HZN.out HZc.out
                  clear k1 k2 k3 x2 x3 x4 x5 yr
                  go_wp2_with fail
                  refine hrf.mono ?_
                  clear hrf
                  rintro e w6 ⟨rfl, k1, k2⟩
                  have S6 := Lib.hid (S5.out.stay k1 k2)
                  clear k1 k2
                  go_wp2_with fail
                  go_meet
                  exact ⟨_, _, 0, rfl, rfl, S6, hq, Lib.hid (Nat.le_succ_of_le HW.out)⟩
                · by_cases h11 : q = 11
                  · subst h11
                    obtain ⟨x2, x3, x4, x5, xr⟩ := HCX.out _ _ _ SX.out
                    have hp9 := pick_any WX zN 9 HZN.out.1 HZN.out.2 (by omega) (by omega)
                    obtain ⟨k, hk⟩ : ∃ k, k = zN % 9 := ⟨_, rfl⟩
                    rw [← hk] at hp9
                    have hk1 : 0 ≤ k ∧ k < 9 := by rw [hk]; exact ⟨Int.emod_nonneg _ (by omega), Int.emod_lt_of_pos _ (by omega)⟩
                    have hkw := wrapi' (k - 2) (by omega)
                    have hop := fuse_any WX _ B d SX.out.dk (k - 2) (by omega)
                    have hq := Lib.hid (HE.out.fused (if k - 2 < -1 then -1 else k - 2))
                    clear h5 h6 h7 h8 h9 h10 xr hk
                    go_wp2_with fail
                    refine hp9.mono ?_
                    clear hp9
                    rintro e w'' ⟨rfl, rfl⟩
                    go_wp2_with fail
                    refine hop.mono ?_
                    clear hop
                    rintro e w5 ⟨rfl, k1, k2, k3⟩
                    have S5 := Lib.hid (SX.out.go k1 k2 k3)
                    have hrf := rfuse_any w5 RB r S5.out.rd (k - 2)
                    clear k1 k2 k3 x2 x3 x4 x5
                    go_wp2_with fail
                    refine hrf.mono ?_
                    clear hrf
                    rintro e w6 ⟨rfl, k1, k2⟩
                    have S6 := Lib.hid (S5.out.stay k1 k2)
                    clear k1 k2
                    go_wp2_with fail
                    go_meet
                    exact ⟨_, _, 0, rfl, rfl, S6, hq, Lib.hid (Nat.le_succ_of_le HW.out)⟩
                  · obtain ⟨x2, x3, x4, x5, xr⟩ := HCX.out _ _ _ SX.out
                    have hop := appendB_any WX _ B d SX.out.dk HWK.out s xa xn xc xl xr HNO.out HRE.out
                    have hq := Lib.hid (HE.out.appendB SX.out.ok s xl)
                    have hwk := Lib.hid (Dsk.wkp_append d s xl)
                    have n5 : (q == 5) = false := beq_eq_false_iff_ne.2 h5
                    have n6 : (q == 6) = false := beq_eq_false_iff_ne.2 h6
                    have n7 : (q == 7) = false := beq_eq_false_iff_ne.2 h7
                    have n8 : (q == 8) = false := beq_eq_false_iff_ne.2 h8
                    have n9 : (q == 9) = false := beq_eq_false_iff_ne.2 h9
                    have n10 : (q == 10) = false := beq_eq_false_iff_ne.2 h10
                    have n11 : (q == 11) = false := beq_eq_false_iff_ne.2 h11
                    clear xr h5 h6 h7 h8 h9 h10 h11
                    go_wp2_with fail
                    refine hop.mono ?_
                    clear hop
                    intro e w5 ho
                    obtain ⟨rfl, h5⟩ := SX.out.op ho
                    have S5 := Lib.hid h5
                    clear ho h5
                    obtain ⟨y2, y3, y4, y5, yr⟩ := HCX.out _ _ _ S5.out
                    have hrf := rappend_any w5 RB r S5.out.rd HRK.out s xa xn xc xl yr HNO.out HRE.out
                    clear yr x2 x3 x4 x5
                    go_wp2_with fail
                    refine hrf.mono ?_
                    clear hrf
                    intro e w6 ho
                    obtain ⟨rfl, h6⟩ := S5.out.ref ho
                    have S6 := Lib.hid h6
                    clear ho h6
                    go_wp2_with fail
                    go_meet
                    exact ⟨_, _, _, rfl, by rw [hq.out.2], S6, Lib.hid hq.out.1, Lib.hid (by have := hwk.out; have := HW.out; omega)⟩
      case rest =>
        obtain ⟨d1, r1, k, rfl, rfl, S1, E1, W1⟩ := hcut
        clear HCX SX HE HW HRK HWK hq12 cw cn
        have hkd := kind_errv wc k (HG.out.below S1.out.bel HG.out.pos)
        have hkk : ((k : Int) != (k : Int)) = false := by simp
        have hkk' : ((k : Int) == (k : Int)) = true := by simp
        go_wp2_with fail
        refine hkd.mono ?_
        clear hkd
        rintro e w7 ⟨rfl, hb7⟩
        have S7 := Lib.hid (S1.out.below hb7)
        have hsm := dsame_any w7 _ B RB d1 r1 S7.out.dk S7.out.rd E1.out S7.out.ok
        clear hb7
        go_wp2_with fail
        refine hsm.mono ?_
        clear hsm
        rintro e w8 ⟨rfl, hb8⟩
        have S8 := Lib.hid (S7.out.below hb8)
        have D8 := Lib.hid S8.out.dk
        have R8 := Lib.hid S8.out.rd
        have B8 := Lib.hid S8.out.bel
        clear hb8 S7 S8 S1
        go_wp2
        go_roundg (gk - 1)
        case measure => have := HGK.out; omega
        case rel => exact ⟨i + 1, d1, r1, by go_num, by have := HGK.out; omega, by omega, by omega, D8, R8, E1, W1, B8⟩
    · obtain ⟨t0, q0, q0', q1⟩ : ∃ t0 : Bool, decide ((i : Int) < (n2 : Int)) = t0 ∧ decide (i < n2) = t0 ∧ (t0 = true → decide ((i : Int) < 60) = false ∧ decide (i < 60) = false) := by
        by_cases h : i < n2
        · exact ⟨true, decide_eq_true (by omega), decide_eq_true h, fun _ => ⟨decide_eq_false (by omega), decide_eq_false (by omega)⟩⟩
        · exact ⟨false, decide_eq_false (by omega), decide_eq_false h, fun e => by cases e⟩
      clear hgo HD HR HE HW hgk
      cases t0 with
      | true =>
        obtain ⟨q2, q2'⟩ := q1 rfl
        clear q1
        go_wp2
        go_ret
        exact ⟨rfl, HB.out⟩
      | false =>
        clear q1
        go_wp2
        go_ret
        exact ⟨rfl, HB.out⟩
end Go.Proofs.YtggdbdjaobgeeaaGreatDoor
