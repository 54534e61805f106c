/- RootPlays: what it comes to. -/
import Derived.Test.YtggdbdjaobgeeaaGreatDoorRpProg
import Derived.Test.YtggdbdjaobgeeaaGreatDoorRfCrash
import Derived.Test.YtggdbdjaobgeeaaGreatDoorRootKnown
import Derived.Test.YtggdbdjaobgeeaaGreatDoorRtAt
import Derived.Test.YtggdbdjaobgeeaaGreatDoorOpen
import Derived.Deep.Cut
import Derived.Deep.CutRange
import Derived.Deep.CutBlock
import Derived.Deep.LoopGhost
import Derived.Deep.RegionHeld3
namespace Go.Proofs.YtggdbdjaobgeeaaGreatDoor
open Go.RowKit Go.Tap Go.Maps
set_option linter.unusedVariables false
set_option linter.unusedSimpArgs false
attribute [local go_sem ↓] Go.wp_at_zero Go.wp_at_succ

theorem rds_belp {w w' : World} {a : Option Addr} {n : Nat} {l : List UInt8} (h : Rds w a n l) (hb : Below w.heap.size w w') : Rds w' a n l := h.below hb (fun h0 b o e => by subst e; exact h.lt h0)
def Rp.tab : List (List UInt8) := [[114, 111, 111, 116, 46, 110, 101, 119], [114, 111, 111, 116], [120]]
def Rp.name (k : Nat) : List UInt8 := Rp.tab[k]?.getD []
set_option maxRecDepth 100000 in
theorem rpidx (w : World) (k : Nat) (h : k < 3) : (Instr.index 63 (.agg #[.string ⟨#[114, 111, 111, 116, 46, 110, 101, 119]⟩, .string ⟨#[114, 111, 111, 116]⟩, .string ⟨#[120]⟩]) (.int .i64 (k : Int))).run Tryz.prog w = .ok (.string (str (Rp.name k))) w := by
  match k, h with
  | 0, _ => rfl
  | 1, _ => rfl
  | 2, _ => rfl
theorem rpgood (k : Nat) (h : k < 3) : Dsk.good (Rp.name k) := by
  match k, h with
  | 0, _ => exact ⟨by decide, by decide⟩
  | 1, _ => exact ⟨by decide, by decide⟩
  | 2, _ => exact ⟨by decide, by decide⟩
theorem rp_made (m : Nat) : (madeCells #[Value.int .u8 0] m).toList = bv (List.replicate m 0) := by
  apply List.ext_getElem
  · simp [madeCells, bv]
  · intro i h1 h2
    simp [madeCells, bv, Nat.mod_one]
set_option maxHeartbeats 8000000 in
set_option maxRecDepth 100000 in
theorem rootPlays_walk (w : World) (hg : EType w) (a1 : Int) (b1 : -9223372036854775808 ≤ a1 ∧ a1 ≤ 9223372036854775807) (s2 : Option Addr) (n2 c2 : Nat) (xs : List StepR) (g2 : ArgS7 140737488351232 w s2 n2 c2 xs) :
    Calls Tryz.prog 4 #[.int .i64 a1, .slice s2 n2 c2] w fun e w' => e = .returned (.bool true) ∧ Below w.heap.size w w' := by
  have hxl := g2.len
  have G2 := Lib.hid g2
  have HG := Lib.hid hg
  have hpk := pick_any w a1 200 b1.1 b1.2 (by omega) (by omega)
  obtain ⟨R, hR⟩ : ∃ R : Nat, a1 % 200 = R := ⟨(a1 % 200).toNat, by have := Int.emod_nonneg a1 (show (200 : Int) ≠ 0 by omega); omega⟩
  have hRl : R ≤ 200 := by have := Int.emod_lt_of_pos a1 (show (0 : Int) < 200 by omega); omega
  rw [hR] at hpk
  clear g2 hg hR b1
  go_enter Tryz.func4, Tryz.ntmps4
  go_wp2_with fail
  refine hpk.mono ?_
  clear hpk
  rintro e w' ⟨rfl, rfl⟩
  have hnw := new_any w R (by omega)
  go_wp2_with fail
  refine hnw.mono ?_
  clear hnw
  rintro e w1 ⟨B, rfl, h1, hb1⟩
  have hkn := known8 w1 (HG.out.below hb1 HG.out.pos)
  go_wp2_with fail
  refine hkn.mono ?_
  clear hkn
  rintro e w2 ⟨rfl, hb2⟩
  have b2 := hb1.trans (hb2.mono hb1.size)
  have H2 := h1.below hb2
  clear h1 hb1 hb2
  have hrn := rnew_any w2 R (by omega)
  go_wp2_with fail
  refine hrn.mono ?_
  clear hrn
  rintro e w3 ⟨RB, rfl, hRB, h3, hb3⟩
  have b3 := Lib.hid (b2.trans (hb3.mono b2.size))
  have H3 := Lib.hid (H2.below hb3)
  have R3 := Lib.hid h3
  have HRB := Lib.hid (Nat.le_trans b2.size hRB)
  have E3 := Lib.hid (Ref.eq_new R)
  have K3 := Lib.hid (Nat.zero_le 0)
  clear H2 hb3 b2 h3 hRB
  go_wp2_with fail
  go_loopg [7] 40 (fun gh iv wr => ∃ (i : Nat) (d : Dsk.Dk) (r : Ref.Rd), iv = .int .i64 (i : Int) ∧ i + gh = 40 ∧ i ≤ n2 ∧ i ≤ 40 ∧ Hid (IsDk wr w.heap.size B d) ∧ Hid (IsRd wr RB r) ∧ Hid (Ref.Eq d r) ∧ Hid (d.works ≤ 5 * i) ∧ Hid (Below w.heap.size w wr))
  case atStart => exact ⟨0, _, _, rfl, rfl, Nat.zero_le _, Nat.zero_le _, H3, R3, E3, K3, b3⟩
  case round =>
    clear H3 R3 E3 K3 b3
    obtain ⟨i, d, r, rfl, hgk, hin, hi10, HD, HR, HE, HW, HB⟩ := hrel
    by_cases hgo : i < n2 ∧ i < 40
    · have t0 : decide ((i : Int) < (n2 : Int)) = true := decide_eq_true (by omega)
      have t0' : decide (i < n2) = true := decide_eq_true hgo.1
      have t1 : decide ((i : Int) < 40) = true := decide_eq_true (by omega)
      have t1' : decide (i < 40) = true := decide_eq_true hgo.2
      have hi1 : (i : Int) < (n2 : Int) := by omega
      have hi0 : (0 : Int) ≤ (i : Int) := by omega
      have hx : xs[i]? = some (xs[i]'(by omega)) := List.getElem?_eq_getElem _
      generalize xs[i]'(by omega) = x at hx
      obtain ⟨b0, o0, rfl, hat⟩ := G2.out.at_ (by omega)
      obtain ⟨hxo, hcx, hxr⟩ := hat i x hx
      have hc0 := hcx 0 (by omega)
      have hc1 := hcx 1 (by omega)
      have hc2 := hcx 2 (by omega)
      have hc3 := hcx 3 (by omega)
      have hc4 := hcx 4 (by omega)
      have hc5 := hcx 5 (by omega)
      have hc6 := hcx 6 (by omega)
      rw [Nat.add_zero, show x.cells[0]? = some (.int .i64 x.what) from rfl] at hc0
      rw [show x.cells[1]? = some (.int .i64 x.n) from rfl] at hc1
      rw [show x.cells[2]? = some (.int .i64 x.cut) from rfl] at hc2
      rw [show x.cells[3]? = some (.int .i64 x.r.gen) from rfl] at hc3
      rw [show x.cells[4]? = some (.int .i64 x.r.idx) from rfl] at hc4
      rw [show x.cells[5]? = some (.int .i64 x.r.how) from rfl] at hc5
      rw [show x.cells[6]? = some (.slice x.r.s.a x.r.s.n x.r.s.c) from rfl] at hc6
      have hltx := World.block_lt_of_cell? w _ hc0
      have hk : ∀ (j : Nat) (v : Value), w.cell? ⟨b0, j, none⟩ = some v → wr.cell? ⟨b0, j, none⟩ = some v := fun j v h => (World.cell?_of_block (HB.out.block b0 hltx)).trans h
      have ca0 := hk _ _ hc0
      have ca1 := hk _ _ hc1
      have ca2 := hk _ _ hc2
      have ca3 := hk _ _ hc3
      have ca4 := hk _ _ hc4
      have ca5 := hk _ _ hc5
      have ca6 := hk _ _ hc6
      have HXR := Lib.hid hxr
      have HXO := Lib.hid hxo
      clear hat hxo hcx hxr hc0 hc1 hc2 hc3 hc4 hc5 hc6 hk hx
      obtain ⟨z, xn, xc, ⟨rg, ri, rh, ⟨ra, rn, rc, rl⟩⟩⟩ := x
      simp only at ca0 ca1 ca2 ca3 ca4 ca5 ca6 HXR HXO
      obtain ⟨hz, hzN, hzc⟩ := HXO.out
      have HZ := Lib.hid hz
      have HZN := Lib.hid hzN
      have HZc := Lib.hid hzc
      have hiw := wrapi' ((i : Int) + 1) (by omega)
      have HGK := Lib.hid hgk
      clear hgk hz hzN hzc HXO
      obtain ⟨xb, hxb⟩ : ∃ xb, xb = wr.heap.size := ⟨_, rfl⟩
      obtain ⟨WX, hWX⟩ : ∃ WX, WX = wr.alloc (.cells #[.int .i64 z, .int .i64 xn, .int .i64 xc, .int .i64 rg, .int .i64 ri, .int .i64 rh, .slice ra rn rc] 62) := ⟨_, rfl⟩
      have hbX : Below wr.heap.size wr WX := by rw [hWX]; exact (Below.refl _ _).alloc (Nat.le_refl _) _
      have hTX : WX.heap[xb]? = some (.cells #[.int .i64 z, .int .i64 xn, .int .i64 xc, .int .i64 rg, .int .i64 ri, .int .i64 rh, .slice ra rn rc] 62 (0, 0)) := by rw [hWX, hxb]; exact heap_alloc_new _ _
      have SX : Hid (DpSt w B RB xb #[.int .i64 z, .int .i64 xn, .int .i64 xc, .int .i64 rg, .int .i64 ri, .int .i64 rh, .slice ra rn rc] 62 WX d r) := Lib.hid ⟨HD.out.below hbX, HR.out.below hbX, HB.out.trans (hbX.mono HB.out.size), hTX, HRB.out, by decide⟩
      have cw : WX.cell? ⟨xb, 0, none⟩ = some (.int .i64 z) := blk_cell (i := 0) hTX rfl
      have HCX : Hid (∀ Y d r, DpSt w B RB xb #[.int .i64 z, .int .i64 xn, .int .i64 xc, .int .i64 rg, .int .i64 ri, .int .i64 rh, .slice ra rn rc] 62 Y d r → Y.cell? ⟨xb, 1, none⟩ = some (.int .i64 xn) ∧ Y.cell? ⟨xb, 2, none⟩ = some (.int .i64 xc)) := Lib.hid (fun Y d r h => ⟨blk_cell (i := 1) h.x rfl, blk_cell (i := 2) h.x rfl⟩)
      have hp8 := pick_any WX z 8 HZ.out.1 HZ.out.2 (by omega) (by omega)
      obtain ⟨q, hq⟩ : ∃ q, q = z % 8 := ⟨_, rfl⟩
      rw [← hq] at hp8
      have HWX := Lib.hid hWX
      have HXB := Lib.hid hxb
      have HTX := Lib.hid hTX
      clear hbX hTX HD HR HB hWX hxb hq
      go_wp2_with fail
      rw [← HWX.out, ← HXB.out]
      clear ca0 ca1 ca2 ca3 ca4 ca5 ca6 HWX HXB
      go_wp2_with fail
      refine hp8.mono ?_
      clear hp8
      rintro e w' ⟨rfl, rfl⟩
      have HRK : Hid (Ref.Rw r 99900) := Lib.hid ⟨d, HE.out, SX.out.ok, by have := HW.out; omega⟩
      have HWK : Hid (d.works ≤ 99900) := Lib.hid (by have := HW.out; omega)
      go_upto_block 2 with fail
      go_cut [9, 10, 11, 12] from 46 to 104 (fun _ _ _ _ wx => ∃ (d1 : Dsk.Dk) (r1 : Ref.Rd), Hid (DpSt w B RB xb #[.int .i64 z, .int .i64 xn, .int .i64 xc, .int .i64 rg, .int .i64 ri, .int .i64 rh, .slice ra rn rc] 62 wx d1 r1) ∧ Hid (Ref.Eq d1 r1) ∧ Hid (d1.works ≤ 5 * (i + 1)))
      case first =>
        by_cases h5 : q = 5
        · subst h5
          obtain ⟨x1, x2⟩ := HCX.out _ _ _ SX.out
          have hp9 := pick_any WX xn 9 HZN.out.1 HZN.out.2 (by omega) (by omega)
          obtain ⟨k, hk⟩ : ∃ k, k = xn % 9 := ⟨_, rfl⟩
          rw [← hk] at hp9
          have hk1 : 0 ≤ k ∧ k < 9 := by rw [hk]; exact ⟨Int.emod_nonneg _ (by omega), Int.emod_lt_of_pos _ (by omega)⟩
          have hkw := wrapi' (k - 1) (by omega)
          have hop := fuse_any WX _ B d SX.out.dk (k - 1) (by omega)
          have hq := Lib.hid (HE.out.fused (if k - 1 < -1 then -1 else k - 1))
          clear hk
          go_wp2_with fail
          refine hp9.mono ?_
          clear hp9
          rintro e w'' ⟨rfl, rfl⟩
          go_wp2_with fail
          refine hop.mono ?_
          clear hop
          rintro e w5 ⟨rfl, k1, k2, k3⟩
          have S5 := Lib.hid (SX.out.go k1 k2 k3)
          have hrf := rfuse_any w5 RB r S5.out.rd (k - 1)
          clear k1 k2 k3 x1 x2
          go_wp2_with fail
          refine hrf.mono ?_
          clear hrf
          rintro e w6 ⟨rfl, k1, k2⟩
          have S6 := Lib.hid (S5.out.stay k1 k2)
          clear k1 k2
          go_wp2_with fail
          go_meet
          exact ⟨_, _, S6, hq, Lib.hid (by have := HW.out; show d.works ≤ _; omega)⟩
        · by_cases h6 : q = 6
          · subst h6
            obtain ⟨x1, x2⟩ := HCX.out _ _ _ SX.out
            have hop := crash_any WX _ B d SX.out.dk xn xc
            have hq := Lib.hid (HE.out.crash SX.out.ok xn xc)
            clear h5
            go_wp2_with fail
            refine hop.mono ?_
            clear hop
            rintro e w5 ⟨rfl, k1, k2, k3⟩
            have S5 := Lib.hid (SX.out.go k1 k2 k3)
            obtain ⟨y1, y2⟩ := HCX.out _ _ _ S5.out
            have hrf := rcrash_any w5 RB r S5.out.rd HRK.out.ok xn xc HZN.out HZc.out
            clear k1 k2 k3 x1 x2
            go_wp2_with fail
            refine hrf.mono ?_
            clear hrf
            rintro e w6 ⟨rfl, k1, k2⟩
            have S6 := Lib.hid (S5.out.stay k1 k2)
            clear k1 k2
            go_wp2_with fail
            go_meet
            exact ⟨_, _, S6, hq, Lib.hid (by have := HW.out; show d.works ≤ _; omega)⟩
          · by_cases h7 : q = 7
            · subst h7
              obtain ⟨x1, x2⟩ := HCX.out _ _ _ SX.out
              have hp3 := pick_any WX xn 3 HZN.out.1 HZN.out.2 (by omega) (by omega)
              obtain ⟨k, hk⟩ : ∃ k : Nat, xn % 3 = k := ⟨(xn % 3).toNat, by have := Int.emod_nonneg xn (show (3 : Int) ≠ 0 by omega); omega⟩
              have hk3 : k < 3 := by have := Int.emod_lt_of_pos xn (show (0 : Int) < 3 by omega); omega
              rw [hk] at hp3
              have hix := rpidx WX k hk3
              have HGD := Lib.hid (rpgood k hk3)
              obtain ⟨s, hs⟩ : ∃ s, s = Rp.name k := ⟨_, rfl⟩
              rw [← hs] at hix HGD
              have hp20 := pick_any WX xc 20 HZc.out.1 HZc.out.2 (by omega) (by omega)
              obtain ⟨m, hm⟩ : ∃ m : Nat, xc % 20 = m := ⟨(xc % 20).toNat, by have := Int.emod_nonneg xc (show (20 : Int) ≠ 0 by omega); omega⟩
              have hm20 : m < 20 := by have := Int.emod_lt_of_pos xc (show (0 : Int) < 20 by omega); omega
              rw [hm] at hp20
              clear h5 h6 hk hs hm
              go_wp2_with fail
              refine hp3.mono ?_
              clear hp3
              rintro e w' ⟨rfl, rfl⟩
              go_wp2_with fail
              refine hp20.mono ?_
              clear hp20
              rintro e w' ⟨rfl, rfl⟩
              obtain ⟨iB, hi, hz0, hz1, hz2⟩ := info_parts Tryz.infoB
              go_wp2_with (refine wpList_make_full _ rfl (.tmp 93) (.tmp 93) 38 rfl WX.heap.size 5 iB _ 1 Tryz.underlying38 hi hz0 hz1 .i64 .i64 m m m rfl rfl rfl rfl (by rw [hz2]; omega) (by unfold maxLen; omega) (Nat.le_refl _) ?_)
              intro W5 hown5 hg5
              have b5' : Below WX.heap.size WX W5 := (Below.refl _ _).grown hg5 (Nat.le_refl _) (by intro j hj; cases hj)
              have hzm : (madeCells #[Value.int .u8 0] m).toList = bv (List.replicate m 0) := rp_made m
              rw [hzm] at hown5
              have S5 := Lib.hid (SX.out.below b5')
              have K5 : Keeps W5 (some ⟨WX.heap.size, 0, none⟩) m m (List.replicate m 0) := Keeps.of_own (by rw [List.length_replicate]; exact hown5) List.length_replicate
              have hop := appendB_any W5 _ B d S5.out.dk (by have := HWK.out; omega) s _ m m _ K5.rds K5.none (by omega)
              have hq := Lib.hid (HE.out.appendB SX.out.ok s (List.replicate m 0))
              have hwk := Lib.hid (Dsk.wkp_append d s (List.replicate m 0))
              have HK5 := Lib.hid K5
              clear b5' hzm hown5 hg5 hi hz0 hz1 hz2 K5 x1 x2
              go_wp2_with fail
              refine hop.mono ?_
              clear hop
              intro e W6 ho
              have hk6 := ho.2.2.2
              obtain ⟨rfl, h6⟩ := S5.out.op ho
              have S6 := Lib.hid h6
              have K6 := Lib.hid (HK5.out.stay hk6.ku)
              obtain ⟨kd, hkd⟩ : ∃ kd, kd = (d.appendB s (List.replicate m 0)).2 := ⟨_, rfl⟩
              have hkn := kind_errv W6 kd (HG.out.below S6.out.bel HG.out.pos)
              rw [← hkd]
              have HKD := Lib.hid hkd
              clear ho h6 hk6 hkd
              go_wp2_with fail
              refine hkn.mono ?_
              clear hkn
              rintro e W7 ⟨rfl, hb7⟩
              have S7 := Lib.hid (S6.out.below hb7)
              have K7 := Lib.hid (K6.out.below hb7)
              have hrf := rappend_any W7 RB r S7.out.rd HRK.out.ok s _ m m _ K7.out.rds K7.out.none (by omega)
              clear hb7
              go_wp2_with fail
              refine hrf.mono ?_
              clear hrf
              intro e W8 ho
              obtain ⟨rfl, h8⟩ := S7.out.ref ho
              rw [hq.out.2, ← show kd = _ from HKD.out]
              have S8 := Lib.hid h8
              have e0 : ((kd : Int) != (kd : Int)) = false := by simp
              have e1 : ((kd : Int) == (kd : Int)) = true := by simp
              clear ho h8
              go_wp2_with fail
              go_meet
              exact ⟨_, _, S8, Lib.hid hq.out.1, Lib.hid (by have := hwk.out; have := HW.out; show _ ≤ _; omega)⟩
            · have n5 : (q == 5) = false := beq_eq_false_iff_ne.2 h5
              have n6 : (q == 6) = false := beq_eq_false_iff_ne.2 h6
              have n7 : (q == 7) = false := beq_eq_false_iff_ne.2 h7
              clear h5 h6 h7
              have cx3 : WX.cell? ⟨xb, 3, none⟩ = some (.int .i64 rg) := blk_cell (i := 3) HTX.out rfl
              have cx4 : WX.cell? ⟨xb, 4, none⟩ = some (.int .i64 ri) := blk_cell (i := 4) HTX.out rfl
              have cx5 : WX.cell? ⟨xb, 5, none⟩ = some (.int .i64 rh) := blk_cell (i := 5) HTX.out rfl
              have cx6 : WX.cell? ⟨xb, 6, none⟩ = some (.slice ra rn rc) := blk_cell (i := 6) HTX.out rfl
              have hone := rone_any WX 140737488351232 ⟨rg, ri, rh, ⟨ra, rn, rc, rl⟩⟩ (argR_below HXR.out SX.out.bel)
              obtain ⟨t, ht⟩ : ∃ t, t = oneR ⟨rg, ri, rh, ⟨ra, rn, rc, rl⟩⟩ := ⟨_, rfl⟩
              rw [← ht] at hone
              clear ht
              go_wp2_with fail
              refine hone.mono ?_
              clear hone
              rintro e w5 ⟨qa, qn, qc, rfl, ho5, hb5, hq10⟩
              obtain ⟨rb, hrb⟩ : ∃ rb, rb = w5.heap.size := ⟨_, rfl⟩
              obtain ⟨W6, hW6⟩ : ∃ W6, W6 = w5.alloc (.cells #[.int .i64 t.gen, .slice qa qn qc, .int .i64 t.idx] 67) := ⟨_, rfl⟩
              have hb6 : Below w5.heap.size w5 W6 := by rw [hW6]; exact (Below.refl _ _).alloc (Nat.le_refl _) _
              have P6 : Hid (RpPS w B RB xb #[.int .i64 z, .int .i64 xn, .int .i64 xc, .int .i64 rg, .int .i64 ri, .int .i64 rh, .slice ra rn rc] 62 rb t qa qn qc d r W6 false false .nilIface) := by
                have s5 := SX.out.below hb5
                refine Lib.hid ⟨by simpa using s5.below hb6, ?_, own_blw (ownsRow_base ho5 SX.out.bel.size) hb6, fun e => by cases e⟩
                rw [hW6, hrb]; exact heap_alloc_new _ _
              have HQ10 := Lib.hid hq10
              have HW6 := Lib.hid hW6
              have HRBk := Lib.hid hrb
              clear ho5 hb5 hb6 hq10 hW6 hrb cx3 cx4 cx5 cx6 cw
              go_wp2_with fail
              rw [← HW6.out, ← HRBk.out]
              clear HW6 HRBk
              have FS : Hid (∀ X rs ev, RpPS w B RB xb #[.int .i64 z, .int .i64 xn, .int .i64 xc, .int .i64 rg, .int .i64 ri, .int .i64 rh, .slice ra rn rc] 62 rb t qa qn qc d r X false rs ev → Calls Tryz.prog 32 #[.pointer (some ⟨B, 0, none⟩), .agg #[.int .i64 t.gen, .slice qa qn qc, .int .i64 t.idx]] X fun e Y => ∃ ev, e = .returned ev ∧ Hid (RpPS w B RB xb #[.int .i64 z, .int .i64 xn, .int .i64 xc, .int .i64 rg, .int .i64 ri, .int .i64 rh, .slice ra rn rc] 62 rb t qa qn qc d r Y true rs ev)) := Lib.hid (fun X rs ev h => (h.save (by have := HWK.out; omega) (by have := HQ10.out; omega)).mono fun e Y ⟨ev, h1, h2⟩ => ⟨ev, h1, Lib.hid h2⟩)
              obtain ⟨kd, hkd⟩ : ∃ kd, kd = (Rt.saveA d t).2 := ⟨_, rfl⟩
              have PR := Ref.pair_saveA HE.out SX.out.ok HW.out (by omega) t
              have FK : Hid (∀ X rs ev, RpPS w B RB xb #[.int .i64 z, .int .i64 xn, .int .i64 xc, .int .i64 rg, .int .i64 ri, .int .i64 rh, .slice ra rn rc] 62 rb t qa qn qc d r X true rs ev → Calls Tryz.prog 15 #[ev] X fun e Y => e = .returned (.int .i64 (kd : Int)) ∧ Hid (RpPS w B RB xb #[.int .i64 z, .int .i64 xn, .int .i64 xc, .int .i64 rg, .int .i64 ri, .int .i64 rh, .slice ra rn rc] 62 rb t qa qn qc d r Y true rs ev)) := Lib.hid (fun X rs ev h => (h.kind HG.out).mono fun e Y ⟨h1, h2⟩ => ⟨by rw [hkd]; exact h1, Lib.hid h2⟩)
              have FR : Hid (∀ X sv ev, RpPS w B RB xb #[.int .i64 z, .int .i64 xn, .int .i64 xc, .int .i64 rg, .int .i64 ri, .int .i64 rh, .slice ra rn rc] 62 rb t qa qn qc d r X sv false ev → Calls Tryz.prog 33 #[.pointer (some ⟨RB, 0, none⟩), .agg #[.int .i64 t.gen, .slice qa qn qc, .int .i64 t.idx]] X fun e Y => e = .returned (.int .i64 (kd : Int)) ∧ Hid (RpPS w B RB xb #[.int .i64 z, .int .i64 xn, .int .i64 xc, .int .i64 rg, .int .i64 ri, .int .i64 rh, .slice ra rn rc] 62 rb t qa qn qc d r Y sv true ev)) := Lib.hid (fun X sv ev h => (h.ref HRK.out (by have := HQ10.out; omega)).mono fun e Y ⟨h1, h2⟩ => ⟨by rw [hkd, ← PR.code]; exact h1, Lib.hid h2⟩)
              have FP : Hid (∀ X sv rs ev, RpPS w B RB xb #[.int .i64 z, .int .i64 xn, .int .i64 xc, .int .i64 rg, .int .i64 ri, .int .i64 rh, .slice ra rn rc] 62 rb t qa qn qc d r X sv rs ev → Calls Tryz.prog 34 #[.agg #[.int .i64 t.gen, .slice qa qn qc, .int .i64 t.idx]] X fun e Y => e = .returned (.agg #[.int .i64 t.gen, .slice qa qn qc, .int .i64 t.idx]) ∧ Hid (RpPS w B RB xb #[.int .i64 z, .int .i64 xn, .int .i64 xc, .int .i64 rg, .int .i64 ri, .int .i64 rh, .slice ra rn rc] 62 rb t qa qn qc d r Y sv rs ev)) := Lib.hid (fun X sv rs ev h => h.plain.mono fun e Y ⟨h1, h2⟩ => ⟨h1, Lib.hid h2⟩)
              have FC : Hid (∀ X sv rs ev, RpPS w B RB xb #[.int .i64 z, .int .i64 xn, .int .i64 xc, .int .i64 rg, .int .i64 ri, .int .i64 rh, .slice ra rn rc] 62 rb t qa qn qc d r X sv rs ev → X.cell? ⟨rb, 0, none⟩ = some (.int .i64 t.gen) ∧ X.cell? ⟨rb, 1, none⟩ = some (.slice qa qn qc) ∧ X.cell? ⟨rb, 2, none⟩ = some (.int .i64 t.idx)) := Lib.hid (fun X sv rs ev h => ⟨blk_cell (i := 0) h.rt rfl, blk_cell (i := 1) h.rt rfl, blk_cell (i := 2) h.rt rfl⟩)
              have P0 : Hid (RpPS w B RB xb #[.int .i64 z, .int .i64 xn, .int .i64 xc, .int .i64 rg, .int .i64 ri, .int .i64 rh, .slice ra rn rc] 62 rb t qa qn qc d r W6.drew false false .nilIface) := Lib.hid (P6.out.below ⟨rfl, rfl, rfl, Nat.le_refl _, fun _ _ => rfl⟩)
              obtain ⟨c0, c1, c2⟩ := FC.out _ _ _ _ P6.out
              have HPR := Lib.hid PR
              have HKD := Lib.hid hkd
              clear hkd PR
              go_region_held3 (fun w' => w'.cell? ⟨rb, 0, none⟩ = some (.int .i64 t.gen) ∧ w'.cell? ⟨rb, 1, none⟩ = some (.slice qa qn qc) ∧ w'.cell? ⟨rb, 2, none⟩ = some (.int .i64 t.idx))
                (exact FC.out _ _ _ _ P0.out)
                (first
                  | (go_at_call 32; refine (FS.out _ _ _ P0.out).mono ?_; clear P0; rintro e Y ⟨ev, rfl, P0⟩)
                  | (go_at_call 15; refine (FK.out _ _ _ P0.out).mono ?_; clear P0; rintro e Y ⟨rfl, P0⟩)
                  | (go_at_call 33; refine (FR.out _ _ _ P0.out).mono ?_; clear P0; rintro e Y ⟨rfl, P0⟩)
                  | (go_at_call 34; refine (FP.out _ _ _ _ P0.out).mono ?_; clear P0; rintro e Y ⟨rfl, P0⟩))
              have hst := P0.out.st
              simp only [if_true] at hst
              have S7 := Lib.hid hst
              have e0 : ((kd : Int) != (kd : Int)) = false := by simp
              have e1 : ((kd : Int) == (kd : Int)) = true := by simp
              clear hst P0 FS FK FR FP FC P6
              go_wp2_with fail
              go_meet
              exact ⟨_, _, S7, Lib.hid HPR.out.eq, Lib.hid (by have := HPR.out.works; show _ ≤ _; omega)⟩
      case rest =>
        obtain ⟨d1, r1, S1, E1, W1⟩ := hcut
        clear HCX SX HE HW HRK HWK cw
        have hld := dload_any wc _ B d1 S1.out.dk r1 E1.out S1.out.ok
        go_wp2_with fail
        refine hld.mono ?_
        clear hld
        intro e w7 hl
        obtain ⟨hb7, s, a7, n7, c7, fv, kc, rfl, ho7, hn7, hev, hQ⟩ := dload_kv hl
        obtain ⟨b8, hb8⟩ : ∃ b8, b8 = w7.heap.size := ⟨_, rfl⟩
        obtain ⟨W8, hW8⟩ : ∃ W8, W8 = w7.alloc (.cells #[.int .i64 s.gen, .slice a7 n7 c7, .int .i64 s.idx] 67) := ⟨_, rfl⟩
        have hbW : Below w7.heap.size w7 W8 := by rw [hW8]; exact (Below.refl _ _).alloc (Nat.le_refl _) _
        have T8 : Hid (W8.heap[b8]? = some (.cells #[.int .i64 s.gen, .slice a7 n7 c7, .int .i64 s.idx] 67 (0, 0))) := Lib.hid (by rw [hW8, hb8]; exact heap_alloc_new _ _)
        have O8 := Lib.hid (own_blw ho7 hbW)
        have S8 := Lib.hid ((S1.out.below hb7).below hbW)
        have HEV := Lib.hid hev
        have HQ := Lib.hid hQ
        have HW8 := Lib.hid hW8
        have HB8 := Lib.hid hb8
        have hrl := rload_any W8 RB r1 S8.out.rd ⟨d1, E1.out, S8.out.ok⟩
        clear hl hb7 ho7 hev hQ hbW hW8 hb8
        go_wp2_with fail
        rw [← HW8.out, ← HB8.out]
        clear HW8 HB8
        go_wp2_with fail
        refine hrl.mono ?_
        clear hrl
        intro e w9 hl
        obtain ⟨hb9, a9, n9, c9, rfl, ho9, hn9⟩ := rload_kv hl HQ.out
        obtain ⟨b10, hb10⟩ : ∃ b10, b10 = w9.heap.size := ⟨_, rfl⟩
        obtain ⟨W10, hW10⟩ : ∃ W10, W10 = w9.alloc (.cells #[.int .i64 s.gen, .slice a9 n9 c9, .int .i64 s.idx] 71) := ⟨_, rfl⟩
        have hbW : Below w9.heap.size w9 W10 := by rw [hW10]; exact (Below.refl _ _).alloc (Nat.le_refl _) _
        have T10 : Hid (W10.heap[b10]? = some (.cells #[.int .i64 s.gen, .slice a9 n9 c9, .int .i64 s.idx] 71 (0, 0))) := Lib.hid (by rw [hW10, hb10]; exact heap_alloc_new _ _)
        have O10 := Lib.hid (own_blw ho9 hbW)
        have S10 := Lib.hid ((S8.out.below hb9).below hbW)
        have T8' : Hid (W10.heap[b8]? = some (.cells #[.int .i64 s.gen, .slice a7 n7 c7, .int .i64 s.idx] 67 (0, 0))) := Lib.hid ((hbW.block b8 (Nat.lt_of_lt_of_le (blk_lt T8.out) hb9.size)).trans ((hb9.block b8 (blk_lt T8.out)).trans T8.out))
        have O8' := Lib.hid (own_blw (own_blw O8.out hb9) hbW)
        have HW10 := Lib.hid hW10
        have HB10 := Lib.hid hb10
        have HN7 := Lib.hid hn7
        have HN9 := Lib.hid hn9
        clear hl hb9 ho9 hbW hW10 hb10 T8 O8 S8 S1 hn7 hn9
        go_wp2_with fail
        rw [← HW10.out, ← HB10.out]
        clear HW10 HB10
        obtain ⟨dd, hdd⟩ : ∃ dd, dd = r1.dead := ⟨_, rfl⟩
        obtain ⟨wk, hwk⟩ : ∃ wk, wk = r1.works := ⟨_, rfl⟩
        obtain ⟨U, hU⟩ : ∃ U, U = (if r1.dead = true then 0 else Dsk.used r1.now) := ⟨_, rfl⟩
        have HO := Lib.hid S10.out.ok
        have F1 : Hid (∀ X, Below W10.heap.size W10 X → Calls Tryz.prog 19 #[.pointer (some ⟨B, 0, none⟩)] X fun e Y => e = .returned (.bool dd) ∧ Hid (Below W10.heap.size W10 Y)) := Lib.hid (fun X h => by rw [hdd, E1.out.dead]; exact (dead_any X _ B d1 (S10.out.dk.below h)).mono fun e Y ⟨q1, q2⟩ => ⟨q1, by rw [q2]; exact Lib.hid h⟩)
        have F2 : Hid (∀ X, Below W10.heap.size W10 X → Calls Tryz.prog 38 #[.pointer (some ⟨B, 0, none⟩)] X fun e Y => e = .returned (.int .i64 (wk : Int)) ∧ Hid (Below W10.heap.size W10 Y)) := Lib.hid (fun X h => by rw [hwk, E1.out.works]; exact (works_any X _ B d1 (S10.out.dk.below h)).mono fun e Y ⟨q1, q2⟩ => ⟨q1, by rw [q2]; exact Lib.hid h⟩)
        have F4 : Hid (∀ X, Below W10.heap.size W10 X → Calls Tryz.prog 39 #[.pointer (some ⟨B, 0, none⟩)] X fun e Y => e = .returned (.int .i64 (U : Int)) ∧ Hid (Below W10.heap.size W10 Y)) := Lib.hid (fun X h => by rw [hU]; exact (dused_any X _ B d1 (S10.out.dk.below h) HO.out r1 E1.out).mono fun e Y ⟨q1, q2⟩ => ⟨q1, Lib.hid (h.trans (q2.mono h.size))⟩)
        have F5 : Hid (∀ X, Below W10.heap.size W10 X → Calls Tryz.prog 40 #[.pointer (some ⟨RB, 0, none⟩)] X fun e Y => e = .returned (.int .i64 (U : Int)) ∧ Hid (Below W10.heap.size W10 Y)) := Lib.hid (fun X h => by rw [hU]; exact (rusedd_any X RB r1 (S10.out.rd.below h) ⟨d1, E1.out, HO.out⟩).mono fun e Y ⟨q1, q2⟩ => ⟨q1, Lib.hid (h.trans (q2.mono h.size))⟩)
        have F6 : Hid (∀ X, Below W10.heap.size W10 X → Calls Tryz.prog 15 #[fv] X fun e Y => e = .returned (.int .i64 (kc : Int)) ∧ Hid (Below W10.heap.size W10 Y)) := Lib.hid (fun X h => ((HEV.out X).kind (HG.out.below (S10.out.bel.trans (h.mono S10.out.bel.size)) HG.out.pos)).mono fun e Y ⟨q1, q2⟩ => ⟨q1, Lib.hid (h.trans (q2.mono h.size))⟩)
        have F7 : Hid (∀ X, Below W10.heap.size W10 X → Calls Tryz.prog 34 #[.agg #[.int .i64 s.gen, .slice a7 n7 c7, .int .i64 s.idx]] X fun e Y => e = .returned (.agg #[.int .i64 s.gen, .slice a7 n7 c7, .int .i64 s.idx]) ∧ Hid (Below W10.heap.size W10 Y)) := Lib.hid (fun X h => (plain_any X _ _ _ _ _).mono fun e Y ⟨q1, q2⟩ => ⟨q1, Lib.hid (h.trans (q2.mono h.size))⟩)
        have F8 : Hid (∀ X, Below W10.heap.size W10 X → Calls Tryz.prog 37 #[.agg #[.int .i64 s.gen, .slice a7 n7 c7, .int .i64 s.idx], .agg #[.int .i64 s.gen, .slice a9 n9 c9, .int .i64 s.idx]] X fun e Y => e = .returned (.bool true) ∧ Hid (Below W10.heap.size W10 Y)) := Lib.hid (fun X h => (sameRoot_any X s.gen s.idx a7 n7 c7 s.logs (Ints.of_own (own_blw O8'.out h)) s.gen s.idx a9 n9 c9 s.logs (Ints.of_own (own_blw O10.out h)) (by have := HN7.out; omega) (by have := HN9.out; omega)).mono fun e Y ⟨q1, q2⟩ => ⟨by rw [q1]; simp, Lib.hid (h.trans (q2.mono h.size))⟩)
        obtain ⟨pa, pc, z2, z4, z5⟩ := S10.out.rd.cells
        rw [← hdd] at z4
        rw [← hwk] at z5
        have S0 : Hid (∀ X, Below W10.heap.size W10 X → X.cell? ⟨RB, 4, none⟩ = some (.bool dd) ∧ X.cell? ⟨RB, 5, none⟩ = some (.int .i64 (wk : Int)) ∧ X.cell? ⟨b8, 0, none⟩ = some (.int .i64 s.gen) ∧ X.cell? ⟨b8, 1, none⟩ = some (.slice a7 n7 c7) ∧ X.cell? ⟨b8, 2, none⟩ = some (.int .i64 s.idx) ∧ X.cell? ⟨b10, 0, none⟩ = some (.int .i64 s.gen) ∧ X.cell? ⟨b10, 1, none⟩ = some (.slice a9 n9 c9) ∧ X.cell? ⟨b10, 2, none⟩ = some (.int .i64 s.idx)) := Lib.hid (fun X h => by
          have q := blk_same (h.block RB S10.out.rd.lt)
          have t8 := (h.block b8 (blk_lt T8'.out)).trans T8'.out
          have t10 := (h.block b10 (blk_lt T10.out)).trans T10.out
          exact ⟨(q 4).trans z4, (q 5).trans z5, blk_cell (i := 0) t8 rfl, blk_cell (i := 1) t8 rfl, blk_cell (i := 2) t8 rfl, blk_cell (i := 0) t10 rfl, blk_cell (i := 1) t10 rfl, blk_cell (i := 2) t10 rfl⟩)
        have D0 : Hid (Below W10.heap.size W10 W10.drew) := Lib.hid ⟨rfl, rfl, rfl, Nat.le_refl _, fun _ _ => rfl⟩
        clear hdd hwk hU z2 z4 z5 pa pc
        go_region_held3 (fun w' => w'.cell? ⟨RB, 4, none⟩ = some (.bool dd) ∧ w'.cell? ⟨RB, 5, none⟩ = some (.int .i64 (wk : Int)) ∧ w'.cell? ⟨b8, 0, none⟩ = some (.int .i64 s.gen) ∧ w'.cell? ⟨b8, 1, none⟩ = some (.slice a7 n7 c7) ∧ w'.cell? ⟨b8, 2, none⟩ = some (.int .i64 s.idx) ∧ w'.cell? ⟨b10, 0, none⟩ = some (.int .i64 s.gen) ∧ w'.cell? ⟨b10, 1, none⟩ = some (.slice a9 n9 c9) ∧ w'.cell? ⟨b10, 2, none⟩ = some (.int .i64 s.idx))
          (exact S0.out _ D0.out)
          (first
            | (go_at_call 15; refine (F6.out _ D0.out).mono ?_; clear D0; rintro e Y ⟨rfl, D0⟩)
            | (go_at_call 34; refine (F7.out _ D0.out).mono ?_; clear D0; rintro e Y ⟨rfl, D0⟩)
            | (go_at_call 37; refine (F8.out _ D0.out).mono ?_; clear D0; rintro e Y ⟨rfl, D0⟩)
            | (go_at_call 38; refine (F2.out _ D0.out).mono ?_; clear D0; rintro e Y ⟨rfl, D0⟩)
            | (go_at_call 19; refine (F1.out _ D0.out).mono ?_; clear D0; rintro e Y ⟨rfl, D0⟩)
            | (go_at_call 39; refine (F4.out _ D0.out).mono ?_; clear D0; rintro e Y ⟨rfl, D0⟩)
            | (go_at_call 40; refine (F5.out _ D0.out).mono ?_; clear D0; rintro e Y ⟨rfl, D0⟩))
        have S11 := S10.out.below D0.out
        have D11 := Lib.hid S11.dk
        have R11 := Lib.hid S11.rd
        have B11 := Lib.hid S11.bel
        clear S11 F1 F2 F4 F5 F6 F7 F8 S0 D0
        go_wp2
        go_roundg (gk - 1)
        case measure => have := HGK.out; omega
        case rel => exact ⟨i + 1, d1, r1, by go_num, by have := HGK.out; omega, by omega, by omega, D11, R11, E1, W1, B11⟩
    · obtain ⟨t0, q0, q0', q1⟩ : ∃ t0 : Bool, decide ((i : Int) < (n2 : Int)) = t0 ∧ decide (i < n2) = t0 ∧ (t0 = true → decide ((i : Int) < 40) = false ∧ decide (i < 40) = false) := by
        by_cases h : i < n2
        · exact ⟨true, decide_eq_true (by omega), decide_eq_true h, fun _ => ⟨decide_eq_false (by omega), decide_eq_false (by omega)⟩⟩
        · exact ⟨false, decide_eq_false (by omega), decide_eq_false h, fun e => by cases e⟩
      clear hgo HD HR HE HW hgk
      cases t0 with
      | true =>
        obtain ⟨q2, q2'⟩ := q1 rfl
        clear q1
        go_wp2
        go_ret
        exact ⟨rfl, HB.out⟩
      | false =>
        clear q1
        go_wp2
        go_ret
        exact ⟨rfl, HB.out⟩
end Go.Proofs.YtggdbdjaobgeeaaGreatDoor
