/- LogPlays: what it comes to. -/
import Derived.Test.YtkalpkmnelgieaaGreatDoorLgSm
import Derived.Test.YtkalpkmnelgieaaGreatDoorRfCrash
import Derived.Test.YtkalpkmnelgieaaGreatDoorOpen
import Derived.Deep.Cut
import Derived.Deep.CutRange
import Derived.Deep.CutBlock
import Derived.Deep.LoopGhost
import Derived.Deep.RegionHeld3
namespace Go.Proofs.YtkalpkmnelgieaaGreatDoor
open Go.RowKit Go.Tap Go.Maps
set_option linter.unusedVariables false
set_option linter.unusedSimpArgs false
attribute [local go_sem ↓] Go.wp_at_zero Go.wp_at_succ

theorem rds_bell {w w' : World} {a : Option Addr} {n : Nat} {l : List UInt8} (h : Rds w a n l) (hb : Below w.heap.size w w') : Rds w' a n l := h.below hb (fun h0 b o e => by subst e; exact h.lt h0)
theorem frs_len9 : ∀ (l : Its), 9 * l.length ≤ (frs l).length
  | [] => Nat.le_refl _
  | p :: r => by
    have := frs_len9 r
    show _ ≤ (frm (p.1 : Int) p.2 ++ frs r).length
    rw [List.length_append, frm_length, List.length_cons]; omega
theorem room_putr (d : Dsk.Dk) (x : Dsk.Wk) (g : Dsk.Files) : (d.putr x g).1.room = d.room := by
  have h := d.one_same.2.2.2
  unfold Dsk.Dk.putr; split <;> exact h
theorem room_append (d : Dsk.Dk) (s : Dsk.Name) (l : List UInt8) : (d.append s l).1.room = d.room := by
  unfold Dsk.Dk.append; split
  · rfl
  · split
    · rfl
    · exact room_putr _ _ _
theorem room_trunc (d : Dsk.Dk) (s : Dsk.Name) (n : Int) : (d.trunc s n).1.room = d.room := by
  unfold Dsk.Dk.trunc; split
  · split
    · rfl
    · exact room_putr _ _ _
  · rfl
theorem room_cutd (d : Dsk.Dk) (b : Bool) (T : Nat) : (d.cutd b T).1.room = d.room := by
  unfold Dsk.Dk.cutd; split
  · exact room_trunc _ _ _
  · rfl
theorem room_opn (d : Dsk.Dk) (len : Nat) : (d.opn len).1.room = d.room := by
  unfold Dsk.Dk.opn; split
  · rfl
  · split
    · rfl
    · split
      · split <;> exact room_trunc _ _ _
      · rfl
theorem opn_err {d : Dsk.Dk} {len k : Nat} (h : (d.opn len).2 = .error k) : k ≠ 0 := by
  unfold Dsk.Dk.opn at h
  split at h
  · injection h with h; omega
  · split at h
    · injection h with h; rw [← h]; assumption
    · split at h
      · split at h
        · cases h
        · injection h with h; rw [← h]; assumption
      · cases h
theorem or_false2 {a b : Bool} (h : false = (a || b)) : b = false := by cases a <;> cases b <;> first | rfl | cases h
theorem opn_new (R : Nat) : ((Dsk.newD R).opn 0).2 = .ok [] := rfl
theorem val_room {d : Dsk.Dk} (ho : Dsk.Ok d) (ha : Dsk.Apart d.now) (s : Dsk.Name) : (Dsk.val d.now s).length ≤ d.room := Nat.le_trans (Dsk.val_le ha s) ho.small'
theorem tmod3 (z : Int) : IntKind.i64.wrap (z.tmod 3) = z.tmod 3 := by
  have h1 := Int.tmod_lt_of_pos z (b := 3) (by omega)
  have h2 : -3 < z.tmod 3 := by have := Int.tmod_lt_of_pos (-z) (b := 3) (by omega); rw [Int.neg_tmod] at this; omega
  exact wrapi' _ (by omega)
theorem tmod10 (z : Int) : IntKind.i64.wrap (z.tmod 10) = z.tmod 10 := by
  have h1 := Int.tmod_lt_of_pos z (b := 10) (by omega)
  have h2 : -10 < z.tmod 10 := by have := Int.tmod_lt_of_pos (-z) (b := 10) (by omega); rw [Int.neg_tmod] at this; omega
  exact wrapi' _ (by omega)
set_option maxHeartbeats 8000000 in
set_option maxRecDepth 100000 in
theorem logPlays_walk (w : World) (hg : EType w) (a1 : Int) (b1 : -9223372036854775808 ≤ a1 ∧ a1 ≤ 9223372036854775807) (s2 : Option Addr) (n2 c2 : Nat) (xs : List StepF) (g2 : ArgS4 140737488351232 w s2 n2 c2 xs) :
    Calls Tryz.prog 3 #[.int .i64 a1, .slice s2 n2 c2] w fun e w' => e = .returned (.bool true) ∧ Below w.heap.size w w' := by
  have hxl := g2.len
  have G2 := Lib.hid g2
  have HG := Lib.hid hg
  have hpk := pick_any w a1 400 b1.1 b1.2 (by omega) (by omega)
  obtain ⟨R0, hR⟩ : ∃ R : Nat, a1 % 400 = R := ⟨(a1 % 400).toNat, by have := Int.emod_nonneg a1 (show (400 : Int) ≠ 0 by omega); omega⟩
  have hRl : R0 ≤ 400 := by have := Int.emod_lt_of_pos a1 (show (0 : Int) < 400 by omega); omega
  rw [hR] at hpk
  obtain ⟨R, hRR⟩ : ∃ R, R = 100 + R0 := ⟨_, rfl⟩
  have hR5 : R ≤ 500 := by omega
  have hrw : IntKind.i64.wrap (100 + (R0 : Int)) = (R : Int) := by rw [hRR]; push_cast; exact wrapi' _ (by omega)
  clear g2 hg hR b1 hRR
  go_enter Tryz.func3, Tryz.ntmps3
  go_wp2_with fail
  refine hpk.mono ?_
  clear hpk
  rintro e w' ⟨rfl, rfl⟩
  have hnw := new_any w R (by omega)
  go_wp2_with fail
  (try rw [hrw])
  refine hnw.mono ?_
  clear hnw
  rintro e w1 ⟨B, rfl, h1, hb1⟩
  have hkn := known7 w1
  go_wp2_with fail
  refine hkn.mono ?_
  clear hkn
  rintro e w2 ⟨rfl, hb2⟩
  have b2 := hb1.trans (hb2.mono hb1.size)
  have H2 := h1.below hb2
  clear h1 hb1 hb2
  have hrn := rnew_any w2 R (by omega)
  go_wp2_with fail
  refine hrn.mono ?_
  clear hrn
  rintro e w3 ⟨RB, rfl, hRB, h3, hb3⟩
  have b3 := Lib.hid (b2.trans (hb3.mono b2.size))
  have H3 := Lib.hid (H2.below hb3)
  have R3 := Lib.hid h3
  have HRB := Lib.hid (Nat.le_trans b2.size hRB)
  have hok0 : Dsk.Ok (Dsk.newD R) := by obtain ⟨_, _, _, _, q⟩ := H3.out; exact q
  obtain ⟨E1, E2, E3⟩ := (Ref.eq_new R).opn hok0 rfl 0
  rw [opn_new R] at E2
  have hop := popen_any w3 _ B _ H3.out (Nat.zero_le _) rfl 0 _ rfl
  have hrk : Rok (⟨R, [], [], -1, false, 0⟩ : Ref.Rd) := ⟨_, Ref.eq_new R, hok0⟩
  obtain ⟨qd, hqd⟩ : ∃ qd, qd = (Dsk.newD R).opn 0 := ⟨_, rfl⟩
  have hq2 : qd.2 = .ok [] := by rw [hqd]; exact opn_new R
  have hroom : qd.1.room = R := by rw [hqd]; exact room_opn _ _
  obtain ⟨r0, hr0⟩ : ∃ r0 : Ref.Rd, r0 = ⟨R, [], [], -1, false, 0⟩ := ⟨_, rfl⟩
  rw [← hqd] at hop E1 E3
  rw [← hr0] at E1 E2 R3 hrk
  obtain ⟨qr, hqr⟩ : ∃ qr, qr = r0.opn 0 := ⟨_, rfl⟩
  rw [← hqr] at E1 E2
  obtain ⟨d0, o0⟩ := qd
  simp only at hq2 hroom E1 E3
  subst hq2
  have hE3 : d0.works ≤ 2 := by have : (Dsk.newD R).works = 0 := rfl; omega
  have HE := Lib.hid E1
  have HW := Lib.hid hE3
  have HRM := Lib.hid hroom
  have HRK := Lib.hid hrk
  have HQR := Lib.hid hqr
  have HE2 := Lib.hid E2
  clear H2 hb3 b2 h3 hRB hqd hr0 hqr hok0 E1 E2 E3 hE3 hroom hrk hrw
  go_wp2_with fail
  rw [show ((0 : Nat) : Int) = 0 from rfl] at hop
  refine hop.mono ?_
  clear hop
  intro e w4 ho
  obtain ⟨LB, he4, hl4⟩ := ho.res
  subst he4
  have D4 := Lib.hid ho.dk
  have L4 := Lib.hid hl4
  have B4 := Lib.hid (b3.out.trans ho.bel)
  have R4 := Lib.hid (R3.out.keepT ho.kt)
  have hro := ropen_any w4 RB r0 R4.out HRK.out 0 (by omega) _ HQR.out
  rw [show ((0 : Nat) : Int) = 0 from rfl] at hro
  clear ho hl4
  go_wp2_with fail
  refine hro.mono ?_
  clear hro
  intro e w5 ho
  have hres := ho.res
  rw [show qr.2 = .ok [] from HE2.out] at hres
  obtain ⟨RLB, he5, hlb5, hl5⟩ := hres
  subst he5
  have D5 : Hid (IsDk w5 w.heap.size B d0) := by
    obtain ⟨kv, pv, hr⟩ := R4.out
    exact Lib.hid (isDk_other D4.out hr.blk (by decide) (by decide) (by decide) ho.st)
  have L5 : Hid (LogIs w5 w.heap.size LB B [102] (recsAt 0 [])) := by
    obtain ⟨kv, pv, hr⟩ := R4.out
    exact Lib.hid (L4.out.stay ho.st (fun k e => by subst e; exact ⟨_, _, _, hr.blk, by decide, by decide, by decide⟩))
  have R5 := Lib.hid ho.rd
  have RL5 := Lib.hid hl5
  have B5 : Hid (Below w.heap.size w w5) := Lib.hid (B4.out.trans (ho.st.below B4.out.size (fun k hk e => by have := HRB.out; omega)))
  have HRL := Lib.hid (Nat.le_trans B4.out.size hlb5)
  have FS0 : Hid ((frs ([] : Its)).length ≤ 1000) := Lib.hid (Nat.zero_le _)
  clear ho hl5 hlb5
  go_wp2_with fail
  go_loopg [7, 9, 11] 40 (fun gh v7 v9 iv wr => ∃ (i LB RLB : Nat) (d : Dsk.Dk) (r : Ref.Rd) (its : Its), v7 = .pointer (some ⟨LB, 0, none⟩) ∧ v9 = .pointer (some ⟨RLB, 0, none⟩) ∧ iv = .int .i64 (i : Int) ∧ i + gh = 40 ∧ i ≤ n2 ∧ i ≤ 40 ∧ Hid (IsDk wr w.heap.size B d) ∧ Hid (LogIs wr w.heap.size LB B [102] (recsAt 0 its)) ∧ Hid (IsRd wr RB r) ∧ Hid (RLog wr RLB RB its) ∧ Hid (Below w.heap.size w wr) ∧ Hid (w.heap.size ≤ RLB) ∧ Hid (Ref.Eq d r) ∧ Hid (d.works ≤ i + 2) ∧ Hid (d.room ≤ 500) ∧ Hid ((frs its).length ≤ 1000 + 100 * i))
  case atStart => exact ⟨0, LB, RLB, d0, qr.1, [], rfl, rfl, rfl, rfl, Nat.zero_le _, Nat.zero_le _, D5, L5, R5, RL5, B5, HRL, HE, HW, Lib.hid (by rw [HRM.out]; exact hR5), FS0⟩
  case round =>
    clear D5 L5 R5 RL5 B5 HRL HE HW HRM FS0 D4 L4 B4 R4 H3 R3 b3 HE2 HQR HRK
    obtain ⟨i, LB, RLB, d, r, its, rfl, rfl, rfl, hgk, hin, hi10, HD, HL, HR, HRL, HB, HLB, HE, HW, HRM, HFS⟩ := hrel
    by_cases hgo : i < n2 ∧ i < 40
    · have t0 : decide ((i : Int) < (n2 : Int)) = true := decide_eq_true (by omega)
      have t0' : decide (i < n2) = true := decide_eq_true hgo.1
      have t1 : decide ((i : Int) < 40) = true := decide_eq_true (by omega)
      have t1' : decide (i < 40) = true := decide_eq_true hgo.2
      have hi1 : (i : Int) < (n2 : Int) := by omega
      have hi0 : (0 : Int) ≤ (i : Int) := by omega
      have hx : xs[i]? = some (xs[i]'(by omega)) := List.getElem?_eq_getElem _
      generalize xs[i]'(by omega) = x at hx
      obtain ⟨b0, o0, rfl, hat⟩ := G2.out.at_ (by omega)
      obtain ⟨hxo, hcx, hxr⟩ := hat i x hx
      have hc0 := hcx 0 (by omega)
      have hc1 := hcx 1 (by omega)
      have hc2 := hcx 2 (by omega)
      have hc3 := hcx 3 (by omega)
      rw [Nat.add_zero, show x.cells[0]? = some (.int .i64 x.what) from rfl] at hc0
      rw [show x.cells[1]? = some (.int .i64 x.n) from rfl] at hc1
      rw [show x.cells[2]? = some (.int .i64 x.cut) from rfl] at hc2
      rw [show x.cells[3]? = some (.slice x.b.a x.b.n x.b.c) from rfl] at hc3
      have hltx := World.block_lt_of_cell? w _ hc0
      have hk : ∀ (j : Nat) (v : Value), w.cell? ⟨b0, j, none⟩ = some v → wr.cell? ⟨b0, j, none⟩ = some v := fun j v h => (World.cell?_of_block (HB.out.block b0 hltx)).trans h
      have ca0 := hk _ _ hc0
      have ca1 := hk _ _ hc1
      have ca2 := hk _ _ hc2
      have ca3 := hk _ _ hc3
      have HXR := Lib.hid hxr
      have HXO := Lib.hid hxo
      clear hat hxo hcx hxr hc0 hc1 hc2 hc3 hk hx
      obtain ⟨z, zN, zc, ⟨xa, xn, xc, xl⟩⟩ := x
      simp only at ca0 ca1 ca2 ca3 HXR HXO
      obtain ⟨hz, hzN, hzc⟩ := HXO.out
      have HZ := Lib.hid hz
      have HZN := Lib.hid hzN
      have HZc := Lib.hid hzc
      have hiw := wrapi' ((i : Int) + 1) (by omega)
      have HGK := Lib.hid hgk
      clear hgk hz hzN hzc HXO
      obtain ⟨xb, hxb⟩ : ∃ xb, xb = wr.heap.size := ⟨_, rfl⟩
      obtain ⟨WX, hWX⟩ : ∃ WX, WX = wr.alloc (.cells #[.int .i64 z, .int .i64 zN, .int .i64 zc, .slice xa xn xc] 40) := ⟨_, rfl⟩
      have hbX : Below wr.heap.size wr WX := by rw [hWX]; exact (Below.refl _ _).alloc (Nat.le_refl _) _
      have hTX : WX.heap[xb]? = some (.cells #[.int .i64 z, .int .i64 zN, .int .i64 zc, .slice xa xn xc] 40 (0, 0)) := by rw [hWX, hxb]; exact heap_alloc_new _ _
      have SX : Hid (LgSt w B RB LB RLB xb #[.int .i64 z, .int .i64 zN, .int .i64 zc, .slice xa xn xc] 40 WX d its r its) := Lib.hid ⟨HD.out.below hbX, HL.out.below hbX, HR.out.below hbX, HRL.out.below hbX, HB.out.trans (hbX.mono HB.out.size), hTX, ⟨HRB.out, HLB.out⟩, by decide⟩
      have cw : WX.cell? ⟨xb, 0, none⟩ = some (.int .i64 z) := blk_cell (i := 0) hTX rfl
      have HCX : Hid (∀ Y d i1 r i2 LB RLB, LgSt w B RB LB RLB xb #[.int .i64 z, .int .i64 zN, .int .i64 zc, .slice xa xn xc] 40 Y d i1 r i2 → Y.cell? ⟨xb, 0, none⟩ = some (.int .i64 z) ∧ Y.cell? ⟨xb, 1, none⟩ = some (.int .i64 zN) ∧ Y.cell? ⟨xb, 2, none⟩ = some (.int .i64 zc) ∧ Y.cell? ⟨xb, 3, none⟩ = some (.slice xa xn xc) ∧ Rds Y xa xn xl) := Lib.hid (fun Y d i1 r i2 LB RLB h => ⟨blk_cell (i := 0) h.x rfl, blk_cell (i := 1) h.x rfl, blk_cell (i := 2) h.x rfl, blk_cell (i := 3) h.x rfl, rds_bell HXR.out.rds h.bel⟩)
      have hp10 := pick_any WX z 10 HZ.out.1 HZ.out.2 (by omega) (by omega)
      obtain ⟨q, hq⟩ : ∃ q, q = z % 10 := ⟨_, rfl⟩
      rw [← hq] at hp10
      have HWX := Lib.hid hWX
      have HXB := Lib.hid hxb
      have HNO := Lib.hid HXR.out.none
      have HLE := Lib.hid HXR.out.le
      have HRE : Hid (xc ≤ 140737488355328) := Lib.hid (by have h1 := HXR.out.reach; omega)
      clear hbX hTX HD HR HL HRL HB hWX hxb hq
      go_wp2_with fail
      rw [← HWX.out, ← HXB.out]
      clear ca0 ca1 ca2 ca3 HWX HXB
      go_wp2_with fail
      refine hp10.mono ?_
      clear hp10
      rintro e w' ⟨rfl, rfl⟩
      have HRK : Hid (Rok r) := Lib.hid ⟨d, HE.out, SX.out.ok⟩
      have HWK : Hid (d.works ≤ 99999) := Lib.hid (by have := HW.out; omega)
      have HIL : Hid (its.length ≤ 10000) := Lib.hid (by have := HFS.out; have := frs_len9 its; omega)
      go_upto_block 2 with fail
      go_cut [7, 9, 13, 14, 15, 16, 17, 18, 19, 20] from 67 to 193 (fun v7 v9 _ _ _ _ _ _ _ _ wx => ∃ (LB1 RLB1 : Nat) (d1 : Dsk.Dk) (r1 : Ref.Rd) (its1 : Its), v7 = .pointer (some ⟨LB1, 0, none⟩) ∧ v9 = .pointer (some ⟨RLB1, 0, none⟩) ∧ Hid (LgSt w B RB LB1 RLB1 xb #[.int .i64 z, .int .i64 zN, .int .i64 zc, .slice xa xn xc] 40 wx d1 its1 r1 its1) ∧ Hid (Ref.Eq d1 r1) ∧ Hid (d1.works ≤ i + 1 + 2) ∧ Hid (d1.room ≤ 500) ∧ Hid ((frs its1).length ≤ 1000 + 100 * (i + 1)))
      case first =>
        by_cases h9 : q = 9
        · as_aux_lemma =>
            subst h9
            obtain ⟨x0, x1, x2, x3, xr⟩ := HCX.out _ _ _ _ _ _ _ SX.out
            have hp9 := pick_any WX zN 9 HZN.out.1 HZN.out.2 (by omega) (by omega)
            obtain ⟨k, hk⟩ : ∃ k, k = zN % 9 := ⟨_, rfl⟩
            rw [← hk] at hp9
            have hk1 : 0 ≤ k ∧ k < 9 := by rw [hk]; exact ⟨Int.emod_nonneg _ (by omega), Int.emod_lt_of_pos _ (by omega)⟩
            have hkw := wrapi' (k - 1) (by omega)
            have hop := fuse_any WX _ B d SX.out.dk (k - 1) (by omega)
            have hqe := Lib.hid (HE.out.fused (if k - 1 < -1 then -1 else k - 1))
            clear xr hk
            go_wp2_with fail
            refine hp9.mono ?_
            clear hp9
            rintro e w'' ⟨rfl, rfl⟩
            go_wp2_with fail
            refine hop.mono ?_
            clear hop
            rintro e w5 ⟨rfl, k1, k2, k3⟩
            have S5 := Lib.hid (SX.out.prog k1 (SX.out.lg.keep k3) k2 (KeepG.ofT k3))
            have hrf := rfuse_any w5 RB r S5.out.rd (k - 1)
            clear k1 k2 k3 x0 x1 x2 x3
            go_wp2_with fail
            refine hrf.mono ?_
            clear hrf
            rintro e w6 ⟨rfl, k1, k2⟩
            have S6 := Lib.hid (S5.out.ref k1 (S5.out.rl.stay S5.out.rd k2) (ts_or k2) HLB.out)
            clear k1 k2
            go_wp2_with fail
            go_meet
            exact ⟨LB, RLB, _, _, its, rfl, rfl, S6, hqe, Lib.hid (by have := HW.out; show d.works ≤ _; omega), HRM, Lib.hid (by have := HFS.out; omega)⟩
        · by_cases h6 : q = 6
          · as_aux_lemma =>
              subst h6
              clear h9
              obtain ⟨S, hS⟩ : ∃ S, S = (frs its).length := ⟨_, rfl⟩
              have hS5 : S ≤ 10000 := by rw [hS]; have := HFS.out; omega
              obtain ⟨m, hm⟩ : ∃ m, m = its.length := ⟨_, rfl⟩
              have hm1 : m ≤ 10000 := by rw [hm]; exact HIL.out
              have F1 : Hid (∀ X : World, LgSt w B RB LB RLB xb #[.int .i64 z, .int .i64 zN, .int .i64 zc, .slice xa xn xc] 40 X d its r its → Calls Tryz.prog 12 #[.pointer (some ⟨LB, 0, none⟩)] X fun e Y => e = .returned (.int .i64 (S : Int)) ∧ X = Y) := Lib.hid (fun X h => by rw [hS, ← lenOf_recs its]; exact (length_any X _ LB B [102] _ h.lg (by rw [recsAt_length, ← hm]; omega)).mono fun e Y ⟨q1, q2⟩ => ⟨q1, q2.symm⟩)
              have hw1 := wrapi' ((S : Int) + 1) (by omega)
              have hw2 := wrapi' ((m : Int) + 1) (by omega)
              obtain ⟨T0, hT0⟩ : ∃ T : Nat, zN % ((S : Int) + 1) = T := ⟨(zN % ((S : Int) + 1)).toNat, by have := Int.emod_nonneg zN (show ((S : Int) + 1) ≠ 0 by omega); omega⟩
              have hTS0 : T0 ≤ S := by have := Int.emod_lt_of_pos zN (show (0 : Int) < (S : Int) + 1 by omega); omega
              obtain ⟨K, hK⟩ : ∃ K : Nat, zN % ((m : Int) + 1) = K := ⟨(zN % ((m : Int) + 1)).toNat, by have := Int.emod_nonneg zN (show ((m : Int) + 1) ≠ 0 by omega); omega⟩
              have hKm : K ≤ m := by have := Int.emod_lt_of_pos zN (show (0 : Int) < (m : Int) + 1 by omega); omega
              have F2 : Hid (∀ X : World, Calls Tryz.prog 6 #[.int .i64 zN, .int .i64 ((S : Int) + 1)] X fun e Y => e = .returned (.int .i64 (T0 : Int)) ∧ X = Y) := Lib.hid (fun X => by rw [← hT0]; exact pick_any X zN _ HZN.out.1 HZN.out.2 (by omega) (by omega))
              have F3 : Hid (∀ X : World, Calls Tryz.prog 6 #[.int .i64 zN, .int .i64 ((m : Int) + 1)] X fun e Y => e = .returned (.int .i64 (K : Int)) ∧ X = Y) := Lib.hid (fun X => by rw [← hK]; exact pick_any X zN _ HZN.out.1 HZN.out.2 (by omega) (by omega))
              have P0 := Lib.hid (SX.out.below (bel_drew3 (Below.refl _ _)))
              obtain ⟨t3, ht3, ht3'⟩ : ∃ t3, decide ((0 : Int) < zc.tmod 3) = t3 ∧ decide (zc.tmod 3 > 0) = t3 := ⟨_, rfl, rfl⟩
              have hz3 := tmod3 zc
              have HS := Lib.hid hS
              have HM := Lib.hid hm
              clear hS hm hT0 hK cw
              go_wp2_with fail
              go_region_held3 (fun w' => w'.cell? ⟨xb, 1, none⟩ = some (.int .i64 zN))
                (exact (HCX.out _ _ _ _ _ _ _ P0.out).2.1)
                (first
                  | (go_at_call 12; refine (F1.out _ P0.out).mono ?_; rintro e w' ⟨rfl, rfl⟩)
                  | (go_at_call 6; refine (F2.out _).mono ?_; rintro e w' ⟨rfl, rfl⟩))
              obtain ⟨WY, hWY⟩ : ∃ WY, WY = WX.drew := ⟨_, rfl⟩
              rw [← hWY] at P0
              try rw [← hWY]
              have HWY := Lib.hid hWY
              clear hWY F1 F2
              obtain ⟨x0, x1, x2, x3, xr⟩ := HCX.out _ _ _ _ _ _ _ P0.out
              clear xr
              go_upto_if 98 with (fail)
              go_cut [13, 14] from 67 to 193 (fun v13 _ wx => ∃ T : Nat, v13 = .int .i64 (T : Int) ∧ Hid (T ≤ S) ∧ Hid (LgSt w B RB LB RLB xb #[.int .i64 z, .int .i64 zN, .int .i64 zc, .slice xa xn xc] 40 wx d its r its))
              case first =>
                as_aux_lemma =>
                  cases t3 with
                  | false =>
                    go_wp2_with fail
                    go_meet
                    exact ⟨T0, rfl, Lib.hid hTS0, P0⟩
                  | true =>
                    clear x0 x1 x2 x3
                    go_wp2_with fail
                    go_loopw [13, 14] (fun v13 v14 wr => ∃ j : Nat, j ≤ K ∧ v14 = .int .i64 (j : Int) ∧ v13 = .int .i64 ((frs (its.take j)).length : Int) ∧ Hid (LgSt w B RB LB RLB xb #[.int .i64 z, .int .i64 zN, .int .i64 zc, .slice xa xn xc] 40 wr d its r its)) (fun _ v14 _ => K - (intOf v14).toNat)
                    case atStart => exact ⟨0, Nat.zero_le _, rfl, rfl, P0⟩
                    case round =>
                      obtain ⟨j, hj, rfl, rfl, Q0⟩ := hrel
                      have Q1 := Lib.hid (Q0.out.below (bel_drew3 (Below.refl _ _)))
                      obtain ⟨ra, rc, g1, g2, g3, g4, g5⟩ := Q0.out.rl.cells
                      rw [← show m = its.length from HM.out] at g5
                      have HLR := Lib.hid g2
                      obtain ⟨x0, x1, x2, x3, xr⟩ := HCX.out _ _ _ _ _ _ _ Q0.out
                      have hle := frs_take_le its j
                      rw [← show S = _ from HS.out] at hle
                      clear g1 g2 g3 g4 x0 x2 x3 xr
                      by_cases hjK : j < K
                      · have d0 : decide ((j : Int) < (K : Int)) = true := decide_eq_true (by omega)
                        have d0' : decide (j < K) = true := decide_eq_true hjK
                        have hx : its[j]? = some (its[j]'(by have := HM.out; omega)) := List.getElem?_eq_getElem _
                        generalize its[j]'(by have := HM.out; omega) = x at hx
                        obtain ⟨g, a', c', rfl, k1, k2, k3⟩ := HLR.out.elem hx
                        have hsu := frs_take_succ hx
                        obtain ⟨U, hU⟩ : ∃ U, U = (frs (its.take j)).length := ⟨_, rfl⟩
                        obtain ⟨V, hV⟩ : ∃ V, V = x.2.length := ⟨_, rfl⟩
                        have hle2 := frs_take_le its (j + 1)
                        rw [← show S = _ from HS.out] at hle2
                        rw [← hU] at hsu hle ⊢
                        rw [← hV] at hsu k3
                        have w1 := wrapi' ((U : Int) + 9) (by omega)
                        have w2 := wrapi' ((U : Int) + 9 + (V : Int)) (by omega)
                        have w3 := wrapi' ((j : Int) + 1) (by omega)
                        have hjm : j < m := by omega
                        have HSU := Lib.hid hsu
                        clear hx k1 k2 hsu hle2 hU hV
                        go_wp2_with fail
                        go_region_held3 (fun w' => w'.cell? ⟨xb, 1, none⟩ = some (.int .i64 zN) ∧ w'.cell? ⟨RLB, 2, none⟩ = some (.slice (some ⟨g, 0, none⟩) m rc))
                          (exact ⟨x1, g5⟩)
                          ((go_at_call 6; refine (F3.out _).mono ?_; rintro e w' ⟨rfl, rfl⟩))
                        go_wp2
                        go_roundw
                        case rel => exact ⟨j + 1, by omega, by go_num, by rw [HSU.out]; go_num, Q1⟩
                        case measure => simp [intOf]; omega
                      · obtain rfl : j = K := by omega
                        have d0 : decide ((j : Int) < (j : Int)) = false := decide_eq_false (by omega)
                        have d0' : decide (j < j) = false := decide_eq_false (by omega)
                        obtain ⟨U, hU⟩ : ∃ U, U = (frs (its.take j)).length := ⟨_, rfl⟩
                        rw [← hU] at hle ⊢
                        go_wp2_with fail
                        go_region_held3 (fun w' => w'.cell? ⟨xb, 1, none⟩ = some (.int .i64 zN) ∧ w'.cell? ⟨RLB, 2, none⟩ = some (.slice ra m rc))
                          (exact ⟨x1, g5⟩)
                          ((go_at_call 6; refine (F3.out _).mono ?_; rintro e w' ⟨rfl, rfl⟩))
                        go_wp2_with fail
                        go_meet
                        exact ⟨U, by rw [hU], Lib.hid hle, Q1⟩
              case rest =>
                as_aux_lemma =>
                  obtain ⟨T, rfl, HT, S1⟩ := hcut
                  clear ht3 ht3' hz3 F3 P0 x0 x1 x2 x3
                  have hT10 : T ≤ 10000 := by have := HT.out; omega
                  obtain ⟨dA, kA, rA, J, FCt, FRc, hEA, hWA, hMA, hFA⟩ : ∃ (dA : Dsk.Dk) (kA : Nat) (rA : Ref.Rd) (J : Its),
                      Hid (Calls Tryz.prog 14 #[.pointer (some ⟨LB, 0, none⟩), .int .i64 (T : Int)] wc fun e Y => e = .returned (errv kA) ∧ Hid (LgSt w B RB LB RLB xb #[.int .i64 z, .int .i64 zN, .int .i64 zc, .slice xa xn xc] 40 Y dA J r its)) ∧
                      Hid (∀ X, LgSt w B RB LB RLB xb #[.int .i64 z, .int .i64 zN, .int .i64 zc, .slice xa xn xc] 40 X dA J r its → Calls Tryz.prog 15 #[.pointer (some ⟨RLB, 0, none⟩), .int .i64 (T : Int)] X fun e Y => e = .returned (.int .i64 (kA : Int)) ∧ Hid (LgSt w B RB LB RLB xb #[.int .i64 z, .int .i64 zN, .int .i64 zc, .slice xa xn xc] 40 Y dA J rA J)) ∧
                      Hid (Ref.Eq dA rA) ∧ Hid (dA.works ≤ i + 1 + 2) ∧ Hid (dA.room ≤ 500) ∧ Hid ((frs J).length ≤ 1000 + 100 * (i + 1)) := by
                    by_cases hk : ∃ k, k ≤ its.length ∧ (frs (its.take k)).length = T
                    · obtain ⟨k, hkl, hkT⟩ := hk
                      have pe := HE.out.cutd S1.out.ok T
                      have hJs : (frs (if (d.cutd (r.has [102]) T).2 = 0 then its.take k else its)).length ≤ 1000 + 100 * (i + 1) := by
                        have h1 := HFS.out
                        have h2 := frs_take_le its k
                        split <;> omega
                      refine ⟨(d.cutd (r.has [102]) T).1, (d.cutd (r.has [102]) T).2, (r.cutd T).1, (if (d.cutd (r.has [102]) T).2 = 0 then its.take k else its), Lib.hid ?_, Lib.hid (fun X hX => ?_), Lib.hid pe.1, Lib.hid (by have := pe.2.2; have := HW.out; omega), Lib.hid (by rw [room_cutd]; exact HRM.out), Lib.hid hJs⟩
                      · have h0 := pcut_yes wc _ LB B d r its S1.out.dk HE.out S1.out.ok HWK.out S1.out.lg (by have := HIL.out; omega) (by have := HFS.out; omega) k hkl _ rfl
                        rw [hkT] at h0
                        refine h0.mono ?_
                        rintro e Y ⟨q1, q2, q3, q4, q5⟩
                        exact ⟨q1, Lib.hid (S1.out.prog q2 q3 q4 q5)⟩
                      · have h0 := rcut_yes X RLB RB r its hX.rd HRK.out hX.rl (by have := HIL.out; omega) (by have := HFS.out; omega) k hkl _ rfl
                        rw [hkT] at h0
                        refine h0.mono ?_
                        rintro e Y ⟨q1, q2, q3, q4⟩
                        rw [pe.2.1] at q1 q3
                        exact ⟨q1, Lib.hid (hX.ref q2 q3 q4 HLB.out)⟩
                    · have hno : ∀ k, k ≤ its.length → (frs (its.take k)).length ≠ T := fun k h1 h2 => hk ⟨k, h1, h2⟩
                      have hT0 : 0 < T := by
                        rcases Nat.eq_zero_or_pos T with e | e
                        · exact absurd (by rw [e]; rfl) (hno 0 (Nat.zero_le _))
                        · exact e
                      refine ⟨d, 1, r, its, Lib.hid ?_, Lib.hid (fun X hX => ?_), HE, Lib.hid (by have := HW.out; omega), HRM, Lib.hid (by have := HFS.out; omega)⟩
                      · refine (cut_no wc _ LB B [102] _ S1.out.lg (T : Int) (by omega) (fun j x hj => ?_) (by rw [recsAt_length]; have := HIL.out; omega)).mono ?_
                        · have hlt : j < its.length := by have := (List.getElem?_eq_some_iff.1 hj).1; rwa [recsAt_length] at this
                          obtain ⟨y, h1, _, _, h4⟩ := recsAt_get its 0 j _ (List.getElem?_eq_getElem hlt)
                          rw [hj] at h1
                          injection h1 with h1
                          rw [h1, h4, Nat.zero_add]
                          intro e
                          exact hno (j + 1) (by omega) (by omega)
                        · rintro e Y ⟨q1, q2⟩
                          exact ⟨q1, Lib.hid (S1.out.below q2)⟩
                      · refine (rcut_no X RLB RB its hX.rl (by have := HIL.out; omega) (by have := HFS.out; omega) T (by omega) hno).mono ?_
                        rintro e Y ⟨q1, q2⟩
                        exact ⟨q1, by rw [← q2]; exact Lib.hid hX⟩
                  have e0 : ((kA : Int) != (kA : Int)) = false := by simp
                  have e1 : ((kA : Int) == (kA : Int)) = true := by simp
                  have hct := FCt.out
                  clear FCt
                  go_wp2_with fail
                  refine hct.mono ?_
                  clear hct
                  rintro e w5 ⟨rfl, P5⟩
                  have hkd := kind_errv w5 kA (HG.out.below P5.out.bel HG.out.pos)
                  go_wp2_with fail
                  refine hkd.mono ?_
                  clear hkd
                  rintro e w6 ⟨rfl, hb6⟩
                  have P6 := Lib.hid (P5.out.below hb6)
                  have hrc := FRc.out w6 P6.out
                  clear hb6 FRc P5
                  go_wp2_with fail
                  refine hrc.mono ?_
                  clear hrc
                  rintro e w7 ⟨rfl, P7⟩
                  go_wp2_with fail
                  go_meet
                  exact ⟨LB, RLB, _, _, J, rfl, rfl, P7, hEA, hWA, hMA, hFA⟩
          · by_cases h78 : q = 7 ∨ q = 8
            · as_aux_lemma =>
                clear h9 h6
                obtain ⟨S, hS⟩ : ∃ S, S = (frs its).length := ⟨_, rfl⟩
                have hS5 : S ≤ 10000 := by rw [hS]; have := HFS.out; omega
                have hln := rlen_any WX RLB RB its SX.out.rl (by have := HIL.out; omega) (by omega)
                rw [← hS] at hln
                obtain ⟨t8, ht8⟩ : ∃ t8, (z.tmod 10 == 8) = t8 := ⟨_, rfl⟩
                have hz10 := tmod10 z
                obtain ⟨dd, hdd⟩ : ∃ dd, d.dead = dd := ⟨_, rfl⟩
                have hde := dead_any WX _ B d SX.out.dk
                rw [hdd] at hde
                obtain ⟨cb, hcb⟩ : ∃ cb, cb = (t8 || dd) := ⟨_, rfl⟩
                have HCB := Lib.hid hcb
                have HDD := Lib.hid hdd
                clear hS hcb hdd
                rcases h78 with rfl | rfl
                all_goals
                  go_wp2_with fail
                  refine hln.mono ?_
                  clear hln
                  rintro e w'' ⟨rfl, rfl⟩
                  go_upto_region 30 with (fail)
                  go_cut [144] from 67 to 193 (fun v wx => WX = wx ∧ v = .bool cb)
                  case first =>
                    as_aux_lemma =>
                      cases t8 with
                      | true =>
                        go_wp2_with fail
                        go_meet
                        exact ⟨rfl, by rw [show cb = _ from HCB.out]; rfl⟩
                      | false =>
                        go_wp2_with fail
                        refine hde.mono ?_
                        rintro e w'' ⟨rfl, hww⟩
                        obtain rfl := hww.symm
                        go_wp2_with fail
                        go_meet
                        exact ⟨rfl, by rw [show cb = _ from HCB.out]; rfl⟩
                  case rest =>
                    as_aux_lemma =>
                      obtain ⟨rfl, rfl⟩ := hcut
                      clear ht8 hz10 hde
                      go_upto_if 144 with (fail)
                      go_cut [15] from 67 to 193 (fun v15 wx => ∃ (T : Nat) (d1 : Dsk.Dk) (r1 : Ref.Rd), v15 = .int .i64 (T : Int) ∧ Hid (T ≤ 100000) ∧ Hid (LgSt w B RB LB RLB xb #[.int .i64 z, .int .i64 zN, .int .i64 zc, .slice xa xn xc] 40 wx d1 its r1 its) ∧ Hid (Ref.Eq d1 r1) ∧ Hid (d1.dead = false) ∧ Hid (d1.works ≤ i + 2) ∧ Hid (d1.room ≤ 500))
                      case first =>
                        cases cb with
                        | false =>
                          have hdf : d.dead = false := by rw [HDD.out]; exact or_false2 HCB.out
                          have HDF := Lib.hid hdf
                          clear hdf
                          go_wp2_with fail
                          go_meet
                          exact ⟨S, d, r, rfl, Lib.hid (by omega), SX, HE, HDF, HW, HRM⟩
                        | true =>
                          obtain ⟨x0, x1, x2, x3, xr⟩ := HCX.out _ _ _ _ _ _ _ SX.out
                          have hop := crash_any WX _ B d SX.out.dk zN zc
                          have hqe := Lib.hid (HE.out.crash SX.out.ok zN zc)
                          clear xr
                          go_wp2_with fail
                          refine hop.mono ?_
                          clear hop
                          rintro e w5 ⟨rfl, k1, k2, k3⟩
                          have S5 := Lib.hid (SX.out.prog k1 (SX.out.lg.keep k3) k2 (KeepG.ofT k3))
                          obtain ⟨y0, y1, y2, y3, yr⟩ := HCX.out _ _ _ _ _ _ _ S5.out
                          have hrf := rcrash_any w5 RB r S5.out.rd HRK.out zN zc HZN.out HZc.out
                          clear k1 k2 k3 x0 x1 x2 x3 yr
                          go_wp2_with fail
                          refine hrf.mono ?_
                          clear hrf
                          rintro e w6 ⟨rfl, k1, k2⟩
                          have S6 := Lib.hid (S5.out.ref k1 (S5.out.rl.stay S5.out.rd k2) (ts_or k2) HLB.out)
                          obtain ⟨u0, u1, u2, u3, ur⟩ := HCX.out _ _ _ _ _ _ _ S6.out
                          have hw3 := wrapi' ((S : Int) + 3) (by omega)
                          have hpt := pick_any w6 zc ((S : Int) + 3) HZc.out.1 HZc.out.2 (by omega) (by omega)
                          obtain ⟨T, hT⟩ : ∃ T : Nat, zc % ((S : Int) + 3) = T := ⟨(zc % ((S : Int) + 3)).toNat, by have := Int.emod_nonneg zc (show ((S : Int) + 3) ≠ 0 by omega); omega⟩
                          have hTS : T ≤ 100000 := by have := Int.emod_lt_of_pos zc (show (0 : Int) < (S : Int) + 3 by omega); omega
                          rw [hT] at hpt
                          have HTS := Lib.hid hTS
                          clear k1 k2 y0 y1 y2 y3 ur hT hTS
                          go_wp2_with fail
                          refine hpt.mono ?_
                          clear hpt
                          rintro e w'' ⟨rfl, rfl⟩
                          go_wp2_with fail
                          go_meet
                          exact ⟨T, _, _, rfl, HTS, S6, hqe, Lib.hid rfl, Lib.hid (by have := HW.out; show d.works ≤ _; omega), HRM⟩
                      case rest =>
                        as_aux_lemma =>
                          obtain ⟨T, d1, r1, rfl, HT, S1, E1, F1, W1, M1⟩ := hcut
                          clear HE HW HWK HRM SX HCB HDD HRK
                          have hop := popen_any wc _ B d1 S1.out.dk (by have := W1.out; omega) F1.out T _ rfl
                          obtain ⟨p1, p2, p3⟩ := E1.out.opn S1.out.ok F1.out T
                          have hsz := fun its1 (h : (d1.opn T).2 = .ok its1) => Nat.le_trans (opn_size h) (val_room S1.out.ok (E1.out.now S1.out.ok).2 [102])
                          have herr := fun k (h : (d1.opn T).2 = .error k) => opn_err h
                          have hrm := room_opn d1 T
                          obtain ⟨qr, hqr⟩ : ∃ qr, qr = r1.opn T := ⟨_, rfl⟩
                          obtain ⟨qd, hqd⟩ : ∃ qd, qd = d1.opn T := ⟨_, rfl⟩
                          rw [← hqd] at hop p1 p2 p3 hsz herr hrm
                          rw [← hqr] at p1 p2
                          have HQR := Lib.hid hqr
                          obtain ⟨d2, o2⟩ := qd
                          simp only at p1 p2 p3 hsz herr hrm
                          have E2 := Lib.hid p1
                          have O2 := Lib.hid p2
                          have W2 : Hid (d2.works ≤ i + 1 + 2) := Lib.hid (by have := W1.out; omega)
                          have M2 : Hid (d2.room ≤ 500) := Lib.hid (by rw [hrm]; exact M1.out)
                          have HSZ := Lib.hid hsz
                          have HER := Lib.hid herr
                          clear p1 p2 p3 hsz herr hrm hqr hqd
                          go_wp2_with fail
                          refine hop.mono ?_
                          clear hop
                          intro e w4 ho
                          have S4 := Lib.hid (S1.out.prog ho.dk (S1.out.lg.keep ho.kt) ho.bel (KeepG.ofT ho.kt))
                          have hro := ropen_any w4 RB r1 S4.out.rd ⟨d1, E1.out, S1.out.ok⟩ T (by have := HT.out; omega) _ HQR.out
                          cases o2 with
                          | error k =>
                            obtain ⟨ev, he, hev⟩ := ho.res
                            subst he
                            have hk0 := HER.out k rfl
                            have HEV := Lib.hid hev
                            clear ho hev
                            go_wp2_with fail
                            refine hro.mono ?_
                            clear hro
                            intro e w5 ho
                            have hres := ho.res
                            rw [show qr.2 = _ from O2.out] at hres
                            simp only at hres
                            subst hres
                            have EV5 := HEV.out.ref S4.out.rd ho.st
                            have S5 := Lib.hid (S4.out.ref ho.rd (S4.out.rl.stay S4.out.rd ho.st) (ts_or ho.st) HLB.out)
                            have hkd := EV5.kind (HG.out.below S5.out.bel HG.out.pos)
                            have z0 : ((k : Int) != 0) = true := bne_iff_ne.2 (by omega)
                            have z1 : ((k : Int) == 0) = false := beq_eq_false_iff_ne.2 (by omega)
                            have z2 : ((k : Int) != (k : Int)) = false := by simp
                            have z3 : ((k : Int) == (k : Int)) = true := by simp
                            clear ho EV5
                            go_wp2_with fail
                            refine hkd.mono ?_
                            clear hkd
                            rintro e w6 ⟨rfl, hb6⟩
                            have B6 := Lib.hid (S5.out.bel.trans (hb6.mono S5.out.bel.size))
                            clear hb6
                            go_wp2
                            go_ret
                            exact ⟨rfl, B6.out⟩
                          | ok its1 =>
                            obtain ⟨LB1, he, hl4⟩ := ho.res
                            subst he
                            have S4n := Lib.hid (S1.out.prog ho.dk hl4 ho.bel (KeepG.ofT ho.kt))
                            have FS1 := HSZ.out its1 rfl
                            clear ho hl4
                            go_wp2_with fail
                            refine hro.mono ?_
                            clear hro
                            intro e w5 ho
                            have hres := ho.res
                            rw [show qr.2 = _ from O2.out] at hres
                            obtain ⟨RLB1, he5, hlb5, hl5⟩ := hres
                            subst he5
                            have S5 := Lib.hid (S4n.out.ref ho.rd hl5 (ts_or ho.st) (Nat.le_trans S4n.out.bel.size hlb5))
                            have hkd := kind_nil w5
                            have FSN : Hid ((frs its1).length ≤ 1000 + 100 * (i + 1)) := Lib.hid (by have := M1.out; omega)
                            clear ho hl5 hlb5 S4 S4n FS1
                            go_wp2_with fail
                            refine hkd.mono ?_
                            clear hkd
                            rintro e w6 ⟨rfl, hww⟩
                            obtain rfl := hww.symm
                            go_wp2_with fail
                            go_meet
                            exact ⟨LB1, RLB1, d2, _, its1, rfl, rfl, S5, E2, W2, M2, FSN⟩
            · as_aux_lemma =>
                have n9 : (q == 9) = false := beq_eq_false_iff_ne.2 h9
                have n6 : (q == 6) = false := beq_eq_false_iff_ne.2 h6
                have n7 : (q == 7) = false := beq_eq_false_iff_ne.2 (fun e => h78 (.inl e))
                have n8 : (q == 8) = false := beq_eq_false_iff_ne.2 (fun e => h78 (.inr e))
                clear h9 h6 h78
                obtain ⟨k0, hk0⟩ : ∃ k0, k0 = zN % 258 := ⟨_, rfl⟩
                have hk1 : 0 ≤ k0 ∧ k0 < 258 := by rw [hk0]; exact ⟨Int.emod_nonneg _ (by omega), Int.emod_lt_of_pos _ (by omega)⟩
                have FPk : Hid (∀ X : World, Calls Tryz.prog 6 #[.int .i64 zN, .int .i64 258] X fun e Y => e = .returned (.int .i64 k0) ∧ X = Y) := Lib.hid (fun X => by rw [hk0]; exact pick_any X zN 258 HZN.out.1 HZN.out.2 (by omega) (by omega))
                have hkw := wrapi' (k0 - 1) (by omega)
                obtain ⟨bl, hbl⟩ : ∃ bl, bl = xl.take 50 := ⟨_, rfl⟩
                obtain ⟨nb, hnb⟩ : ∃ nb, nb = bl.length := ⟨_, rfl⟩
                have hnb5 : nb ≤ 50 := by rw [hnb, hbl, List.length_take]; omega
                have FFw : Hid (∀ X : World, Rds X xa xn xl → Calls Tryz.prog 23 #[.slice xa xn xc, .int .i64 50] X fun e Y => ∃ a c, e = .returned (.slice a nb c) ∧ Hid (Keeps Y a nb c bl) ∧ Hid (Below X.heap.size X Y)) := Lib.hid (fun X hX => (few_any X xa xn xc 50 xl hX HLE.out HNO.out HRE.out (by omega) (by omega)).mono fun e Y ⟨a, c, q1, q2, q3⟩ => by
                  rw [show (50 : Int).toNat = 50 from rfl, ← hbl] at q1 q2
                  rw [← hnb] at q1
                  exact ⟨a, c, q1, Lib.hid (by have := Keeps.of_own q2 rfl; rw [← hnb] at this; exact this), Lib.hid q3⟩)
                obtain ⟨dA, kA, rA, J, FAd, FRa, hEA, hWA, hMA, hFA⟩ : ∃ (dA : Dsk.Dk) (kA : Nat) (rA : Ref.Rd) (J : Its),
                    Hid (∀ X a c, LgSt w B RB LB RLB xb #[.int .i64 z, .int .i64 zN, .int .i64 zc, .slice xa xn xc] 40 X d its r its → Keeps X a nb c bl → Calls Tryz.prog 22 #[.pointer (some ⟨LB, 0, none⟩), .int .i64 (k0 - 1), .slice a nb c] X fun e Y => e = .returned (errv kA) ∧ Hid (LgSt w B RB LB RLB xb #[.int .i64 z, .int .i64 zN, .int .i64 zc, .slice xa xn xc] 40 Y dA J r its)) ∧
                    Hid (∀ X a c, LgSt w B RB LB RLB xb #[.int .i64 z, .int .i64 zN, .int .i64 zc, .slice xa xn xc] 40 X dA J r its → Keeps X a nb c bl → Calls Tryz.prog 24 #[.pointer (some ⟨RLB, 0, none⟩), .int .i64 (k0 - 1), .slice a nb c] X fun e Y => e = .returned (.int .i64 (kA : Int)) ∧ Hid (LgSt w B RB LB RLB xb #[.int .i64 z, .int .i64 zN, .int .i64 zc, .slice xa xn xc] 40 Y dA J rA J)) ∧
                    Hid (Ref.Eq dA rA) ∧ Hid (dA.works ≤ i + 1 + 2) ∧ Hid (dA.room ≤ 500) ∧ Hid ((frs J).length ≤ 1000 + 100 * (i + 1)) := by
                  by_cases hk : 1 ≤ k0 - 1 ∧ k0 - 1 ≤ 255
                  · obtain ⟨kn, hkn⟩ : ∃ kn : Nat, k0 - 1 = kn := ⟨(k0 - 1).toNat, by omega⟩
                    rw [hkn]
                    have pe := HE.out.append SX.out.ok [102] goodf (frm (kn : Int) bl)
                    have hJs : (frs (if (d.append [102] (frm (kn : Int) bl)).2 = 0 then its ++ [(kn, bl)] else its)).length ≤ 1000 + 100 * (i + 1) := by
                      have h1 := HFS.out
                      split
                      · rw [frs_snoc, List.length_append, frm_length, ← hnb]; omega
                      · omega
                    refine ⟨(d.append [102] (frm (kn : Int) bl)).1, (d.append [102] (frm (kn : Int) bl)).2, (r.append [102] (frm (kn : Int) bl)).1, (if (d.append [102] (frm (kn : Int) bl)).2 = 0 then its ++ [(kn, bl)] else its), Lib.hid (fun X a c hX hK => ?_), Lib.hid (fun X a c hX hK => ?_), Lib.hid pe.1, Lib.hid (by have := wk_appendg d (frm (kn : Int) bl); have := HW.out; omega), Lib.hid (by rw [room_append]; exact HRM.out), Lib.hid hJs⟩
                    · refine (padd_any X _ LB B d its hX.dk hX.lg HWK.out kn (by omega) a nb c bl hK (by omega) (by have := HIL.out; omega) (by have := HFS.out; omega) _ rfl _ rfl).mono ?_
                      rintro e Y ⟨q1, q2, q3, q4, q5⟩
                      exact ⟨q1, Lib.hid (hX.prog q2 q3 q4 q5)⟩
                    · refine (radd_any X RLB RB r its hX.rd HRK.out hX.rl (by have := HIL.out; omega) kn (by omega) a nb c bl hK (by omega) _ rfl _ rfl).mono ?_
                      rintro e Y ⟨q1, q2, q3, q4⟩
                      rw [pe.2] at q1 q3
                      exact ⟨q1, Lib.hid (hX.ref q2 q3 q4 HLB.out)⟩
                  · refine ⟨d, 1, r, its, Lib.hid (fun X a c hX hK => ?_), Lib.hid (fun X a c hX hK => ?_), HE, Lib.hid (by have := HW.out; omega), HRM, Lib.hid (by have := HFS.out; omega)⟩
                    · refine (add_bad X _ LB B [102] _ hX.lg (k0 - 1) a nb c (by omega) (by omega)).mono ?_
                      rintro e Y ⟨q1, q2⟩
                      exact ⟨q1, by rw [q2]; exact Lib.hid hX⟩
                    · refine (radd_bad X RLB (k0 - 1) a nb c (by omega) (by omega)).mono ?_
                      rintro e Y ⟨q1, q2⟩
                      exact ⟨q1, by rw [← q2]; exact Lib.hid hX⟩
                have FKd : Hid (∀ X, Below w.heap.size w X → Calls Tryz.prog 13 #[errv kA] X fun e Y => e = .returned (.int .i64 (kA : Int)) ∧ Hid (Below X.heap.size X Y)) := Lib.hid (fun X hX => (kind_errv X kA (HG.out.below hX HG.out.pos)).mono fun e Y ⟨q1, q2⟩ => ⟨q1, Lib.hid q2⟩)
                have P0 := Lib.hid (SX.out.below (bel_drew3 (Below.refl _ _)))
                have e0 : ((kA : Int) != (kA : Int)) = false := by simp
                have e1 : ((kA : Int) == (kA : Int)) = true := by simp
                clear hk0 hbl hnb cw
                go_wp2_with fail
                go_region_held3 (fun w' => w'.cell? ⟨xb, 1, none⟩ = some (.int .i64 zN) ∧ w'.cell? ⟨xb, 3, none⟩ = some (.slice xa xn xc))
                  (exact ⟨(HCX.out _ _ _ _ _ _ _ P0.out).2.1, (HCX.out _ _ _ _ _ _ _ P0.out).2.2.2.1⟩)
                  (first
                    | (go_at_call 6; refine (FPk.out _).mono ?_; rintro e w' ⟨rfl, rfl⟩)
                    | (go_at_call 23; refine (FFw.out _ (HCX.out _ _ _ _ _ _ _ P0.out).2.2.2.2).mono ?_; rintro e Y ⟨af, cf, rfl, KF, HBF⟩; have P1 := Lib.hid (P0.out.below HBF.out); clear P0 HBF; have P0 := P1; clear P1)
                    | (go_at_call 22; refine (FAd.out _ _ _ P0.out KF.out).mono ?_; clear P0; rintro e Y ⟨rfl, P0⟩)
                    | (go_at_call 13; refine (FKd.out _ P0.out.bel).mono ?_; rintro e Y ⟨rfl, HBF⟩; have P1 := Lib.hid (P0.out.below HBF.out); clear P0 HBF; have P0 := P1; clear P1)
                    | (go_at_call 24; refine (FRa.out _ _ _ P0.out KF.out).mono ?_; clear P0; rintro e Y ⟨rfl, P0⟩))
                clear FPk FFw FAd FRa FKd KF
                go_wp2_with fail
                go_meet
                exact ⟨LB, RLB, _, _, J, rfl, rfl, P0, hEA, hWA, hMA, hFA⟩
      case rest =>
        as_aux_lemma =>
          obtain ⟨LB1, RLB1, d1, r1, its1, rfl, rfl, S1, E1, W1, M1, FS1⟩ := hcut
          clear HCX SX HE HW HRK HWK HIL HFS HRM HLB cw
          have hil1 : its1.length ≤ 100000 := by have := FS1.out; have := frs_len9 its1; omega
          have hsm := lsame_any w wc B RB LB1 RLB1 xb _ _ d1 its1 r1 S1.out E1.out hil1 (by have := FS1.out; omega)
          go_wp2_with fail
          refine hsm.mono ?_
          clear hsm
          rintro e w8 ⟨rfl, hb8⟩
          have S8 := S1.out.below hb8
          have A1 := Lib.hid S8.dk
          have A2 := Lib.hid S8.lg
          have A3 := Lib.hid S8.rd
          have A4 := Lib.hid S8.rl
          have A5 := Lib.hid S8.bel
          have A6 := Lib.hid S8.rb.2
          clear hb8 S8 S1
          go_wp2
          go_roundg (gk - 1)
          case measure => have := HGK.out; omega
          case rel => exact ⟨i + 1, LB1, RLB1, d1, r1, its1, rfl, rfl, by go_num, by have := HGK.out; omega, by omega, by omega, A1, A2, A3, A4, A5, A6, E1, W1, M1, FS1⟩
    · obtain ⟨t0, q0, q0', q1⟩ : ∃ t0 : Bool, decide ((i : Int) < (n2 : Int)) = t0 ∧ decide (i < n2) = t0 ∧ (t0 = true → decide ((i : Int) < 40) = false ∧ decide (i < 40) = false) := by
        by_cases h : i < n2
        · exact ⟨true, decide_eq_true (by omega), decide_eq_true h, fun _ => ⟨decide_eq_false (by omega), decide_eq_false (by omega)⟩⟩
        · exact ⟨false, decide_eq_false (by omega), decide_eq_false h, fun e => by cases e⟩
      clear hgo HD HR HL HRL HE HW hgk
      cases t0 with
      | true =>
        obtain ⟨q2, q2'⟩ := q1 rfl
        clear q1
        go_wp2
        go_ret
        exact ⟨rfl, HB.out⟩
      | false =>
        clear q1
        go_wp2
        go_ret
        exact ⟨rfl, HB.out⟩
end Go.Proofs.YtkalpkmnelgieaaGreatDoor
