/- RootWhole: what it comes to. -/
import Derived.Test.YtdlpehlgmfhheaaDoorRtAt
import Derived.Test.YtdlpehlgmfhheaaDoorHand
import Derived.Deep.Cut
import Derived.Deep.CutRange
import Derived.Deep.LoopGhost
import Derived.Deep.RegionHeld3
namespace Go.Proofs.YtdlpehlgmfhheaaDoor
open Go.RowKit Go.Tap Go.Maps
set_option linter.unusedVariables false
set_option linter.unusedSimpArgs false
attribute [local go_sem ↓] Go.wp_at_zero Go.wp_at_succ

theorem newBig (w : World) : Calls Tryd.prog 40 #[.int .i64 100000] w fun e w' => ∃ B, e = .returned (.pointer (some ⟨B, 0, none⟩)) ∧ IsDk w' w.heap.size B (Dsk.newD 100000) ∧ Below w.heap.size w w' := by
  have := new_any w 100000 (by omega)
  rw [show ((100000 : Nat) : Int) = 100000 from rfl] at this
  exact this
theorem yl_undef8 (f : Bool → Option Bool) (g : Option Value → Option Bool) : Go.yielded.match_1 (motive := fun _ => Option Bool) (some undef) f g = g (some undef) := rfl
attribute [local go_sem] yl_undef8
theorem tmod_bnd (z k : Int) (hk : 0 < k) (hk2 : k ≤ 1000) : IntKind.i64.wrap (z.tmod k) = z.tmod k := by
  have h1 := Int.tmod_lt_of_pos z (b := k) hk
  have h2 : -k < z.tmod k := by have := Int.tmod_lt_of_pos (-z) (b := k) hk; rw [Int.neg_tmod] at this; omega
  exact wrapi' _ (by omega)
set_option maxHeartbeats 16000000 in
set_option maxRecDepth 100000 in
theorem rootWhole_walk (w : World) (hg : EType w) (s1 : Option Addr) (n1 c1 : Nat) (xs : List StepR) (g1 : ArgS7 140737488351232 w s1 n1 c1 xs) :
    Calls Tryd.prog 9 #[.slice s1 n1 c1] w fun e w' => e = .returned (.bool true) ∧ Below w.heap.size w w' := by
  have hxl := g1.len
  have G1 := Lib.hid g1
  have HG := Lib.hid hg
  clear g1 hg
  go_enter Tryd.func9, Tryd.ntmps9
  go_wp2_with fail
  refine (newBig w).mono ?_
  rintro e w1 ⟨B, rfl, h1, hb1⟩
  go_wp2_with fail
  refine (known8 w1 (HG.out.below hb1 HG.out.pos)).mono ?_
  rintro e w2 ⟨rfl, hb2⟩
  have b2 := hb1.trans (hb2.mono hb1.size)
  have H2 := Lib.hid (h1.below hb2)
  clear h1 hb1 hb2
  obtain ⟨W3, hW3⟩ : ∃ W3, W3 = w2.alloc (.cells #[.int .i64 (-1), .slice none 0 0, .int .i64 0] 90) := ⟨_, rfl⟩
  have hb3 : Below w2.heap.size w2 W3 := by rw [hW3]; exact (Below.refl _ _).alloc (Nat.le_refl _) _
  have hN3 : RootAt W3 w.heap.size w2.heap.size 90 ⟨-1, [], 0⟩ := by rw [hW3]; exact rootAt_new (r := ⟨-1, [], 0⟩) (a := none) (n := 0) (c := 0) (World.ownsRow_nil _ _ _ _) (by omega) b2.size
  have b3 := b2.trans (hb3.mono b2.size)
  have H3 := Lib.hid (H2.out.below hb3)
  have N3 := Lib.hid hN3
  have R3 := Lib.hid Rt.now_new
  clear hb3 hN3 H2
  go_wp2_with fail
  rw [← hW3]
  clear hW3
  obtain ⟨nb, hnb⟩ : ∃ nb, nb = w2.heap.size := ⟨_, rfl⟩
  rw [← hnb] at N3 ⊢
  clear hnb b2
  go_loopg [5] 30 (fun gh iv wr => ∃ (i : Nat) (d : Dsk.Dk) (nw : Rt.Root), iv = .int .i64 (i : Int) ∧ i + gh = 30 ∧ i ≤ n1 ∧ i ≤ 30 ∧ Hid (IsDk wr w.heap.size B d) ∧ Hid (Rt.Now d nw) ∧ Hid (d.works ≤ 5 * i) ∧ Hid (RootAt wr w.heap.size nb 90 nw) ∧ Below w.heap.size w wr)
  case atStart => exact ⟨0, _, _, rfl, rfl, Nat.zero_le _, Nat.zero_le _, H3, R3, Lib.hid (Nat.le_refl _), N3, b3⟩
  case round =>
    clear H3 N3 R3 b3
    obtain ⟨i, d, nw, rfl, hgk, hin, hi10, HD, HN, HW, HR, hb⟩ := hrel
    by_cases hgo : i < n1 ∧ i < 30
    · have t0 : decide ((i : Int) < (n1 : Int)) = true := decide_eq_true (by omega)
      have t0' : decide (i < n1) = true := decide_eq_true hgo.1
      have t1 : decide ((i : Int) < 30) = true := decide_eq_true (by omega)
      have t1' : decide (i < 30) = true := decide_eq_true hgo.2
      have hi1 : (i : Int) < (n1 : Int) := by omega
      have hi0 : (0 : Int) ≤ (i : Int) := by omega
      have hx : xs[i]? = some (xs[i]'(by omega)) := List.getElem?_eq_getElem _
      generalize xs[i]'(by omega) = x at hx
      obtain ⟨b0, o0, rfl, hat⟩ := G1.out.at_ (by omega)
      obtain ⟨hxo, hcx, hxr⟩ := hat i x hx
      have hc0 := hcx 0 (by omega)
      have hc1 := hcx 1 (by omega)
      have hc2 := hcx 2 (by omega)
      have hc3 := hcx 3 (by omega)
      have hc4 := hcx 4 (by omega)
      have hc5 := hcx 5 (by omega)
      have hc6 := hcx 6 (by omega)
      rw [Nat.add_zero, show x.cells[0]? = some (.int .i64 x.what) from rfl] at hc0
      rw [show x.cells[1]? = some (.int .i64 x.n) from rfl] at hc1
      rw [show x.cells[2]? = some (.int .i64 x.cut) from rfl] at hc2
      rw [show x.cells[3]? = some (.int .i64 x.r.gen) from rfl] at hc3
      rw [show x.cells[4]? = some (.int .i64 x.r.idx) from rfl] at hc4
      rw [show x.cells[5]? = some (.int .i64 x.r.how) from rfl] at hc5
      rw [show x.cells[6]? = some (.slice x.r.s.a x.r.s.n x.r.s.c) from rfl] at hc6
      have hltx := World.block_lt_of_cell? w _ hc0
      have hk : ∀ (j : Nat) (v : Value), w.cell? ⟨b0, j, none⟩ = some v → wr.cell? ⟨b0, j, none⟩ = some v := fun j v h => (World.cell?_of_block (hb.block b0 hltx)).trans h
      have ca0 := hk _ _ hc0
      have ca1 := hk _ _ hc1
      have ca2 := hk _ _ hc2
      have ca3 := hk _ _ hc3
      have ca4 := hk _ _ hc4
      have ca5 := hk _ _ hc5
      have ca6 := hk _ _ hc6
      have HXR := Lib.hid hxr
      have HXO := Lib.hid hxo
      clear hat hxo hcx hxr hc0 hc1 hc2 hc3 hc4 hc5 hc6 hk hx
      obtain ⟨z, xn, xc, ⟨rg, ri, rh, ⟨ra, rn, rc, rl⟩⟩⟩ := x
      simp only at ca0 ca1 ca2 ca3 ca4 ca5 ca6 HXR HXO
      have hrw := tmod_bnd z 3 (by omega) (by omega)
      have hiw := wrapi' ((i : Int) + 1) (by omega)
      have hdw := HW.out
      have HDW := Lib.hid hdw
      have HGK := Lib.hid hgk
      clear hdw hgk HW
      obtain ⟨xb, hxb⟩ : ∃ xb, xb = wr.heap.size := ⟨_, rfl⟩
      obtain ⟨WX, hWX⟩ : ∃ WX, WX = wr.alloc (.cells #[.int .i64 z, .int .i64 xn, .int .i64 xc, .int .i64 rg, .int .i64 ri, .int .i64 rh, .slice ra rn rc] 102) := ⟨_, rfl⟩
      have hbX : Below wr.heap.size wr WX := by rw [hWX]; exact (Below.refl _ _).alloc (Nat.le_refl _) _
      have hTX : WX.heap[xb]? = some (.cells #[.int .i64 z, .int .i64 xn, .int .i64 xc, .int .i64 rg, .int .i64 ri, .int .i64 rh, .slice ra rn rc] 102 (0, 0)) := by rw [hWX, hxb]; exact heap_alloc_new _ _
      have HDX := Lib.hid (HD.out.below hbX)
      have HRX := Lib.hid (HR.out.below hbX)
      have bX := hb.trans (hbX.mono hb.size)
      have HTX := Lib.hid hTX
      have HBX := Lib.hid bX
      have HXN := HXO.out.2.1
      have hxn1 := HXN.1
      have hxn2 := HXN.2
      have hzx : w.heap.size ≤ xb := by rw [hxb]; exact hb.size
      have HZX := Lib.hid hzx
      obtain ⟨t, ht⟩ : ∃ t, (z.tmod 3 == 0) = t := ⟨_, rfl⟩
      have HWX := Lib.hid hWX
      have HXB := Lib.hid hxb
      clear hbX hTX bX HXN hzx HD HR hb hWX hxb
      go_upto_if 41 with (fail)
      go_cut [6] from 24 to 131 (fun v6 wx => v6 = .pointer (some ⟨xb, 0, none⟩) ∧ ∃ d1, Hid (IsDk wx w.heap.size B d1) ∧ Hid (Rt.Now d1 nw) ∧ Hid (d1.works ≤ 5 * i) ∧ Hid (RootAt wx w.heap.size nb 90 nw) ∧ Hid (wx.heap[xb]? = some (.cells #[.int .i64 z, .int .i64 xn, .int .i64 xc, .int .i64 rg, .int .i64 ri, .int .i64 rh, .slice ra rn rc] 102 (0, 0))) ∧ Hid (Below w.heap.size w wx))
      case first =>
        rw [← HWX.out, ← HXB.out]
        clear ca0 ca1 ca2 ca3 ca4 ca5 ca6
        cases t
        · go_wp2_with fail
          go_meet
          exact ⟨rfl, d, HDX, HN, HDW, HRX, HTX, HBX⟩
        · have cn : WX.cell? ⟨xb, 1, none⟩ = some (.int .i64 xn) := blk_cell (i := 1) HTX.out rfl
          have hp := pick_any WX xn 8 hxn1 hxn2 (by omega) (by omega)
          obtain ⟨pn, hpn⟩ : ∃ pn, pn = xn % 8 := ⟨_, rfl⟩
          rw [← hpn] at hp
          have hp8 : pn ≤ 9223372036854775807 := by rw [hpn]; have := Int.emod_lt_of_pos xn (show (0 : Int) < 8 by omega); omega
          have hfu := fuse_any WX _ B d HDX.out pn hp8
          clear hpn hp8
          go_wp2_with fail
          refine hp.mono ?_
          clear hp
          rintro e w' ⟨rfl, rfl⟩
          go_wp2_with fail
          refine hfu.mono ?_
          clear hfu
          rintro e w4 ⟨rfl, h4, hb4, hk4⟩
          have hT4 : w4.heap[xb]? = some (.cells #[.int .i64 z, .int .i64 xn, .int .i64 xc, .int .i64 rg, .int .i64 ri, .int .i64 rh, .slice ra rn rc] 102 (0, 0)) := (hk4 _ _ _ _ HTX.out (by decide) (by decide)).trans HTX.out
          have A1 := Lib.hid h4
          have A2 := Lib.hid (HN.out.fuse (if pn < -1 then -1 else pn))
          have A3 := Lib.hid (HRX.out.keep hk4 (by decide) (by decide))
          have A4 := Lib.hid hT4
          have A5 := Lib.hid (HBX.out.trans hb4)
          clear h4 hb4 hk4 hT4 cn
          go_wp2_with fail
          go_meet
          exact ⟨rfl, _, A1, A2, HDW, A3, A4, A5⟩
      case rest =>
        obtain ⟨rfl, d1, HD1, HN1, HW1, HR1, HT1, HB1⟩ := hcut
        clear ht hrw HDX HN HDW HRX HTX HBX HWX HXB
        have cx3 : wc.cell? ⟨xb, 3, none⟩ = some (.int .i64 rg) := blk_cell (i := 3) HT1.out rfl
        have cx4 : wc.cell? ⟨xb, 4, none⟩ = some (.int .i64 ri) := blk_cell (i := 4) HT1.out rfl
        have cx5 : wc.cell? ⟨xb, 5, none⟩ = some (.int .i64 rh) := blk_cell (i := 5) HT1.out rfl
        have cx6 : wc.cell? ⟨xb, 6, none⟩ = some (.slice ra rn rc) := blk_cell (i := 6) HT1.out rfl
        have hone := rone_any wc 140737488351232 ⟨rg, ri, rh, ⟨ra, rn, rc, rl⟩⟩ (argR_below HXR.out HB1.out)
        obtain ⟨r, hr⟩ : ∃ r, r = oneR ⟨rg, ri, rh, ⟨ra, rn, rc, rl⟩⟩ := ⟨_, rfl⟩
        rw [← hr] at hone
        clear hr
        go_wp2_with fail
        refine hone.mono ?_
        clear hone
        rintro e w5 ⟨qa, qn, qc, rfl, ho5, hb5, hq10⟩
        obtain ⟨rb, hrb⟩ : ∃ rb, rb = w5.heap.size := ⟨_, rfl⟩
        obtain ⟨W6, hW6⟩ : ∃ W6, W6 = w5.alloc (.cells #[.int .i64 r.gen, .slice qa qn qc, .int .i64 r.idx] 85) := ⟨_, rfl⟩
        have bw5 := HB1.out.trans (hb5.mono HB1.out.size)
        have hb6 : Below w5.heap.size w5 W6 := by rw [hW6]; exact (Below.refl _ _).alloc (Nat.le_refl _) _
        have hR6 : RootAt W6 w.heap.size rb 85 r := by rw [hW6, hrb]; exact rootAt_new (ownsRow_base ho5 HB1.out.size) hq10 bw5.size
        have hb56 := hb5.trans (hb6.mono hb5.size)
        have bw6 := HB1.out.trans (hb56.mono HB1.out.size)
        have HD6 := Lib.hid (HD1.out.below hb56)
        have HR6 := Lib.hid (HR1.out.below hb56)
        have hT6 := Lib.hid ((hb56.block xb (blk_lt HT1.out)).trans HT1.out)
        have HRR6 := Lib.hid hR6
        have hT6r : W6.heap[rb]? = some (.cells #[.int .i64 r.gen, .slice qa qn qc, .int .i64 r.idx] 85 (0, 0)) := by rw [hW6, hrb]; exact heap_alloc_new _ _
        have hc6 := rootCells hT6r (own_blw (ownsRow_base ho5 HB1.out.size) hb6)
        have HC6 := Lib.hid hc6
        obtain ⟨⟨k0, k1, k2⟩, hin6, _⟩ := hc6 W6 (Below.refl _ _)
        have HIN6 := Lib.hid hin6
        have HBW6 := Lib.hid bw6
        have HW6 := Lib.hid hW6
        have HRB := Lib.hid hrb
        clear hW6 hrb
        clear ho5 hb5 hb6 hb56 bw5 bw6 hR6 hc6 hin6 hT6r HD1 HR1 HT1 HB1 cx3 cx4 cx5 cx6
        go_wp2_with fail
        rw [← HW6.out, ← HRB.out]
        clear HW6 HRB
        refine (plain_any W6 _ _ _ _ _).mono ?_
        rintro e w7 ⟨rfl, hb7⟩
        have hly := refLay_any w7 r qa qn qc ((HC6.out w7 hb7).2.1) (by omega)
        have HB7 := Lib.hid hb7
        clear hb7 k0 k1 k2
        go_wp2_with fail
        refine hly.mono ?_
        clear hly
        rintro e w8 ⟨hb8, hla⟩
        have b68 := HB7.out.trans (hb8.mono HB7.out.size)
        have B68 := Lib.hid b68
        clear hb8 HB7
        by_cases hmay : Rt.may r = true
        · rw [if_pos hmay] at hla
          obtain ⟨vl, rfl, _⟩ := hla
          have HM := Lib.hid hmay
          have hd8 := HD6.out.below b68
          have hsv := rtSave_any w8 w.heap.size B d1 hd8 HN1.out.dead (by have := HW1.out; omega) r qa qn qc ((HC6.out w8 b68).2.1) (by omega)
          obtain ⟨⟨k0, k1, k2⟩, _, _⟩ := HC6.out w8 b68
          have hwk := Lib.hid (Rt.wk_saveB d1 (Rt.lay r))
          have hsc := Lib.hid (HN1.out.save r hmay)
          have R8 := Lib.hid (HR6.out.below b68)
          have RR8 := Lib.hid (HRR6.out.below b68)
          have T8 := Lib.hid ((b68.block xb (blk_lt hT6.out)).trans hT6.out)
          have B8 := Lib.hid (HBW6.out.trans (b68.mono HBW6.out.size))
          clear hmay hd8 b68 B68 HD6 HR6 HRR6 hT6 HBW6 HIN6 HC6
          go_wp2_with fail
          refine hsv.mono ?_
          clear hsv k0 k1 k2
          intro e w9 hq
          obtain ⟨h9, hb9, hk9, ev, ok, rfl, hev, hok⟩ := save_ev hq HM.out
          clear hq
          obtain ⟨d2, hd2⟩ : ∃ d2, d2 = (Rt.saveB d1 (Rt.lay r)).1 := ⟨_, rfl⟩
          obtain ⟨er, her⟩ : ∃ er, er = (Rt.saveB d1 (Rt.lay r)).2 := ⟨_, rfl⟩
          rw [← hd2] at h9
          rw [← her] at hok
          have hsc' := hsc.out
          have hwk' := hwk.out
          rw [← hd2, ← her] at hsc'
          rw [← hd2] at hwk'
          have HSC := Lib.hid hsc'
          have HWK : Hid (d2.works ≤ 5 * (i + 1)) := Lib.hid (by have := HW1.out; omega)
          have HOK := Lib.hid hok
          have HEV := Lib.hid hev
          have H9 := Lib.hid h9
          have R9 := Lib.hid (R8.out.keep hk9 (by decide) (by decide))
          have RR9 := Lib.hid (RR8.out.keep hk9 (by decide) (by decide))
          have T9 := Lib.hid ((hk9 _ _ _ _ T8.out (by decide) (by decide)).trans T8.out)
          have B9 := Lib.hid (B8.out.trans hb9)
          clear hd2 her hsc hwk hsc' hwk' h9 hb9 hk9 R8 RR8 T8 B8 HW1 HN1 hok hev
          obtain ⟨na9, nn9, nc9, hc9, hnn9⟩ := R9.out.cells
          obtain ⟨⟨n0, n1', n2⟩, _, hno9⟩ := hc9 w9 (Below.refl _ _)
          obtain ⟨wb, hwb⟩ : ∃ wb, wb = w9.heap.size := ⟨_, rfl⟩
          obtain ⟨WA, hWA⟩ : ∃ WA, WA = w9.alloc (.cells #[.int .i64 nw.gen, .slice na9 nn9 nc9, .int .i64 nw.idx] 90) := ⟨_, rfl⟩
          have hbA : Below w9.heap.size w9 WA := by rw [hWA]; exact (Below.refl _ _).alloc (Nat.le_refl _) _
          have WSA : Hid (RootAt WA w.heap.size wb 90 nw) := Lib.hid (by rw [hWA, hwb]; exact rootAt_new hno9 hnn9 B9.out.size)
          have HA := Lib.hid (H9.out.below hbA)
          have RA := Lib.hid (R9.out.below hbA)
          have RRA := Lib.hid (RR9.out.below hbA)
          have TA := Lib.hid ((hbA.block xb (blk_lt T9.out)).trans T9.out)
          have BA := Lib.hid (B9.out.trans (hbA.mono B9.out.size))
          have hwbn : Hid (wb ≠ nb) := Lib.hid (by have := R9.out.lt; omega)
          have hrbn : Hid (rb ≠ nb) := Lib.hid (by
            obtain ⟨_, _, _, q1, _⟩ := R9.out
            obtain ⟨_, _, _, q2, _⟩ := RR9.out
            intro e
            rw [e, q1] at q2
            simp only [Option.some.injEq, Obj.cells.injEq] at q2
            exact absurd q2.2.1 (by decide))
          have hxbn : Hid (xb ≠ nb) := Lib.hid (by
            obtain ⟨_, _, _, q1, _⟩ := R9.out
            have q2 := T9.out
            intro e
            rw [e, q1] at q2
            simp only [Option.some.injEq, Obj.cells.injEq] at q2
            exact absurd q2.2.1 (by decide))
          have HWA := Lib.hid hWA
          have HWB := Lib.hid hwb
          obtain ⟨hev, hev2⟩ := HEV.out
          clear hc9 hno9 hbA H9 R9 RR9 T9 B9 hWA hwb
          go_upto_if 63 with (fail)
          go_cut [11] from 24 to 131 (fun v11 wx => v11 = .pointer (some ⟨wb, 0, none⟩) ∧ ∃ nv, Hid (IsDk wx w.heap.size B d2) ∧ Hid (RootAt wx w.heap.size nb 90 nv) ∧ Hid (ok = false → nv = nw) ∧ Hid (RootAt wx w.heap.size wb 90 nw) ∧ Hid (RootAt wx w.heap.size rb 85 r) ∧
            Hid (wx.heap[xb]? = some (.cells #[.int .i64 z, .int .i64 xn, .int .i64 xc, .int .i64 rg, .int .i64 ri, .int .i64 rh, .slice ra rn rc] 102 (0, 0))) ∧ Hid (Below w.heap.size w wx))
          case first =>
            rw [← HWA.out, ← HWB.out]
            clear n0 n1' n2
            cases ok
            · have hdd : d2.dead = true := by
                rcases HSC.out with ⟨h, _⟩ | ⟨_, h, _⟩
                · have := HOK.out.2 h; cases this
                · exact h
              have hde := dead_any WA _ B d2 HA.out
              rw [hdd] at hde
              clear hdd
              go_wp2_with fail
              refine hde.mono ?_
              clear hde
              rintro e w' ⟨rfl, hh⟩
              obtain rfl := hh.symm
              go_wp2_with fail
              go_meet
              exact ⟨rfl, nw, HA, RA, Lib.hid (fun _ => rfl), WSA, RRA, TA, BA⟩
            · obtain ⟨pa, pn', pc', hcp, hpn'⟩ := RRA.out.cells
              obtain ⟨⟨k0, k1, k2⟩, _, hor⟩ := hcp WA (Below.refl _ _)
              have HCP := Lib.hid hcp
              clear hcp hor
              go_wp2_with fail
              refine (plain_any WA _ _ _ _ _).mono ?_
              rintro e w10 ⟨rfl, hb10⟩
              have b10 := BA.out.trans (hb10.mono BA.out.size)
              have hn10 := RA.out.below hb10
              obtain ⟨na2, nn2, nc2, qy1, _, _, hlo⟩ := hn10
              have p0 := blk_free qy1 0
              have p1 := blk_free qy1 1
              have p2 := blk_free qy1 2
              have v0 := blk_cell (i := 0) qy1 rfl
              have v1 := blk_cell (i := 1) qy1 rfl
              have v2 := blk_cell (i := 2) qy1 rfl
              have st := set3w_stay w10 nb (.int .i64 r.gen) (.slice pa pn' pc') (.int .i64 r.idx)
              have D10 := isDk_set (HA.out.below hb10) qy1 (by decide) (by decide) (by decide) st
              have N10 := RootAt.put (b := 0) (T := 0) (r := r) (RA.out.below hb10) (by decide) (HCP.out w10 hb10).2.2 hpn'
              have W10 := (WSA.out.below hb10).set qy1 (by decide) hwbn.out st
              have R10 := (RRA.out.below hb10).set qy1 (by decide) hrbn.out st
              have T10 := (st.block xb (blk_lt ((hb10.block xb (blk_lt TA.out)).trans TA.out)) hxbn.out).trans ((hb10.block xb (blk_lt TA.out)).trans TA.out)
              have B10 := set3w_below b10 hlo (.int .i64 r.gen) (.slice pa pn' pc') (.int .i64 r.idx)
              unfold set3w at D10 N10 W10 R10 T10 B10
              have D10 := Lib.hid D10
              have N10 := Lib.hid N10
              have W10 := Lib.hid W10
              have R10 := Lib.hid R10
              have T10 := Lib.hid T10
              have B10 := Lib.hid B10
              clear hb10 b10 qy1 hlo st
              go_wp2_with fail
              go_meet
              exact ⟨rfl, r, D10, N10, Lib.hid (fun h => by cases h), W10, R10, T10, B10⟩
          case rest =>
            obtain ⟨rfl, nv, HD2, HNV, HNN, HWS, HRR, HTX2, HB2⟩ := hcut
            clear n0 n1' n2 HA RA RRA TA BA WSA HWA HWB hev hev2
            go_upto_region 20 with (fail)
            go_cut [76] from 24 to 131 (fun v76 wx => wc = wx ∧ ∃ b : Bool, v76 = .bool b ∧ (d2.dead = true → b = true))
            case first =>
              have hde := dead_any wc _ B d2 HD2.out
              have cc : wc.cell? ⟨xb, 2, none⟩ = some (.int .i64 xc) := blk_cell (i := 2) HTX2.out rfl
              obtain ⟨dd, hdd⟩ : ∃ dd, d2.dead = dd := ⟨_, rfl⟩
              rw [hdd] at hde
              have HDD := Lib.hid hdd
              clear hdd
              cases dd
              · go_wp2_with fail
                refine hde.mono ?_
                clear hde
                rintro e w' ⟨rfl, hh⟩
                obtain rfl := hh.symm
                have hrw4 := tmod_bnd xc 4 (by omega) (by omega)
                go_wp2_with fail
                go_meet
                exact ⟨rfl, _, rfl, fun h => by rw [HDD.out] at h; cases h⟩
              · go_wp2_with fail
                refine hde.mono ?_
                clear hde
                rintro e w' ⟨rfl, hh⟩
                obtain rfl := hh.symm
                go_wp2_with fail
                go_meet
                exact ⟨rfl, true, rfl, fun _ => rfl⟩
            case rest =>
              obtain ⟨rfl, b, rfl, hbd⟩ := hcut
              have HBD := Lib.hid hbd
              clear hbd
              go_upto_if 76 with (fail)
              go_cut [6] from 24 to 131 (fun v6 wx => v6 = .pointer (some ⟨xb, 0, none⟩) ∧ ∃ d3 L, Hid (IsDk wx w.heap.size B d3) ∧ Hid (Rt.Hold d3 nw r ok L) ∧ Hid (d3.works ≤ 5 * (i + 1)) ∧ Hid (RootAt wx w.heap.size nb 90 nv) ∧ Hid (RootAt wx w.heap.size wb 90 nw) ∧ Hid (RootAt wx w.heap.size rb 85 r) ∧ Hid (Below w.heap.size w wx))
              case first =>
                cases b
                · have hnd : d2.dead = false := by
                    cases hdd : d2.dead with
                    | false => rfl
                    | true => have := HBD.out hdd; cases this
                  have hho : ∃ L, Rt.Hold d2 nw r ok L := by
                    rcases HSC.out with ⟨h1, h2⟩ | ⟨_, h2, _⟩
                    · exact ⟨_, Rt.Hold.of_save h2 HM.out ok⟩
                    · rw [hnd] at h2; cases h2
                  obtain ⟨L, hL⟩ := hho
                  have HL := Lib.hid hL
                  clear hnd hL
                  go_wp2_with fail
                  go_meet
                  exact ⟨rfl, d2, L, HD2, HL, HWK, HNV, HWS, HRR, HB2⟩
                · have cc1 : wc.cell? ⟨xb, 1, none⟩ = some (.int .i64 xn) := blk_cell (i := 1) HTX2.out rfl
                  have cc2 : wc.cell? ⟨xb, 2, none⟩ = some (.int .i64 xc) := blk_cell (i := 2) HTX2.out rfl
                  have hcr := crash_any wc _ B d2 HD2.out xn xc
                  have hho : ∃ L, Rt.Hold (d2.crash xn xc) nw r ok L := by
                    rcases HSC.out with ⟨h1, h2⟩ | ⟨h1, _, h2⟩
                    · exact ⟨_, Rt.Hold.of_save (h2.crash _ _) HM.out ok⟩
                    · rcases h2 xn xc with h2 | h2
                      · have : ok = false := by
                          cases hok : ok with
                          | false => rfl
                          | true => have := HOK.out.1 hok; omega
                        rw [this]
                        exact Rt.Hold.of_was h2 HM.out
                      · exact ⟨_, Rt.Hold.of_save h2 HM.out ok⟩
                  obtain ⟨L, hL⟩ := hho
                  have HL := Lib.hid hL
                  clear hL
                  go_wp2_with fail
                  refine hcr.mono ?_
                  clear hcr cc1 cc2
                  rintro e w12 ⟨rfl, h12, hb12, hk12⟩
                  have D12 := Lib.hid h12
                  have W12 : Hid ((d2.crash xn xc).works ≤ 5 * (i + 1)) := HWK
                  have N12 := Lib.hid (HNV.out.keep hk12 (by decide) (by decide))
                  have S12 := Lib.hid (HWS.out.keep hk12 (by decide) (by decide))
                  have R12 := Lib.hid (HRR.out.keep hk12 (by decide) (by decide))
                  have B12 := Lib.hid (HB2.out.trans hb12)
                  clear h12 hb12 hk12
                  go_wp2_with fail
                  go_meet
                  exact ⟨rfl, _, L, D12, HL, W12, N12, S12, R12, B12⟩
              case rest =>
                obtain ⟨rfl, d3, L, HD3, HL3, HW3, HN3, HS3, HR3, HB3⟩ := hcut
                clear HD2 HWK HNV HWS HRR HTX2 HB2 HBD HSC HOK
                have hld := load_any wc w.heap.size B d3 HD3.out HL3.out.dead (by have := HL3.out.val; omega)
                go_wp2_with fail
                refine hld.mono ?_
                clear hld
                intro e w15 hq
                obtain ⟨hb15, hq⟩ := hold_load HL3.out hq
                obtain ⟨s, sa, sn, sc, fv, rfl, hso, hsn, hfe, hsq, hkv⟩ := loaded_kv hq
                obtain ⟨sb, hsb⟩ : ∃ sb, sb = w15.heap.size := ⟨_, rfl⟩
                obtain ⟨W16, hW16⟩ : ∃ W16, W16 = w15.alloc (.cells #[.int .i64 s.gen, .slice sa sn sc, .int .i64 s.idx] 85) := ⟨_, rfl⟩
                have hb16 : Below w15.heap.size w15 W16 := by rw [hW16]; exact (Below.refl _ _).alloc (Nat.le_refl _) _
                have hb3 := HB3.out
                have b15 := hb3.trans (hb15.mono hb3.size)
                have b16 := b15.trans (hb16.mono b15.size)
                have hTs : W16.heap[sb]? = some (.cells #[.int .i64 s.gen, .slice sa sn sc, .int .i64 s.idx] 85 (0, 0)) := by rw [hW16, hsb]; exact heap_alloc_new _ _
                have hcs := rootCells hTs (own_blw hso hb16)
                have b1516 := hb15.trans (hb16.mono hb15.size)
                have H16 := Lib.hid (HD3.out.below b1516)
                have NW16 := Lib.hid (HN3.out.below b1516)
                have WS16 := HS3.out.below b1516
                have RR16 := HR3.out.below b1516
                obtain ⟨a2, m2, c2', hcw, hm2⟩ := WS16.cells
                obtain ⟨a3, m3, c3', hcr, hm3⟩ := RR16.cells
                have CS := Lib.hid hcs
                have CW := Lib.hid hcw
                have CR := Lib.hid hcr
                have HM3 := Lib.hid hm3
                have SM1 : Hid (∀ Y, Below W16.heap.size W16 Y → Calls Tryd.prog 39 #[.agg #[.int .i64 s.gen, .slice sa sn sc, .int .i64 s.idx], .agg #[.int .i64 nw.gen, .slice a2 m2 c2', .int .i64 nw.idx]] Y fun e w' => e = .returned (.bool (Rt.sameB s nw)) ∧ Below Y.heap.size Y w') := Lib.hid (fun Y hY => sameRoot_any Y _ _ sa sn sc _ (hcs Y hY).2.1 _ _ a2 m2 c2' _ (hcw Y hY).2.1 (by omega) (by omega))
                have SM2 : Hid (∀ Y, Below W16.heap.size W16 Y → Calls Tryd.prog 39 #[.agg #[.int .i64 s.gen, .slice sa sn sc, .int .i64 s.idx], .agg #[.int .i64 r.gen, .slice a3 m3 c3', .int .i64 r.idx]] Y fun e w' => e = .returned (.bool (Rt.sameB s r)) ∧ Below Y.heap.size Y w') := Lib.hid (fun Y hY => sameRoot_any Y _ _ sa sn sc _ (hcs Y hY).2.1 _ _ a3 m3 c3' _ (hcr Y hY).2.1 (by omega) (by omega))
                have KN := Lib.hid (hkv W16 (HG.out.below b16 HG.out.pos))
                have HFE := Lib.hid hfe
                have HSQ := Lib.hid hsq
                have HB16 := Lib.hid b16
                have HWW := Lib.hid hW16
                have HSB := Lib.hid hsb
                clear hb15 hq hso hsn hfe hsq hkv hb16 hb3 b15 b16 hTs hcs b1516 WS16 RR16 hcw hcr hm2 hm3 hW16 hsb HD3 HN3 HS3 HR3 HB3
                go_upto_region 23 with (fail)
                rw [← HWW.out, ← HSB.out]
                clear HWW HSB
                go_cut [14] from 24 to 131 (fun v14 wx => v14 = .bool (Rt.oldB L nw) ∧ Below W16.heap.size W16 wx)
                case first =>
                  obtain ⟨hfe1, hfe2⟩ := HFE.out
                  unfold KV at KN
                  cases L with
                  | none =>
                    have hgn := HL3.out.none
                    rw [hgn] at CW
                    have KE := KN
                    simp only [Option.isSome_none, Bool.false_eq_true, if_false] at KE hfe1 hfe2
                    clear KN hgn
                    have HO : Hid (Rt.oldB none nw = true) := Lib.hid rfl
                    clear HFE HSQ
                    refine wp_region_held_drew (S := (fun Y => Below W16.heap.size W16 Y)) (by kernel_rfl) ((Below.refl _ _).drew) (fun hHeld => ?_)
                    refine wpAnyH_take (i := 0) (v := ?_) rfl (by kernel_rfl) (by kernel_rfl) (by kernel_rfl) (fun _ _ _ h => h) (Or.inl ⟨by kernel_rfl, ?_⟩) hHeld ?_
                    rotate_left
                    · (intro w hSw; clear hSw; go_simp; try (with_reducible rfl))
                    (try simp only [Act.put, List.setIfInBounds_toArray, List.set_cons_zero, List.set_cons_succ])
                    refine wpAnyH_take (i := 1) (v := ?_) rfl (by kernel_rfl) (by kernel_rfl) (by kernel_rfl) (fun _ _ _ h => h) (Or.inl ⟨by kernel_rfl, ?_⟩) hHeld ?_
                    rotate_left
                    · (intro w hSw; clear hSw; go_simp; try (with_reducible rfl))
                    (try simp only [Act.put, List.setIfInBounds_toArray, List.set_cons_zero, List.set_cons_succ])
                    refine wpAnyH_take (i := 2) (v := ?_) rfl (by kernel_rfl) (by kernel_rfl) (by kernel_rfl) (fun _ _ _ h => h) (Or.inl ⟨by kernel_rfl, ?_⟩) hHeld ?_
                    rotate_left
                    · (intro w hSw; clear hSw; go_simp; try (with_reducible rfl))
                    (try simp only [Act.put, List.setIfInBounds_toArray, List.set_cons_zero, List.set_cons_succ])
                    refine wpAnyH_take (i := 3) (v := undef) rfl (by kernel_rfl) (by kernel_rfl) (by kernel_rfl) (fun _ _ _ h => h) (Or.inr ⟨by kernel_rfl, rfl⟩) hHeld ?_
                    (try simp only [Act.put, List.setIfInBounds_toArray, List.set_cons_zero, List.set_cons_succ])
                    refine wpAnyH_take (i := 4) (v := undef) rfl (by kernel_rfl) (by kernel_rfl) (by kernel_rfl) (fun _ _ _ h => h) (Or.inr ⟨by kernel_rfl, rfl⟩) hHeld ?_
                    (try simp only [Act.put, List.setIfInBounds_toArray, List.set_cons_zero, List.set_cons_succ])
                    refine wpAnyH_take (i := 5) (v := undef) rfl (by kernel_rfl) (by kernel_rfl) (by kernel_rfl) (fun _ _ _ h => h) (Or.inr ⟨by kernel_rfl, rfl⟩) hHeld ?_
                    (try simp only [Act.put, List.setIfInBounds_toArray, List.set_cons_zero, List.set_cons_succ])
                    refine wpAnyH_take (i := 6) (v := undef) rfl (by kernel_rfl) (by kernel_rfl) (by kernel_rfl) (fun _ _ _ h => h) (Or.inr ⟨by kernel_rfl, rfl⟩) hHeld ?_
                    (try simp only [Act.put, List.setIfInBounds_toArray, List.set_cons_zero, List.set_cons_succ])
                    refine wpAnyH_take (i := 7) (v := ?_) rfl (by kernel_rfl) (by kernel_rfl) (by kernel_rfl) (fun _ _ _ h => h) (Or.inl ⟨by kernel_rfl, ?_⟩) hHeld ?_
                    rotate_left
                    · (intro w hSw; clear hSw; go_simp; try (with_reducible rfl))
                    (try simp only [Act.put, List.setIfInBounds_toArray, List.set_cons_zero, List.set_cons_succ])
                    refine wpAnyH_take (i := 8) (v := ?_) rfl (by kernel_rfl) (by kernel_rfl) (by kernel_rfl) (fun _ _ _ h => h) (Or.inl ⟨by kernel_rfl, ?_⟩) hHeld ?_
                    rotate_left
                    · (intro w hSw; clear hSw; go_simp; try (with_reducible rfl))
                    (try simp only [Act.put, List.setIfInBounds_toArray, List.set_cons_zero, List.set_cons_succ])
                    refine wpAnyH_take (i := 9) (v := ?_) rfl (by kernel_rfl) (by kernel_rfl) (by kernel_rfl) (fun _ _ _ h => h) (Or.inl ⟨by kernel_rfl, ?_⟩) hHeld ?_
                    rotate_left
                    · (intro w hSw; clear hSw; go_simp; try (with_reducible rfl))
                    (try simp only [Act.put, List.setIfInBounds_toArray, List.set_cons_zero, List.set_cons_succ])
                    refine wpAnyH_ready (rs := [10]) (by kernel_rfl) (by simp) ?_
                    refine AllReadyH.cons rfl (fun K hK => ?_) AllReadyH.nil
                    go_simp
                    go_wp2_with fail
                    refine (KE.out _ hHeld).mono ?_
                    rintro e w20 ⟨rfl, hb'⟩
                    have hH : Below W16.heap.size W16 _ := hHeld
                    have hS2 : Below W16.heap.size W16 w20 := hH.trans (hb'.mono hH.size)
                    clear hHeld hb' hH
                    go_wp2_with fail
                    refine hK.out _ _ hS2 (fun hHeld => ?_)
                    clear hK K hS2
                    (try simp only [Act.put, List.setIfInBounds_toArray, List.set_cons_zero, List.set_cons_succ])
                    refine wpAnyH_take (i := 11) (v := ?_) rfl (by kernel_rfl) (by kernel_rfl) (by kernel_rfl) (fun _ _ _ h => h) (Or.inl ⟨by kernel_rfl, ?_⟩) hHeld ?_
                    rotate_left
                    · (intro w hSw; clear hSw; go_simp; try (with_reducible rfl))
                    (try simp only [Act.put, List.setIfInBounds_toArray, List.set_cons_zero, List.set_cons_succ])
                    refine wpAnyH_take (i := 12) (v := ?_) rfl (by kernel_rfl) (by kernel_rfl) (by kernel_rfl) (fun _ _ _ h => h) (Or.inl ⟨by kernel_rfl, ?_⟩) hHeld ?_
                    rotate_left
                    · (intro w hSw; clear hSw; go_simp; try (with_reducible rfl))
                    (try simp only [Act.put, List.setIfInBounds_toArray, List.set_cons_zero, List.set_cons_succ])
                    refine wpAnyH_take (i := 13) (v := ?_) rfl (by kernel_rfl) (by kernel_rfl) (by kernel_rfl) (fun _ _ _ h => h) (Or.inl ⟨by kernel_rfl, ?_⟩) hHeld ?_
                    rotate_left
                    · (intro w hSw; clear hSw; go_simp; try (with_reducible rfl))
                    (try simp only [Act.put, List.setIfInBounds_toArray, List.set_cons_zero, List.set_cons_succ])
                    refine wpAnyH_take (i := 14) (v := ?_) rfl (by kernel_rfl) (by kernel_rfl) (by kernel_rfl) (fun _ _ _ h => h) (Or.inl ⟨by kernel_rfl, ?_⟩) hHeld ?_
                    rotate_left
                    · (intro w hSw; obtain ⟨k0, k1, k2⟩ := (CW.out w hSw).1; clear hSw; go_simp; try (with_reducible rfl))
                    (try simp only [Act.put, List.setIfInBounds_toArray, List.set_cons_zero, List.set_cons_succ])
                    refine wpAnyH_take (i := 15) (v := ?_) rfl (by kernel_rfl) (by kernel_rfl) (by kernel_rfl) (fun _ _ _ h => h) (Or.inl ⟨by kernel_rfl, ?_⟩) hHeld ?_
                    rotate_left
                    · (intro w hSw; clear hSw; go_simp; try (with_reducible rfl))
                    (try simp only [Act.put, List.setIfInBounds_toArray, List.set_cons_zero, List.set_cons_succ])
                    refine wpAnyH_take (i := 16) (v := ?_) rfl (by kernel_rfl) (by kernel_rfl) (by kernel_rfl) (fun _ _ _ h => h) (Or.inl ⟨by kernel_rfl, ?_⟩) hHeld ?_
                    rotate_left
                    · (intro w hSw; clear hSw; go_simp; try (with_reducible rfl))
                    (try simp only [Act.put, List.setIfInBounds_toArray, List.set_cons_zero, List.set_cons_succ])
                    refine wpAnyH_take (i := 17) (v := ?_) rfl (by kernel_rfl) (by kernel_rfl) (by kernel_rfl) (fun _ _ _ h => h) (Or.inl ⟨by kernel_rfl, ?_⟩) hHeld ?_
                    rotate_left
                    · (intro w hSw; clear hSw; go_simp; try (with_reducible rfl))
                    (try simp only [Act.put, List.setIfInBounds_toArray, List.set_cons_zero, List.set_cons_succ])
                    refine wpAnyH_take (i := 18) (v := ?_) rfl (by kernel_rfl) (by kernel_rfl) (by kernel_rfl) (fun _ _ _ h => h) (Or.inl ⟨by kernel_rfl, ?_⟩) hHeld ?_
                    rotate_left
                    · (intro w hSw; clear hSw; go_simp; try (with_reducible rfl))
                    (try simp only [Act.put, List.setIfInBounds_toArray, List.set_cons_zero, List.set_cons_succ])
                    refine wpAnyH_done (by kernel_rfl) ?_ _
                    simp only [Act.put, List.getElem_toArray, List.getElem_cons_zero, List.getElem_cons_succ, List.setIfInBounds_toArray, List.set_cons_zero, List.set_cons_succ]
                    go_wp2_with fail
                    go_meet
                    exact ⟨by rw [HO.out], hHeld⟩
                  | some q =>
                    have hq := HSQ.out q rfl
                    have ho1 : Rt.oldB (some q) nw = Rt.sameB s nw := by rw [hq]; rfl
                    simp only [Option.isSome_some, if_true] at KN hfe1 hfe2
                    clear HFE HSQ hq
                    obtain ⟨q1, hq1⟩ : ∃ q1, q1 = Rt.sameB s nw := ⟨_, rfl⟩
                    rw [← hq1] at SM1 ho1
                    have HO := Lib.hid ho1
                    clear hq1 ho1
                    cases q1
                    · skip
                      refine wp_region_held_drew (S := (fun Y => Below W16.heap.size W16 Y)) (by kernel_rfl) ((Below.refl _ _).drew) (fun hHeld => ?_)
                      refine wpAnyH_take (i := 0) (v := ?_) rfl (by kernel_rfl) (by kernel_rfl) (by kernel_rfl) (fun _ _ _ h => h) (Or.inl ⟨by kernel_rfl, ?_⟩) hHeld ?_
                      rotate_left
                      · (intro w hSw; clear hSw; go_simp; try (with_reducible rfl))
                      (try simp only [Act.put, List.setIfInBounds_toArray, List.set_cons_zero, List.set_cons_succ])
                      refine wpAnyH_take (i := 1) (v := ?_) rfl (by kernel_rfl) (by kernel_rfl) (by kernel_rfl) (fun _ _ _ h => h) (Or.inl ⟨by kernel_rfl, ?_⟩) hHeld ?_
                      rotate_left
                      · (intro w hSw; clear hSw; go_simp; try (with_reducible rfl))
                      (try simp only [Act.put, List.setIfInBounds_toArray, List.set_cons_zero, List.set_cons_succ])
                      refine wpAnyH_take (i := 2) (v := ?_) rfl (by kernel_rfl) (by kernel_rfl) (by kernel_rfl) (fun _ _ _ h => h) (Or.inl ⟨by kernel_rfl, ?_⟩) hHeld ?_
                      rotate_left
                      · (intro w hSw; clear hSw; go_simp; try (with_reducible rfl))
                      (try simp only [Act.put, List.setIfInBounds_toArray, List.set_cons_zero, List.set_cons_succ])
                      refine wpAnyH_take (i := 3) (v := ?_) rfl (by kernel_rfl) (by kernel_rfl) (by kernel_rfl) (fun _ _ _ h => h) (Or.inl ⟨by kernel_rfl, ?_⟩) hHeld ?_
                      rotate_left
                      · (intro w hSw; obtain ⟨k0, k1, k2⟩ := (CS.out w hSw).1; clear hSw; go_simp; try (with_reducible rfl))
                      (try simp only [Act.put, List.setIfInBounds_toArray, List.set_cons_zero, List.set_cons_succ])
                      refine wpAnyH_take (i := 5) (v := ?_) rfl (by kernel_rfl) (by kernel_rfl) (by kernel_rfl) (fun _ _ _ h => h) (Or.inl ⟨by kernel_rfl, ?_⟩) hHeld ?_
                      rotate_left
                      · (intro w hSw; obtain ⟨k0, k1, k2⟩ := (CW.out w hSw).1; clear hSw; go_simp; try (with_reducible rfl))
                      (try simp only [Act.put, List.setIfInBounds_toArray, List.set_cons_zero, List.set_cons_succ])
                      refine wpAnyH_ready (rs := [4]) (by kernel_rfl) (by simp) ?_
                      refine AllReadyH.cons rfl (fun K hK => ?_) AllReadyH.nil
                      go_simp
                      go_wp2_with fail
                      refine (plain_any _ _ _ _ _ _).mono ?_
                      rintro e w18 ⟨rfl, hb'⟩
                      have hH : Below W16.heap.size W16 _ := hHeld
                      have hS2 : Below W16.heap.size W16 w18 := hH.trans (hb'.mono hH.size)
                      clear hHeld hb' hH
                      go_wp2_with fail
                      refine hK.out _ _ hS2 (fun hHeld => ?_)
                      clear hK K hS2
                      (try simp only [Act.put, List.setIfInBounds_toArray, List.set_cons_zero, List.set_cons_succ])
                      refine wpAnyH_ready (rs := [6]) (by kernel_rfl) (by simp) ?_
                      refine AllReadyH.cons rfl (fun K hK => ?_) AllReadyH.nil
                      go_simp
                      go_wp2_with fail
                      refine (SM1.out _ hHeld).mono ?_
                      rintro e w19 ⟨rfl, hb'⟩
                      have hH : Below W16.heap.size W16 _ := hHeld
                      have hS2 : Below W16.heap.size W16 w19 := hH.trans (hb'.mono hH.size)
                      clear hHeld hb' hH
                      go_wp2_with fail
                      refine hK.out _ _ hS2 (fun hHeld => ?_)
                      clear hK K hS2
                      (try simp only [Act.put, List.setIfInBounds_toArray, List.set_cons_zero, List.set_cons_succ])
                      refine wpAnyH_take (i := 7) (v := ?_) rfl (by kernel_rfl) (by kernel_rfl) (by kernel_rfl) (fun _ _ _ h => h) (Or.inl ⟨by kernel_rfl, ?_⟩) hHeld ?_
                      rotate_left
                      · (intro w hSw; clear hSw; go_simp; try (with_reducible rfl))
                      (try simp only [Act.put, List.setIfInBounds_toArray, List.set_cons_zero, List.set_cons_succ])
                      refine wpAnyH_take (i := 8) (v := ?_) rfl (by kernel_rfl) (by kernel_rfl) (by kernel_rfl) (fun _ _ _ h => h) (Or.inl ⟨by kernel_rfl, ?_⟩) hHeld ?_
                      rotate_left
                      · (intro w hSw; clear hSw; go_simp; try (with_reducible rfl))
                      (try simp only [Act.put, List.setIfInBounds_toArray, List.set_cons_zero, List.set_cons_succ])
                      refine wpAnyH_take (i := 9) (v := ?_) rfl (by kernel_rfl) (by kernel_rfl) (by kernel_rfl) (fun _ _ _ h => h) (Or.inl ⟨by kernel_rfl, ?_⟩) hHeld ?_
                      rotate_left
                      · (intro w hSw; clear hSw; go_simp; try (with_reducible rfl))
                      (try simp only [Act.put, List.setIfInBounds_toArray, List.set_cons_zero, List.set_cons_succ])
                      refine wpAnyH_ready (rs := [10]) (by kernel_rfl) (by simp) ?_
                      refine AllReadyH.cons rfl (fun K hK => ?_) AllReadyH.nil
                      go_simp
                      go_wp2_with fail
                      refine (KN.out _ hHeld).mono ?_
                      rintro e w20 ⟨rfl, hb'⟩
                      have hH : Below W16.heap.size W16 _ := hHeld
                      have hS2 : Below W16.heap.size W16 w20 := hH.trans (hb'.mono hH.size)
                      clear hHeld hb' hH
                      go_wp2_with fail
                      refine hK.out _ _ hS2 (fun hHeld => ?_)
                      clear hK K hS2
                      (try simp only [Act.put, List.setIfInBounds_toArray, List.set_cons_zero, List.set_cons_succ])
                      refine wpAnyH_take (i := 11) (v := ?_) rfl (by kernel_rfl) (by kernel_rfl) (by kernel_rfl) (fun _ _ _ h => h) (Or.inl ⟨by kernel_rfl, ?_⟩) hHeld ?_
                      rotate_left
                      · (intro w hSw; clear hSw; go_simp; try (with_reducible rfl))
                      (try simp only [Act.put, List.setIfInBounds_toArray, List.set_cons_zero, List.set_cons_succ])
                      refine wpAnyH_take (i := 12) (v := ?_) rfl (by kernel_rfl) (by kernel_rfl) (by kernel_rfl) (fun _ _ _ h => h) (Or.inl ⟨by kernel_rfl, ?_⟩) hHeld ?_
                      rotate_left
                      · (intro w hSw; clear hSw; go_simp; try (with_reducible rfl))
                      (try simp only [Act.put, List.setIfInBounds_toArray, List.set_cons_zero, List.set_cons_succ])
                      refine wpAnyH_take (i := 13) (v := undef) rfl (by kernel_rfl) (by kernel_rfl) (by kernel_rfl) (fun _ _ _ h => h) (Or.inr ⟨by kernel_rfl, rfl⟩) hHeld ?_
                      (try simp only [Act.put, List.setIfInBounds_toArray, List.set_cons_zero, List.set_cons_succ])
                      refine wpAnyH_take (i := 14) (v := undef) rfl (by kernel_rfl) (by kernel_rfl) (by kernel_rfl) (fun _ _ _ h => h) (Or.inr ⟨by kernel_rfl, rfl⟩) hHeld ?_
                      (try simp only [Act.put, List.setIfInBounds_toArray, List.set_cons_zero, List.set_cons_succ])
                      refine wpAnyH_take (i := 15) (v := undef) rfl (by kernel_rfl) (by kernel_rfl) (by kernel_rfl) (fun _ _ _ h => h) (Or.inr ⟨by kernel_rfl, rfl⟩) hHeld ?_
                      (try simp only [Act.put, List.setIfInBounds_toArray, List.set_cons_zero, List.set_cons_succ])
                      refine wpAnyH_take (i := 16) (v := ?_) rfl (by kernel_rfl) (by kernel_rfl) (by kernel_rfl) (fun _ _ _ h => h) (Or.inl ⟨by kernel_rfl, ?_⟩) hHeld ?_
                      rotate_left
                      · (intro w hSw; clear hSw; go_simp; try (with_reducible rfl))
                      (try simp only [Act.put, List.setIfInBounds_toArray, List.set_cons_zero, List.set_cons_succ])
                      refine wpAnyH_take (i := 17) (v := ?_) rfl (by kernel_rfl) (by kernel_rfl) (by kernel_rfl) (fun _ _ _ h => h) (Or.inl ⟨by kernel_rfl, ?_⟩) hHeld ?_
                      rotate_left
                      · (intro w hSw; clear hSw; go_simp; try (with_reducible rfl))
                      (try simp only [Act.put, List.setIfInBounds_toArray, List.set_cons_zero, List.set_cons_succ])
                      refine wpAnyH_take (i := 18) (v := ?_) rfl (by kernel_rfl) (by kernel_rfl) (by kernel_rfl) (fun _ _ _ h => h) (Or.inl ⟨by kernel_rfl, ?_⟩) hHeld ?_
                      rotate_left
                      · (intro w hSw; clear hSw; go_simp; try (with_reducible rfl))
                      (try simp only [Act.put, List.setIfInBounds_toArray, List.set_cons_zero, List.set_cons_succ])
                      refine wpAnyH_done (by kernel_rfl) ?_ _
                      simp only [Act.put, List.getElem_toArray, List.getElem_cons_zero, List.getElem_cons_succ, List.setIfInBounds_toArray, List.set_cons_zero, List.set_cons_succ]
                      go_wp2_with fail
                      go_meet
                      exact ⟨by rw [HO.out], hHeld⟩
                    · skip
                      refine wp_region_held_drew (S := (fun Y => Below W16.heap.size W16 Y)) (by kernel_rfl) ((Below.refl _ _).drew) (fun hHeld => ?_)
                      refine wpAnyH_take (i := 0) (v := ?_) rfl (by kernel_rfl) (by kernel_rfl) (by kernel_rfl) (fun _ _ _ h => h) (Or.inl ⟨by kernel_rfl, ?_⟩) hHeld ?_
                      rotate_left
                      · (intro w hSw; clear hSw; go_simp; try (with_reducible rfl))
                      (try simp only [Act.put, List.setIfInBounds_toArray, List.set_cons_zero, List.set_cons_succ])
                      refine wpAnyH_take (i := 1) (v := ?_) rfl (by kernel_rfl) (by kernel_rfl) (by kernel_rfl) (fun _ _ _ h => h) (Or.inl ⟨by kernel_rfl, ?_⟩) hHeld ?_
                      rotate_left
                      · (intro w hSw; clear hSw; go_simp; try (with_reducible rfl))
                      (try simp only [Act.put, List.setIfInBounds_toArray, List.set_cons_zero, List.set_cons_succ])
                      refine wpAnyH_take (i := 2) (v := ?_) rfl (by kernel_rfl) (by kernel_rfl) (by kernel_rfl) (fun _ _ _ h => h) (Or.inl ⟨by kernel_rfl, ?_⟩) hHeld ?_
                      rotate_left
                      · (intro w hSw; clear hSw; go_simp; try (with_reducible rfl))
                      (try simp only [Act.put, List.setIfInBounds_toArray, List.set_cons_zero, List.set_cons_succ])
                      refine wpAnyH_take (i := 3) (v := ?_) rfl (by kernel_rfl) (by kernel_rfl) (by kernel_rfl) (fun _ _ _ h => h) (Or.inl ⟨by kernel_rfl, ?_⟩) hHeld ?_
                      rotate_left
                      · (intro w hSw; obtain ⟨k0, k1, k2⟩ := (CS.out w hSw).1; clear hSw; go_simp; try (with_reducible rfl))
                      (try simp only [Act.put, List.setIfInBounds_toArray, List.set_cons_zero, List.set_cons_succ])
                      refine wpAnyH_take (i := 5) (v := ?_) rfl (by kernel_rfl) (by kernel_rfl) (by kernel_rfl) (fun _ _ _ h => h) (Or.inl ⟨by kernel_rfl, ?_⟩) hHeld ?_
                      rotate_left
                      · (intro w hSw; obtain ⟨k0, k1, k2⟩ := (CW.out w hSw).1; clear hSw; go_simp; try (with_reducible rfl))
                      (try simp only [Act.put, List.setIfInBounds_toArray, List.set_cons_zero, List.set_cons_succ])
                      refine wpAnyH_ready (rs := [4]) (by kernel_rfl) (by simp) ?_
                      refine AllReadyH.cons rfl (fun K hK => ?_) AllReadyH.nil
                      go_simp
                      go_wp2_with fail
                      refine (plain_any _ _ _ _ _ _).mono ?_
                      rintro e w18 ⟨rfl, hb'⟩
                      have hH : Below W16.heap.size W16 _ := hHeld
                      have hS2 : Below W16.heap.size W16 w18 := hH.trans (hb'.mono hH.size)
                      clear hHeld hb' hH
                      go_wp2_with fail
                      refine hK.out _ _ hS2 (fun hHeld => ?_)
                      clear hK K hS2
                      (try simp only [Act.put, List.setIfInBounds_toArray, List.set_cons_zero, List.set_cons_succ])
                      refine wpAnyH_ready (rs := [6]) (by kernel_rfl) (by simp) ?_
                      refine AllReadyH.cons rfl (fun K hK => ?_) AllReadyH.nil
                      go_simp
                      go_wp2_with fail
                      refine (SM1.out _ hHeld).mono ?_
                      rintro e w19 ⟨rfl, hb'⟩
                      have hH : Below W16.heap.size W16 _ := hHeld
                      have hS2 : Below W16.heap.size W16 w19 := hH.trans (hb'.mono hH.size)
                      clear hHeld hb' hH
                      go_wp2_with fail
                      refine hK.out _ _ hS2 (fun hHeld => ?_)
                      clear hK K hS2
                      (try simp only [Act.put, List.setIfInBounds_toArray, List.set_cons_zero, List.set_cons_succ])
                      refine wpAnyH_take (i := 7) (v := ?_) rfl (by kernel_rfl) (by kernel_rfl) (by kernel_rfl) (fun _ _ _ h => h) (Or.inl ⟨by kernel_rfl, ?_⟩) hHeld ?_
                      rotate_left
                      · (intro w hSw; clear hSw; go_simp; try (with_reducible rfl))
                      (try simp only [Act.put, List.setIfInBounds_toArray, List.set_cons_zero, List.set_cons_succ])
                      refine wpAnyH_take (i := 8) (v := ?_) rfl (by kernel_rfl) (by kernel_rfl) (by kernel_rfl) (fun _ _ _ h => h) (Or.inl ⟨by kernel_rfl, ?_⟩) hHeld ?_
                      rotate_left
                      · (intro w hSw; clear hSw; go_simp; try (with_reducible rfl))
                      (try simp only [Act.put, List.setIfInBounds_toArray, List.set_cons_zero, List.set_cons_succ])
                      refine wpAnyH_take (i := 9) (v := undef) rfl (by kernel_rfl) (by kernel_rfl) (by kernel_rfl) (fun _ _ _ h => h) (Or.inr ⟨by kernel_rfl, rfl⟩) hHeld ?_
                      (try simp only [Act.put, List.setIfInBounds_toArray, List.set_cons_zero, List.set_cons_succ])
                      refine wpAnyH_take (i := 10) (v := undef) rfl (by kernel_rfl) (by kernel_rfl) (by kernel_rfl) (fun _ _ _ h => h) (Or.inr ⟨by kernel_rfl, rfl⟩) hHeld ?_
                      (try simp only [Act.put, List.setIfInBounds_toArray, List.set_cons_zero, List.set_cons_succ])
                      refine wpAnyH_take (i := 11) (v := undef) rfl (by kernel_rfl) (by kernel_rfl) (by kernel_rfl) (fun _ _ _ h => h) (Or.inr ⟨by kernel_rfl, rfl⟩) hHeld ?_
                      (try simp only [Act.put, List.setIfInBounds_toArray, List.set_cons_zero, List.set_cons_succ])
                      refine wpAnyH_take (i := 12) (v := undef) rfl (by kernel_rfl) (by kernel_rfl) (by kernel_rfl) (fun _ _ _ h => h) (Or.inr ⟨by kernel_rfl, rfl⟩) hHeld ?_
                      (try simp only [Act.put, List.setIfInBounds_toArray, List.set_cons_zero, List.set_cons_succ])
                      refine wpAnyH_take (i := 13) (v := undef) rfl (by kernel_rfl) (by kernel_rfl) (by kernel_rfl) (fun _ _ _ h => h) (Or.inr ⟨by kernel_rfl, rfl⟩) hHeld ?_
                      (try simp only [Act.put, List.setIfInBounds_toArray, List.set_cons_zero, List.set_cons_succ])
                      refine wpAnyH_take (i := 14) (v := undef) rfl (by kernel_rfl) (by kernel_rfl) (by kernel_rfl) (fun _ _ _ h => h) (Or.inr ⟨by kernel_rfl, rfl⟩) hHeld ?_
                      (try simp only [Act.put, List.setIfInBounds_toArray, List.set_cons_zero, List.set_cons_succ])
                      refine wpAnyH_take (i := 15) (v := undef) rfl (by kernel_rfl) (by kernel_rfl) (by kernel_rfl) (fun _ _ _ h => h) (Or.inr ⟨by kernel_rfl, rfl⟩) hHeld ?_
                      (try simp only [Act.put, List.setIfInBounds_toArray, List.set_cons_zero, List.set_cons_succ])
                      refine wpAnyH_take (i := 16) (v := undef) rfl (by kernel_rfl) (by kernel_rfl) (by kernel_rfl) (fun _ _ _ h => h) (Or.inr ⟨by kernel_rfl, rfl⟩) hHeld ?_
                      (try simp only [Act.put, List.setIfInBounds_toArray, List.set_cons_zero, List.set_cons_succ])
                      refine wpAnyH_take (i := 17) (v := ?_) rfl (by kernel_rfl) (by kernel_rfl) (by kernel_rfl) (fun _ _ _ h => h) (Or.inl ⟨by kernel_rfl, ?_⟩) hHeld ?_
                      rotate_left
                      · (intro w hSw; clear hSw; go_simp; try (with_reducible rfl))
                      (try simp only [Act.put, List.setIfInBounds_toArray, List.set_cons_zero, List.set_cons_succ])
                      refine wpAnyH_take (i := 18) (v := ?_) rfl (by kernel_rfl) (by kernel_rfl) (by kernel_rfl) (fun _ _ _ h => h) (Or.inl ⟨by kernel_rfl, ?_⟩) hHeld ?_
                      rotate_left
                      · (intro w hSw; clear hSw; go_simp; try (with_reducible rfl))
                      (try simp only [Act.put, List.setIfInBounds_toArray, List.set_cons_zero, List.set_cons_succ])
                      refine wpAnyH_done (by kernel_rfl) ?_ _
                      simp only [Act.put, List.getElem_toArray, List.getElem_cons_zero, List.getElem_cons_succ, List.setIfInBounds_toArray, List.set_cons_zero, List.set_cons_succ]
                      go_wp2_with fail
                      go_meet
                      exact ⟨by rw [HO.out], hHeld⟩
                case rest =>
                  obtain ⟨rfl, BW1⟩ := hcut
                  obtain ⟨od, hod⟩ : ∃ od, od = Rt.oldB L nw := ⟨_, rfl⟩
                  rw [← hod]
                  have HOD := Lib.hid hod
                  clear hod
                  go_upto_region 24 with (fail)
                  go_cut [15] from 24 to 131 (fun v15 wx => v15 = .bool (Rt.freshB L r) ∧ Below W16.heap.size W16 wx)
                  case first =>
                    obtain ⟨hfe1, hfe2⟩ := HFE.out
                    clear HOD KN SM1 CW
                    cases L with
                    | none =>
                      simp only [Option.isSome_none, Bool.false_eq_true, if_false] at hfe1 hfe2
                      have HO : Hid (Rt.freshB none r = false) := Lib.hid rfl
                      clear HFE HSQ
                      refine wp_region_held_drew (S := (fun Y => Below W16.heap.size W16 Y)) (by kernel_rfl) (Below.drew BW1) (fun hHeld => ?_)
                      refine wpAnyH_take (i := 0) (v := ?_) rfl (by kernel_rfl) (by kernel_rfl) (by kernel_rfl) (fun _ _ _ h => h) (Or.inl ⟨by kernel_rfl, ?_⟩) hHeld ?_
                      rotate_left
                      · (intro w hSw; clear hSw; go_simp; try (with_reducible rfl))
                      (try simp only [Act.put, List.setIfInBounds_toArray, List.set_cons_zero, List.set_cons_succ])
                      refine wpAnyH_take (i := 1) (v := ?_) rfl (by kernel_rfl) (by kernel_rfl) (by kernel_rfl) (fun _ _ _ h => h) (Or.inl ⟨by kernel_rfl, ?_⟩) hHeld ?_
                      rotate_left
                      · (intro w hSw; clear hSw; go_simp; try (with_reducible rfl))
                      (try simp only [Act.put, List.setIfInBounds_toArray, List.set_cons_zero, List.set_cons_succ])
                      refine wpAnyH_take (i := 2) (v := ?_) rfl (by kernel_rfl) (by kernel_rfl) (by kernel_rfl) (fun _ _ _ h => h) (Or.inl ⟨by kernel_rfl, ?_⟩) hHeld ?_
                      rotate_left
                      · (intro w hSw; clear hSw; go_simp; try (with_reducible rfl))
                      (try simp only [Act.put, List.setIfInBounds_toArray, List.set_cons_zero, List.set_cons_succ])
                      refine wpAnyH_take (i := 3) (v := undef) rfl (by kernel_rfl) (by kernel_rfl) (by kernel_rfl) (fun _ _ _ h => h) (Or.inr ⟨by kernel_rfl, rfl⟩) hHeld ?_
                      (try simp only [Act.put, List.setIfInBounds_toArray, List.set_cons_zero, List.set_cons_succ])
                      refine wpAnyH_take (i := 4) (v := undef) rfl (by kernel_rfl) (by kernel_rfl) (by kernel_rfl) (fun _ _ _ h => h) (Or.inr ⟨by kernel_rfl, rfl⟩) hHeld ?_
                      (try simp only [Act.put, List.setIfInBounds_toArray, List.set_cons_zero, List.set_cons_succ])
                      refine wpAnyH_take (i := 5) (v := undef) rfl (by kernel_rfl) (by kernel_rfl) (by kernel_rfl) (fun _ _ _ h => h) (Or.inr ⟨by kernel_rfl, rfl⟩) hHeld ?_
                      (try simp only [Act.put, List.setIfInBounds_toArray, List.set_cons_zero, List.set_cons_succ])
                      refine wpAnyH_take (i := 6) (v := undef) rfl (by kernel_rfl) (by kernel_rfl) (by kernel_rfl) (fun _ _ _ h => h) (Or.inr ⟨by kernel_rfl, rfl⟩) hHeld ?_
                      (try simp only [Act.put, List.setIfInBounds_toArray, List.set_cons_zero, List.set_cons_succ])
                      refine wpAnyH_take (i := 7) (v := undef) rfl (by kernel_rfl) (by kernel_rfl) (by kernel_rfl) (fun _ _ _ h => h) (Or.inr ⟨by kernel_rfl, rfl⟩) hHeld ?_
                      (try simp only [Act.put, List.setIfInBounds_toArray, List.set_cons_zero, List.set_cons_succ])
                      refine wpAnyH_take (i := 8) (v := ?_) rfl (by kernel_rfl) (by kernel_rfl) (by kernel_rfl) (fun _ _ _ h => h) (Or.inl ⟨by kernel_rfl, ?_⟩) hHeld ?_
                      rotate_left
                      · (intro w hSw; clear hSw; go_simp; try (with_reducible rfl))
                      (try simp only [Act.put, List.setIfInBounds_toArray, List.set_cons_zero, List.set_cons_succ])
                      refine wpAnyH_take (i := 9) (v := ?_) rfl (by kernel_rfl) (by kernel_rfl) (by kernel_rfl) (fun _ _ _ h => h) (Or.inl ⟨by kernel_rfl, ?_⟩) hHeld ?_
                      rotate_left
                      · (intro w hSw; clear hSw; go_simp; try (with_reducible rfl))
                      (try simp only [Act.put, List.setIfInBounds_toArray, List.set_cons_zero, List.set_cons_succ])
                      refine wpAnyH_done (by kernel_rfl) ?_ _
                      simp only [Act.put, List.getElem_toArray, List.getElem_cons_zero, List.getElem_cons_succ, List.setIfInBounds_toArray, List.set_cons_zero, List.set_cons_succ]
                      go_wp2_with fail
                      go_meet
                      exact ⟨by rw [HO.out], hHeld⟩
                    | some q =>
                      have hq := HSQ.out q rfl
                      have ho1 : Rt.freshB (some q) r = Rt.sameB s r := by rw [hq]; rfl
                      simp only [Option.isSome_some, if_true] at hfe1 hfe2
                      have HO := Lib.hid ho1
                      clear HFE HSQ hq ho1
                      refine wp_region_held_drew (S := (fun Y => Below W16.heap.size W16 Y)) (by kernel_rfl) (Below.drew BW1) (fun hHeld => ?_)
                      refine wpAnyH_take (i := 0) (v := ?_) rfl (by kernel_rfl) (by kernel_rfl) (by kernel_rfl) (fun _ _ _ h => h) (Or.inl ⟨by kernel_rfl, ?_⟩) hHeld ?_
                      rotate_left
                      · (intro w hSw; clear hSw; go_simp; try (with_reducible rfl))
                      (try simp only [Act.put, List.setIfInBounds_toArray, List.set_cons_zero, List.set_cons_succ])
                      refine wpAnyH_take (i := 1) (v := ?_) rfl (by kernel_rfl) (by kernel_rfl) (by kernel_rfl) (fun _ _ _ h => h) (Or.inl ⟨by kernel_rfl, ?_⟩) hHeld ?_
                      rotate_left
                      · (intro w hSw; clear hSw; go_simp; try (with_reducible rfl))
                      (try simp only [Act.put, List.setIfInBounds_toArray, List.set_cons_zero, List.set_cons_succ])
                      refine wpAnyH_take (i := 2) (v := ?_) rfl (by kernel_rfl) (by kernel_rfl) (by kernel_rfl) (fun _ _ _ h => h) (Or.inl ⟨by kernel_rfl, ?_⟩) hHeld ?_
                      rotate_left
                      · (intro w hSw; clear hSw; go_simp; try (with_reducible rfl))
                      (try simp only [Act.put, List.setIfInBounds_toArray, List.set_cons_zero, List.set_cons_succ])
                      refine wpAnyH_take (i := 3) (v := ?_) rfl (by kernel_rfl) (by kernel_rfl) (by kernel_rfl) (fun _ _ _ h => h) (Or.inl ⟨by kernel_rfl, ?_⟩) hHeld ?_
                      rotate_left
                      · (intro w hSw; obtain ⟨k0, k1, k2⟩ := (CS.out w hSw).1; clear hSw; go_simp; try (with_reducible rfl))
                      (try simp only [Act.put, List.setIfInBounds_toArray, List.set_cons_zero, List.set_cons_succ])
                      refine wpAnyH_take (i := 5) (v := ?_) rfl (by kernel_rfl) (by kernel_rfl) (by kernel_rfl) (fun _ _ _ h => h) (Or.inl ⟨by kernel_rfl, ?_⟩) hHeld ?_
                      rotate_left
                      · (intro w hSw; obtain ⟨k0, k1, k2⟩ := (CR.out w hSw).1; clear hSw; go_simp; try (with_reducible rfl))
                      (try simp only [Act.put, List.setIfInBounds_toArray, List.set_cons_zero, List.set_cons_succ])
                      refine wpAnyH_ready (rs := [4]) (by kernel_rfl) (by simp) ?_
                      refine AllReadyH.cons rfl (fun K hK => ?_) AllReadyH.nil
                      go_simp
                      go_wp2_with fail
                      refine (plain_any _ _ _ _ _ _).mono ?_
                      rintro e w21 ⟨rfl, hb'⟩
                      have hH : Below W16.heap.size W16 _ := hHeld
                      have hS2 : Below W16.heap.size W16 w21 := hH.trans (hb'.mono hH.size)
                      clear hHeld hb' hH
                      go_wp2_with fail
                      refine hK.out _ _ hS2 (fun hHeld => ?_)
                      clear hK K hS2
                      (try simp only [Act.put, List.setIfInBounds_toArray, List.set_cons_zero, List.set_cons_succ])
                      refine wpAnyH_ready (rs := [6]) (by kernel_rfl) (by simp) ?_
                      refine AllReadyH.cons rfl (fun K hK => ?_) AllReadyH.nil
                      go_simp
                      go_wp2_with fail
                      refine (plain_any _ _ _ _ _ _).mono ?_
                      rintro e w22 ⟨rfl, hb'⟩
                      have hH : Below W16.heap.size W16 _ := hHeld
                      have hS2 : Below W16.heap.size W16 w22 := hH.trans (hb'.mono hH.size)
                      clear hHeld hb' hH
                      go_wp2_with fail
                      refine hK.out _ _ hS2 (fun hHeld => ?_)
                      clear hK K hS2
                      (try simp only [Act.put, List.setIfInBounds_toArray, List.set_cons_zero, List.set_cons_succ])
                      refine wpAnyH_ready (rs := [7]) (by kernel_rfl) (by simp) ?_
                      refine AllReadyH.cons rfl (fun K hK => ?_) AllReadyH.nil
                      go_simp
                      go_wp2_with fail
                      refine (SM2.out _ hHeld).mono ?_
                      rintro e w23 ⟨rfl, hb'⟩
                      have hH : Below W16.heap.size W16 _ := hHeld
                      have hS2 : Below W16.heap.size W16 w23 := hH.trans (hb'.mono hH.size)
                      clear hHeld hb' hH
                      go_wp2_with fail
                      refine hK.out _ _ hS2 (fun hHeld => ?_)
                      clear hK K hS2
                      (try simp only [Act.put, List.setIfInBounds_toArray, List.set_cons_zero, List.set_cons_succ])
                      refine wpAnyH_take (i := 8) (v := ?_) rfl (by kernel_rfl) (by kernel_rfl) (by kernel_rfl) (fun _ _ _ h => h) (Or.inl ⟨by kernel_rfl, ?_⟩) hHeld ?_
                      rotate_left
                      · (intro w hSw; clear hSw; go_simp; try (with_reducible rfl))
                      (try simp only [Act.put, List.setIfInBounds_toArray, List.set_cons_zero, List.set_cons_succ])
                      refine wpAnyH_take (i := 9) (v := ?_) rfl (by kernel_rfl) (by kernel_rfl) (by kernel_rfl) (fun _ _ _ h => h) (Or.inl ⟨by kernel_rfl, ?_⟩) hHeld ?_
                      rotate_left
                      · (intro w hSw; clear hSw; go_simp; try (with_reducible rfl))
                      (try simp only [Act.put, List.setIfInBounds_toArray, List.set_cons_zero, List.set_cons_succ])
                      refine wpAnyH_done (by kernel_rfl) ?_ _
                      simp only [Act.put, List.getElem_toArray, List.getElem_cons_zero, List.getElem_cons_succ, List.setIfInBounds_toArray, List.set_cons_zero, List.set_cons_succ]
                      go_wp2_with fail
                      go_meet
                      exact ⟨by rw [HO.out], hHeld⟩
                  case rest =>
                    obtain ⟨rfl, BW2⟩ := hcut
                    have F1 := HL3.out.one
                    have F2 : ok = true → Rt.freshB L r = true := fun h => by
                      have := HL3.out
                      rw [h] at this
                      exact this.ok
                    have F3 : Rt.freshB L r = true → Rt.Now d3 r := HL3.out.fresh
                    have F4 : Rt.freshB L r = false → Rt.Now d3 nw ∧ ok = false := HL3.out.stale
                    obtain ⟨hev, hev2⟩ := HEV.out
                    have hod := HOD.out
                    clear HOD
                    obtain ⟨fr, hfr⟩ : ∃ fr, fr = Rt.freshB L r := ⟨_, rfl⟩
                    rw [← hod, ← hfr] at F1
                    rw [← hfr] at F2 F3 F4
                    rw [← hfr]
                    have F1 := Lib.hid F1
                    have F2 := Lib.hid F2
                    have F3 := Lib.hid F3
                    have F4 := Lib.hid F4
                    clear hod hfr HFE HSQ KN SM1 SM2 CS CW HL3
                    go_upto_region 25 with (fail)
                    go_cut [128] from 24 to 131 (fun v128 wx => v128 = .bool false ∧ wc = wx)
                    case first =>
                      cases fr
                      · obtain rfl : ok = false := (F4.out rfl).2
                        obtain rfl : od = true := by rcases F1.out with h | h; exact h; cases h
                        go_wp2_with fail
                        go_meet
                        exact ⟨rfl, rfl⟩
                      · cases ok <;> cases od
                        all_goals
                          go_wp2_with fail
                          go_meet
                          exact ⟨rfl, rfl⟩
                    case rest =>
                      obtain ⟨rfl, rfl⟩ := hcut
                      have BWC := Lib.hid BW2
                      clear hev hev2 BW1 BW2
                      cases fr
                      · obtain rfl : nv = nw := HNN.out (F4.out rfl).2
                        have HDE := Lib.hid (H16.out.below BWC.out)
                        have HNE := Lib.hid (F4.out rfl).1
                        have HRE := Lib.hid (NW16.out.below BWC.out)
                        have bE := HB16.out.trans (BWC.out.mono HB16.out.size)
                        go_wp2
                        go_roundg (gk - 1)
                        case measure => have := HGK.out; omega
                        case rel => exact ⟨i + 1, d3, nv, by go_num, by have := HGK.out; omega, by omega, by omega, HDE, HNE, HW3, HRE, bE⟩
                      · obtain ⟨⟨k0, k1, k2⟩, _, _⟩ := CR.out wc BWC.out
                        have HNE := Lib.hid (F3.out rfl)
                        go_wp2_with fail
                        refine (plain_any wc _ _ _ _ _).mono ?_
                        rintro e w24 ⟨rfl, hb24⟩
                        have YB2 := BWC.out.trans (hb24.mono BWC.out.size)
                        have b24 := HB16.out.trans (YB2.mono HB16.out.size)
                        obtain ⟨na2, nn2, nc2, qy1, _, _, hlo⟩ := NW16.out.below YB2
                        have p0 := blk_free qy1 0
                        have p1 := blk_free qy1 1
                        have p2 := blk_free qy1 2
                        have v0 := blk_cell (i := 0) qy1 rfl
                        have v1 := blk_cell (i := 1) qy1 rfl
                        have v2 := blk_cell (i := 2) qy1 rfl
                        have bE := set3w_below b24 hlo (.int .i64 r.gen) (.slice a3 m3 c3') (.int .i64 r.idx)
                        have HDE := isDk_set (H16.out.below YB2) qy1 (by decide) (by decide) (by decide) (set3w_stay w24 nb (.int .i64 r.gen) (.slice a3 m3 c3') (.int .i64 r.idx))
                        have HRE := RootAt.put (b := 0) (T := 0) (r := r) (NW16.out.below YB2) (by decide) (CR.out w24 YB2).2.2 HM3.out
                        unfold set3w at bE HDE HRE
                        have HDE := Lib.hid HDE
                        have HRE := Lib.hid HRE
                        have HbE := Lib.hid bE
                        clear hb24 qy1 k0 k1 k2 YB2 b24 bE
                        go_wp2
                        go_roundg (gk - 1)
                        case measure => have := HGK.out; omega
                        case rel => exact ⟨i + 1, d3, r, by go_num, by have := HGK.out; omega, by omega, by omega, HDE, HNE, HW3, HRE, HbE.out⟩
        · rw [if_neg hmay] at hla
          subst hla
          have HDE := Lib.hid (HD6.out.below b68)
          have HRE := Lib.hid (HR6.out.below b68)
          have bE := HBW6.out.trans (b68.mono HBW6.out.size)
          have HWE : Hid (d1.works ≤ 5 * (i + 1)) := Lib.hid (by have := HW1.out; omega)
          clear b68 hmay
          go_wp2
          go_roundg (gk - 1)
          case measure => have := HGK.out; omega
          case rel => exact ⟨i + 1, d1, nw, by go_num, by have := HGK.out; omega, by omega, by omega, HDE, HN1, HWE, HRE, bE⟩
    · obtain ⟨t0, q0, q0', q1⟩ : ∃ t0 : Bool, decide ((i : Int) < (n1 : Int)) = t0 ∧ decide (i < n1) = t0 ∧ (t0 = true → decide ((i : Int) < 30) = false ∧ decide (i < 30) = false) := by
        by_cases h : i < n1
        · exact ⟨true, decide_eq_true (by omega), decide_eq_true h, fun _ => ⟨decide_eq_false (by omega), decide_eq_false (by omega)⟩⟩
        · exact ⟨false, decide_eq_false (by omega), decide_eq_false h, fun e => by cases e⟩
      clear hgo
      cases t0 <;> (try obtain ⟨q2, q2'⟩ := q1 rfl) <;> clear q1
      all_goals
        go_wp2
        go_ret
        exact ⟨rfl, hb⟩
end Go.Proofs.YtdlpehlgmfhheaaDoor
