/- RootCodes: what it comes to. -/
import Derived.Test.YtdlpehlgmfhheaaDoorRtRdRef
import Derived.Test.YtdlpehlgmfhheaaDoorRootKnown
import Derived.Test.YtdlpehlgmfhheaaDoorRtOne
import Derived.Test.YtdlpehlgmfhheaaDoorRtRef
import Derived.Test.YtdlpehlgmfhheaaDoorRtAt
import Derived.Test.YtdlpehlgmfhheaaDoorHand2
import Derived.Deep.Cut
import Derived.Deep.CutRange
import Derived.Deep.RegionHeld3
namespace Go.Proofs.YtdlpehlgmfhheaaDoor
open Go.RowKit Go.Tap Go.Maps
set_option linter.unusedVariables false
set_option linter.unusedSimpArgs false
attribute [local go_sem ↓] Go.wp_at_zero Go.wp_at_succ

theorem yl_undef9 (f : Bool → Option Bool) (g : Option Value → Option Bool) : Go.yielded.match_1 (motive := fun _ => Option Bool) (some undef) f g = g (some undef) := rfl
attribute [local go_sem] yl_undef9
theorem xor_u8c (x y : UInt8) : bits BinOp.xor IntKind.u8 (x.toNat : Int) (y.toNat : Int) = ((x ^^^ y).toNat : Int) := by
  rw [u8_xor_nat _ _ x.toNat_lt y.toNat_lt, UInt8.toNat_xor]
/-- What is to be read. -/
def GotZ (W wx : World) (b : Value) : Prop := ∃ a n c l, b = .slice a n c ∧ Rds wx a n l ∧ n ≤ c ∧ (a = none → c = 0) ∧ n ≤ 140737488355328 ∧ Below W.heap.size W wx
/-- What is read, as one root and one number. -/
def RdIs (l : List UInt8) (s : Rt.Root) (kc : Nat) : Prop := match Rt.read l with | .error k => s = ⟨0, [], 0⟩ ∧ kc = k | .ok r => s = r ∧ kc = 0
theorem read_kv {w w' : World} {l : List UInt8} {e : Ending} (h : RtReadAft w l e w') : ∃ s a n c fv kc, e = .returned (.tuple #[.agg #[.int .i64 s.gen, .slice a n c, .int .i64 s.idx], fv]) ∧ w'.ownsRow w.heap.size 3 1 (.slice a n c) n (iv s.logs) ∧ n ≤ 8 ∧ (∀ W, EType W → KV W fv ((kc : Nat) : Int)) ∧ RdIs l s kc := by
  obtain ⟨_, h⟩ := h
  unfold RdIs
  cases hr : Rt.read l with
  | error k =>
    rw [hr] at h
    refine ⟨⟨0, [], 0⟩, none, 0, 0, _, k, h, World.ownsRow_nil _ _ _ _, by omega, fun W hW Y hY => kind_errno Y k (hW.keep hY), rfl, rfl⟩
  | ok r =>
    rw [hr] at h
    obtain ⟨a, n, c, h1, h2, h3⟩ := h
    refine ⟨r, a, n, c, _, 0, h1, h2, h3, fun W hW Y hY => ?_, rfl, rfl⟩
    exact (kind_nil Y).mono (by rintro e w' ⟨rfl, hh⟩; obtain rfl := hh.symm; exact ⟨rfl, Below.refl _ _⟩)
theorem refread_kv {w w' : World} {l : List UInt8} {e : Ending} {s : Rt.Root} {kc : Nat} (h : RefReadAft w l e w') (hs : RdIs l s kc) : ∃ a n c, e = .returned (.tuple #[.agg #[.int .i64 s.gen, .slice a n c, .int .i64 s.idx], .int .i64 ((kc : Nat) : Int)]) ∧ w'.ownsRow w.heap.size 3 1 (.slice a n c) n (iv s.logs) ∧ n ≤ 8 := by
  obtain ⟨_, h⟩ := h
  rw [Rt.readR_eq] at h
  unfold RdIs at hs
  cases hr : Rt.read l with
  | error k =>
    rw [hr] at h hs
    obtain ⟨rfl, rfl⟩ := hs
    exact ⟨none, 0, 0, h, World.ownsRow_nil _ _ _ _, by omega⟩
  | ok r =>
    rw [hr] at h hs
    obtain ⟨rfl, rfl⟩ := hs
    obtain ⟨a, n, c, h1, h2, h3⟩ := h
    exact ⟨a, n, c, h1, h2, h3⟩
theorem str_eqc (a : List UInt8) : ((str a).toList == (str a).toList) = true := by simp
set_option maxHeartbeats 16000000 in
set_option maxRecDepth 100000 in
theorem rootCodes_walk (w : World) (hg : EType w) (x0 : RawD) (g0 : ArgR 140737488351232 w x0) (s1 : Option Addr) (n1 c1 : Nat) (l1 : List UInt8) (g1 : ArgB 140737488351232 w s1 n1 c1 l1) (a2 : Int) (b2 : -9223372036854775808 ≤ a2 ∧ a2 ≤ 9223372036854775807)
    (s3 : Option Addr) (n3 c3 : Nat) (l3 : List Int) (g3 : ArgI 140737488351232 w s3 n3 c3 l3) (a4 : Int) (b4 : 0 ≤ a4 ∧ a4 ≤ 255) :
    Calls Tryd.prog 8 #[.agg x0.cells.toArray, .slice s1 n1 c1, .int .i64 a2, .slice s3 n3 c3, .int .u8 a4] w fun e w' => e = .returned (.bool true) ∧ Below w.heap.size w w' := by
  obtain ⟨Y, rfl⟩ := byte_of b4
  obtain ⟨rg, ri, rh, ⟨ra, rn, rc, rl⟩⟩ := x0
  have le1 := g1.le
  have z1 := g1.none
  have m1 := g1.cap
  have R1 := Lib.hid g1.rds
  have le3 := g3.le
  have len3 := g3.len
  have G3 := Lib.hid g3
  have G0 := Lib.hid g0
  have HG := Lib.hid hg
  have HB2 := Lib.hid b2
  obtain ⟨b2a, b2b⟩ := b2
  clear hg g0 g1 g3 b4
  show Calls _ _ #[.agg #[.int .i64 rg, .int .i64 ri, .int .i64 rh, .slice ra rn rc], .slice s1 n1 c1, .int .i64 a2, .slice s3 n3 c3, .int .u8 (Y.toNat : Int)] _ _
  go_enter Tryd.func8, Tryd.ntmps8
  obtain ⟨W1, hW1⟩ : ∃ W1, W1 = w.alloc (.cells #[.int .i64 rg, .int .i64 ri, .int .i64 rh, .slice ra rn rc] 83) := ⟨_, rfl⟩
  have hB1 : Below w.heap.size w W1 := by rw [hW1]; exact (Below.refl _ _).alloc (Nat.le_refl _) _
  have hone : Calls Tryd.prog 32 #[.agg #[.int .i64 rg, .int .i64 ri, .int .i64 rh, .slice ra rn rc]] W1 _ := rone_any W1 140737488351232 ⟨rg, ri, rh, ⟨ra, rn, rc, rl⟩⟩ (argR_below G0.out hB1)
  obtain ⟨r, hr⟩ : ∃ r, r = oneR ⟨rg, ri, rh, ⟨ra, rn, rc, rl⟩⟩ := ⟨_, rfl⟩
  rw [← hr] at hone
  have HB1 := Lib.hid hB1
  clear hr hB1
  go_wp2_with fail
  rw [← hW1]
  clear hW1
  refine hone.mono ?_
  clear hone
  rintro e w2 ⟨qa, qn, qc, rfl, ho2, hb2, hq10⟩
  obtain ⟨rb, hrb⟩ : ∃ rb, rb = w2.heap.size := ⟨_, rfl⟩
  obtain ⟨W3, hW3⟩ : ∃ W3, W3 = w2.alloc (.cells #[.int .i64 r.gen, .slice qa qn qc, .int .i64 r.idx] 85) := ⟨_, rfl⟩
  have bw2 := HB1.out.trans (hb2.mono HB1.out.size)
  have hb3 : Below w2.heap.size w2 W3 := by rw [hW3]; exact (Below.refl _ _).alloc (Nat.le_refl _) _
  have hR3 : RootAt W3 w.heap.size rb 85 r := by rw [hW3, hrb]; exact rootAt_new (ownsRow_base ho2 HB1.out.size) hq10 bw2.size
  have bw3 := bw2.trans (hb3.mono bw2.size)
  have hT3 : W3.heap[rb]? = some (.cells #[.int .i64 r.gen, .slice qa qn qc, .int .i64 r.idx] 85 (0, 0)) := by rw [hW3, hrb]; exact heap_alloc_new _ _
  have hc3 := rootCells hT3 (own_blw (ownsRow_base ho2 HB1.out.size) hb3)
  have HC3 := Lib.hid hc3
  obtain ⟨⟨k0, k1, k2⟩, hin3, _⟩ := hc3 W3 (Below.refl _ _)
  have hly := rtLay_any W3 r qa qn qc hin3 (by omega)
  have HBW3 := Lib.hid bw3
  have HW3 := Lib.hid hW3
  have HRB := Lib.hid hrb
  clear hW3 hrb
  clear ho2 hb2 hb3 bw2 bw3 hR3 hc3 hin3 HB1 hT3
  go_wp2_with fail
  rw [← HW3.out, ← HRB.out]
  clear HW3 HRB
  refine hly.mono ?_
  clear hly
  rintro e w4 ⟨hb4, hla⟩
  have HB4 := Lib.hid hb4
  obtain ⟨⟨j0, j1, j2⟩, _, _⟩ := HC3.out w4 hb4
  clear hb4 k0 k1 k2
  by_cases hmay : Rt.may r = true
  · rw [if_pos hmay] at hla
    obtain ⟨va, rfl, ho4⟩ := hla
    have HM := Lib.hid hmay
    have HO4 := Lib.hid ho4
    clear ho4 hmay
    go_wp2_with fail
    refine (plain_any w4 _ _ _ _ _).mono ?_
    rintro e w5 ⟨rfl, hb5⟩
    have hb35 := HB4.out.trans (hb5.mono HB4.out.size)
    have hly := refLay_any w5 r qa qn qc ((HC3.out w5 hb35).2.1) (by omega)
    have HB5 := Lib.hid hb5
    clear hb5 hb35 j0 j1 j2
    go_wp2_with fail
    refine hly.mono ?_
    clear hly
    rintro e w6 ⟨hb6, hla⟩
    rw [if_pos HM.out] at hla
    obtain ⟨vb, rfl, ho6⟩ := hla
    obtain ⟨L, hL⟩ : ∃ L, L = Rt.lay r := ⟨_, rfl⟩
    have hLl : 9 ≤ L.length ∧ L.length ≤ 119 := by
      rw [hL]; exact ⟨by show 9 ≤ (frm _ _).length; rw [frm_length]; omega, Rt.lay_length r HM.out⟩
    have hb46 := HB5.out.trans (hb6.mono HB5.out.size)
    have hb36 := HB4.out.trans (hb46.mono HB4.out.size)
    have ho4 := own_blw HO4.out hb46
    rw [← hL] at ho4 ho6
    obtain ⟨N, hN⟩ : ∃ N, N = L.length := ⟨_, rfl⟩
    rw [← hN] at ho4 ho6 hLl
    obtain ⟨aa, ca, rfl, hka, _, hza, _⟩ := ownsRow_slice ho4
    obtain ⟨ab, cb, rfl, hkb, _, hzb, _⟩ := ownsRow_slice ho6
    have hra : Rds w6 aa N L := Rds.of_own (by rw [← hN]; exact ho4) hN.symm
    have hrb6 : Rds w6 ab N L := Rds.of_own (by rw [← hN]; exact ho6) hN.symm
    have bw6 := HBW3.out.trans (hb36.mono HBW3.out.size)
    have hcv1 := convB w6 aa N ca L hra
    have hcv2 := convB w6 ab N cb L hrb6
    have hse := str_eqc L
    have hr1 : Rds w6 s1 n1 l1 := R1.out.below bw6 (fun h0 b o e => by subst e; exact R1.out.lt h0)
    have hfw := few_allw w6 s1 n1 c1 l1 hr1 le1 z1 (by omega)
    have HRB6 := Lib.hid hrb6
    have HNN := Lib.hid hN
    have BW6 := Lib.hid bw6
    clear hb6 hL hb46 hb36 ho4 ho6 hka hza hra hrb6 bw6 hr1 hN HO4 HB4 HB5
    go_wp2_with fail
    refine (kind_nil w6).mono ?_
    rintro e w' ⟨rfl, hh⟩
    obtain rfl := hh.symm
    go_wp2_with fail
    refine hfw.mono ?_
    clear hfw hcv1 hcv2 hse
    rintro e w7 ⟨a7, c7, rfl, ho7, hb7⟩
    obtain ⟨_, _, hsl, hk7, _, hz7, _⟩ := ownsRow_slice ho7
    simp only [Value.slice.injEq] at hsl
    obtain ⟨rfl, _, rfl⟩ := hsl
    have bw7 := BW6.out.trans (hb7.mono BW6.out.size)
    have BW7 := Lib.hid bw7
    have HR7 := Lib.hid (show Rds w7 a7 n1 l1 from Rds.of_own (by rw [R1.out.1]; exact ho7) R1.out.1)
    have HRB7 := Lib.hid (HRB6.out.below hb7 (fun h0 b o e => by subst e; exact HRB6.out.lt h0))
    have hrw5 : IntKind.i64.wrap (a2.tmod 5) = a2.tmod 5 := wrapi' _ (by
      have h1 := Int.tmod_lt_of_pos a2 (b := 5) (by omega)
      have h2 : -5 < a2.tmod 5 := by have := Int.tmod_lt_of_pos (-a2) (b := 5) (by omega); rw [Int.neg_tmod] at this; omega
      omega)
    obtain ⟨t, ht⟩ : ∃ t, decide (0 < a2.tmod 5) = t := ⟨_, rfl⟩
    have HT := Lib.hid ht
    clear ho7 hb7 bw7 HRB6 BW6
    go_upto_if 56 with (fail)
    go_cut [16, 17] from 57 to 83 (fun v16 v17 wx => GotZ w wx v16)
    case first =>
      clear ht
      cases t
      · go_wp2_with fail
        go_meet
        exact ⟨a7, n1, c7, l1, rfl, HR7.out, hk7, hz7, by omega, BW7.out⟩
      · have hf2 := few_allw w7 ab N cb L HRB7.out hkb hzb (by omega)
        go_wp2_with fail
        refine hf2.mono ?_
        clear hf2
        rintro e w8 ⟨a8, c8, rfl, ho8, hb8⟩
        obtain ⟨_, _, hsl, hk8, _, hz8, _⟩ := ownsRow_slice ho8
        simp only [Value.slice.injEq] at hsl
        obtain ⟨rfl, _, rfl⟩ := hsl
        obtain ⟨g, rfl, hg1, hg2⟩ := own_head ho8 (by omega)
        have hb78 := BW7.out.trans (hb8.mono BW7.out.size)
        have HO8 := Lib.hid ho8
        have BW8 := Lib.hid hb78
        have hgw : w.heap.size ≤ g := by have := BW7.out.size; omega
        clear ho8 hb8 hb78 hg1 hg2 hz8
        go_wp2_with fail
        go_loopw [17] (fun iv' wr => ∃ (k : Nat) (l' : List UInt8), iv' = .int .i64 (k : Int) ∧ k ≤ 2 ∧ k ≤ n3 ∧ Hid (l'.length = N) ∧ Hid (wr.ownsRow w7.heap.size 5 1 (.slice (some ⟨g, 0, none⟩) N c8) N (bv l')) ∧ Below w.heap.size w wr) (fun iv' _ => 2 - (intOf iv').toNat)
        case atStart => exact ⟨0, L, rfl, by omega, by omega, Lib.hid HNN.out.symm, HO8, BW8.out⟩
        case round =>
          obtain ⟨k, l', rfl, hk2, hk3, HLN, HOW, hb⟩ := hrel
          by_cases hgo : k < n3 ∧ k < 2
          · obtain ⟨hgo1, hgo2⟩ := hgo
            have d0 : decide ((k : Int) < (n3 : Int)) = true := decide_eq_true (by omega)
            have d0' : decide (k < n3) = true := decide_eq_true hgo1
            have d1 : decide ((k : Int) < 2) = true := decide_eq_true (by omega)
            have d1' : decide (k < 2) = true := decide_eq_true hgo2
            have d2 : (k : Int) < (n3 : Int) := by omega
            have d3 : (0 : Int) ≤ (k : Int) := by omega
            have hx : l3[k]? = some (l3[k]'(by omega)) := List.getElem?_eq_getElem _
            generalize l3[k]'(by omega) = z at hx
            obtain ⟨b, o, rfl, hcz⟩ := G3.out.at_ (by omega)
            obtain ⟨hcell, hz1', hz2'⟩ := hcz k z hx
            rw [Nat.mul_one] at hcell
            have ce : wr.cell? ⟨b, o + k, none⟩ = some (.int .i64 z) := (hb.cell (p := ⟨b, o + k, none⟩) (block_lt_of_cell hcell)).trans hcell
            have hw := wrapi' ((k : Int) + 1) (by omega)
            obtain ⟨j, hj⟩ : ∃ j : Nat, z % (N : Int) = j := ⟨(z % (N : Int)).toNat, by have := Int.emod_nonneg z (show (N : Int) ≠ 0 by omega); omega⟩
            have hjn : j < N := by have := Int.emod_lt_of_pos z (show (0 : Int) < N by omega); omega
            have hjn' : (j : Int) < (N : Int) := by omega
            have hj0 : (0 : Int) ≤ (j : Int) := by omega
            have hFl := HLN.out
            have hxx : l'[j]? = some (l'[j]'(by omega)) := List.getElem?_eq_getElem _
            have hcell2 : wr.cell? ⟨g, j, none⟩ = some (.int .u8 ((l'[j]'(by omega)).toNat : Int)) := by
              rw [HOW.out.cellAt j (by omega), bv_getElem?, hxx]; rfl
            have hfr : wr.frozen? ⟨g, j, none⟩ = false := HOW.out.frozenAt j
            have hst := HOW.out.stored j (.int .u8 (((l'[j]'(by omega)) ^^^ Y).toNat : Int))
            rw [bv_set] at hst
            generalize (l'[j]'(by omega)) = x at hxx hcell2 hst
            have HS := Lib.hid hst
            have HJ := Lib.hid hj
            have hpk := pick_any wr z N hz1' hz2' (by omega) (by omega)
            rw [hj] at hpk
            clear hx hcz hcell hxx hst hj hFl
            go_wp2_with fail
            refine hpk.mono ?_
            clear hpk
            rintro e w' ⟨rfl, rfl⟩
            go_wp2
            rw [xor_u8c]
            go_roundw
            case rel => exact ⟨k + 1, l'.set j (x ^^^ Y), by go_num, by omega, by omega, Lib.hid (by rw [List.length_set]; exact HLN.out), Lib.hid HS.out.1, hb.setCell (by show w.heap.size ≤ g; omega) _⟩
            case measure => simp [intOf]; omega
          · obtain ⟨t0, q0, q0', q1⟩ : ∃ t0 : Bool, decide ((k : Int) < (n3 : Int)) = t0 ∧ decide (k < n3) = t0 ∧ (t0 = true → decide ((k : Int) < 2) = false ∧ decide (k < 2) = false) := by
              by_cases h : k < n3
              · exact ⟨true, decide_eq_true (by omega), decide_eq_true h, fun _ => ⟨decide_eq_false (by omega), decide_eq_false (by omega)⟩⟩
              · exact ⟨false, decide_eq_false (by omega), decide_eq_false h, fun e => by cases e⟩
            clear hgo
            cases t0 <;> (try obtain ⟨q2, q2'⟩ := q1 rfl) <;> clear q1
            all_goals
              go_wp2
              go_meet
              exact ⟨_, N, c8, l', rfl, Rds.of_own (by rw [HLN.out]; exact HOW.out) HLN.out, hk8, (by intro h; cases h), by omega, hb⟩
    case rest =>
      obtain ⟨za, zn, zc, zl, rfl, hz, zle, znn, zcap, hbz⟩ := hcut
      have HZ := Lib.hid hz
      have HBZ := Lib.hid hbz
      obtain ⟨WZ, hWZ⟩ : ∃ WZ, WZ = wc := ⟨_, rfl⟩
      rw [← hWZ] at HZ HBZ ⊢
      clear ht hrw5 hz hbz hWZ HT HR7 HRB7 BW7 hk7 hz7 hkb hzb hLl HNN
      have hzl := HZ.out.1
      have hrd := rtRead_any WZ za zn zc zl HZ.out zle znn zcap
      have HBZz := HBZ.out.size
      go_wp2_with fail
      refine hrd.mono ?_
      clear hrd
      intro e w8 hq
      have hb8 := hq.1
      obtain ⟨s, sa, sn, sc, fv, kc, rfl, hso, hsn, hkv, hri⟩ := read_kv hq
      clear hq
      obtain ⟨pb, hpb⟩ : ∃ pb, pb = w8.heap.size := ⟨_, rfl⟩
      obtain ⟨W9, hW9⟩ : ∃ W9, W9 = w8.alloc (.cells #[.int .i64 s.gen, .slice sa sn sc, .int .i64 s.idx] 85) := ⟨_, rfl⟩
      have hb9 : Below w8.heap.size w8 W9 := by rw [hW9]; exact (Below.refl _ _).alloc (Nat.le_refl _) _
      have hT9 : W9.heap[pb]? = some (.cells #[.int .i64 s.gen, .slice sa sn sc, .int .i64 s.idx] 85 (0, 0)) := by rw [hW9, hpb]; exact heap_alloc_new _ _
      have hO9 := own_blw hso hb9
      have hb79 := hb8.trans (hb9.mono hb8.size)
      have bw9 := HBZ.out.trans (hb79.mono HBZz)
      have hz9 : Rds W9 za zn zl := HZ.out.below hb79 (fun h0 b o e => by subst e; exact HZ.out.lt h0)
      have hrf := refRead_any W9 za zn zc zl hz9 zle znn zcap
      have T9 := Lib.hid hT9
      have O9 := Lib.hid hO9
      have BW9 := Lib.hid bw9
      have HSN := Lib.hid hsn
      have HKV := Lib.hid hkv
      have HRI := Lib.hid hri
      have HW9 := Lib.hid hW9
      have HPB := Lib.hid hpb
      clear hb8 hso hsn hkv hri hb9 hT9 hO9 hb79 bw9 hz9 hW9 hpb
      go_wp2_with fail
      rw [← HW9.out, ← HPB.out]
      refine hrf.mono ?_
      clear hrf HW9 HPB
      intro e w11 hq
      have hb11 := hq.1
      obtain ⟨ta, tn, tc, rfl, hto, htn⟩ := refread_kv hq HRI.out
      clear hq
      obtain ⟨qb, hqb⟩ : ∃ qb, qb = w11.heap.size := ⟨_, rfl⟩
      obtain ⟨W12, hW12⟩ : ∃ W12, W12 = w11.alloc (.cells #[.int .i64 s.gen, .slice ta tn tc, .int .i64 s.idx] 90) := ⟨_, rfl⟩
      have hb12 : Below w11.heap.size w11 W12 := by rw [hW12]; exact (Below.refl _ _).alloc (Nat.le_refl _) _
      have hT12 : W12.heap[qb]? = some (.cells #[.int .i64 s.gen, .slice ta tn tc, .int .i64 s.idx] 90 (0, 0)) := by rw [hW12, hqb]; exact heap_alloc_new _ _
      have hcq := rootCells hT12 (own_blw hto hb12)
      have hb912 := hb11.trans (hb12.mono hb11.size)
      have hcs := rootCells ((hb912.block pb (blk_lt T9.out)).trans T9.out) (own_blw O9.out hb912)
      have bw12 := BW9.out.trans (hb912.mono BW9.out.size)
      have CS := Lib.hid hcs
      have CQ := Lib.hid hcq
      have hsn := HSN.out
      have SM : Hid (∀ Y, Below W12.heap.size W12 Y → Calls Tryd.prog 39 #[.agg #[.int .i64 s.gen, .slice sa sn sc, .int .i64 s.idx], .agg #[.int .i64 s.gen, .slice ta tn tc, .int .i64 s.idx]] Y fun e w' => e = .returned (.bool true) ∧ Below Y.heap.size Y w') := Lib.hid (fun Y hY => by
        have := sameRoot_any Y s.gen s.idx sa sn sc _ (hcs Y hY).2.1 s.gen s.idx ta tn tc _ (hcq Y hY).2.1 (by omega) (by omega)
        rw [show decide (s.gen = s.gen ∧ s.idx = s.idx ∧ s.logs = s.logs) = true from decide_eq_true ⟨rfl, rfl, rfl⟩] at this
        exact this)
      have K8 : Hid (∀ Y, Below W12.heap.size W12 Y → Calls Tryd.prog 38 #[] Y fun e w' => e = .returned (.bool true) ∧ Below Y.heap.size Y w') := Lib.hid (fun Y hY => known8 Y (HG.out.below (bw12.trans (hY.mono bw12.size)) HG.out.pos))
      have hke := HKV.out W12 (HG.out.below bw12 HG.out.pos)
      unfold KV at hke
      have KE := Lib.hid hke
      have BW12 := Lib.hid bw12
      have HW12 := Lib.hid hW12
      have HQB := Lib.hid hqb
      clear hb11 hto htn hb12 hT12 hcq hb912 hcs bw12 hsn hke hW12 hqb T9 O9 BW9 HSN HKV HRI
      go_wp2_with fail
      rw [← HW12.out, ← HQB.out]
      clear HW12 HQB
      refine wp_region_held_drew (S := (fun Y => Below W12.heap.size W12 Y)) (by kernel_rfl) ((Below.refl _ _).drew) (fun hHeld => ?_)
      refine wpAnyH_ready (rs := [0]) (by kernel_rfl) (by simp) ?_
      refine AllReadyH.cons rfl (fun K hK => ?_) AllReadyH.nil
      go_simp
      go_wp2_with fail
      refine (K8.out _ hHeld).mono ?_
      rintro e w20 ⟨rfl, hb'⟩
      have hH : Below W12.heap.size W12 _ := hHeld
      have hS2 : Below W12.heap.size W12 w20 := hH.trans (hb'.mono hH.size)
      clear hHeld hb' hH
      go_wp2_with fail
      refine hK.out _ _ hS2 (fun hHeld => ?_)
      clear hK K hS2
      (try simp only [Act.put, List.setIfInBounds_toArray, List.set_cons_zero, List.set_cons_succ])
      refine wpAnyH_take (i := 1) (v := ?_) rfl (by kernel_rfl) (by kernel_rfl) (by kernel_rfl) (fun _ _ _ h => h) (Or.inl ⟨by kernel_rfl, ?_⟩) hHeld ?_
      rotate_left
      · (intro w hSw; clear hSw; go_simp; try (with_reducible rfl))
      (try simp only [Act.put, List.setIfInBounds_toArray, List.set_cons_zero, List.set_cons_succ])
      refine wpAnyH_take (i := 2) (v := ?_) rfl (by kernel_rfl) (by kernel_rfl) (by kernel_rfl) (fun _ _ _ h => h) (Or.inl ⟨by kernel_rfl, ?_⟩) hHeld ?_
      rotate_left
      · (intro w hSw; clear hSw; go_simp; try (with_reducible rfl))
      (try simp only [Act.put, List.setIfInBounds_toArray, List.set_cons_zero, List.set_cons_succ])
      refine wpAnyH_take (i := 4) (v := ?_) rfl (by kernel_rfl) (by kernel_rfl) (by kernel_rfl) (fun _ _ _ h => h) (Or.inl ⟨by kernel_rfl, ?_⟩) hHeld ?_
      rotate_left
      · (intro w hSw; clear hSw; go_simp; try (with_reducible rfl))
      (try simp only [Act.put, List.setIfInBounds_toArray, List.set_cons_zero, List.set_cons_succ])
      refine wpAnyH_ready (rs := [3]) (by kernel_rfl) (by simp) ?_
      refine AllReadyH.cons rfl (fun K hK => ?_) AllReadyH.nil
      go_simp
      go_wp2_with fail
      refine (KE.out _ hHeld).mono ?_
      rintro e w21 ⟨rfl, hb'⟩
      have hH : Below W12.heap.size W12 _ := hHeld
      have hS2 : Below W12.heap.size W12 w21 := hH.trans (hb'.mono hH.size)
      clear hHeld hb' hH
      go_wp2_with fail
      refine hK.out _ _ hS2 (fun hHeld => ?_)
      clear hK K hS2
      (try simp only [Act.put, List.setIfInBounds_toArray, List.set_cons_zero, List.set_cons_succ])
      refine wpAnyH_take (i := 5) (v := ?_) rfl (by kernel_rfl) (by kernel_rfl) (by kernel_rfl) (fun _ _ _ h => h) (Or.inl ⟨by kernel_rfl, ?_⟩) hHeld ?_
      rotate_left
      · (intro w hSw; clear hSw; go_simp; try (with_reducible rfl))
      (try simp only [Act.put, List.setIfInBounds_toArray, List.set_cons_zero, List.set_cons_succ])
      refine wpAnyH_take (i := 6) (v := ?_) rfl (by kernel_rfl) (by kernel_rfl) (by kernel_rfl) (fun _ _ _ h => h) (Or.inl ⟨by kernel_rfl, ?_⟩) hHeld ?_
      rotate_left
      · (intro w hSw; clear hSw; go_simp; try (with_reducible rfl))
      (try simp only [Act.put, List.setIfInBounds_toArray, List.set_cons_zero, List.set_cons_succ])
      refine wpAnyH_take (i := 7) (v := ?_) rfl (by kernel_rfl) (by kernel_rfl) (by kernel_rfl) (fun _ _ _ h => h) (Or.inl ⟨by kernel_rfl, ?_⟩) hHeld ?_
      rotate_left
      · (intro w hSw; clear hSw; go_simp; try (with_reducible rfl))
      (try simp only [Act.put, List.setIfInBounds_toArray, List.set_cons_zero, List.set_cons_succ])
      refine wpAnyH_take (i := 8) (v := ?_) rfl (by kernel_rfl) (by kernel_rfl) (by kernel_rfl) (fun _ _ _ h => h) (Or.inl ⟨by kernel_rfl, ?_⟩) hHeld ?_
      rotate_left
      · (intro w hSw; obtain ⟨k0, k1, k2⟩ := (CS.out w hSw).1; clear hSw; go_simp; try (with_reducible rfl))
      (try simp only [Act.put, List.setIfInBounds_toArray, List.set_cons_zero, List.set_cons_succ])
      refine wpAnyH_take (i := 10) (v := ?_) rfl (by kernel_rfl) (by kernel_rfl) (by kernel_rfl) (fun _ _ _ h => h) (Or.inl ⟨by kernel_rfl, ?_⟩) hHeld ?_
      rotate_left
      · (intro w hSw; obtain ⟨k0, k1, k2⟩ := (CQ.out w hSw).1; clear hSw; go_simp; try (with_reducible rfl))
      (try simp only [Act.put, List.setIfInBounds_toArray, List.set_cons_zero, List.set_cons_succ])
      refine wpAnyH_ready (rs := [9]) (by kernel_rfl) (by simp) ?_
      refine AllReadyH.cons rfl (fun K hK => ?_) AllReadyH.nil
      go_simp
      go_wp2_with fail
      refine (plain_any _ _ _ _ _ _).mono ?_
      rintro e w22 ⟨rfl, hb'⟩
      have hH : Below W12.heap.size W12 _ := hHeld
      have hS2 : Below W12.heap.size W12 w22 := hH.trans (hb'.mono hH.size)
      clear hHeld hb' hH
      go_wp2_with fail
      refine hK.out _ _ hS2 (fun hHeld => ?_)
      clear hK K hS2
      (try simp only [Act.put, List.setIfInBounds_toArray, List.set_cons_zero, List.set_cons_succ])
      refine wpAnyH_ready (rs := [11]) (by kernel_rfl) (by simp) ?_
      refine AllReadyH.cons rfl (fun K hK => ?_) AllReadyH.nil
      go_simp
      go_wp2_with fail
      refine (SM.out _ hHeld).mono ?_
      rintro e w23 ⟨rfl, hb'⟩
      have hH : Below W12.heap.size W12 _ := hHeld
      have hS2 : Below W12.heap.size W12 w23 := hH.trans (hb'.mono hH.size)
      clear hHeld hb' hH
      go_wp2_with fail
      refine hK.out _ _ hS2 (fun hHeld => ?_)
      clear hK K hS2
      (try simp only [Act.put, List.setIfInBounds_toArray, List.set_cons_zero, List.set_cons_succ])
      refine wpAnyH_take (i := 12) (v := ?_) rfl (by kernel_rfl) (by kernel_rfl) (by kernel_rfl) (fun _ _ _ h => h) (Or.inl ⟨by kernel_rfl, ?_⟩) hHeld ?_
      rotate_left
      · (intro w hSw; clear hSw; go_simp; try (with_reducible rfl))
      (try simp only [Act.put, List.setIfInBounds_toArray, List.set_cons_zero, List.set_cons_succ])
      refine wpAnyH_take (i := 13) (v := ?_) rfl (by kernel_rfl) (by kernel_rfl) (by kernel_rfl) (fun _ _ _ h => h) (Or.inl ⟨by kernel_rfl, ?_⟩) hHeld ?_
      rotate_left
      · (intro w hSw; clear hSw; go_simp; try (with_reducible rfl))
      (try simp only [Act.put, List.setIfInBounds_toArray, List.set_cons_zero, List.set_cons_succ])
      refine wpAnyH_done (by kernel_rfl) ?_ _
      simp only [Act.put, List.getElem_toArray, List.getElem_cons_zero, List.getElem_cons_succ, List.setIfInBounds_toArray, List.set_cons_zero, List.set_cons_succ]
      go_wp2
      go_ret
      exact ⟨rfl, BW12.out.trans ((show Below W12.heap.size W12 _ from hHeld).mono BW12.out.size)⟩
  · rw [if_neg hmay] at hla
    subst hla
    have HM := Lib.hid hmay
    clear hmay
    go_wp2_with fail
    refine (plain_any w4 _ _ _ _ _).mono ?_
    rintro e w5 ⟨rfl, hb5⟩
    have hb35 := HB4.out.trans (hb5.mono HB4.out.size)
    have hly := refLay_any w5 r qa qn qc ((HC3.out w5 hb35).2.1) (by omega)
    have HB5 := Lib.hid hb35
    clear hb5 hb35 j0 j1 j2
    go_wp2_with fail
    refine hly.mono ?_
    clear hly
    rintro e w6 ⟨hb6, hla⟩
    rw [if_neg HM.out] at hla
    subst hla
    have hb36 := HB5.out.trans (hb6.mono HB5.out.size)
    have bw6 := HBW3.out.trans (hb36.mono HBW3.out.size)
    have hcv1 := convB w6 none 0 0 [] (Rds.nil _ _)
    have hse := str_eqc []
    have hke := kind_errno w6 1 (HG.out.below bw6 HG.out.pos)
    have BW6 := Lib.hid bw6
    clear hb6 hb36 bw6 HB4 HB5
    go_wp2_with fail
    refine hke.mono ?_
    clear hke
    rintro e w7 ⟨rfl, hb7⟩
    have bw7 := BW6.out.trans (hb7.mono BW6.out.size)
    have hr1 : Rds w7 s1 n1 l1 := R1.out.below bw7 (fun h0 b o e => by subst e; exact R1.out.lt h0)
    have hfw := few_allw w7 s1 n1 c1 l1 hr1 le1 z1 (by omega)
    have BW7 := Lib.hid bw7
    clear hb7 bw7 hr1 hcv1 hse
    go_wp2_with fail
    refine hfw.mono ?_
    clear hfw
    rintro e WZ ⟨za, zc, rfl, ho7, hb7⟩
    obtain ⟨_, _, hsl, zle, _, znn, _⟩ := ownsRow_slice ho7
    simp only [Value.slice.injEq] at hsl
    obtain ⟨rfl, _, rfl⟩ := hsl
    obtain ⟨zn, hzn⟩ : ∃ zn, zn = n1 := ⟨_, rfl⟩
    obtain ⟨zl, hzl⟩ : ∃ zl, zl = l1 := ⟨_, rfl⟩
    have zcap : zn ≤ 140737488355328 := by omega
    have hz : Rds WZ za zn zl := by rw [hzn, hzl]; exact Rds.of_own (by rw [R1.out.1]; exact ho7) R1.out.1
    have hbz := BW7.out.trans (hb7.mono BW7.out.size)
    rw [← hzn] at zle ⊢
    have HZ := Lib.hid hz
    have HBZ := Lib.hid hbz
    clear ho7 hb7 hz hbz hzn hzl BW7 BW6
    have hzl := HZ.out.1
    have hrd := rtRead_any WZ za zn zc zl HZ.out zle znn zcap
    have HBZz := HBZ.out.size
    go_wp2_with fail
    refine hrd.mono ?_
    clear hrd
    intro e w8 hq
    have hb8 := hq.1
    obtain ⟨s, sa, sn, sc, fv, kc, rfl, hso, hsn, hkv, hri⟩ := read_kv hq
    clear hq
    obtain ⟨pb, hpb⟩ : ∃ pb, pb = w8.heap.size := ⟨_, rfl⟩
    obtain ⟨W9, hW9⟩ : ∃ W9, W9 = w8.alloc (.cells #[.int .i64 s.gen, .slice sa sn sc, .int .i64 s.idx] 85) := ⟨_, rfl⟩
    have hb9 : Below w8.heap.size w8 W9 := by rw [hW9]; exact (Below.refl _ _).alloc (Nat.le_refl _) _
    have hT9 : W9.heap[pb]? = some (.cells #[.int .i64 s.gen, .slice sa sn sc, .int .i64 s.idx] 85 (0, 0)) := by rw [hW9, hpb]; exact heap_alloc_new _ _
    have hO9 := own_blw hso hb9
    have hb79 := hb8.trans (hb9.mono hb8.size)
    have bw9 := HBZ.out.trans (hb79.mono HBZz)
    have hz9 : Rds W9 za zn zl := HZ.out.below hb79 (fun h0 b o e => by subst e; exact HZ.out.lt h0)
    have hrf := refRead_any W9 za zn zc zl hz9 zle znn zcap
    have T9 := Lib.hid hT9
    have O9 := Lib.hid hO9
    have BW9 := Lib.hid bw9
    have HSN := Lib.hid hsn
    have HKV := Lib.hid hkv
    have HRI := Lib.hid hri
    have HW9 := Lib.hid hW9
    have HPB := Lib.hid hpb
    clear hb8 hso hsn hkv hri hb9 hT9 hO9 hb79 bw9 hz9 hW9 hpb
    go_wp2_with fail
    rw [← HW9.out, ← HPB.out]
    refine hrf.mono ?_
    clear hrf HW9 HPB
    intro e w11 hq
    have hb11 := hq.1
    obtain ⟨ta, tn, tc, rfl, hto, htn⟩ := refread_kv hq HRI.out
    clear hq
    obtain ⟨qb, hqb⟩ : ∃ qb, qb = w11.heap.size := ⟨_, rfl⟩
    obtain ⟨W12, hW12⟩ : ∃ W12, W12 = w11.alloc (.cells #[.int .i64 s.gen, .slice ta tn tc, .int .i64 s.idx] 90) := ⟨_, rfl⟩
    have hb12 : Below w11.heap.size w11 W12 := by rw [hW12]; exact (Below.refl _ _).alloc (Nat.le_refl _) _
    have hT12 : W12.heap[qb]? = some (.cells #[.int .i64 s.gen, .slice ta tn tc, .int .i64 s.idx] 90 (0, 0)) := by rw [hW12, hqb]; exact heap_alloc_new _ _
    have hcq := rootCells hT12 (own_blw hto hb12)
    have hb912 := hb11.trans (hb12.mono hb11.size)
    have hcs := rootCells ((hb912.block pb (blk_lt T9.out)).trans T9.out) (own_blw O9.out hb912)
    have bw12 := BW9.out.trans (hb912.mono BW9.out.size)
    have CS := Lib.hid hcs
    have CQ := Lib.hid hcq
    have hsn := HSN.out
    have SM : Hid (∀ Y, Below W12.heap.size W12 Y → Calls Tryd.prog 39 #[.agg #[.int .i64 s.gen, .slice sa sn sc, .int .i64 s.idx], .agg #[.int .i64 s.gen, .slice ta tn tc, .int .i64 s.idx]] Y fun e w' => e = .returned (.bool true) ∧ Below Y.heap.size Y w') := Lib.hid (fun Y hY => by
      have := sameRoot_any Y s.gen s.idx sa sn sc _ (hcs Y hY).2.1 s.gen s.idx ta tn tc _ (hcq Y hY).2.1 (by omega) (by omega)
      rw [show decide (s.gen = s.gen ∧ s.idx = s.idx ∧ s.logs = s.logs) = true from decide_eq_true ⟨rfl, rfl, rfl⟩] at this
      exact this)
    have K8 : Hid (∀ Y, Below W12.heap.size W12 Y → Calls Tryd.prog 38 #[] Y fun e w' => e = .returned (.bool true) ∧ Below Y.heap.size Y w') := Lib.hid (fun Y hY => known8 Y (HG.out.below (bw12.trans (hY.mono bw12.size)) HG.out.pos))
    have hke := HKV.out W12 (HG.out.below bw12 HG.out.pos)
    unfold KV at hke
    have KE := Lib.hid hke
    have BW12 := Lib.hid bw12
    have HW12 := Lib.hid hW12
    have HQB := Lib.hid hqb
    clear hb11 hto htn hb12 hT12 hcq hb912 hcs bw12 hsn hke hW12 hqb T9 O9 BW9 HSN HKV HRI
    go_wp2_with fail
    rw [← HW12.out, ← HQB.out]
    clear HW12 HQB
    refine wp_region_held_drew (S := (fun Y => Below W12.heap.size W12 Y)) (by kernel_rfl) ((Below.refl _ _).drew) (fun hHeld => ?_)
    refine wpAnyH_ready (rs := [0]) (by kernel_rfl) (by simp) ?_
    refine AllReadyH.cons rfl (fun K hK => ?_) AllReadyH.nil
    go_simp
    go_wp2_with fail
    refine (K8.out _ hHeld).mono ?_
    rintro e w20 ⟨rfl, hb'⟩
    have hH : Below W12.heap.size W12 _ := hHeld
    have hS2 : Below W12.heap.size W12 w20 := hH.trans (hb'.mono hH.size)
    clear hHeld hb' hH
    go_wp2_with fail
    refine hK.out _ _ hS2 (fun hHeld => ?_)
    clear hK K hS2
    (try simp only [Act.put, List.setIfInBounds_toArray, List.set_cons_zero, List.set_cons_succ])
    refine wpAnyH_take (i := 1) (v := ?_) rfl (by kernel_rfl) (by kernel_rfl) (by kernel_rfl) (fun _ _ _ h => h) (Or.inl ⟨by kernel_rfl, ?_⟩) hHeld ?_
    rotate_left
    · (intro w hSw; clear hSw; go_simp; try (with_reducible rfl))
    (try simp only [Act.put, List.setIfInBounds_toArray, List.set_cons_zero, List.set_cons_succ])
    refine wpAnyH_take (i := 2) (v := ?_) rfl (by kernel_rfl) (by kernel_rfl) (by kernel_rfl) (fun _ _ _ h => h) (Or.inl ⟨by kernel_rfl, ?_⟩) hHeld ?_
    rotate_left
    · (intro w hSw; clear hSw; go_simp; try (with_reducible rfl))
    (try simp only [Act.put, List.setIfInBounds_toArray, List.set_cons_zero, List.set_cons_succ])
    refine wpAnyH_take (i := 4) (v := ?_) rfl (by kernel_rfl) (by kernel_rfl) (by kernel_rfl) (fun _ _ _ h => h) (Or.inl ⟨by kernel_rfl, ?_⟩) hHeld ?_
    rotate_left
    · (intro w hSw; clear hSw; go_simp; try (with_reducible rfl))
    (try simp only [Act.put, List.setIfInBounds_toArray, List.set_cons_zero, List.set_cons_succ])
    refine wpAnyH_ready (rs := [3]) (by kernel_rfl) (by simp) ?_
    refine AllReadyH.cons rfl (fun K hK => ?_) AllReadyH.nil
    go_simp
    go_wp2_with fail
    refine (KE.out _ hHeld).mono ?_
    rintro e w21 ⟨rfl, hb'⟩
    have hH : Below W12.heap.size W12 _ := hHeld
    have hS2 : Below W12.heap.size W12 w21 := hH.trans (hb'.mono hH.size)
    clear hHeld hb' hH
    go_wp2_with fail
    refine hK.out _ _ hS2 (fun hHeld => ?_)
    clear hK K hS2
    (try simp only [Act.put, List.setIfInBounds_toArray, List.set_cons_zero, List.set_cons_succ])
    refine wpAnyH_take (i := 5) (v := ?_) rfl (by kernel_rfl) (by kernel_rfl) (by kernel_rfl) (fun _ _ _ h => h) (Or.inl ⟨by kernel_rfl, ?_⟩) hHeld ?_
    rotate_left
    · (intro w hSw; clear hSw; go_simp; try (with_reducible rfl))
    (try simp only [Act.put, List.setIfInBounds_toArray, List.set_cons_zero, List.set_cons_succ])
    refine wpAnyH_take (i := 6) (v := ?_) rfl (by kernel_rfl) (by kernel_rfl) (by kernel_rfl) (fun _ _ _ h => h) (Or.inl ⟨by kernel_rfl, ?_⟩) hHeld ?_
    rotate_left
    · (intro w hSw; clear hSw; go_simp; try (with_reducible rfl))
    (try simp only [Act.put, List.setIfInBounds_toArray, List.set_cons_zero, List.set_cons_succ])
    refine wpAnyH_take (i := 7) (v := ?_) rfl (by kernel_rfl) (by kernel_rfl) (by kernel_rfl) (fun _ _ _ h => h) (Or.inl ⟨by kernel_rfl, ?_⟩) hHeld ?_
    rotate_left
    · (intro w hSw; clear hSw; go_simp; try (with_reducible rfl))
    (try simp only [Act.put, List.setIfInBounds_toArray, List.set_cons_zero, List.set_cons_succ])
    refine wpAnyH_take (i := 8) (v := ?_) rfl (by kernel_rfl) (by kernel_rfl) (by kernel_rfl) (fun _ _ _ h => h) (Or.inl ⟨by kernel_rfl, ?_⟩) hHeld ?_
    rotate_left
    · (intro w hSw; obtain ⟨k0, k1, k2⟩ := (CS.out w hSw).1; clear hSw; go_simp; try (with_reducible rfl))
    (try simp only [Act.put, List.setIfInBounds_toArray, List.set_cons_zero, List.set_cons_succ])
    refine wpAnyH_take (i := 10) (v := ?_) rfl (by kernel_rfl) (by kernel_rfl) (by kernel_rfl) (fun _ _ _ h => h) (Or.inl ⟨by kernel_rfl, ?_⟩) hHeld ?_
    rotate_left
    · (intro w hSw; obtain ⟨k0, k1, k2⟩ := (CQ.out w hSw).1; clear hSw; go_simp; try (with_reducible rfl))
    (try simp only [Act.put, List.setIfInBounds_toArray, List.set_cons_zero, List.set_cons_succ])
    refine wpAnyH_ready (rs := [9]) (by kernel_rfl) (by simp) ?_
    refine AllReadyH.cons rfl (fun K hK => ?_) AllReadyH.nil
    go_simp
    go_wp2_with fail
    refine (plain_any _ _ _ _ _ _).mono ?_
    rintro e w22 ⟨rfl, hb'⟩
    have hH : Below W12.heap.size W12 _ := hHeld
    have hS2 : Below W12.heap.size W12 w22 := hH.trans (hb'.mono hH.size)
    clear hHeld hb' hH
    go_wp2_with fail
    refine hK.out _ _ hS2 (fun hHeld => ?_)
    clear hK K hS2
    (try simp only [Act.put, List.setIfInBounds_toArray, List.set_cons_zero, List.set_cons_succ])
    refine wpAnyH_ready (rs := [11]) (by kernel_rfl) (by simp) ?_
    refine AllReadyH.cons rfl (fun K hK => ?_) AllReadyH.nil
    go_simp
    go_wp2_with fail
    refine (SM.out _ hHeld).mono ?_
    rintro e w23 ⟨rfl, hb'⟩
    have hH : Below W12.heap.size W12 _ := hHeld
    have hS2 : Below W12.heap.size W12 w23 := hH.trans (hb'.mono hH.size)
    clear hHeld hb' hH
    go_wp2_with fail
    refine hK.out _ _ hS2 (fun hHeld => ?_)
    clear hK K hS2
    (try simp only [Act.put, List.setIfInBounds_toArray, List.set_cons_zero, List.set_cons_succ])
    refine wpAnyH_take (i := 12) (v := ?_) rfl (by kernel_rfl) (by kernel_rfl) (by kernel_rfl) (fun _ _ _ h => h) (Or.inl ⟨by kernel_rfl, ?_⟩) hHeld ?_
    rotate_left
    · (intro w hSw; clear hSw; go_simp; try (with_reducible rfl))
    (try simp only [Act.put, List.setIfInBounds_toArray, List.set_cons_zero, List.set_cons_succ])
    refine wpAnyH_take (i := 13) (v := ?_) rfl (by kernel_rfl) (by kernel_rfl) (by kernel_rfl) (fun _ _ _ h => h) (Or.inl ⟨by kernel_rfl, ?_⟩) hHeld ?_
    rotate_left
    · (intro w hSw; clear hSw; go_simp; try (with_reducible rfl))
    (try simp only [Act.put, List.setIfInBounds_toArray, List.set_cons_zero, List.set_cons_succ])
    refine wpAnyH_done (by kernel_rfl) ?_ _
    simp only [Act.put, List.getElem_toArray, List.getElem_cons_zero, List.getElem_cons_succ, List.setIfInBounds_toArray, List.set_cons_zero, List.set_cons_succ]
    go_wp2
    go_ret
    exact ⟨rfl, BW12.out.trans ((show Below W12.heap.size W12 _ from hHeld).mono BW12.out.size)⟩
end Go.Proofs.YtdlpehlgmfhheaaDoor
