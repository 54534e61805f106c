/- The statement WireTurns, walked. -/
import Derived.Test.YtpblopdcbjfkpaaDoorWiLaw
namespace Go.Proofs.YtpblopdcbjfkpaaDoor
open Go.RowKit Go.Tap
set_option linter.unusedVariables false
set_option linter.unusedSimpArgs false
theorem xor_w8 (x y : UInt8) : bits BinOp.xor IntKind.u8 (x.toNat : Int) (y.toNat : Int) = ((x ^^^ y).toNat : Int) := by
  rw [u8_xor_nat _ _ x.toNat_lt y.toNat_lt, UInt8.toNat_xor]
/-- What a laying call has left. -/
def LayG (W wx : World) (R : Option (List UInt8)) (v e : Value) : Prop :=
  Below W.heap.size W wx ∧ ((R = none ∧ v = .slice none 0 0 ∧ e = .iface 61 (.int .i64 1)) ∨ ∃ b a c, R = some b ∧ v = .slice a b.length c ∧ e = .nilIface ∧ wx.ownsRow W.heap.size 5 1 (.slice a b.length c) b.length (bv b))
theorem LayG.of {W w wx : World} {R : Option (List UInt8)} {e : Ending} (h : LayAft w R e wx) (hb : Below W.heap.size W w) : ∃ v ev, e = .returned (.tuple #[v, ev]) ∧ LayG W wx R v ev := by
  obtain ⟨b6, he⟩ := h
  cases R with
  | none => exact ⟨_, _, he, hb.trans (b6.mono hb.size), .inl ⟨rfl, rfl, rfl⟩⟩
  | some b =>
    obtain ⟨aa, ca, h1, h2⟩ := he
    exact ⟨_, _, h1, hb.trans (b6.mono hb.size), .inr ⟨b, aa, ca, rfl, rfl, rfl, ownsRow_base h2 hb.size⟩⟩
theorem turned_no {q : Wi.Rq} {es : List Wi.En} (hq : q.ok) (hp : (⟨q, es⟩ : Wi.Rp).ok) {t : Bool} {b : List UInt8} (h : (if t = true then Wi.layRp ⟨q, es⟩ else Wi.layRq q) = some b) :
    b.length ≤ 3000 ∧ 4 ≤ b.length ∧ ∀ k x (Y : UInt8), b[k]? = some x → Y ≠ 0 → Wi.opened (b.set k (x ^^^ Y)) = none := by
  obtain ⟨l, hl, hb⟩ : ∃ l, b = Wi.sumB l ∧ b.length ≤ 3000 := by
    cases t with
    | true =>
      obtain ⟨_, _, _, e⟩ := Wi.layRp_parts h
      exact ⟨_, e, layRp_le hp h⟩
    | false =>
      obtain ⟨_, e⟩ := Wi.layRq_parts h
      exact ⟨_, e, layRq_le hq h⟩
  refine ⟨hb, by rw [hl, Wi.sumB_len]; omega, fun k x Y hx hY => ?_⟩
  have hk := (List.getElem?_eq_some_iff.1 hx).1
  rw [hl] at hx hk ⊢
  refine Wi.opened_turn l k hk _ ?_
  rw [hx]
  intro e
  simp only [Option.some.injEq] at e
  apply hY
  have h2 : x ^^^ (x ^^^ Y) = 0 := by rw [← e]; exact UInt8.xor_self
  rwa [← UInt8.xor_assoc, UInt8.xor_self, UInt8.zero_xor] at h2
theorem readRq_no {b : List UInt8} (h : Wi.opened b = none) : Wi.readRq b = .error 4 := by unfold Wi.readRq; rw [h]
theorem readRp_no {b : List UInt8} (h : Wi.opened b = none) : Wi.readRp b = .error 4 := by unfold Wi.readRp; rw [h]
set_option maxHeartbeats 4000000 in
set_option maxRecDepth 100000 in
theorem wireTurns_walk (W : World) (hg : EType W) (r : RawW) (g : ArgRW 140737488351232 W r) (a1 : Int) (b1 : -9223372036854775808 ≤ a1 ∧ a1 ≤ 9223372036854775807) (a2 : Int) (b2 : 0 ≤ a2 ∧ a2 ≤ 255) (a3 : Bool) :
    Calls Tryd.prog 4 #[.agg r.cells.toArray, .int .i64 a1, .int .u8 a2, .bool a3] W fun e w' => e = .returned (.bool true) ∧ Below W.heap.size W w' := by
  obtain ⟨Y, rfl⟩ := byte_of b2
  have HB1 := Lib.hid b1
  have HA := Lib.hid (argX_of g)
  have HG := Lib.hid hg
  obtain ⟨x, hx⟩ : ∃ x, x = rawOf r := ⟨_, rfl⟩
  obtain ⟨q, hq⟩ : ∃ q, q = Wi.askQ x := ⟨_, rfl⟩
  obtain ⟨es, hes⟩ : ∃ es, es = (Wi.toldP x).ents := ⟨_, rfl⟩
  have OX : x.ok := by rw [hx]; exact HA.out.raw
  have OQ : Hid q.ok := Lib.hid (by rw [hq]; exact askQ_ok x OX)
  have OP : Hid ((⟨q, es⟩ : Wi.Rp).ok) := Lib.hid (by rw [hq, hes]; exact toldP_ok x OX)
  have LQ : Hid (q.items.length ≤ 18) := Lib.hid (by rw [hq]; exact askQ_len x)
  have LE : Hid (es.length ≤ 19) := Lib.hid (by rw [hes]; exact toldP_len x)
  have HASK : Hid (∀ X, Below W.heap.size W X → Calls Tryd.prog 16 #[.agg r.cells.toArray] X fun e w' => ∃ a c, e = .returned (.agg #[.int .i64 q.seq, .int .i64 q.kind, .slice a q.items.length c]) ∧ RdI w' a q.items.length q.items ∧ Below X.heap.size X w') := Lib.hid (fun X hb => by
    have := ask_any X r (HA.out.below hb)
    rw [← hx, ← hq] at this
    exact this.mono (fun e w' ⟨a, c, h1, h2, _, h3⟩ => ⟨a, c, h1, h2, h3⟩))
  have HTOLD : Hid (∀ X, Below W.heap.size W X → Calls Tryd.prog 18 #[.agg r.cells.toArray] X fun e w' => ∃ a c a2 c2, e = .returned (.agg #[.int .i64 q.seq, .int .i64 q.kind, .slice a q.items.length c, .slice a2 es.length c2]) ∧ RdI w' a q.items.length q.items ∧ RdE w' a2 es.length es ∧ Below X.heap.size X w') := Lib.hid (fun X hb => by
    have := told_any X r (HA.out.below hb)
    rw [← hx, ← hq, ← hes] at this
    exact this)
  obtain ⟨rc, hrc⟩ : ∃ rc, rc = r.cells.toArray := ⟨_, rfl⟩
  have SZ5 : Hid ((Tryd.prog.info? 42).map (·.size) = some rc.size) := Lib.hid (by rw [hrc]; kernel_rfl)
  rw [← hrc] at HASK HTOLD ⊢
  obtain ⟨W1, hW1⟩ : ∃ W1, W1 = W.alloc (.cells rc 42) := ⟨_, rfl⟩
  have B1 : Hid (Below W.heap.size W W1) := Lib.hid (by rw [hW1]; exact (Below.refl _ _).alloc (Nat.le_refl _) _)
  have T0 : Hid (W1.heap[W.heap.size]? = some (.cells rc 42 (0, 0))) := Lib.hid (by rw [hW1]; exact heap_alloc_new _ _)
  have PT : Hid (Part W1 W.heap.size 0 rc) := Lib.hid (Part.of_blk T0.out)
  have hak := HASK.out W1 B1.out
  obtain ⟨R, hR⟩ : ∃ R, R = if a3 = true then Wi.layRp ⟨q, es⟩ else Wi.layRq q := ⟨_, rfl⟩
  have HR := Lib.hid hR
  clear g hg hx hq hes OX hrc HASK HA b1 b2 hR
  go_enter Tryd.func4, Tryd.ntmps4
  go_upto_region 1 with (fail)
  rw [← hW1]
  clear hW1
  go_wp2_with (refine wpL_load ?hw 42 (.tmp 4) rfl W.heap.size 0 rfl rc _ PT.out Tryd.underlying42 rfl SZ5.out ?_; case hw => kernel_rfl)
  refine hak.mono ?_
  clear hak PT
  rintro e w2 ⟨a, c, rfl, i2, b2⟩
  have B2 := Lib.hid (B1.out.trans (b2.mono B1.out.size))
  have T02 := Lib.hid ((b2.block _ (blk_lt T0.out)).trans T0.out)
  have hlq := layRequest_any w2 q OQ.out a _ c i2 (by have := LQ.out; omega)
  clear i2 b2 T0 B1
  go_wp2_with fail
  refine hlq.mono ?_
  clear hlq
  rintro e w3 hlay
  obtain ⟨v9, v10, rfl, hL⟩ := LayG.of hlay B2.out
  have HL := Lib.hid hL
  have b3 := hlay.1
  have T03 := Lib.hid ((b3.block _ (blk_lt T02.out)).trans T02.out)
  have B3 := Lib.hid (B2.out.trans (b3.mono B2.out.size))
  have PT3 : Hid (Part w3 W.heap.size 0 rc) := Lib.hid (Part.of_blk T03.out)
  clear hlay hL b3 T02 B2
  go_upto_if 21 with (fail)
  go_cut [9, 10] from 22 to 27 (fun v9 v10 wx => Hid (LayG W wx R v9 v10))
  case first =>
    cases a3
    · go_wp2
      go_meet
      rw [show R = _ from HR.out]
      exact HL
    · have hto := HTOLD.out w3 B3.out
      go_wp2_with (refine wpL_load ?hw 42 (.tmp 4) rfl W.heap.size 0 rfl rc _ PT3.out Tryd.underlying42 rfl SZ5.out ?_; case hw => kernel_rfl)
      refine hto.mono ?_
      clear hto PT3
      rintro e w4 ⟨a4, c4, a5, c5, rfl, i4, e4, b4⟩
      have B4 := Lib.hid (B3.out.trans (b4.mono B3.out.size))
      have hlp := layReply_any w4 ⟨q, es⟩ OP.out a4 _ c4 i4 (by have := LQ.out; omega) a5 _ c5 e4 (by have := LE.out; omega)
      dsimp only at hlp
      clear i4 e4 b4
      go_wp2_with fail
      refine hlp.mono ?_
      clear hlp
      rintro e w5 hlay
      obtain ⟨v9', v10', rfl, hL⟩ := LayG.of hlay B4.out
      have HL' := Lib.hid hL
      clear hlay hL
      go_wp2
      go_meet
      rw [show R = _ from HR.out]
      exact HL'
  case rest =>
    have HC := hcut
    clear hcut HL B3 T03 PT3 SZ5 HTOLD LQ LE
    have hkn := known23 wc (HG.out.keep HC.out.1)
    have BW := Lib.hid HC.out.1
    rcases HC.out.2 with ⟨h1, h2, h3⟩ | ⟨b, aa, ca, h1, h2, h3, hown⟩
    · subst h2; subst h3
      clear h1 HR HC
      go_wp2_with fail
      refine hkn.mono ?_
      clear hkn
      rintro e w6 ⟨rfl, b6⟩
      have B6 := Lib.hid (BW.out.trans (b6.mono BW.out.size))
      have hkn := known23 w6 (HG.out.keep B6.out)
      clear b6
      go_wp2_with fail
      refine hkn.mono ?_
      clear hkn
      rintro e w7 ⟨rfl, b7⟩
      have B7 := Lib.hid (B6.out.trans (b7.mono B6.out.size))
      clear b7
      go_wp2
      go_ret
      exact ⟨rfl, B7.out⟩
    · subst h2; subst h3
      obtain ⟨hle, h4, htn⟩ := turned_no OQ.out OP.out (HR.out.symm.trans h1)
      have HLE := Lib.hid hle
      have H4 := Lib.hid h4
      have HTN := Lib.hid htn
      have OWN := Lib.hid hown
      clear h1 HR HC hle h4 htn hown
      go_wp2_with fail
      refine hkn.mono ?_
      clear hkn
      rintro e w6 ⟨rfl, b6⟩
      have B6 := Lib.hid (BW.out.trans (b6.mono BW.out.size))
      have O6 := Lib.hid (ownsRow_stay OWN.out (TStay.of_below b6 (fun _ => False)) (fun _ _ h => h))
      have l0 : ((b.length : Int) == 0) = false := by have := H4.out; simp; intro h; rw [h] at this; simp at this
      have l1 : decide ((0 : Int) < (b.length : Int)) = true := decide_eq_true (by have := H4.out; omega)
      have l1' : decide (0 < b.length) = true := decide_eq_true (by have := H4.out; omega)
      clear b6 OWN BW
      by_cases hy : Y = 0
      · subst hy
        go_wp2
        all_goals go_ret
        all_goals exact ⟨rfl, B6.out⟩
      · have hyn : ((Y.toNat : Int) == 0) = false := by
          simp; intro h; exact hy (UInt8.toNat_inj.1 (by simpa using h))
        have HY := Lib.hid hy
        clear hy
        obtain ⟨k, hk⟩ : ∃ k : Nat, a1 % (b.length : Int) = k := ⟨(a1 % (b.length : Int)).toNat, by have := Int.emod_nonneg a1 (show (b.length : Int) ≠ 0 by have := H4.out; omega); omega⟩
        have hkn : k < b.length := by have := Int.emod_lt_of_pos a1 (show (0 : Int) < (b.length : Int) by have := H4.out; omega); omega
        have hp := pick_any w6 a1 b.length HB1.out.1 HB1.out.2 (by have := H4.out; omega) (by have := HLE.out; omega)
        rw [hk] at hp
        obtain ⟨gb, rfl, hg1, hg2⟩ := own_head O6.out (by have := H4.out; omega)
        have hx : b[k]? = some (b[k]'hkn) := List.getElem?_eq_getElem _
        have hcell : w6.cell? ⟨gb, k, none⟩ = some (.int .u8 ((b[k]'hkn).toNat : Int)) := by
          rw [O6.out.cellAt k (by omega), bv_getElem?, hx]; rfl
        have hfr : w6.frozen? ⟨gb, k, none⟩ = false := O6.out.frozenAt k
        have hst := O6.out.stored k (.int .u8 (((b[k]'hkn) ^^^ Y).toNat : Int))
        rw [bv_set] at hst
        generalize (b[k]'hkn) = x at hx hcell hst
        have i0 : (0 : Int) ≤ (k : Int) := by omega
        have i1 : (k : Int) < (b.length : Int) := by omega
        have hxy := xor_w8 x Y
        obtain ⟨z8, hz8⟩ : ∃ z8, z8 = x ^^^ Y := ⟨_, rfl⟩
        rw [← hz8] at hxy hst
        obtain ⟨W7, hW7⟩ : ∃ W7, W7 = w6.setCell ⟨gb, k, none⟩ (.int .u8 (z8.toNat : Int)) := ⟨_, rfl⟩
        rw [← hW7] at hst
        have B7 := Lib.hid (show Below W.heap.size W W7 by rw [hW7]; exact B6.out.setCell hg1 _)
        obtain ⟨b', hb'⟩ : ∃ b', b' = b.set k z8 := ⟨_, rfl⟩
        have HNO : Hid (Wi.opened b' = none) := Lib.hid (by rw [hb', hz8]; exact HTN.out k x Y hx HY.out)
        have HL' : Hid (b'.length = b.length) := Lib.hid (by rw [hb', List.length_set])
        have R7 : Hid (Rds W7 (some ⟨gb, 0, none⟩) b.length b') := Lib.hid (by
          rw [← hb'] at hst
          exact Rds.of_own (e := 5) (base := W.heap.size) (c := ca) (by rw [HL'.out]; exact hst.1) HL'.out)
        have hnc : b.length ≤ ca := by
          obtain ⟨_, _, q3, hnc, _⟩ := ownsRow_slice O6.out
          simp only [Value.slice.injEq] at q3
          obtain ⟨_, _, rfl⟩ := q3
          exact hnc
        have HNC := Lib.hid hnc
        have G7 := Lib.hid (HG.out.keep B7.out)
        have rd := readRequest_any W7 _ _ ca b' R7.out hnc (by intro h; cases h) (by have := HLE.out; omega)
        rw [readRq_no HNO.out] at rd
        have HRP : Hid (∀ X, Below W7.heap.size W7 X → Calls Tryd.prog 21 #[.slice (some ⟨gb, 0, none⟩) b.length ca] X (RpAft X (.error 4))) := Lib.hid (fun X hX => by
          have := readReply_any X _ _ ca b' (R7.out.below hX (fun h0 bb oo e => by simp only [Option.some.injEq, Addr.mk.injEq] at e; obtain ⟨rfl, _⟩ := e; exact R7.out.lt h0)) HNC.out (by intro h; cases h) (by have := HLE.out; omega)
          rwa [readRp_no HNO.out] at this)
        clear hst hb' hz8 hx hk hg1 hg2 hnc hkn O6 HTN B6
        go_wp2_with fail
        refine hp.mono ?_
        clear hp
        rintro e w' ⟨rfl, rfl⟩
        go_upto_region 9 with (fail)
        rw [← hW7]
        clear hxy hW7 hcell hfr i0 i1
        go_wp2_with fail
        refine rd.mono ?_
        clear rd
        rintro e w8 ⟨b8, he⟩
        obtain rfl : e = _ := he
        obtain ⟨W9, hW9⟩ : ∃ W9, W9 = w8.alloc (.cells #[.int .i64 0, .int .i64 0, .slice none 0 0] 50) := ⟨_, rfl⟩
        have b9 : Below w8.heap.size w8 W9 := by rw [hW9]; exact (Below.refl _ _).alloc (Nat.le_refl _) _
        obtain ⟨p9, hp9⟩ : ∃ p9, p9 = w8.heap.size := ⟨_, rfl⟩
        have T9 : Hid (W9.heap[p9]? = some (.cells #[.int .i64 0, .int .i64 0, .slice none 0 0] 50 (0, 0))) := Lib.hid (by rw [hW9, hp9]; exact heap_alloc_new _ _)
        have b79 := b8.trans (b9.mono b8.size)
        have B79 := Lib.hid b79
        have hrp := HRP.out W9 b79
        clear b8 b9 b79 HRP R7
        go_upto_region 10 with (fail)
        rw [← hW9, ← hp9]
        clear hW9 hp9
        go_wp2_with fail
        refine hrp.mono ?_
        clear hrp
        rintro e w10 ⟨b10, he⟩
        obtain rfl : e = _ := he
        obtain ⟨W11, hW11⟩ : ∃ W11, W11 = w10.alloc (.cells #[.int .i64 0, .int .i64 0, .slice none 0 0, .slice none 0 0] 55) := ⟨_, rfl⟩
        have b11 : Below w10.heap.size w10 W11 := by rw [hW11]; exact (Below.refl _ _).alloc (Nat.le_refl _) _
        obtain ⟨p11, hp11⟩ : ∃ p11, p11 = w10.heap.size := ⟨_, rfl⟩
        have T11 : Hid (W11.heap[p11]? = some (.cells #[.int .i64 0, .int .i64 0, .slice none 0 0, .slice none 0 0] 55 (0, 0))) := Lib.hid (by rw [hW11, hp11]; exact heap_alloc_new _ _)
        have b911 := b10.trans (b11.mono b10.size)
        have BX := Lib.hid (B79.out.trans (b911.mono B79.out.size))
        have T9X := Lib.hid ((b911.block _ (blk_lt T9.out)).trans T9.out)
        have GX := Lib.hid (G7.out.keep BX.out)
        have hk1 := kind_errno W11 4 GX.out
        clear b10 b11 b911 T9 B79
        go_upto_region 11 with (fail)
        rw [← hW11, ← hp11]
        clear hW11 hp11
        go_wp2_with fail
        refine hk1.mono ?_
        clear hk1
        rintro e w12 ⟨rfl, b12⟩
        have T912 := Lib.hid ((b12.block _ (blk_lt T9X.out)).trans T9X.out)
        have T112 := Lib.hid ((b12.block _ (blk_lt T11.out)).trans T11.out)
        have BY := Lib.hid (BX.out.trans (b12.mono BX.out.size))
        have hk2 := kind_errno w12 4 (GX.out.keep b12)
        clear b12 T9X T11 BX GX
        go_wp2_with fail
        refine hk2.mono ?_
        clear hk2
        rintro e w13 ⟨rfl, b13⟩
        obtain ⟨g0, g1, g2⟩ := cells3 ((b13.block _ (blk_lt T912.out)).trans T912.out)
        obtain ⟨j0, j1, j2, j3⟩ := cells4 ((b13.block _ (blk_lt T112.out)).trans T112.out)
        have BZ := Lib.hid (B7.out.trans ((BY.out.trans (b13.mono BY.out.size)).mono B7.out.size))
        clear b13 BY
        go_wp2
        all_goals go_ret
        all_goals exact ⟨rfl, BZ.out⟩
end Go.Proofs.YtpblopdcbjfkpaaDoor
