/- The statement WireBack, walked. -/
import Derived.Test.YtpblopdcbjfkpaaDoorWiLaw
namespace Go.Proofs.YtpblopdcbjfkpaaDoor
open Go.RowKit Go.Tap
set_option linter.unusedVariables false
set_option linter.unusedSimpArgs false
set_option maxHeartbeats 4000000 in
set_option maxRecDepth 100000 in
theorem wireBack_walk (W : World) (hg : EType W) (r : RawW) (g : ArgRW 140737488351232 W r) : Calls Tryd.prog 6 #[.agg r.cells.toArray] W fun e w' => e = .returned (.bool true) ∧ Below W.heap.size W w' := by
  have HA := Lib.hid (argX_of g)
  have HG := Lib.hid hg
  obtain ⟨x, hx⟩ : ∃ x, x = rawOf r := ⟨_, rfl⟩
  obtain ⟨q, hq⟩ : ∃ q, q = Wi.askQ x := ⟨_, rfl⟩
  obtain ⟨es, hes⟩ : ∃ es, es = (Wi.toldP x).ents := ⟨_, rfl⟩
  have OX : x.ok := by rw [hx]; exact HA.out.raw
  have OQ : Hid q.ok := Lib.hid (by rw [hq]; exact askQ_ok x OX)
  have OP : Hid ((⟨q, es⟩ : Wi.Rp).ok) := Lib.hid (by rw [hq, hes]; exact toldP_ok x OX)
  have LQ : Hid (q.items.length ≤ 18) := Lib.hid (by rw [hq]; exact askQ_len x)
  have LE : Hid (es.length ≤ 19) := Lib.hid (by rw [hes]; exact toldP_len x)
  have HASK : Hid (∀ X, Below W.heap.size W X → Calls Tryd.prog 16 #[.agg r.cells.toArray] X fun e w' => ∃ a c, e = .returned (.agg #[.int .i64 q.seq, .int .i64 q.kind, .slice a q.items.length c]) ∧ RdI w' a q.items.length q.items ∧ Below X.heap.size X w') := Lib.hid (fun X hb => by
    have := ask_any X r (HA.out.below hb)
    rw [← hx, ← hq] at this
    exact this.mono (fun e w' ⟨a, c, h1, h2, _, h3⟩ => ⟨a, c, h1, h2, h3⟩))
  have HTOLD : Hid (∀ X, Below W.heap.size W X → Calls Tryd.prog 18 #[.agg r.cells.toArray] X fun e w' => ∃ a c a2 c2, e = .returned (.agg #[.int .i64 q.seq, .int .i64 q.kind, .slice a q.items.length c, .slice a2 es.length c2]) ∧ RdI w' a q.items.length q.items ∧ RdE w' a2 es.length es ∧ Below X.heap.size X w') := Lib.hid (fun X hb => by
    have := told_any X r (HA.out.below hb)
    rw [← hx, ← hq, ← hes] at this
    exact this)
  obtain ⟨rc, hrc⟩ : ∃ rc, rc = r.cells.toArray := ⟨_, rfl⟩
  have SZ5 : Hid ((Tryd.prog.info? 42).map (·.size) = some rc.size) := Lib.hid (by rw [hrc]; kernel_rfl)
  rw [← hrc] at HASK HTOLD ⊢
  have HPQ : Hid (∀ p : Wi.Rp, p = ⟨q, es⟩ → p.q = q ∧ p.ents = es) := Lib.hid (fun p hp => by rw [hp]; exact ⟨rfl, rfl⟩)
  obtain ⟨sq, hsq⟩ : ∃ sq, sq = q.seq := ⟨_, rfl⟩
  obtain ⟨kd, hkd⟩ : ∃ kd, kd = q.kind := ⟨_, rfl⟩
  obtain ⟨N, hN⟩ : ∃ N, N = q.items.length := ⟨_, rfl⟩
  obtain ⟨M, hM⟩ : ∃ M, M = es.length := ⟨_, rfl⟩
  rw [← hsq, ← hkd, ← hN] at HASK HTOLD
  rw [← hM] at HTOLD LE
  rw [← hN] at LQ
  have HSQ := Lib.hid hsq
  have HKD := Lib.hid hkd
  have HN := Lib.hid hN
  have HM := Lib.hid hM
  obtain ⟨W1, hW1⟩ : ∃ W1, W1 = W.alloc (.cells rc 42) := ⟨_, rfl⟩
  have B1 : Hid (Below W.heap.size W W1) := Lib.hid (by rw [hW1]; exact (Below.refl _ _).alloc (Nat.le_refl _) _)
  have T0 : Hid (W1.heap[W.heap.size]? = some (.cells rc 42 (0, 0))) := Lib.hid (by rw [hW1]; exact heap_alloc_new _ _)
  have PT : Hid (Part W1 W.heap.size 0 rc) := Lib.hid (Part.of_blk T0.out)
  have hak := HASK.out W1 B1.out
  clear g hg hx hq hes OX hrc hsq hkd hN hM HASK HA
  go_enter Tryd.func6, Tryd.ntmps6
  go_upto_region 1 with (fail)
  rw [← hW1]
  clear hW1
  go_wp2_with (refine wpL_load ?hw 42 (.tmp 1) rfl W.heap.size 0 rfl rc _ PT.out Tryd.underlying42 rfl SZ5.out ?_; case hw => kernel_rfl)
  refine hak.mono ?_
  clear hak PT
  rintro e w2 ⟨a, c, rfl, i2, b2⟩
  obtain ⟨W3, hW3⟩ : ∃ W3, W3 = w2.alloc (.cells #[.int .i64 sq, .int .i64 kd, .slice a N c] 50) := ⟨_, rfl⟩
  have b3 : Below w2.heap.size w2 W3 := by rw [hW3]; exact (Below.refl _ _).alloc (Nat.le_refl _) _
  obtain ⟨b3r, hb3r⟩ : ∃ b3r, b3r = w2.heap.size := ⟨_, rfl⟩
  have T3 : Hid (W3.heap[b3r]? = some (.cells #[.int .i64 sq, .int .i64 kd, .slice a N c] 50 (0, 0))) := Lib.hid (by rw [hW3, hb3r]; exact heap_alloc_new _ _)
  have I3 := Lib.hid (i2.below b3)
  have b13 := b2.trans (b3.mono b2.size)
  have T03 := Lib.hid ((b13.block _ (blk_lt T0.out)).trans T0.out)
  have PT3 : Hid (Part W3 W.heap.size 0 rc) := Lib.hid (Part.of_blk T03.out)
  have B3 := Lib.hid (B1.out.trans (b13.mono B1.out.size))
  have hto := HTOLD.out W3 B3.out
  clear i2 b2 b3 b13 T0 T03 HTOLD B1
  go_upto_region 2 with (fail)
  rw [← hW3, ← hb3r]
  clear hW3 hb3r
  go_wp2_with (refine wpL_load ?hw 42 (.tmp 1) rfl W.heap.size 0 rfl rc _ PT3.out Tryd.underlying42 rfl SZ5.out ?_; case hw => kernel_rfl)
  refine hto.mono ?_
  clear hto PT3
  rintro e w4 ⟨a4, c4, a5, c5, rfl, i4, e4, b4⟩
  obtain ⟨W5, hW5⟩ : ∃ W5, W5 = w4.alloc (.cells #[.int .i64 sq, .int .i64 kd, .slice a4 N c4, .slice a5 M c5] 55) := ⟨_, rfl⟩
  have b5 : Below w4.heap.size w4 W5 := by rw [hW5]; exact (Below.refl _ _).alloc (Nat.le_refl _) _
  obtain ⟨b5r, hb5r⟩ : ∃ b5r, b5r = w4.heap.size := ⟨_, rfl⟩
  have T5 : Hid (W5.heap[b5r]? = some (.cells #[.int .i64 sq, .int .i64 kd, .slice a4 N c4, .slice a5 M c5] 55 (0, 0))) := Lib.hid (by rw [hW5, hb5r]; exact heap_alloc_new _ _)
  have b35 := b4.trans (b5.mono b4.size)
  have I5 := Lib.hid (i4.below b5)
  have E5 := Lib.hid (e4.below b5)
  have T35 := Lib.hid ((b35.block _ (blk_lt T3.out)).trans T3.out)
  have I35 := Lib.hid (I3.out.below b35)
  have B5 := Lib.hid (B3.out.trans (b35.mono B3.out.size))
  have PQ5 : Hid (Part W5 b3r 0 #[.int .i64 sq, .int .i64 kd, .slice a N c]) := Lib.hid (Part.of_blk T35.out)
  obtain ⟨A, hA⟩ : ∃ A, A = Wi.layRq q := ⟨_, rfl⟩
  have hlq := layRequest_any W5 q OQ.out a N c I35.out (by have := LQ.out; omega)
  rw [← hA, ← show sq = _ from HSQ.out, ← show kd = _ from HKD.out] at hlq
  have HLA := Lib.hid hA
  clear i4 e4 b4 b5 b35 T3 I3 B3 hA
  go_upto_region 3 with (fail)
  rw [← hW5, ← hb5r]
  clear hW5 hb5r
  go_wp2_with (refine wpL_load ?hw 50 (.tmp 3) rfl b3r 0 rfl #[.int .i64 sq, .int .i64 kd, .slice a N c] _ PQ5.out Tryd.underlying50 rfl (sz_rq _ _ _) ?_; case hw => kernel_rfl)
  refine hlq.mono ?_
  clear hlq PQ5
  rintro e w6 ⟨b6, he⟩
  have B6 := Lib.hid (B5.out.trans (b6.mono B5.out.size))
  have T56 := Lib.hid ((b6.block _ (blk_lt T5.out)).trans T5.out)
  have T36 := Lib.hid ((b6.block _ (blk_lt T35.out)).trans T35.out)
  have I36 := Lib.hid (I35.out.below b6)
  have I56 := Lib.hid (I5.out.below b6)
  have E56 := Lib.hid (E5.out.below b6)
  have PQ6 : Hid (Part w6 b5r 0 #[.int .i64 sq, .int .i64 kd, .slice a4 N c4, .slice a5 M c5]) := Lib.hid (Part.of_blk T56.out)
  obtain ⟨Z, hZ⟩ : ∃ Z, Z = Wi.layRp ⟨q, es⟩ := ⟨_, rfl⟩
  have hlp := layReply_any w6 ⟨q, es⟩ OP.out a4 N c4 I56.out (by have := LQ.out; omega) a5 M c5 E56.out (by have := LE.out; omega)
  rw [← hZ] at hlp
  dsimp only at hlp
  rw [← show sq = _ from HSQ.out, ← show kd = _ from HKD.out] at hlp
  have HLZ := Lib.hid hZ
  clear b6 hZ I5 E5 I35 T35 T5 B5
  obtain ⟨ea, va, hva⟩ : ∃ ea va, e = .returned (.tuple #[va, ea]) ∧ ((A = none ∧ ea = .iface 61 (.int .i64 1)) ∨ (∃ b aa ca, A = some b ∧ ea = .nilIface ∧ va = .slice aa b.length ca ∧ w6.ownsRow W5.heap.size 5 1 (.slice aa b.length ca) b.length (bv b))) := by
    cases A with
    | none => exact ⟨_, _, he, .inl ⟨rfl, rfl⟩⟩
    | some b =>
      obtain ⟨aa, ca, h1, h2⟩ := he
      exact ⟨_, _, h1, .inr ⟨b, aa, ca, rfl, rfl, rfl, h2⟩⟩
  obtain ⟨rfl, hva⟩ := hva
  have HVA := Lib.hid hva
  clear he hva
  go_wp2_with (refine wpL_load ?hw 55 (.tmp 4) rfl b5r 0 rfl #[.int .i64 sq, .int .i64 kd, .slice a4 N c4, .slice a5 M c5] _ PQ6.out Tryd.underlying55 rfl (sz_rp _ _ _ _) ?_; case hw => kernel_rfl)
  refine hlp.mono ?_
  clear hlp PQ6
  rintro e w7 ⟨b7, he⟩
  obtain ⟨eb, vb, hvb⟩ : ∃ eb vb, e = .returned (.tuple #[vb, eb]) ∧ ((Z = none ∧ eb = .iface 61 (.int .i64 1)) ∨ (∃ b aa ca, Z = some b ∧ eb = .nilIface ∧ vb = .slice aa b.length ca ∧ w7.ownsRow w6.heap.size 5 1 (.slice aa b.length ca) b.length (bv b))) := by
    cases Z with
    | none => exact ⟨_, _, he, .inl ⟨rfl, rfl⟩⟩
    | some b =>
      obtain ⟨aa, ca, h1, h2⟩ := he
      exact ⟨_, _, h1, .inr ⟨b, aa, ca, rfl, rfl, rfl, h2⟩⟩
  obtain ⟨rfl, hvb⟩ := hvb
  have HVB := Lib.hid hvb
  have B7 := Lib.hid (B6.out.trans (b7.mono B6.out.size))
  have B67 := Lib.hid b7
  have T57 := Lib.hid ((b7.block _ (blk_lt T56.out)).trans T56.out)
  have T37 := Lib.hid ((b7.block _ (blk_lt T36.out)).trans T36.out)
  have I37 := Lib.hid (I36.out.below b7)
  have I57 := Lib.hid (I56.out.below b7)
  have E57 := Lib.hid (E56.out.below b7)
  have G7 : Hid (EType w7) := Lib.hid (HG.out.keep B7.out)
  have L16 : Hid (N ≤ 1000000 ∧ M ≤ 1000000) := Lib.hid (by have := LQ.out; have := LE.out; omega)
  have OI : Hid (∀ i ∈ q.items, i.ok) := Lib.hid OQ.out.items
  have OE : Hid (∀ i ∈ es, i.ok) := Lib.hid OP.out.ents
  clear he hvb b7 B6 T56 T36 I36 I56 E56 HG LQ LE SZ5 HPQ
  obtain ⟨ta, hta⟩ : ∃ ta, ta = A.isSome := ⟨_, rfl⟩
  have HTA := Lib.hid hta
  clear hta
  go_upto_region 5 with (fail)
  go_cut [32] from 33 to 55 (fun v32 wx => v32 = .bool ta ∧ w7 = wx)
  case first =>
    rcases HVA.out with ⟨h1, rfl⟩ | ⟨b, aa, ca, h1, rfl, -, -⟩
    · have : ta = false := by rw [HTA.out, h1]; rfl
      subst this
      clear h1
      go_wp2
      go_meet
      exact ⟨rfl, rfl⟩
    · have : ta = true := by rw [HTA.out, h1]; rfl
      subst this
      clear h1
      go_wp2
      go_meet
      exact ⟨rfl, rfl⟩
  case rest =>
    obtain ⟨rfl, rfl⟩ := hcut
    go_upto_if 32 with (fail)
    go_cut [9, 10, 11, 12] from 33 to 55 (fun _ _ _ _ wx => Hid (Below w7.heap.size w7 wx))
    case first =>
      cases ta
      · go_wp2
        go_meet
        exact Lib.hid (Below.refl _ _)
      · obtain ⟨b, aa, ca, hb, hea, hva, hown⟩ : ∃ b aa ca, A = some b ∧ ea = .nilIface ∧ va = .slice aa b.length ca ∧ w6.ownsRow W5.heap.size 5 1 (.slice aa b.length ca) b.length (bv b) := by
          rcases HVA.out with ⟨h1, _⟩ | h
          · have := HTA.out; rw [h1] at this; cases this
          · exact h
        subst hea; subst hva
        obtain ⟨_, _, q3, hnc, _, hz, _⟩ := ownsRow_slice hown
        simp only [Value.slice.injEq] at q3
        obtain ⟨rfl, _, rfl⟩ := q3
        have hb' : Wi.layRq q = some b := by rw [← show A = _ from HLA.out]; exact hb
        have R6 : Rds w6 aa b.length b := Rds.of_own hown rfl
        have R7 := Lib.hid (R6.below B67.out (fun h0 bb oo e => by subst e; exact R6.lt h0))
        have hlen := layRq_le OQ.out hb'
        have HNC := Lib.hid hnc
        have HZ := Lib.hid hz
        have HLEN := Lib.hid hlen
        have rd := readRequest_any w7 aa _ ca b R7.out hnc hz (by omega)
        rw [Wi.readRq_lay q OQ.out b hb'] at rd
        have HRP : Hid (∀ X, Below w7.heap.size w7 X → Calls Tryd.prog 21 #[.slice aa b.length ca] X (RpAft X (.error 2))) := Lib.hid (fun X hX => by
          have := readReply_any X aa _ ca b (R7.out.below hX (fun h0 bb oo e => by subst e; exact R7.out.lt h0)) HNC.out HZ.out (by have := HLEN.out; omega)
          rwa [Wi.readRp_request q b hb'] at this)
        clear hown R6 hlen hnc hz hb hb'
        go_wp2_with fail
        refine rd.mono ?_
        clear rd
        rintro e w8 ⟨b8, a8, c8, he, r8, _⟩
        rw [← show sq = _ from HSQ.out, ← show kd = _ from HKD.out, ← show N = _ from HN.out] at he
        rw [← show N = _ from HN.out] at r8
        subst he
        obtain ⟨W9, hW9⟩ : ∃ W9, W9 = w8.alloc (.cells #[.int .i64 sq, .int .i64 kd, .slice a8 N c8] 50) := ⟨_, rfl⟩
        have b9 : Below w8.heap.size w8 W9 := by rw [hW9]; exact (Below.refl _ _).alloc (Nat.le_refl _) _
        obtain ⟨p9, hp9⟩ : ∃ p9, p9 = w8.heap.size := ⟨_, rfl⟩
        have T9 : Hid (W9.heap[p9]? = some (.cells #[.int .i64 sq, .int .i64 kd, .slice a8 N c8] 50 (0, 0))) := Lib.hid (by rw [hW9, hp9]; exact heap_alloc_new _ _)
        have I9 := Lib.hid (r8.below b9)
        have b79 := b8.trans (b9.mono b8.size)
        have B79 := Lib.hid b79
        have hrp := HRP.out W9 b79
        clear r8 b8 b9 b79 HRP R7
        go_upto_region 7 with (fail)
        rw [← hW9, ← hp9]
        clear hW9 hp9
        go_wp2_with fail
        refine hrp.mono ?_
        clear hrp
        rintro e w10 ⟨b10, he⟩
        obtain rfl : e = _ := he
        obtain ⟨W11, hW11⟩ : ∃ W11, W11 = w10.alloc (.cells #[.int .i64 0, .int .i64 0, .slice none 0 0, .slice none 0 0] 55) := ⟨_, rfl⟩
        have b11 : Below w10.heap.size w10 W11 := by rw [hW11]; exact (Below.refl _ _).alloc (Nat.le_refl _) _
        have b911 := b10.trans (b11.mono b10.size)
        have BX := Lib.hid (B79.out.trans (b911.mono B79.out.size))
        have T9X := Lib.hid ((b911.block _ (blk_lt T9.out)).trans T9.out)
        have T3X := Lib.hid ((BX.out.block _ (blk_lt T37.out)).trans T37.out)
        have P9 : Hid (Part W11 p9 0 #[.int .i64 sq, .int .i64 kd, .slice a8 N c8]) := Lib.hid (Part.of_blk T9X.out)
        have P3 : Hid (Part W11 b3r 0 #[.int .i64 sq, .int .i64 kd, .slice a N c]) := Lib.hid (Part.of_blk T3X.out)
        have hsm := sameRequest_any W11 q q OQ.out OQ.out a8 N c8 (I9.out.below b911) a N c (I37.out.below BX.out) L16.out.1 L16.out.1
        rw [decide_eq_true rfl, ← show sq = _ from HSQ.out, ← show kd = _ from HKD.out] at hsm
        have GX : Hid (EType W11) := Lib.hid (G7.out.keep BX.out)
        clear b10 b11 b911 T9 I9 B79 T9X T3X
        go_upto_region 8 with (fail)
        rw [← hW11]
        clear hW11
        go_wp2_with (first | (refine wpL_load ?hw 50 (.tmp 9) rfl p9 0 rfl #[.int .i64 sq, .int .i64 kd, .slice a8 N c8] _ P9.out Tryd.underlying50 rfl (sz_rq _ _ _) ?_; case hw => kernel_rfl) | (refine wpL_load ?hw 50 (.tmp 3) rfl b3r 0 rfl #[.int .i64 sq, .int .i64 kd, .slice a N c] _ P3.out Tryd.underlying50 rfl (sz_rq _ _ _) ?_; case hw => kernel_rfl))
        refine hsm.mono ?_
        clear hsm
        rintro e w12 ⟨rfl, b12⟩
        have BX2 := Lib.hid (BX.out.trans (b12.mono BX.out.size))
        have hk := kind_errno w12 2 (GX.out.keep b12)
        clear b12 BX P9 P3
        go_wp2_with fail
        refine hk.mono ?_
        clear hk
        rintro e w13 ⟨rfl, b13⟩
        have BX3 := Lib.hid (BX2.out.trans (b13.mono BX2.out.size))
        clear b13 BX2
        go_wp2
        go_meet
        exact BX3
    case rest =>
      have BC := hcut
      clear hcut
      obtain ⟨tb, htb⟩ : ∃ tb, tb = Z.isSome := ⟨_, rfl⟩
      have HTB := Lib.hid htb
      have GC : Hid (EType wc) := Lib.hid (G7.out.keep BC.out)
      have BWC := Lib.hid (B7.out.trans (BC.out.mono B7.out.size))
      clear htb
      go_upto_region 10 with (fail)
      go_cut [57] from 58 to 81 (fun v57 wx => v57 = .bool tb ∧ wc = wx)
      case first =>
        rcases HVB.out with ⟨h1, rfl⟩ | ⟨b, aa, ca, h1, rfl, -, -⟩
        · have : tb = false := by rw [HTB.out, h1]; rfl
          subst this
          clear h1
          go_wp2
          go_meet
          exact ⟨rfl, rfl⟩
        · have : tb = true := by rw [HTB.out, h1]; rfl
          subst this
          clear h1
          go_wp2
          go_meet
          exact ⟨rfl, rfl⟩
      case rest =>
        obtain ⟨rfl, rfl⟩ := hcut
        go_upto_if 57 with (fail)
        go_cut [13, 14, 15, 16] from 58 to 81 (fun _ _ _ _ wx => Hid (Below wc.heap.size wc wx))
        case first =>
          cases tb
          · go_wp2
            go_meet
            exact Lib.hid (Below.refl _ _)
          · obtain ⟨b, aa, ca, hb, hea, hva, hown⟩ : ∃ b aa ca, Z = some b ∧ eb = .nilIface ∧ vb = .slice aa b.length ca ∧ w7.ownsRow w6.heap.size 5 1 (.slice aa b.length ca) b.length (bv b) := by
              rcases HVB.out with ⟨h1, _⟩ | h
              · have := HTB.out; rw [h1] at this; cases this
              · exact h
            subst hea; subst hva
            obtain ⟨_, _, q3, hnc, _, hz, _⟩ := ownsRow_slice hown
            simp only [Value.slice.injEq] at q3
            obtain ⟨rfl, _, rfl⟩ := q3
            have hb' : Wi.layRp ⟨q, es⟩ = some b := by rw [← show Z = _ from HLZ.out]; exact hb
            have R6 : Rds w7 aa b.length b := Rds.of_own hown rfl
            have R7 := Lib.hid (R6.below BC.out (fun h0 bb oo e => by subst e; exact R6.lt h0))
            have hlen := layRp_le OP.out hb'
            have HNC := Lib.hid hnc
            have HZ := Lib.hid hz
            have HLEN := Lib.hid hlen
            have rd := readReply_any wc aa _ ca b R7.out hnc hz (by omega)
            rw [Wi.readRp_lay ⟨q, es⟩ OP.out b hb'] at rd
            have HRP : Hid (∀ X, Below wc.heap.size wc X → Calls Tryd.prog 20 #[.slice aa b.length ca] X (RqAft X (.error 2))) := Lib.hid (fun X hX => by
              have := readRequest_any X aa _ ca b (R7.out.below hX (fun h0 bb oo e => by subst e; exact R7.out.lt h0)) HNC.out HZ.out (by have := HLEN.out; omega)
              rwa [Wi.readRq_reply ⟨q, es⟩ b hb'] at this)
            have TC : Hid (wc.heap[b5r]? = some (.cells #[.int .i64 sq, .int .i64 kd, .slice a4 N c4, .slice a5 M c5] 55 (0, 0))) := Lib.hid ((BC.out.block _ (blk_lt T57.out)).trans T57.out)
            have IC := Lib.hid (I57.out.below BC.out)
            have EC := Lib.hid (E57.out.below BC.out)
            clear hown R6 hlen hnc hz hb hb'
            go_wp2_with fail
            refine rd.mono ?_
            clear rd
            rintro e w8 ⟨b8, a8, c8, a9, c9, he, r8, e8⟩
            dsimp only at he
            rw [← show sq = _ from HSQ.out, ← show kd = _ from HKD.out, ← show N = _ from HN.out, ← show M = _ from HM.out] at he
            dsimp only at r8 e8
            rw [← show N = _ from HN.out] at r8
            rw [← show M = _ from HM.out] at e8
            subst he
            obtain ⟨W9, hW9⟩ : ∃ W9, W9 = w8.alloc (.cells #[.int .i64 sq, .int .i64 kd, .slice a8 N c8, .slice a9 M c9] 55) := ⟨_, rfl⟩
            have b9 : Below w8.heap.size w8 W9 := by rw [hW9]; exact (Below.refl _ _).alloc (Nat.le_refl _) _
            obtain ⟨p9, hp9⟩ : ∃ p9, p9 = w8.heap.size := ⟨_, rfl⟩
            have T9 : Hid (W9.heap[p9]? = some (.cells #[.int .i64 sq, .int .i64 kd, .slice a8 N c8, .slice a9 M c9] 55 (0, 0))) := Lib.hid (by rw [hW9, hp9]; exact heap_alloc_new _ _)
            have I9 := Lib.hid (r8.below b9)
            have E9 := Lib.hid (e8.below b9)
            have b79 := b8.trans (b9.mono b8.size)
            have B79 := Lib.hid b79
            have hrp := HRP.out W9 b79
            clear r8 e8 b8 b9 b79 HRP R7
            go_upto_region 12 with (fail)
            rw [← hW9, ← hp9]
            clear hW9 hp9
            go_wp2_with fail
            refine hrp.mono ?_
            clear hrp
            rintro e w10 ⟨b10, he⟩
            obtain rfl : e = _ := he
            obtain ⟨W11, hW11⟩ : ∃ W11, W11 = w10.alloc (.cells #[.int .i64 0, .int .i64 0, .slice none 0 0] 50) := ⟨_, rfl⟩
            have b11 : Below w10.heap.size w10 W11 := by rw [hW11]; exact (Below.refl _ _).alloc (Nat.le_refl _) _
            have b911 := b10.trans (b11.mono b10.size)
            have BX := Lib.hid (B79.out.trans (b911.mono B79.out.size))
            have T9X := Lib.hid ((b911.block _ (blk_lt T9.out)).trans T9.out)
            have T5X := Lib.hid ((BX.out.block _ (blk_lt TC.out)).trans TC.out)
            have P9 : Hid (Part W11 p9 0 #[.int .i64 sq, .int .i64 kd, .slice a8 N c8, .slice a9 M c9]) := Lib.hid (Part.of_blk T9X.out)
            have P5 : Hid (Part W11 b5r 0 #[.int .i64 sq, .int .i64 kd, .slice a4 N c4, .slice a5 M c5]) := Lib.hid (Part.of_blk T5X.out)
            have hsm := sameReply_yes W11 sq kd a8 N c8 q.items (I9.out.below b911) OI.out a4 c4 (IC.out.below BX.out) L16.out.1 a9 M c9 es (E9.out.below b911) OE.out a5 c5 (EC.out.below BX.out) L16.out.2
            have GX : Hid (EType W11) := Lib.hid (GC.out.keep BX.out)
            clear b10 b11 b911 T9 I9 E9 B79 T9X T5X
            go_upto_region 13 with (fail)
            rw [← hW11]
            clear hW11
            go_wp2_with (first | (refine wpL_load ?hw 55 (.tmp 13) rfl p9 0 rfl #[.int .i64 sq, .int .i64 kd, .slice a8 N c8, .slice a9 M c9] _ P9.out Tryd.underlying55 rfl (sz_rp _ _ _ _) ?_; case hw => kernel_rfl) | (refine wpL_load ?hw 55 (.tmp 4) rfl b5r 0 rfl #[.int .i64 sq, .int .i64 kd, .slice a4 N c4, .slice a5 M c5] _ P5.out Tryd.underlying55 rfl (sz_rp _ _ _ _) ?_; case hw => kernel_rfl))
            refine hsm.mono ?_
            clear hsm
            rintro e w12 ⟨rfl, b12⟩
            have BX2 := Lib.hid (BX.out.trans (b12.mono BX.out.size))
            have hk := kind_errno w12 2 (GX.out.keep b12)
            clear b12 BX P9 P5
            go_wp2_with fail
            refine hk.mono ?_
            clear hk
            rintro e w13 ⟨rfl, b13⟩
            have BX3 := Lib.hid (BX2.out.trans (b13.mono BX2.out.size))
            clear b13 BX2
            go_wp2
            go_meet
            exact BX3
        case rest =>
          have BD := hcut
          clear hcut
          have hkn := known23 _ (GC.out.keep BD.out)
          have BWD := Lib.hid (BWC.out.trans (BD.out.mono BWC.out.size))
          go_wp2_with fail
          refine hkn.mono ?_
          clear hkn
          rintro e w9 ⟨rfl, b9⟩
          have BF := Lib.hid (BWD.out.trans (b9.mono BWD.out.size))
          clear b9
          go_wp2
          go_ret
          exact ⟨rfl, BF.out⟩
end Go.Proofs.YtpblopdcbjfkpaaDoor
