/- taprootref6.ReadRoot: what it answers. -/
import Derived.Test.YtggdbdjaobgeeaaGreatDoorRtRead
import Derived.Test.YtggdbdjaobgeeaaGreatDoorRtRef
import Derived.Test.YtggdbdjaobgeeaaGreatDoorAid
namespace Go.Proofs.YtggdbdjaobgeeaaGreatDoor
open Go.RowKit Go.Tap Go.Maps
set_option linter.unusedVariables false
attribute [local go_sem ↓] Go.wp_at_zero Go.wp_at_succ

/-- A call of the reference's Var at a step of a region that draws its order. -/
theorem step_svar {w : World} {ops : Array Oper} {o : Oper} {a : Act} {K : Act → World → Prop} {Q : Exit → Act → World → Prop} {E : Prop} (hgd : o.guard = none) (t : Nat) (ty : TypeId)
    (ho : o.op = .call { callee := .value (.func 138), args := #[.tmp t], argTypes := #[ty] }) (v r : Value) (hx : a.tmps[t]?.getD undef = v) (R : World → Prop)
    (hc : Calls Tryz.prog 138 #[v] w fun e w' => e = .returned r ∧ R w') (h : ∀ w', R w' → K (a.put o.dst r) w') :
    if Region.wanted o (yielded ops a.tmps) = true then Oper.wp Tryz.prog o a w K Q else E := by
  have hw : Region.wanted o (yielded ops a.tmps) = true := by simp [Region.wanted, hgd]
  rw [if_pos hw]
  obtain ⟨dst, op, type, pos, after, guard⟩ := o
  simp only at ho hgd
  subst ho hgd
  clear hw
  have hf := Tryz.func138
  subst hx
  go_simp
  refine hc.mono ?_
  rintro e w' ⟨rfl, hR⟩
  simpa [Act.put] using h w' hR
theorem nxt_pos {l : List UInt8} {k : Nat} (h : nxt l = .error k) : 0 < k := by
  unfold nxt at h
  split at h
  · cases h; omega
  · split at h
    · cases h; omega
    · split at h
      · cases h; omega
      · split at h
        · cases h; omega
        · cases h
def RefReadAft (w : World) (l : List UInt8) (e : Ending) (w' : World) : Prop :=
  Below w.heap.size w w' ∧ match Rt.readR l with
  | .error k => e = .returned (.tuple #[root0, .int .i64 (k : Int)])
  | .ok r => ∃ a n c, e = .returned (.tuple #[.agg #[.int .i64 r.gen, .slice a n c, .int .i64 r.idx], .int .i64 0]) ∧ w'.ownsRow w.heap.size 3 1 (.slice a n c) n (iv r.logs) ∧ n ≤ 8
set_option maxHeartbeats 8000000 in
set_option maxRecDepth 100000 in
theorem refRead_any (w : World) (a : Option Addr) (n c : Nat) (l : List UInt8) (hr : Rds w a n l) (hnc : n ≤ c) (hz : a = none → c = 0) (hn : n ≤ 140737488355328) :
    Calls Tryz.prog 88 #[.slice a n c] w (RefReadAft w l) := by
  obtain ⟨i0, hi, hz0, hz1, hz2⟩ := info_parts infoInt
  have hl := hr.1
  obtain ⟨W1, hW1⟩ : ∃ W1, W1 = w.alloc (.cells #[.int .i64 0, .slice none 0 0, .int .i64 0] 71) := ⟨_, rfl⟩
  have hT1 : W1.heap[w.heap.size]? = some (.cells #[.int .i64 0, .slice none 0 0, .int .i64 0] 71 (0, 0)) := by rw [hW1]; exact heap_alloc_new _ _
  have hB1 : Below w.heap.size w W1 := by rw [hW1]; exact (Below.refl _ _).alloc (Nat.le_refl _) _
  have hs1 : W1.heap.size = w.heap.size + 1 := by rw [hW1]; simp
  have hr1 := hr.below hB1 (fun h0 b o e => by subst e; exact hr.lt h0)
  have hnx := refNext_any W1 a n c l hr1 hnc hz (by omega)
  have HR := Lib.hid hr
  have HT1 := Lib.hid hT1
  have HB1 := Lib.hid hB1
  have HS1 := Lib.hid hs1
  clear hr hT1 hB1 hs1 hr1
  go_enter Tryz.func88, Tryz.ntmps88
  go_wp2_with fail
  rw [← hW1]
  clear hW1
  refine hnx.mono ?_
  clear hnx
  cases hq : nxt l with
  | error k =>
    rintro e w2 ⟨hb2, rfl⟩
    have hT2 := (hb2.block w.heap.size (by rw [HS1.out]; omega)).trans HT1.out
    have bw2 := HB1.out.trans (hb2.mono HB1.out.size)
    have c0 : w2.cell? ⟨w.heap.size, 0, none⟩ = some (.int .i64 0) := blk_cell (i := 0) hT2 rfl
    have c1 : w2.cell? ⟨w.heap.size, 1, none⟩ = some (.slice none 0 0) := blk_cell (i := 1) hT2 rfl
    have c2 : w2.cell? ⟨w.heap.size, 2, none⟩ = some (.int .i64 0) := blk_cell (i := 2) hT2 rfl
    have f0 := blk_free hT2 0
    have f1 := blk_free hT2 1
    have f2 := blk_free hT2 2
    have hkp := nxt_pos hq
    have hfin : Rt.readR l = .error k := by unfold Rt.readR; rw [hq]
    have HFI := Lib.hid hfin
    have HT2 := Lib.hid hT2
    have d0 : ((k : Int) == 0) = false := by simp; omega
    have d1 : (k == 0) = false := by simp; omega
    clear hb2 hT2 hq hfin hkp
    go_wp2
    (try simp only [Exit.inBlock, Exit.then])
    refine bodyPost_ret (ret_ref (by rfl) (by rfl) (set3 HT2.out _ _ _)) rfl ⟨((bw2.setCell (Nat.le_refl _) _).setCell (Nat.le_refl _) _).setCell (Nat.le_refl _) _, ?_⟩
    rw [HFI.out]
    rfl
  | ok q =>
    obtain ⟨kk, lb, sz⟩ := q
    have hnk := nxt_ok hq
    simp only at hnk
    rintro e w2 ⟨hb2, v2, rfl, hown2⟩
    simp only at hown2
    obtain ⟨a2, c2, rfl, hle2, _, hz2', _⟩ := ownsRow_slice hown2
    have bw2 := HB1.out.trans (hb2.mono HB1.out.size)
    have hT2 := (hb2.block w.heap.size (by rw [HS1.out]; omega)).trans HT1.out
    have HT2 := Lib.hid hT2
    have hsz2 := blk_lt hT2
    have HQ := Lib.hid hq
    have hbl : lb.length ≤ 1048576 := nxt_body hq
    have hrd2 : Rds w2 a2 lb.length lb := Rds.of_own hown2 rfl
    obtain ⟨B, hB⟩ : ∃ B, B = w2.heap.size := ⟨_, rfl⟩
    obtain ⟨w3, hw3⟩ : ∃ w3, w3 = w2.alloc (.cells #[.slice a2 lb.length c2, .bool false] 201) := ⟨_, rfl⟩
    have hb3 : Below w2.heap.size w2 w3 := by rw [hw3]; exact (Below.refl _ _).alloc (Nat.le_refl _) _
    obtain ⟨D, hD, hDl⟩ := inb_of w2 a2 _ lb hrd2
    have h3' : IsQ D 201 w3 B a2 c2 false lb := ⟨⟨by rw [hw3, hB]; exact heap_alloc_new _ _, by rw [hw3]; exact hrd2.alloc _, hle2, hz2', by omega⟩, hD⟩
    have hs3 : w3.heap.size = w2.heap.size + 1 := by rw [hw3]; simp
    have hv3 := q_sVar_any D w3 B a2 c2 false lb h3'
    have g1 := rdVar_good lb false
    obtain ⟨Q1, hQ1⟩ : ∃ Q1, Q1 = Oct.rdVar lb false := ⟨_, rfl⟩
    rw [← hQ1] at hv3 g1
    obtain ⟨v1, l1, k1⟩ := Q1
    have HQ1 := Lib.hid hQ1
    have HS3 := Lib.hid hs3
    clear hown2 hb2 hq hT2 HT1 HB1 HS1 hnk hrd2 hQ1 h3' hD hs3
    go_wp2_with fail
    rw [← hw3, ← hB]
    have hBge : w2.heap.size ≤ B := by omega
    have hBle : B ≤ w2.heap.size := by omega
    clear hw3 hB
    refine hv3.mono ?_
    clear hv3
    rintro e w4 ⟨rfl, a4, c4, h4, t4⟩
    simp only at h4 g1
    have b4 : Below w2.heap.size w2 w4 := Below.trans_stay hb3 t4 (Nat.le_refl _) (fun k hk e => by omega)
    have hs34 := t4.size
    have hs3' := HS3.out
    obtain ⟨W5, hW5⟩ : ∃ W5, W5 = w4.alloc (.cells #[.int .i64 v1, .slice none 0 0, .int .i64 0] 71) := ⟨_, rfl⟩
    obtain ⟨OB, hOB⟩ : ∃ OB, OB = w4.heap.size := ⟨_, rfl⟩
    have hT5 : W5.heap[OB]? = some (.cells #[.int .i64 v1, .slice none 0 0, .int .i64 0] 71 (0, 0)) := by rw [hW5, hOB]; exact heap_alloc_new _ _
    have b5 : Below w2.heap.size w2 W5 := by rw [hW5]; exact b4.alloc b4.size _
    have hs5 : W5.heap.size = OB + 1 := by rw [hW5, hOB]; simp
    have hlB := h4.lt
    have h5 : IsQ D 201 W5 B a4 c4 k1 l1 := h4.stay (by rw [hW5]; exact (MapKept.heap_alloc w4 _).2 _ hlB) (fun h0 => by
      have := hDl (by omega)
      rw [hW5]; exact (MapKept.heap_alloc w4 _).2 _ (by omega))
    have hBO : B < OB := by omega
    have hDO : 0 < lb.length → D < OB := fun h => by have := hDl h; omega
    have hwO : w2.heap.size ≤ OB := by omega
    have hv5 := q_sVar_any D W5 B a4 c4 k1 l1 h5
    have g2 := rdVar_good l1 k1
    obtain ⟨Q2, hQ2⟩ : ∃ Q2, Q2 = Oct.rdVar l1 k1 := ⟨_, rfl⟩
    rw [← hQ2] at hv5 g2
    obtain ⟨v2, l2, k2⟩ := Q2
    have HQ2 := Lib.hid hQ2
    have HT5 := Lib.hid hT5
    have HBO := Lib.hid hBO
    clear h4 hQ2 hb3 t4 b4 hs34 hs3' h5 hT5 hlB hDl HS3
    go_wp2_with fail
    rw [← hW5, ← hOB]
    clear hW5 hOB
    refine hv5.mono ?_
    clear hv5
    rintro e w5 ⟨rfl, a5, c5, h5, t5⟩
    simp only at h5 g2
    have b5' : Below w2.heap.size w2 w5 := Below.trans_stay b5 t5 (Nat.le_refl _) (fun k hk e => by omega)
    have hs45 := t5.size
    have hT5' := (t5.block OB (by omega) (by have := HBO.out; omega)).trans HT5.out
    have f2 := blk_free hT5' 2
    have p2 : w5.cell? ⟨OB, 2, none⟩ = some (.int .i64 0) := blk_cell (i := 2) hT5' rfl
    have H5 := Lib.hid h5
    have HT5' := Lib.hid hT5'
    have HHS := Lib.hid hs45
    clear h5 b5 t5 hT5' HT5 hs45
    go_wp2_with fail
    obtain ⟨W6, hW6⟩ : ∃ W6, W6 = w5.setCell ⟨OB, 2, none⟩ (.int .i64 v2) := ⟨_, rfl⟩
    rw [← hW6]
    have hT6 : W6.heap[OB]? = some (.cells #[.int .i64 v1, .slice none 0 0, .int .i64 v2] 71 (0, 0)) := by rw [hW6]; exact heap_setCell_same w5 OB 2 _ _ _ HT5'.out
    have b6 : Below w2.heap.size w2 W6 := by rw [hW6]; exact b5'.setCell hwO _
    have hs6 : OB + 1 ≤ W6.heap.size := by rw [hW6]; have := HHS.out; simp; omega
    have hlB := H5.out.lt
    have h6 : IsQ D 201 W6 B a5 c5 k2 l2 := H5.out.stay (by rw [hW6]; exact heap_setCell_other _ _ _ _ (by show B ≠ OB; omega)) (fun h0 => by
      have := hDO (by omega)
      rw [hW6]; exact heap_setCell_other _ _ _ _ (by show D ≠ OB; omega))
    have hv6 := q_sVar_any D W6 B a5 c5 k2 l2 h6
    have g3 := rdVar_good l2 k2
    obtain ⟨Q3, hQ3⟩ : ∃ Q3, Q3 = Oct.rdVar l2 k2 := ⟨_, rfl⟩
    rw [← hQ3] at hv6 g3
    obtain ⟨v3, l3, k3⟩ := Q3
    have HQ3 := Lib.hid hQ3
    clear h6 hQ3 hW6 H5 b5' hlB f2 p2 HHS HT5'
    refine hv6.mono ?_
    clear hv6
    rintro e w7 ⟨rfl, a7, c7, h7, t7⟩
    simp only at h7 g3
    have b7 : Below w2.heap.size w2 w7 := Below.trans_stay b6 t7 (Nat.le_refl _) (fun k hk e => by omega)
    have hT7 := (t7.block OB (blk_lt hT6) (by omega)).trans hT6
    have hs7 := t7.size
    have H7 := Lib.hid h7
    have HT7 := Lib.hid hT7
    have hk3 : k3 = false → l3.length < lb.length + 1 := fun _ => by omega
    obtain ⟨hv3a, hv3b⟩ := g3.1
    have HGO := Lib.hid (And.intro hDO (And.intro hBO hs6))
    have hl3b : l3.length ≤ lb.length := by omega
    clear h7 t7 hT7 hT6 b6 g1 g2 g3 hDO
    go_wp2_with fail
    go_loopw [10] (fun nv wr => ∃ (nn : Int) (f : Nat) (l' : List UInt8) (k' : Bool) (a' : Option Addr) (c' : Nat) (acc : List Int) (rv : Value),
      nv = .int .i64 nn ∧ (-9223372036854775808 ≤ nn ∧ nn ≤ 9223372036854775807) ∧ Hid (IsQ D 201 wr B a' c' k' l') ∧ Hid (wr.heap[OB]? = some (.cells #[.int .i64 v1, rv, .int .i64 v2] 71 (0, 0))) ∧ Hid (wr.ownsRow (OB + 1) 3 1 rv acc.length (iv acc)) ∧ Below w2.heap.size w2 wr ∧ OB + 1 ≤ wr.heap.size ∧
      acc.length ≤ 9 ∧ l'.length ≤ lb.length ∧ (k' = false → l'.length < f) ∧ Hid (Rt.logsR (lb.length + 1) 0 v3 l3 k3 = (acc ++ (Rt.logsR f acc.length nn l' k').1, (Rt.logsR f acc.length nn l' k').2))) (fun nv _ => (intOf nv).toNat)
    case atStart => exact ⟨v3, lb.length + 1, l3, k3, a7, c7, [], .slice none 0 0, rfl, ⟨hv3a, hv3b⟩, H7, HT7, World.ownsRow_nil _ _ _ _, b7, by omega, by simp, hl3b, hk3, rfl⟩
    case round =>
      obtain ⟨nn, f, l', k', a', c', acc, rv, rfl, hnn, HRQ, HT, HOW, hb, hsw, hal, hll, hlf, HLG⟩ := hrel
      have clk : wr.cell? ⟨B, 1, none⟩ = some (.bool k') := blk_cell (i := 1) HRQ.out.blk rfl
      by_cases hgo : 0 < nn ∧ k' = false ∧ acc.length ≤ 8
      · obtain ⟨hgo, rfl, hm8⟩ := hgo
        obtain ⟨f, rfl⟩ : ∃ f', f = f' + 1 := ⟨f - 1, by have := hlf rfl; omega⟩
        have hlf' := hlf rfl
        have d0 : decide (0 < nn) = true := decide_eq_true hgo
        have hw := wrapi' (nn - 1) (by omega)
        obtain ⟨ra, rc, rfl, _⟩ := ownsRow_slice HOW.out
        obtain ⟨m, hm⟩ : ∃ m, m = acc.length := ⟨_, rfl⟩
        have HOW1 : Hid (wr.ownsRow (OB + 1) 3 1 (.slice ra m rc) m (iv acc)) := by rw [hm]; exact HOW
        have HT1 : Hid (wr.heap[OB]? = some (.cells #[.int .i64 v1, .slice ra m rc, .int .i64 v2] 71 (0, 0))) := by rw [hm]; exact HT
        rw [← hm] at hal hm8
        have d1 : decide ((m : Int) ≤ 8) = true := decide_eq_true (by omega)
        have d1' : decide (m ≤ 8) = true := decide_eq_true hm8
        have HM := Lib.hid hm
        have hv := q_sVar_any D wr.drew B a' c' false l' (HRQ.out.stay rfl (fun _ => rfl))
        have g := rdVar_good l' false
        have hst : Rt.logsR (f + 1) m nn l' false = ((Oct.rdVar l' false).1 :: (Rt.logsR f (m + 1) (nn - 1) (Oct.rdVar l' false).2.1 (Oct.rdVar l' false).2.2).1, (Rt.logsR f (m + 1) (nn - 1) (Oct.rdVar l' false).2.1 (Oct.rdVar l' false).2.2).2) := by rw [Rt.logsR, if_pos ⟨hgo, rfl, hm8⟩]
        obtain ⟨Q, hQ⟩ : ∃ Q, Q = Oct.rdVar l' false := ⟨_, rfl⟩
        rw [← hQ] at hv g hst
        obtain ⟨z, l4, k4⟩ := Q
        simp only at g hst
        have HST := Lib.hid hst
        have G := Lib.hid g
        have c1 : wr.cell? ⟨OB, 1, none⟩ = some (.slice ra m rc) := blk_cell (i := 1) HT1.out rfl
        have hne := own_ne' HOW1.out HRQ.out.blk (by decide)
        have HNE := Lib.hid hne
        have hltO := blk_lt HT1.out
        have hltB := HRQ.out.lt
        have HLT := Lib.hid (And.intro hltO hltB)
        have HLF := Lib.hid hlf'
        clear hm hQ HOW HT hst g hne hltO hltB hlf hlf'
        go_wp2_with fail
        go_region_law (first
          | (refine step_svar (by rfl) 54 199 (by rfl) (.pointer (some ⟨B, 0, none⟩)) (.int .i64 z) (by rfl) _ hv ?_; rintro w4 ⟨a4, c4, h4, t4⟩; have t4' : TStay (fun k => k = B) wr w4 := ⟨t4.os, t4.tape, t4.output, t4.size, t4.block⟩; have hT4 := Lib.hid ((t4'.block OB HLT.out.1 (fun e => by have := HGO.out.2.1; omega)).trans HT1.out); have ho4 := Lib.hid (ownsRow_stay HOW1.out t4' (fun k hk e => HNE.out (by rw [hk, e]))); have c14 : w4.cell? ⟨OB, 1, none⟩ = some (.slice ra m rc) := blk_cell (i := 1) hT4.out rfl; have hs4 := t4'.size; have c14' : ∀ o, (w4.alloc o).cell? ⟨OB, 1, none⟩ = some (.slice ra m rc) := (fun o => (World.cell?_of_block ((MapKept.heap_alloc w4 o).2 OB (by have := HLT.out.1; omega))).trans c14))
          | (refine step_append_src (by rfl) (.tmp 53) (.tmp 56) 58 (by rfl) (OB + 1) 3 i0 _ 1 8 Tryz.underlying58 hi hz0 hz1 hz2 (by rfl) (by omega) _ m (iv acc) (by rfl) (ho4.out.alloc _) (some ⟨w4.heap.size, 0, none⟩) 1 1 (by rfl) (by intro h; cases h) [.int .i64 z] (src_new w4 _ _) (by intro u hu; simp only [List.mem_singleton] at hu; subst hu; rfl) (by omega) (by omega) (by simp; omega) ?_; intro a5 c5 w5 hown5 hg5; have hT5 := Lib.hid ((hg5.block OB (by have := HLT.out.1; simp; omega) (fun e => by have := (ho4.out.lt OB e.symm).1; have := HGO.out.2.2; omega)).trans (((MapKept.heap_alloc w4 _).2 OB (by have := HLT.out.1; omega)).trans hT4.out)); have c15 : w5.cell? ⟨OB, 1, none⟩ = some (.slice ra m rc) := blk_cell (i := 1) hT5.out rfl; have f15 := blk_free hT5.out 1))
        all_goals
          obtain ⟨W9, hW9⟩ : ∃ W9, W9 = w5.setCell ⟨OB, 1, none⟩ (.slice a5 (m + 1) c5) := ⟨_, rfl⟩
          rw [← hW9]
          have hother : ∀ k, k < w4.heap.size → k ≠ OB → (Value.slice ra m rc).ownBlock ≠ some k → W9.heap[k]? = w4.heap[k]? := fun k h1 h2 h3 => by
            rw [hW9]
            have q1 := ((TStay.refl (fun k => k = OB) w5).setCell (p := ⟨OB, 1, none⟩) (.inl rfl) (.slice a5 (m + 1) c5)).block k (by have := hg5.size; simp at this; omega) h2
            rw [q1]
            exact (hg5.block k (by simp; omega) (fun e => h3 e.symm)).trans ((MapKept.heap_alloc w4 _).2 k h1)
          have hT9 := Lib.hid (show W9.heap[OB]? = some (.cells #[.int .i64 v1, .slice a5 (m + 1) c5, .int .i64 v2] 71 (0, 0)) by rw [hW9]; exact heap_setCell_same w5 OB 1 _ _ _ hT5.out)
          have hQ9 := Lib.hid (h4.stay (hother B h4.lt (by have := HGO.out.2.1; omega) HNE.out) (fun h0 => by
            have hDl := HGO.out.1 (by have := G.out.2.1; simp only at h0; omega)
            have := HGO.out.2
            exact hother D (by have := HLT.out.1; omega) (by omega) (fun e => by have := (ho4.out.lt D e).1; omega)))
          have ho9 := Lib.hid (show W9.ownsRow (OB + 1) 3 1 (.slice a5 (m + 1) c5) (acc ++ [z]).length (iv (acc ++ [z])) by
            rw [hW9, iv_app, List.length_append, ← show m = _ from HM.out]
            exact ownsRow_setCell_below hown5 (by show OB < _; omega) _)
          have b4' : Below w2.heap.size w2 w4 := Below.trans_stay hb t4' (Nat.le_refl _) (fun k hk e => by omega)
          have b9 : Below w2.heap.size w2 W9 := by
            rw [hW9]
            exact ((b4'.alloc b4'.size _).grown hg5 (by have := b4'.size; simp; omega) (fun j hj => by have := (ho4.out.lt j hj).1; omega)).setCell hwO _
          have hs9 : OB + 1 ≤ W9.heap.size := by rw [hW9]; have := hg5.size; simp at this ⊢; omega
          have hlg9 := Lib.hid (show Rt.logsR (lb.length + 1) 0 v3 l3 k3 = ((acc ++ [z]) ++ (Rt.logsR f (acc ++ [z]).length (nn - 1) l4 k4).1, (Rt.logsR f (acc ++ [z]).length (nn - 1) l4 k4).2) by
            have h1 : Rt.logsR (lb.length + 1) 0 v3 l3 k3 = _ := HLG
            rw [← show m = _ from HM.out, HST.out] at h1
            rw [h1, List.length_append, ← show m = _ from HM.out]; simp)
          obtain ⟨_, hg2, hg3⟩ := G.out
          have hal9 : (acc ++ [z]).length ≤ 9 := by
            rw [List.length_append, ← show m = _ from HM.out]
            simp only [List.length_cons, List.length_nil]
            omega
          have hlf9 : k4 = false → l4.length < f := fun e => by have := hg3 e; have := HLF.out; omega
          have hll9 : l4.length ≤ lb.length := by omega
          have HA9 := Lib.hid hal9
          have HLF9 := Lib.hid hlf9
          have HLL9 := Lib.hid hll9
          clear hother hg2 hg3 hal9 hlf9 hll9 hown5 hg5 b4' t4' t4 h4 c14 c14' c15 f15 hW9 hv c1
          go_wp2
          go_roundw
          case rel => exact ⟨nn - 1, f, l4, k4, a4, c4, acc ++ [z], _, by go_num, ⟨by omega, by omega⟩, hQ9, hT9, ho9, b9, hs9, HA9.out, HLL9.out, HLF9.out, hlg9⟩
          case measure => simp [intOf]; omega
      · have hout : Rt.logsR f acc.length nn l' k' = ([], k') := by
          cases f with
          | zero => rfl
          | succ f => rw [Rt.logsR, if_neg hgo]
        have htot : Rt.logsR (lb.length + 1) 0 v3 l3 k3 = (acc, k') := by rw [show Rt.logsR (lb.length + 1) 0 v3 l3 k3 = _ from HLG, hout, List.append_nil]
        have hun : Rt.unlayR lb = (⟨v1, acc, v2⟩, k') := by
          have e1 : Rt.q1 lb = (v1, l1, k1) := HQ1.out.symm
          have e2 : Rt.q2 lb = (v2, l2, k2) := by unfold Rt.q2; rw [e1]; exact HQ2.out.symm
          have e3 : Rt.q3 lb = (v3, l3, k3) := by unfold Rt.q3; rw [e2]; exact HQ3.out.symm
          unfold Rt.unlayR
          rw [e3, e1, e2]
          simp only
          rw [htot]
        have hread : Rt.readR l = if Rt.may ⟨v1, acc, v2⟩ = true ∧ k' = false ∧ Rt.lay ⟨v1, acc, v2⟩ = l then .ok ⟨v1, acc, v2⟩ else .error 2 := by
          unfold Rt.readR
          rw [HQ.out]
          simp only
          rw [hun]
        have HRD := Lib.hid hread
        obtain ⟨ra, rc, rfl, _⟩ := ownsRow_slice HOW.out
        obtain ⟨m, hm⟩ : ∃ m, m = acc.length := ⟨_, rfl⟩
        have HOW1 : Hid (wr.ownsRow (OB + 1) 3 1 (.slice ra m rc) m (iv acc)) := by rw [hm]; exact HOW
        have HT1 : Hid (wr.heap[OB]? = some (.cells #[.int .i64 v1, .slice ra m rc, .int .i64 v2] 71 (0, 0))) := by rw [hm]; exact HT
        rw [← hm] at hal
        have HM := Lib.hid hm
        have hltO := blk_lt HT1.out
        have hltB := HRQ.out.lt
        have c0 : wr.cell? ⟨OB, 0, none⟩ = some (.int .i64 v1) := blk_cell (i := 0) HT1.out rfl
        have c1 : wr.cell? ⟨OB, 1, none⟩ = some (.slice ra m rc) := blk_cell (i := 1) HT1.out rfl
        have c2 : wr.cell? ⟨OB, 2, none⟩ = some (.int .i64 v2) := blk_cell (i := 2) HT1.out rfl
        have hlay := refLay_any wr ⟨v1, acc, v2⟩ ra m rc (Ints.of_own HOW1.out) (by omega)
        have bw := bw2.trans (hb.mono bw2.size)
        have hTR := Lib.hid ((hb.block w.heap.size hsz2).trans HT2.out)
        have HBK := Lib.hid (HRQ.out.blk)
        have hways : ((k' = false ∧ decide (0 < nn) = false) ∨ (k' = false ∧ decide (0 < nn) = true ∧ decide ((m : Int) ≤ 8) = false ∧ decide (m ≤ 8) = false)) ∨ (k' = true ∧ ∃ t0, decide (0 < nn) = t0) := by
          cases k' with
          | true => exact .inr ⟨rfl, _, rfl⟩
          | false =>
            by_cases h : 0 < nn
            · exact .inl (.inr ⟨rfl, decide_eq_true h, decide_eq_false (fun h' => hgo ⟨h, rfl, by omega⟩), decide_eq_false (fun h' => hgo ⟨h, rfl, by omega⟩)⟩)
            · exact .inl (.inl ⟨rfl, decide_eq_false h⟩)
        clear hm HOW HT hread hun htot hout HLG hgo hlf HRQ
        rcases hways with hwf | ⟨rfl, t0, d0⟩
        · rcases hwf with ⟨rfl, d0⟩ | ⟨rfl, d0, d1, d1'⟩
          all_goals
            go_wp2_with fail
            refine hlay.mono ?_
            clear hlay clk c0 c1 c2
            rintro e w8 ⟨hb8, hla⟩
            have bw8 := bw.trans (hb8.mono bw.size)
            have hTR8 := Lib.hid ((hb8.block w.heap.size (by have := hb.size; omega)).trans hTR.out)
            have hTO8 := Lib.hid ((hb8.block OB hltO).trans HT1.out)
            have hrow8 := Lib.hid (own_blw HOW1.out hb8)
            have clk8 := blk_cell (i := 1) ((hb8.block B hltB).trans HBK.out) rfl
            have r0 : w8.cell? ⟨w.heap.size, 0, none⟩ = some (.int .i64 0) := blk_cell (i := 0) hTR8.out rfl
            have r1 : w8.cell? ⟨w.heap.size, 1, none⟩ = some (.slice none 0 0) := blk_cell (i := 1) hTR8.out rfl
            have r2 : w8.cell? ⟨w.heap.size, 2, none⟩ = some (.int .i64 0) := blk_cell (i := 2) hTR8.out rfl
            have e0 := blk_free hTR8.out 0
            have e1 := blk_free hTR8.out 1
            have e2 := blk_free hTR8.out 2
            have c0 : w8.cell? ⟨OB, 0, none⟩ = some (.int .i64 v1) := blk_cell (i := 0) hTO8.out rfl
            have c1 : w8.cell? ⟨OB, 1, none⟩ = some (.slice ra m rc) := blk_cell (i := 1) hTO8.out rfl
            have c2 : w8.cell? ⟨OB, 2, none⟩ = some (.int .i64 v2) := blk_cell (i := 2) hTO8.out rfl
            by_cases hmay : Rt.may ⟨v1, acc, v2⟩ = true
            · rw [if_pos hmay] at hla
              obtain ⟨v8, rfl, ho8⟩ := hla
              obtain ⟨a8, c8, rfl, _⟩ := ownsRow_slice ho8
              have hr8 : Rds w8 a n l := HR.out.below bw8 (fun h0 b o e => by subst e; exact HR.out.lt h0)
              have hcv1 := convB w8 a8 _ c8 _ (Rds.of_own ho8 rfl)
              have hcv2 := convB w8 a n c l hr8
              have HMAY := Lib.hid hmay
              obtain ⟨t, ht, hT⟩ : ∃ t : Bool, ((str (Rt.lay ⟨v1, acc, v2⟩)).toList == (str l).toList) = t ∧ (t = true ↔ Rt.lay ⟨v1, acc, v2⟩ = l) := ⟨_, rfl, by rw [str_toList, str_toList]; exact beq_iff_eq⟩
              have HTT := Lib.hid hT
              clear ho8 hb8 hr8 hmay hT
              cases t
              · have hfin : Rt.readR l = .error 2 := by rw [HRD.out, if_neg (fun h => by have := HTT.out.2 h.2.2; cases this)]
                have HFI := Lib.hid hfin
                clear hfin
                go_wp2
                (try simp only [Exit.inBlock, Exit.then])
                refine bodyPost_ret (ret_ref (by rfl) (by rfl) (set3 hTR8.out _ _ _)) rfl ⟨((bw8.setCell (Nat.le_refl _) _).setCell (Nat.le_refl _) _).setCell (Nat.le_refl _) _, ?_⟩
                rw [HFI.out]
                rfl
              · have hly := HTT.out.1 rfl
                have hfin : Rt.readR l = .ok ⟨v1, acc, v2⟩ := by rw [HRD.out]; exact if_pos ⟨HMAY.out, (by first | rfl | trivial), hly⟩
                have hm8 : m ≤ 8 := by have := ((Rt.may_iff _).1 HMAY.out).2.2.2; simp only at this; have := HM.out; omega
                have HFI := Lib.hid hfin
                clear hfin hly
                go_wp2
                (try simp only [Exit.inBlock, Exit.then])
                refine bodyPost_ret (ret_ref (by rfl) (by rfl) (set3 hTR8.out _ _ _)) rfl ⟨((bw8.setCell (Nat.le_refl _) _).setCell (Nat.le_refl _) _).setCell (Nat.le_refl _) _, ?_⟩
                rw [HFI.out]
                refine ⟨ra, m, rc, rfl, ?_, hm8⟩
                have hwW : w.heap.size < OB + 1 := by omega
                exact ownsRow_base (ownsRow_setCell_below (ownsRow_setCell_below (ownsRow_setCell_below hrow8.out hwW _) hwW _) hwW _) (by omega)
            · rw [if_neg hmay] at hla
              subst hla
              have hfin : Rt.readR l = .error 2 := by rw [HRD.out, if_neg (fun h => hmay h.1)]
              have HFI := Lib.hid hfin
              clear hfin hb8 c0 c1 c2
              go_wp2
              (try simp only [Exit.inBlock, Exit.then])
              refine bodyPost_ret (ret_ref (by rfl) (by rfl) (set3 hTR8.out _ _ _)) rfl ⟨((bw8.setCell (Nat.le_refl _) _).setCell (Nat.le_refl _) _).setCell (Nat.le_refl _) _, ?_⟩
              rw [HFI.out]
              rfl
        · cases t0
          all_goals
            go_wp2_with fail
            refine hlay.mono ?_
            clear hlay clk c0 c1 c2
            rintro e w8 ⟨hb8, hla⟩
            have bw8 := bw.trans (hb8.mono bw.size)
            have hTR8 := Lib.hid ((hb8.block w.heap.size (by have := hb.size; omega)).trans hTR.out)
            have hTO8 := Lib.hid ((hb8.block OB hltO).trans HT1.out)
            have hrow8 := Lib.hid (own_blw HOW1.out hb8)
            have clk8 := blk_cell (i := 1) ((hb8.block B hltB).trans HBK.out) rfl
            have r0 : w8.cell? ⟨w.heap.size, 0, none⟩ = some (.int .i64 0) := blk_cell (i := 0) hTR8.out rfl
            have r1 : w8.cell? ⟨w.heap.size, 1, none⟩ = some (.slice none 0 0) := blk_cell (i := 1) hTR8.out rfl
            have r2 : w8.cell? ⟨w.heap.size, 2, none⟩ = some (.int .i64 0) := blk_cell (i := 2) hTR8.out rfl
            have e0 := blk_free hTR8.out 0
            have e1 := blk_free hTR8.out 1
            have e2 := blk_free hTR8.out 2
            have c0 : w8.cell? ⟨OB, 0, none⟩ = some (.int .i64 v1) := blk_cell (i := 0) hTO8.out rfl
            have c1 : w8.cell? ⟨OB, 1, none⟩ = some (.slice ra m rc) := blk_cell (i := 1) hTO8.out rfl
            have c2 : w8.cell? ⟨OB, 2, none⟩ = some (.int .i64 v2) := blk_cell (i := 2) hTO8.out rfl
            by_cases hmay : Rt.may ⟨v1, acc, v2⟩ = true
            · rw [if_pos hmay] at hla
              obtain ⟨v8, rfl, ho8⟩ := hla
              obtain ⟨a8, c8, rfl, _⟩ := ownsRow_slice ho8
              have hr8 : Rds w8 a n l := HR.out.below bw8 (fun h0 b o e => by subst e; exact HR.out.lt h0)
              have hcv1 := convB w8 a8 _ c8 _ (Rds.of_own ho8 rfl)
              have hcv2 := convB w8 a n c l hr8
              have HMAY := Lib.hid hmay
              obtain ⟨t, ht, hT⟩ : ∃ t : Bool, ((str (Rt.lay ⟨v1, acc, v2⟩)).toList == (str l).toList) = t ∧ (t = true ↔ Rt.lay ⟨v1, acc, v2⟩ = l) := ⟨_, rfl, by rw [str_toList, str_toList]; exact beq_iff_eq⟩
              have HTT := Lib.hid hT
              clear ho8 hb8 hr8 hmay hT
              have hfin : Rt.readR l = .error 2 := by rw [HRD.out, if_neg (fun h => by cases h.2.1)]
              have HFI := Lib.hid hfin
              clear hfin ht hcv1 hcv2
              go_wp2
              (try simp only [Exit.inBlock, Exit.then])
              refine bodyPost_ret (ret_ref (by rfl) (by rfl) (set3 hTR8.out _ _ _)) rfl ⟨((bw8.setCell (Nat.le_refl _) _).setCell (Nat.le_refl _) _).setCell (Nat.le_refl _) _, ?_⟩
              rw [HFI.out]
              rfl
            · rw [if_neg hmay] at hla
              subst hla
              have hfin : Rt.readR l = .error 2 := by rw [HRD.out, if_neg (fun h => hmay h.1)]
              have HFI := Lib.hid hfin
              clear hfin hb8 c0 c1 c2
              go_wp2
              (try simp only [Exit.inBlock, Exit.then])
              refine bodyPost_ret (ret_ref (by rfl) (by rfl) (set3 hTR8.out _ _ _)) rfl ⟨((bw8.setCell (Nat.le_refl _) _).setCell (Nat.le_refl _) _).setCell (Nat.le_refl _) _, ?_⟩
              rw [HFI.out]
              rfl
end Go.Proofs.YtggdbdjaobgeeaaGreatDoor
