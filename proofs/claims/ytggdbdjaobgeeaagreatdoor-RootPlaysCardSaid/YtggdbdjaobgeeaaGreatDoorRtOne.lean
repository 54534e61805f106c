/- taprootlaw8.one: what it answers. -/
import Derived.Test.YtggdbdjaobgeeaaGreatDoorRtRead
import Derived.Test.YtggdbdjaobgeeaaGreatDoorOpen
import Derived.Test.YtggdbdjaobgeeaaGreatDoorHand
namespace Go.Proofs.YtggdbdjaobgeeaaGreatDoor
open Go.RowKit Go.Tap Go.Maps
set_option linter.unusedVariables false
set_option linter.unusedSimpArgs false
attribute [local go_sem ↓] Go.wp_at_zero Go.wp_at_succ

/-- Pick called at a step of a region that draws its order. -/
theorem step_pick {w : World} {ops : Array Oper} {o : Oper} {a : Act} {K : Act → World → Prop} {Q : Exit → Act → World → Prop} {E : Prop} (hgd : o.guard = none) (t : Nat) (n m r : Int) (t1 t2 : TypeId)
    (ho : o.op = .call { callee := .value (.func 8), args := #[.tmp t, .const (.int .i64 m)], argTypes := #[t1, t2] }) (hx : a.tmps[t]?.getD undef = .int .i64 n)
    (h0 : -9223372036854775808 ≤ n) (h1 : n ≤ 9223372036854775807) (hm : 0 < m) (hm1 : m ≤ 9223372036854775807) (hr : n % m = r) (h : K (a.put o.dst (.int .i64 r)) w) :
    if Region.wanted o (yielded ops a.tmps) = true then Oper.wp Tryz.prog o a w K Q else E := by
  have hw : Region.wanted o (yielded ops a.tmps) = true := by simp [Region.wanted, hgd]
  rw [if_pos hw]
  obtain ⟨dst, op, type, pos, after, guard⟩ := o
  simp only at ho hgd
  subst ho hgd
  clear hw
  have hf := Tryz.func8
  go_simp
  refine (pick_any w n m h0 h1 hm hm1).mono ?_
  rintro e w' ⟨rfl, rfl⟩
  subst hr
  simpa [Act.put] using h
theorem alloc3 (w : World) (A B C : Obj) : (((w.alloc A).alloc B).alloc C).heap[w.heap.size]? = some A ∧ (((w.alloc A).alloc B).alloc C).heap[w.heap.size + 1]? = some B ∧ (((w.alloc A).alloc B).alloc C).heap[w.heap.size + 1 + 1]? = some C ∧ (((w.alloc A).alloc B).alloc C).heap.size = w.heap.size + 3 := by
  have h1 : (w.alloc A).heap.size = w.heap.size + 1 := by simp
  have h2 : ((w.alloc A).alloc B).heap.size = w.heap.size + 1 + 1 := by simp
  refine ⟨?_, ?_, ?_, by simp⟩
  · rw [(MapKept.heap_alloc _ C).2 _ (by omega), (MapKept.heap_alloc _ B).2 _ (by omega)]; exact heap_alloc_new w A
  · rw [(MapKept.heap_alloc _ C).2 _ (by omega), ← h1]; exact heap_alloc_new _ B
  · rw [← h2]; exact heap_alloc_new _ C
theorem grown_undrew2 {w w' : World} {r : Option Nat} (h : w.drew.grownBy w' r) : w.grownBy w' r := ⟨h.os, h.tape, h.output, h.size, h.block⟩
theorem ret_root1 {fn : Func} {p : Tmp} (hf : fn.results = #[.cell p 67]) {tmps : Array Value} {X : World} {b : Nat} {x y z : Value} (hp : tmps.getD p undef = .pointer (some ⟨b, 0, none⟩)) (h : X.heap[b]? = some (.cells #[x, y, z] 67 (0, 0))) :
    (results fn tmps).run Tryz.prog X = .ok (.agg #[x, y, z]) X := by
  have := load_root h
  have hp' : tmps[p]?.getD undef = .pointer (some ⟨b, 0, none⟩) := by simpa using hp
  simp only [results, hf]
  simp [Sem.run_bind, Result.andThen, hp', asAddr, this]
def lgs (l : List Int) : List Int := l.map (· % 1073741824)
theorem lgs_snoc {l : List Int} {i : Nat} {z : Int} (h : l[i]? = some z) : lgs (l.take (i + 1)) = lgs (l.take i) ++ [z % 1073741824] := by unfold lgs; rw [List.take_add_one, h]; simp
def oneR (x : RawD) : Rt.Root := ⟨if x.how % 12 = 0 then x.gen else x.gen % 100000, (x.s.l.take 9).map (· % 1073741824) ++ (if x.how % 12 = 2 then [x.how] else []), if x.how % 12 = 1 then x.idx else x.idx % 1000⟩
set_option maxHeartbeats 8000000 in
set_option maxRecDepth 100000 in
theorem rone_any (w : World) (N : Nat) (x : RawD) (hx : ArgR N w x) :
    Calls Tryz.prog 31 #[.agg x.cells.toArray] w fun e w' => ∃ a n c, e = .returned (.agg #[.int .i64 (oneR x).gen, .slice a n c, .int .i64 (oneR x).idx]) ∧ w'.ownsRow w.heap.size 3 1 (.slice a n c) n (iv (oneR x).logs) ∧ Below w.heap.size w w' ∧ n ≤ 10 := by
  obtain ⟨i0, hi, hz0, hz1, hz2⟩ := info_parts infoInt
  obtain ⟨g, ix, how, ⟨sa, sn, sc, sl⟩⟩ := x
  obtain ⟨⟨hg, hix, hhow⟩, harg⟩ := hx
  simp only at hg hix hhow harg
  obtain ⟨R, hR⟩ : ∃ R, R = oneR ⟨g, ix, how, ⟨sa, sn, sc, sl⟩⟩ := ⟨_, rfl⟩
  rw [← hR]
  show Calls _ _ #[.agg #[.int .i64 g, .int .i64 ix, .int .i64 how, .slice sa sn sc]] _ _
  have HRR := Lib.hid hR
  clear hR
  obtain ⟨hg1, hg2⟩ := hg
  obtain ⟨hi1, hi2⟩ := hix
  obtain ⟨hh1, hh2⟩ := hhow
  have HA := Lib.hid harg
  clear harg
  go_enter Tryz.func31, Tryz.ntmps31
  go_wp2_with fail
  refine (fun (HC : Hid ?C) => ?main) ?cont
  case main =>
    go_region_law (first
      | (refine step_pick (by rfl) 6 g 100000 _ _ _ (by rfl) (by rfl) hg1 hg2 (by omega) (by omega) rfl ?_)
      | (refine step_pick (by rfl) 9 ix 1000 _ _ _ (by rfl) (by rfl) hi1 hi2 (by omega) (by omega) rfl ?_))
    all_goals exact HC.out
  case cont =>
    refine Lib.hid ?_
    go_wp2_with fail
    obtain ⟨WL, hWL⟩ : ∃ WL, WL = (((w.alloc (.cells #[.int .i64 g, .int .i64 ix, .int .i64 how, .slice sa sn sc] 60)).alloc (.cells #[.int .i64 0, .slice none 0 0, .int .i64 0] 67)).alloc (.cells #[.int .i64 (g % 100000), .slice none 0 0, .int .i64 (ix % 1000)] 67)).drew := ⟨_, rfl⟩
    rw [← hWL]
    obtain ⟨q1, q2, q3, q4⟩ := alloc3 w (.cells #[.int .i64 g, .int .i64 ix, .int .i64 how, .slice sa sn sc] 60) (.cells #[.int .i64 0, .slice none 0 0, .int .i64 0] 67) (.cells #[.int .i64 (g % 100000), .slice none 0 0, .int .i64 (ix % 1000)] 67)
    have hsW : WL.heap.size = w.heap.size + 3 := by rw [hWL]; exact q4
    have hTB : WL.heap[w.heap.size]? = some (.cells #[.int .i64 g, .int .i64 ix, .int .i64 how, .slice sa sn sc] 60 (0, 0)) := by rw [hWL]; exact q1
    have hTR : WL.heap[w.heap.size + 1]? = some (.cells #[.int .i64 0, .slice none 0 0, .int .i64 0] 67 (0, 0)) := by rw [hWL]; exact q2
    have hTO : WL.heap[w.heap.size + 1 + 1]? = some (.cells #[.int .i64 (g % 100000), .slice none 0 0, .int .i64 (ix % 1000)] 67 (0, 0)) := by rw [hWL]; exact q3
    have hbW : Below w.heap.size w WL := by
      rw [hWL]
      exact ((((Below.refl w.heap.size w).alloc (Nat.le_refl _) _).alloc (by simp) _).alloc (by simp; omega) _).drew
    obtain ⟨gp, hgp⟩ : ∃ gp, gp = g % 100000 := ⟨_, rfl⟩
    obtain ⟨ip, hip⟩ : ∃ ip, ip = ix % 1000 := ⟨_, rfl⟩
    rw [← hgp, ← hip] at hTO ⊢
    have HGP := Lib.hid hgp
    have HIP := Lib.hid hip
    have HTB := Lib.hid hTB
    have HTR := Lib.hid hTR
    have HTO := Lib.hid hTO
    have hsl := HA.out.len
    have hsn := HA.out.le
    clear q1 q2 q3 q4 hWL hTB hTR hTO hgp hip
    go_loopw [4] (fun iv' wr => ∃ (i : Nat) (rv : Value), iv' = .int .i64 (i : Int) ∧ i ≤ 9 ∧ i ≤ sn ∧ Hid (wr.heap[w.heap.size]? = some (.cells #[.int .i64 g, .int .i64 ix, .int .i64 how, .slice sa sn sc] 60 (0, 0))) ∧ Hid (wr.heap[w.heap.size + 1]? = some (.cells #[.int .i64 0, .slice none 0 0, .int .i64 0] 67 (0, 0))) ∧
      Hid (wr.heap[w.heap.size + 1 + 1]? = some (.cells #[.int .i64 gp, rv, .int .i64 ip] 67 (0, 0))) ∧ Hid (wr.ownsRow (w.heap.size + 3) 3 1 rv i (iv (lgs (sl.take i)))) ∧ Below w.heap.size w wr) (fun iv' _ => 9 - (intOf iv').toNat)
    case atStart => exact ⟨0, .slice none 0 0, rfl, Nat.zero_le _, Nat.zero_le _, HTB, HTR, HTO, World.ownsRow_nil _ _ _ _, hbW⟩
    case round =>
      obtain ⟨i, rv, rfl, hi9, hin, HB, HZ, HO, HOW, hb⟩ := hrel
      obtain ⟨ra, rc, rfl, _⟩ := ownsRow_slice HOW.out
      have c3 : wr.cell? ⟨w.heap.size, 3, none⟩ = some (.slice sa sn sc) := blk_cell (i := 3) HB.out rfl
      have hlt3 := blk_lt HO.out
      by_cases hgo : i < sn ∧ i < 9
      · obtain ⟨hg1', hg2'⟩ := hgo
        have d0 : decide ((i : Int) < (sn : Int)) = true := decide_eq_true (by omega)
        have d0' : decide (i < sn) = true := decide_eq_true hg1'
        have d1 : decide ((i : Int) < 9) = true := decide_eq_true (by omega)
        have d1' : decide (i < 9) = true := decide_eq_true hg2'
        have d2 : (i : Int) < (sn : Int) := by omega
        have hx : sl[i]? = some (sl[i]'(by omega)) := List.getElem?_eq_getElem _
        generalize sl[i]'(by omega) = z at hx
        obtain ⟨b, o, rfl, hcz⟩ := HA.out.at_ (by omega)
        obtain ⟨hcell, hz1', hz2'⟩ := hcz i z hx
        rw [Nat.mul_one] at hcell
        have ce : wr.cell? ⟨b, o + i, none⟩ = some (.int .i64 z) := (hb.cell (p := ⟨b, o + i, none⟩) (block_lt_of_cell hcell)).trans hcell
        have c1 : wr.cell? ⟨w.heap.size + 1 + 1, 1, none⟩ = some (.slice ra i rc) := blk_cell (i := 1) HO.out rfl
        have c1' : ∀ ob, (wr.alloc ob).cell? ⟨w.heap.size + 1 + 1, 1, none⟩ = some (.slice ra i rc) := fun ob => (World.cell?_of_block ((MapKept.heap_alloc wr ob).2 (w.heap.size + 1 + 1) hlt3)).trans c1
        have hw := wrapi' ((i : Int) + 1) (by omega)
        have HX := Lib.hid hx
        have HLT := Lib.hid hlt3
        obtain ⟨zp, hzp⟩ : ∃ zp, z % 1073741824 = zp := ⟨_, rfl⟩
        have HZP := Lib.hid hzp
        have hsnoc := Lib.hid (show iv (lgs (sl.take (i + 1))) = iv (lgs (sl.take i)) ++ [.int .i64 zp] by rw [lgs_snoc hx, hzp, iv_app]; rfl)
        clear hx hcz hcell hlt3
        go_wp2_with fail
        go_region_law (first
          | (refine step_pick (by rfl) 29 z 1073741824 zp _ _ (by rfl) (by rfl) hz1' hz2' (by omega) (by omega) HZP.out ?_)
          | (refine step_append_src (by rfl) (.tmp 24) (.tmp 31) 58 (by rfl) (w.heap.size + 3) 3 i0 _ 1 8 Tryz.underlying58 hi hz0 hz1 hz2 (by rfl) (by omega) _ i _ (by rfl) (HOW.out.alloc _) (some ⟨wr.heap.size, 0, none⟩) 1 1 (by rfl) (by intro h; cases h) [.int .i64 zp] (src_new wr _ _) (by intro u hu; simp only [List.mem_singleton] at hu; subst hu; rfl) (by omega) (by omega) (by have := (show w.heap.size + 1 + 1 < wr.heap.size from HLT.out); simp; omega) ?_; intro a5 c5 w5 hown5 hg5; have hg5' := grown_undrew2 hg5; have hoth : (∀ k, k < w.heap.size + 3 → w5.heap[k]? = wr.heap[k]?) := (fun k hk => (hg5'.block k (by have := (show w.heap.size + 1 + 1 < wr.heap.size from HLT.out); simp; omega) (fun e => by have := (HOW.out.lt k e.symm).1; omega)).trans ((MapKept.heap_alloc wr _).2 k (by have := (show w.heap.size + 1 + 1 < wr.heap.size from HLT.out); omega))); have hT5 := Lib.hid ((hoth (w.heap.size + 1 + 1) (by omega)).trans HO.out); have c15 : w5.cell? ⟨w.heap.size + 1 + 1, 1, none⟩ = some (.slice ra i rc) := blk_cell (i := 1) hT5.out rfl; have f15 := blk_free hT5.out 1))
        all_goals
          obtain ⟨W9, hW9⟩ : ∃ W9, W9 = w5.setCell ⟨w.heap.size + 1 + 1, 1, none⟩ (.slice a5 (i + 1) c5) := ⟨_, rfl⟩
          rw [← hW9]
          have hoth9 : ∀ k, k < w.heap.size + 1 + 1 → W9.heap[k]? = wr.heap[k]? := fun k hk => by
            rw [hW9]
            exact (((TStay.refl (fun k => k = w.heap.size + 1 + 1) w5).setCell (p := ⟨w.heap.size + 1 + 1, 1, none⟩) (.inl rfl) (.slice a5 (i + 1) c5)).block k (by have := hg5'.size; have h2 := (show w.heap.size + 1 + 1 < wr.heap.size from HLT.out); simp at this; omega) (by show k ≠ _; omega)).trans (hoth k (by omega))
          have hB9 := Lib.hid ((hoth9 w.heap.size (by omega)).trans HB.out)
          have hZ9 := Lib.hid ((hoth9 (w.heap.size + 1) (by omega)).trans HZ.out)
          have hT9 := Lib.hid (show W9.heap[w.heap.size + 1 + 1]? = some (.cells #[.int .i64 gp, .slice a5 (i + 1) c5, .int .i64 ip] 67 (0, 0)) by rw [hW9]; exact heap_setCell_same w5 (w.heap.size + 1 + 1) 1 _ _ _ hT5.out)
          have ho9 := Lib.hid (show W9.ownsRow (w.heap.size + 3) 3 1 (.slice a5 (i + 1) c5) (i + 1) (iv (lgs (sl.take (i + 1)))) by
            rw [hW9, hsnoc.out]
            exact ownsRow_setCell_below hown5 (by show w.heap.size + 1 + 1 < _; omega) _)
          have b9 : Below w.heap.size w W9 := by
            rw [hW9]
            exact ((hb.alloc hb.size _).grown hg5' (by have := hb.size; simp; omega) (fun j hj => by have := (HOW.out.lt j hj).1; omega)).setCell (by show w.heap.size ≤ w.heap.size + 1 + 1; omega) _
          clear hoth hoth9 hown5 hg5 hg5' c15 f15 hT5 hW9 c1 c1' ce c3
          go_wp2
          go_roundw
          case rel => exact ⟨i + 1, _, by go_num, by omega, by omega, hB9, hZ9, hT9, ho9, b9⟩
          case measure => simp [intOf]; omega
      · have htk : lgs (sl.take i) = (sl.take 9).map (· % 1073741824) := by
          unfold lgs
          by_cases h9 : i = 9
          · rw [h9]
          · have : i = sn := by omega
            rw [List.take_of_length_le (by omega), List.take_of_length_le (by omega)]
        obtain ⟨t, d0, d0', d1⟩ : ∃ t : Bool, decide ((i : Int) < (sn : Int)) = t ∧ decide (i < sn) = t ∧ (t = true → decide ((i : Int) < 9) = false ∧ decide (i < 9) = false) := by
          by_cases h : i < sn
          · exact ⟨true, decide_eq_true (by omega), decide_eq_true h, fun _ => ⟨decide_eq_false (by omega), decide_eq_false (by omega)⟩⟩
          · exact ⟨false, decide_eq_false (by omega), decide_eq_false h, fun e => by cases e⟩
        have HTK := Lib.hid htk
        have hRg : R.gen = if how % 12 = 0 then g else gp := by rw [show R = _ from HRR.out, show gp = _ from HGP.out]; rfl
        have hRi : R.idx = if how % 12 = 1 then ix else ip := by rw [show R = _ from HRR.out, show ip = _ from HIP.out]; rfl
        have hRl : R.logs = lgs (sl.take i) ++ if how % 12 = 2 then [how] else [] := by rw [show R = _ from HRR.out, htk]; rfl
        have HRG := Lib.hid hRg
        have HRI := Lib.hid hRi
        have HRL := Lib.hid hRl
        have b0 : wr.cell? ⟨w.heap.size, 0, none⟩ = some (.int .i64 g) := blk_cell (i := 0) HB.out rfl
        have b1 : wr.cell? ⟨w.heap.size, 1, none⟩ = some (.int .i64 ix) := blk_cell (i := 1) HB.out rfl
        have b2 : wr.cell? ⟨w.heap.size, 2, none⟩ = some (.int .i64 how) := blk_cell (i := 2) HB.out rfl
        have r0 : wr.cell? ⟨w.heap.size + 1, 0, none⟩ = some (.int .i64 0) := blk_cell (i := 0) HZ.out rfl
        have r1 : wr.cell? ⟨w.heap.size + 1, 1, none⟩ = some (.slice none 0 0) := blk_cell (i := 1) HZ.out rfl
        have r2 : wr.cell? ⟨w.heap.size + 1, 2, none⟩ = some (.int .i64 0) := blk_cell (i := 2) HZ.out rfl
        have e0 := blk_free HZ.out 0
        have e1 := blk_free HZ.out 1
        have e2 := blk_free HZ.out 2
        have o0 : wr.cell? ⟨w.heap.size + 1 + 1, 0, none⟩ = some (.int .i64 gp) := blk_cell (i := 0) HO.out rfl
        have o1 : wr.cell? ⟨w.heap.size + 1 + 1, 1, none⟩ = some (.slice ra i rc) := blk_cell (i := 1) HO.out rfl
        have o2 : wr.cell? ⟨w.heap.size + 1 + 1, 2, none⟩ = some (.int .i64 ip) := blk_cell (i := 2) HO.out rfl
        have f0 := blk_free HO.out 0
        have f1 := blk_free HO.out 1
        have f2 := blk_free HO.out 2
        have HLT := Lib.hid hlt3
        have hpk := pick_any wr how 12 hh1 hh2 (by omega) (by omega)
        obtain ⟨q, hq⟩ : ∃ q, q = how % 12 := ⟨_, rfl⟩
        have hqb : 0 ≤ q ∧ q < 12 := by omega
        rw [← hq] at hpk HRG HRI HRL
        -- what is left at the end
        have fin : ∀ (X : World) (gf ipf : Int) (rvf : Value) (nf : Nat), X.heap[w.heap.size + 1]? = some (.cells #[.int .i64 0, .slice none 0 0, .int .i64 0] 67 (0, 0)) → X.ownsRow (w.heap.size + 3) 3 1 rvf nf (iv R.logs) → Below w.heap.size w X → gf = R.gen → ipf = R.idx → nf ≤ 10 →
            ∃ a n c, Ending.returned (Value.agg #[.int .i64 gf, rvf, .int .i64 ipf]) = .returned (.agg #[.int .i64 R.gen, .slice a n c, .int .i64 R.idx]) ∧
              (((X.setCell ⟨w.heap.size + 1, 0, none⟩ (.int .i64 gf)).setCell ⟨w.heap.size + 1, 1, none⟩ rvf).setCell ⟨w.heap.size + 1, 2, none⟩ (.int .i64 ipf)).ownsRow w.heap.size 3 1 (.slice a n c) n (iv R.logs) ∧
              Below w.heap.size w (((X.setCell ⟨w.heap.size + 1, 0, none⟩ (.int .i64 gf)).setCell ⟨w.heap.size + 1, 1, none⟩ rvf).setCell ⟨w.heap.size + 1, 2, none⟩ (.int .i64 ipf)) ∧ n ≤ 10 := fun X gf ipf rvf nf hz ho hbx e1 e2 h10 => by
          obtain ⟨a, c, rfl, _⟩ := ownsRow_slice ho
          subst e1 e2
          refine ⟨a, nf, c, rfl, ownsRow_base (ownsRow_setCell_below (ownsRow_setCell_below (ownsRow_setCell_below ho (by show w.heap.size + 1 < _; omega) _) (by show w.heap.size + 1 < _; omega) _) (by show w.heap.size + 1 < _; omega) _) (by omega), ((hbx.setCell (by show w.heap.size ≤ w.heap.size + 1; omega) _).setCell (by show w.heap.size ≤ w.heap.size + 1; omega) _).setCell (by show w.heap.size ≤ w.heap.size + 1; omega) _, h10⟩
        have FIN := Lib.hid fin
        have hset : ∀ (k : Nat) (u : Value), (wr.setCell ⟨w.heap.size + 1 + 1, k, none⟩ u).heap[w.heap.size + 1]? = wr.heap[w.heap.size + 1]? := fun k u =>
          ((TStay.refl (fun k => k = w.heap.size + 1 + 1) wr).setCell (p := ⟨w.heap.size + 1 + 1, k, none⟩) (.inl rfl) u).block (w.heap.size + 1) (by have := (show w.heap.size + 1 + 1 < wr.heap.size from HLT.out); omega) (by show w.heap.size + 1 ≠ _; omega)
        have HSET := Lib.hid hset
        clear hq htk hRg hRi hRl hlt3 fin hset hgo
        rcases (show q = 0 ∨ q = 1 ∨ q = 2 ∨ (q ≠ 0 ∧ q ≠ 1 ∧ q ≠ 2) by omega) with rfl | rfl | rfl | ⟨h0, h1, h2⟩
        · cases t
          all_goals
            (try obtain ⟨d2, d3⟩ := d1 rfl)
            clear d1
            have hgl := Lib.hid (show R.logs = lgs (sl.take i) by rw [HRL.out]; simp)
            have hgg := Lib.hid (show g = R.gen by rw [HRG.out]; simp)
            have hgi := Lib.hid (show ip = R.idx by rw [HRI.out]; simp)
            clear HRG HRI HRL
            go_wp2_with (go_at_call 8; refine hpk.mono ?_; rintro e w' ⟨rfl, rfl⟩)
            (try simp only [Exit.inBlock, Exit.then])
            refine bodyPost_ret (ret_root1 (by rfl) (by rfl) (set3 ((HSET.out 0 _).trans HZ.out) _ _ _)) rfl ?_
            exact FIN.out _ _ _ _ i ((HSET.out 0 _).trans HZ.out) (ownsRow_setCell_below (by rw [hgl.out]; exact HOW.out) (by show w.heap.size + 1 + 1 < _; omega) _) (hb.setCell (by show w.heap.size ≤ w.heap.size + 1 + 1; omega) _) hgg.out hgi.out (by omega)
        · have q0 : ((1 : Int) == 0) = false := rfl
          cases t
          all_goals
            (try obtain ⟨d2, d3⟩ := d1 rfl)
            clear d1
            have hgl := Lib.hid (show R.logs = lgs (sl.take i) by rw [HRL.out]; simp)
            have hgg := Lib.hid (show gp = R.gen by rw [HRG.out]; simp)
            have hgi := Lib.hid (show ix = R.idx by rw [HRI.out]; simp)
            clear HRG HRI HRL
            go_wp2_with (go_at_call 8; refine hpk.mono ?_; rintro e w' ⟨rfl, rfl⟩)
            (try simp only [Exit.inBlock, Exit.then])
            refine bodyPost_ret (ret_root1 (by rfl) (by rfl) (set3 ((HSET.out 2 _).trans HZ.out) _ _ _)) rfl ?_
            exact FIN.out _ _ _ _ i ((HSET.out 2 _).trans HZ.out) (ownsRow_setCell_below (by rw [hgl.out]; exact HOW.out) (by show w.heap.size + 1 + 1 < _; omega) _) (hb.setCell (by show w.heap.size ≤ w.heap.size + 1 + 1; omega) _) hgg.out hgi.out (by omega)
        · cases t
          all_goals
            (try obtain ⟨d2, d3⟩ := d1 rfl)
            clear d1
            have hgl := Lib.hid (show iv R.logs = iv (lgs (sl.take i)) ++ [.int .i64 how] by rw [HRL.out, if_pos rfl, iv_app]; rfl)
            have hgg := Lib.hid (show gp = R.gen by rw [HRG.out]; simp)
            have hgi := Lib.hid (show ip = R.idx by rw [HRI.out]; simp)
            clear HRG HRI HRL
            go_wp2_with (first
              | (go_at_call 8; refine hpk.mono ?_; rintro e w' ⟨rfl, rfl⟩)
              | (at_builtin; refine wpList_append_src _ rfl (.tmp 50) (.tmp 53) 58 rfl (w.heap.size + 3) 3 i0 _ 1 8 Tryz.underlying58 hi hz0 hz1 hz2 rfl (by omega) _ i _ rfl (HOW.out.alloc _) (some ⟨wr.heap.size, 0, none⟩) 1 1 rfl (by intro h; cases h) [.int .i64 how] (src_new wr _ _) (by intro u hu; simp only [List.mem_singleton] at hu; subst hu; rfl) (by omega) (by omega) (by have := (show w.heap.size + 1 + 1 < wr.heap.size from HLT.out); simp; omega) ?_))
            intro a5 c5 w5 hown5 hg5
            have hoth : ∀ k, k < w.heap.size + 3 → w5.heap[k]? = wr.heap[k]? := fun k hk => (hg5.block k (by have := (show w.heap.size + 1 + 1 < wr.heap.size from HLT.out); simp; omega) (fun e => by have := (HOW.out.lt k e.symm).1; omega)).trans ((MapKept.heap_alloc wr _).2 k (by have := (show w.heap.size + 1 + 1 < wr.heap.size from HLT.out); omega))
            have HO5 := Lib.hid ((hoth (w.heap.size + 1 + 1) (by omega)).trans HO.out)
            have HZ5 := Lib.hid ((hoth (w.heap.size + 1) (by omega)).trans HZ.out)
            have b5 : Below w.heap.size w w5 := (hb.alloc hb.size _).grown hg5 (by have := hb.size; simp; omega) (fun j hj => by have := (HOW.out.lt j hj).1; omega)
            have ho5 := Lib.hid (show w5.ownsRow (w.heap.size + 3) 3 1 (.slice a5 (i + 1) c5) (i + 1) (iv R.logs) by rw [hgl.out]; exact hown5)
            have hs5 := Lib.hid (show w.heap.size + 1 + 1 < w5.heap.size from blk_lt HO5.out)
            clear hoth hown5 hg5 b0 b1 b2 r0 r1 r2 e0 e1 e2 o0 o1 o2 f0 f1 f2
            have r0 : w5.cell? ⟨w.heap.size + 1, 0, none⟩ = some (.int .i64 0) := blk_cell (i := 0) HZ5.out rfl
            have r1 : w5.cell? ⟨w.heap.size + 1, 1, none⟩ = some (.slice none 0 0) := blk_cell (i := 1) HZ5.out rfl
            have r2 : w5.cell? ⟨w.heap.size + 1, 2, none⟩ = some (.int .i64 0) := blk_cell (i := 2) HZ5.out rfl
            have e0 := blk_free HZ5.out 0
            have e1 := blk_free HZ5.out 1
            have e2 := blk_free HZ5.out 2
            have o0 : w5.cell? ⟨w.heap.size + 1 + 1, 0, none⟩ = some (.int .i64 gp) := blk_cell (i := 0) HO5.out rfl
            have o1 : w5.cell? ⟨w.heap.size + 1 + 1, 1, none⟩ = some (.slice ra i rc) := blk_cell (i := 1) HO5.out rfl
            have o2 : w5.cell? ⟨w.heap.size + 1 + 1, 2, none⟩ = some (.int .i64 ip) := blk_cell (i := 2) HO5.out rfl
            have f1 := blk_free HO5.out 1
            go_wp2
            (try simp only [Exit.inBlock, Exit.then])
            have hz9 : (w5.setCell ⟨w.heap.size + 1 + 1, 1, none⟩ (.slice a5 (i + 1) c5)).heap[w.heap.size + 1]? = some (.cells #[.int .i64 0, .slice none 0 0, .int .i64 0] 67 (0, 0)) :=
              (((TStay.refl (fun k => k = w.heap.size + 1 + 1) w5).setCell (p := ⟨w.heap.size + 1 + 1, 1, none⟩) (.inl rfl) _).block (w.heap.size + 1) (by have := hs5.out; omega) (by show w.heap.size + 1 ≠ _; omega)).trans HZ5.out
            refine bodyPost_ret (ret_root1 (by rfl) (by rfl) (set3 hz9 _ _ _)) rfl ?_
            exact FIN.out _ _ _ _ (i + 1) hz9 (ownsRow_setCell_below ho5.out (by show w.heap.size + 1 + 1 < _; omega) _) (b5.setCell (by show w.heap.size ≤ w.heap.size + 1 + 1; omega) _) hgg.out hgi.out (by omega)
        · have q0 : (q == 0) = false := beq_eq_false_iff_ne.2 h0
          have q1 : (q == 1) = false := beq_eq_false_iff_ne.2 h1
          have q2 : (q == 2) = false := beq_eq_false_iff_ne.2 h2
          cases t
          all_goals
            (try obtain ⟨d2, d3⟩ := d1 rfl)
            clear d1
            have hgl := Lib.hid (show R.logs = lgs (sl.take i) by rw [HRL.out, if_neg h2, List.append_nil])
            have hgg := Lib.hid (show gp = R.gen by rw [HRG.out, if_neg h0])
            have hgi := Lib.hid (show ip = R.idx by rw [HRI.out, if_neg h1])
            clear HRG HRI HRL h0 h1 h2
            go_wp2_with (go_at_call 8; refine hpk.mono ?_; rintro e w' ⟨rfl, rfl⟩)
            (try simp only [Exit.inBlock, Exit.then])
            refine bodyPost_ret (ret_root1 (by rfl) (by rfl) (set3 HZ.out _ _ _)) rfl ?_
            exact FIN.out _ _ _ _ i HZ.out (by rw [hgl.out]; exact HOW.out) hb hgg.out hgi.out (by omega)
end Go.Proofs.YtggdbdjaobgeeaaGreatDoor
