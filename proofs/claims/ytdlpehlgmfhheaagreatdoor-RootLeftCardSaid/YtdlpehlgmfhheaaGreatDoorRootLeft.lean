/- RootLeft: what it comes to. -/
import Derived.Test.YtdlpehlgmfhheaaGreatDoorRtAt
import Derived.Test.YtdlpehlgmfhheaaGreatDoorRtLeftPl
import Derived.Test.YtdlpehlgmfhheaaGreatDoorRtOne
import Derived.Test.YtdlpehlgmfhheaaGreatDoorRtRef
import Derived.Test.YtdlpehlgmfhheaaGreatDoorDskNm
import Derived.Test.YtdlpehlgmfhheaaGreatDoorHand
import Derived.Test.YtdlpehlgmfhheaaGreatDoorHand2
import Derived.Test.YtdlpehlgmfhheaaGreatDoorIdx
import Derived.Deep.Cut
import Derived.Deep.CutRange
import Derived.Deep.RegionHeld3
namespace Go.Proofs.YtdlpehlgmfhheaaGreatDoor
open Go.RowKit Go.Tap Go.Maps
set_option linter.unusedVariables false
attribute [local go_sem ↓] Go.wp_at_zero Go.wp_at_succ

theorem newBigL (w : World) : Calls Tryz.prog 10 #[.int .i64 100000] w fun e w' => ∃ B, e = .returned (.pointer (some ⟨B, 0, none⟩)) ∧ IsDk w' w.heap.size B (Dsk.newD 100000) ∧ Below w.heap.size w w' := by
  have := new_any w 100000 (by omega)
  rw [show ((100000 : Nat) : Int) = 100000 from rfl] at this
  exact this
theorem yl_undefL (f : Bool → Option Bool) (g : Option Value → Option Bool) : Go.yielded.match_1 (motive := fun _ => Option Bool) (some undef) f g = g (some undef) := rfl
attribute [local go_sem] yl_undefL
namespace Rt
open Dsk
theorem names_one {fs : Files} {x : List UInt8} (h : Fs fs (some x) none) : fs.map (·.1) = [nmR] := by
  have ho := h.only
  have hr := h.r
  have hn := h.n
  have ha := h.ap
  match fs, ho, hr, hn, ha with
  | [], _, hr, _, _ => simp [Dsk.get] at hr
  | [p], ho, hr, hn, _ =>
    rcases ho p (by simp) with e | e
    · simp [e]
    · simp [Dsk.get, e] at hn
  | p :: q :: r, ho, hr, hn, ha =>
    have hp : p.1 = nmR := by
      rcases ho p (by simp) with e | e
      · exact e
      · simp [Dsk.get, e] at hn
    have hq : q.1 = nmR := by
      rcases ho q (by simp) with e | e
      · exact e
      · have e2 : ((p :: q :: r).find? fun x => x.1 == nmA).isSome = true := by
          rw [List.find?_isSome]; exact ⟨q, by simp, by simp [e]⟩
        unfold Dsk.get at hn
        rw [Option.map_eq_none_iff] at hn
        rw [hn] at e2; cases e2
    have := (List.pairwise_cons.1 ha).1 q (by simp)
    exact absurd (hp.trans hq.symm) this
/-- With the logs that may be: at most eight. -/
def cut8 (r : Root) : Root := ⟨r.gen, r.logs.take 8, r.idx⟩
end Rt
theorem encL_one {ss : List (List UInt8)} {s : List UInt8} (h : ss.Perm [s]) : ss.length = 1 ∧ (encL ss)[0]? = some (.string (str s)) := by
  obtain rfl := List.perm_singleton.1 h
  exact ⟨rfl, by unfold encL; rw [List.mergeSort_singleton]; rfl⟩
theorem own_take {w : World} {base e size : Nat} {a : Option Addr} {n c : Nat} {xs : List Value} (h : w.ownsRow base e size (.slice a n c) n xs) {m : Nat} (hm : m ≤ n) : w.ownsRow base e size (.slice a m c) m (xs.take (m * size)) := by
  obtain ⟨h1, h2⟩ := h
  have hle : m * size ≤ n * size := Nat.mul_le_mul_right _ hm
  refine ⟨by rw [List.length_take, h1]; omega, ?_⟩
  rcases h2 with ⟨h2, h3⟩ | ⟨g, cap, cur, h2, h3, h4, h5, h6, h7, h8⟩
  · obtain rfl : m = 0 := by omega
    subst h3
    exact .inl ⟨h2, rfl⟩
  · simp only [Value.slice.injEq] at h2
    obtain ⟨rfl, _, rfl⟩ := h2
    refine .inr ⟨g, c, cur, rfl, h3, h4, by omega, h6, h7, ?_⟩
    rw [← h8, List.take_take, Nat.min_eq_left hle]
/-- A root's variable whose logs are cut. -/
theorem RootAt.cut {X : World} {lo b : Nat} {T : TypeId} {r : Rt.Root} {a : Option Addr} {n c : Nat} (q1 : X.heap[b]? = some (.cells #[.int .i64 r.gen, .slice a n c, .int .i64 r.idx] T (0, 0))) (q2 : X.ownsRow lo 3 1 (.slice a n c) n (iv r.logs)) (hT : T ≠ 3) (hlo : lo ≤ b) {m : Nat} (hm : m = min n 8) :
    RootAt (X.setCell ⟨b, 1, none⟩ (.slice a m c)) lo b T (Rt.cut8 r) := by
  have hl : r.logs.length = n := by have := q2.1; rw [iv_len] at this; omega
  refine ⟨a, m, c, heap_setCell_same X b 1 _ _ _ q1, ?_, by omega, hlo⟩
  have h3 := own_set (own_take q2 (m := m) (by omega)) q1 hT ((TStay.refl (fun j => j = b) X).setCell (p := ⟨b, 1, none⟩) (.inl rfl) (.slice a m c))
  have e : (iv r.logs).take (m * 1) = iv (r.logs.take 8) := by
    unfold iv
    rw [← List.map_take, Nat.mul_one, hm, ← hl]
    congr 1
    rcases Nat.le_total r.logs.length 8 with h | h
    · rw [Nat.min_eq_left h, List.take_length, List.take_of_length_le h]
    · rw [Nat.min_eq_right h]
  rw [e] at h3
  exact h3
theorem IsDk.low {w : World} {lo lo' B : Nat} {d : Dsk.Dk} (h : IsDk w lo B d) (hl : lo' ≤ lo) : IsDk w lo' B d := by
  obtain ⟨bd, bn, pv, q1, q2⟩ := h
  obtain ⟨ps, e1, e2, e3⟩ := q1.pend
  exact ⟨bd, bn, pv, ⟨q1.blk, ⟨by have := q1.bnd.1; omega, by have := q1.bnd.2.1; omega, by have := q1.bnd.2.2; omega⟩, q1.ne, q1.done, q1.now, ⟨ps, e1, e2, ownsRow_base e3 hl⟩⟩, q2⟩
/-- A root's variable, with where its logs lie. -/
def RV (X : World) (lo b : Nat) (r : Rt.Root) (a : Option Addr) (n c : Nat) : Prop :=
  X.heap[b]? = some (.cells #[.int .i64 r.gen, .slice a n c, .int .i64 r.idx] 67 (0, 0)) ∧ X.ownsRow lo 3 1 (.slice a n c) n (iv r.logs)
theorem RV.below {X Y : World} {lo b : Nat} {r : Rt.Root} {a : Option Addr} {n c : Nat} (h : RV X lo b r a n c) (hb : Below X.heap.size X Y) : RV Y lo b r a n c := ⟨(hb.block b (blk_lt h.1)).trans h.1, own_blw h.2 hb⟩
theorem RV.keep {X Y : World} {lo b : Nat} {r : Rt.Root} {a : Option Addr} {n c : Nat} (h : RV X lo b r a n c) (hk : KeepT X Y) : RV Y lo b r a n c := ⟨(hk b _ _ _ h.1 (by decide) (by decide)).trans h.1, rown_nd h.2 hk (by decide) (by decide)⟩
theorem RV.ints {X : World} {lo b : Nat} {r : Rt.Root} {a : Option Addr} {n c : Nat} (h : RV X lo b r a n c) : Ints X a n c r.logs := Ints.of_own h.2
theorem RV.cells {X : World} {lo b : Nat} {r : Rt.Root} {a : Option Addr} {n c : Nat} (h : RV X lo b r a n c) : X.cell? ⟨b, 0, none⟩ = some (.int .i64 r.gen) ∧ X.cell? ⟨b, 1, none⟩ = some (.slice a n c) ∧ X.cell? ⟨b, 2, none⟩ = some (.int .i64 r.idx) :=
  ⟨blk_cell (i := 0) h.1 rfl, blk_cell (i := 1) h.1 rfl, blk_cell (i := 2) h.1 rfl⟩
theorem RootAt.rv {X : World} {lo b : Nat} {r : Rt.Root} {a : Option Addr} {n c : Nat} {g i : Value} {fr : Nat × Nat} (h : RootAt X lo b 67 r) (hT : X.heap[b]? = some (.cells #[g, .slice a n c, i] 67 fr)) : RV X lo b r a n c := by
  obtain ⟨a', n', c', q1, q2, _⟩ := h
  have q3 := q1
  rw [hT] at q3
  simp only [Option.some.injEq, Obj.cells.injEq, Array.mk.injEq, List.cons.injEq, Value.slice.injEq, and_true, true_and] at q3
  obtain ⟨⟨_, ⟨rfl, rfl, rfl⟩, _⟩, _⟩ := q3
  exact ⟨q1, q2⟩
set_option maxHeartbeats 16000000 in
set_option maxRecDepth 100000 in
theorem rootLeft_walk (w : World) (hg : EType w) (x0 : RawD) (g0 : ArgR 140737488351232 w x0) (x1 : RawD) (g1 : ArgR 140737488351232 w x1) (s2 : Option Addr) (n2 c2 : Nat) (l2 : List UInt8) (g2 : ArgB 140737488351232 w s2 n2 c2 l2)
    (a3 : Int) (b3 : -9223372036854775808 ≤ a3 ∧ a3 ≤ 9223372036854775807) (a4 : Int) (b4 : -9223372036854775808 ≤ a4 ∧ a4 ≤ 9223372036854775807) (a5 : Int) (b5 : -9223372036854775808 ≤ a5 ∧ a5 ≤ 9223372036854775807) :
    Calls Tryz.prog 8 #[.agg x0.cells.toArray, .agg x1.cells.toArray, .slice s2 n2 c2, .int .i64 a3, .int .i64 a4, .int .i64 a5] w fun e w' => e = .returned (.bool true) ∧ Below w.heap.size w w' := by
  obtain ⟨rg, ri, rh, ⟨ra, rn, rc, rl⟩⟩ := x0
  obtain ⟨yg, yi, yh, ⟨ya, yn, yc, yl⟩⟩ := x1
  have le2 := g2.le
  have z2 := g2.none
  have m2 := g2.cap
  have R2 := Lib.hid g2.rds
  have G0 := Lib.hid g0
  have G1 := Lib.hid g1
  have HG := Lib.hid hg
  obtain ⟨b3a, b3b⟩ := b3
  clear hg g0 g1 g2 b4 b5
  show Calls _ _ #[.agg #[.int .i64 rg, .int .i64 ri, .int .i64 rh, .slice ra rn rc], .agg #[.int .i64 yg, .int .i64 yi, .int .i64 yh, .slice ya yn yc], .slice s2 n2 c2, .int .i64 a3, .int .i64 a4, .int .i64 a5] _ _
  obtain ⟨W1, hW1⟩ : ∃ W1, W1 = (w.alloc (.cells #[.int .i64 rg, .int .i64 ri, .int .i64 rh, .slice ra rn rc] 60)).alloc (.cells #[.int .i64 yg, .int .i64 yi, .int .i64 yh, .slice ya yn yc] 60) := ⟨_, rfl⟩
  have hB1 : Below w.heap.size w W1 := by rw [hW1]; exact ((Below.refl _ _).alloc (Nat.le_refl _) _).alloc (by simp) _
  have hX1 : W1.heap[w.heap.size]? = some (.cells #[.int .i64 rg, .int .i64 ri, .int .i64 rh, .slice ra rn rc] 60 (0, 0)) := by
    rw [hW1, (MapKept.heap_alloc _ _).2 _ (by simp)]; exact heap_alloc_new _ _
  have hY1 : W1.heap[w.heap.size + 1]? = some (.cells #[.int .i64 yg, .int .i64 yi, .int .i64 yh, .slice ya yn yc] 60 (0, 0)) := by
    rw [hW1, show w.heap.size + 1 = (w.alloc (.cells #[.int .i64 rg, .int .i64 ri, .int .i64 rh, .slice ra rn rc] 60)).heap.size by simp]; exact heap_alloc_new _ _
  have HB1 := Lib.hid hB1
  have HX1 := Lib.hid hX1
  have HY1 := Lib.hid hY1
  have HW1 := Lib.hid hW1
  clear hB1 hX1 hY1 hW1
  go_enter Tryz.func8, Tryz.ntmps8
  go_wp2_with fail
  rw [← HW1.out]
  refine (newBigL W1).mono ?_
  rintro e w2 ⟨B, rfl, h2, hb2⟩
  have bw2 := HB1.out.trans (hb2.mono HB1.out.size)
  have hkn := known8 w2 (HG.out.below bw2 HG.out.pos)
  have H2 := Lib.hid h2
  have HB2 := Lib.hid hb2
  clear h2 hb2 bw2
  go_wp2_with fail
  refine hkn.mono ?_
  clear hkn
  rintro e w3 ⟨rfl, hb3⟩
  have hb13 := HB2.out.trans (hb3.mono HB2.out.size)
  have bw3 := HB1.out.trans (hb13.mono HB1.out.size)
  have hX3 := (hb13.block _ (blk_lt HX1.out)).trans HX1.out
  have hY3 := (hb13.block _ (blk_lt HY1.out)).trans HY1.out
  obtain ⟨xb, hxb⟩ : ∃ xb, xb = w.heap.size := ⟨_, rfl⟩
  obtain ⟨yb, hyb⟩ : ∃ yb, yb = w.heap.size + 1 := ⟨_, rfl⟩
  rw [← hxb] at hX3
  rw [← hyb] at hY3
  have H3 := Lib.hid ((H2.out.low HB1.out.size).below hb3)
  have B3 := Lib.hid bw3
  have X3 := Lib.hid hX3
  have Y3 := Lib.hid hY3
  have hone : Calls Tryz.prog 32 #[.agg #[.int .i64 rg, .int .i64 ri, .int .i64 rh, .slice ra rn rc]] w3 _ := rone_any w3 140737488351232 ⟨rg, ri, rh, ⟨ra, rn, rc, rl⟩⟩ (argR_below G0.out bw3)
  obtain ⟨r, hr⟩ : ∃ r, r = oneR ⟨rg, ri, rh, ⟨ra, rn, rc, rl⟩⟩ := ⟨_, rfl⟩
  rw [← hr] at hone
  have c0 : w3.cell? ⟨xb, 0, none⟩ = some (.int .i64 rg) := blk_cell (i := 0) hX3 rfl
  have c1 : w3.cell? ⟨xb, 1, none⟩ = some (.int .i64 ri) := blk_cell (i := 1) hX3 rfl
  have c2' : w3.cell? ⟨xb, 2, none⟩ = some (.int .i64 rh) := blk_cell (i := 2) hX3 rfl
  have c3 : w3.cell? ⟨xb, 3, none⟩ = some (.slice ra rn rc) := blk_cell (i := 3) hX3 rfl
  have HXB := Lib.hid hxb
  have HYB := Lib.hid hyb
  clear hr hb3 hb13 bw3 hX3 hY3 H2 HB2 HX1 HY1 HB1 HW1 hxb hyb
  rw [← HYB.out, ← HXB.out]
  go_wp2_with fail
  refine hone.mono ?_
  clear hone c0 c1 c2' c3
  rintro e w4 ⟨qa, qn, qc, rfl, ho4, hb4, hq4⟩
  obtain ⟨ab, hab⟩ : ∃ ab, ab = w4.heap.size := ⟨_, rfl⟩
  obtain ⟨W5, hW5⟩ : ∃ W5, W5 = w4.alloc (.cells #[.int .i64 r.gen, .slice qa qn qc, .int .i64 r.idx] 67) := ⟨_, rfl⟩
  have hb5 : Below w4.heap.size w4 W5 := by rw [hW5]; exact (Below.refl _ _).alloc (Nat.le_refl _) _
  have hT5 : W5.heap[ab]? = some (.cells #[.int .i64 r.gen, .slice qa qn qc, .int .i64 r.idx] 67 (0, 0)) := by rw [hW5, hab]; exact heap_alloc_new _ _
  have hO5 := own_blw (ownsRow_base ho4 B3.out.size) hb5
  have hb35 := hb4.trans (hb5.mono hb4.size)
  have bw5 := B3.out.trans (hb35.mono B3.out.size)
  have hlab : w.heap.size ≤ ab := by rw [hab]; have := hb4.size; have := B3.out.size; omega
  have H5 := Lib.hid (H3.out.below hb35)
  have Y5 := Lib.hid ((hb35.block yb (blk_lt Y3.out)).trans Y3.out)
  have B5 := Lib.hid bw5
  have T5 := Lib.hid hT5
  have O5 := Lib.hid hO5
  have hone : Calls Tryz.prog 32 #[.agg #[.int .i64 yg, .int .i64 yi, .int .i64 yh, .slice ya yn yc]] W5 _ := rone_any W5 140737488351232 ⟨yg, yi, yh, ⟨ya, yn, yc, yl⟩⟩ (argR_below G1.out bw5)
  obtain ⟨s, hs⟩ : ∃ s, s = oneR ⟨yg, yi, yh, ⟨ya, yn, yc, yl⟩⟩ := ⟨_, rfl⟩
  rw [← hs] at hone
  have c0 : W5.cell? ⟨yb, 0, none⟩ = some (.int .i64 yg) := blk_cell (i := 0) Y5.out rfl
  have c1 : W5.cell? ⟨yb, 1, none⟩ = some (.int .i64 yi) := blk_cell (i := 1) Y5.out rfl
  have c2' : W5.cell? ⟨yb, 2, none⟩ = some (.int .i64 yh) := blk_cell (i := 2) Y5.out rfl
  have c3 : W5.cell? ⟨yb, 3, none⟩ = some (.slice ya yn yc) := blk_cell (i := 3) Y5.out rfl
  have HW5 := Lib.hid hW5
  have HAB := Lib.hid hab
  have HLAB := Lib.hid hlab
  have HB5 := Lib.hid hb5
  have hY4 := Lib.hid ((hb4.block yb (blk_lt Y3.out)).trans Y3.out)
  have d0 : w4.cell? ⟨yb, 0, none⟩ = some (.int .i64 yg) := blk_cell (i := 0) hY4.out rfl
  have d1 : w4.cell? ⟨yb, 1, none⟩ = some (.int .i64 yi) := blk_cell (i := 1) hY4.out rfl
  have d2 : w4.cell? ⟨yb, 2, none⟩ = some (.int .i64 yh) := blk_cell (i := 2) hY4.out rfl
  have d3 : w4.cell? ⟨yb, 3, none⟩ = some (.slice ya yn yc) := blk_cell (i := 3) hY4.out rfl
  have hlty : yb < w4.heap.size := blk_lt hY4.out
  clear hs ho4 hb4 hb5 hT5 hO5 hb35 bw5 hlab H3 B3 X3 Y3 hW5 hab
  go_wp2_with fail
  rw [← HW5.out, ← HAB.out]
  refine hone.mono ?_
  clear hone c0 c1 c2' c3 d0 d1 d2 d3
  rintro e w6 ⟨pa, pn, pc, rfl, ho6, hb6, hq6⟩
  obtain ⟨bb, hbb⟩ : ∃ bb, bb = w6.heap.size := ⟨_, rfl⟩
  obtain ⟨W7, hW7⟩ : ∃ W7, W7 = w6.alloc (.cells #[.int .i64 s.gen, .slice pa pn pc, .int .i64 s.idx] 67) := ⟨_, rfl⟩
  have hb7 : Below w6.heap.size w6 W7 := by rw [hW7]; exact (Below.refl _ _).alloc (Nat.le_refl _) _
  have hT7 : W7.heap[bb]? = some (.cells #[.int .i64 s.gen, .slice pa pn pc, .int .i64 s.idx] 67 (0, 0)) := by rw [hW7, hbb]; exact heap_alloc_new _ _
  have hO7 := own_blw (ownsRow_base ho6 B5.out.size) hb7
  have hb57 := hb6.trans (hb7.mono hb6.size)
  have bw7 := B5.out.trans (hb57.mono B5.out.size)
  have hlbb : w.heap.size ≤ bb := by rw [hbb]; have := hb6.size; have := B5.out.size; omega
  have hne : ab ≠ bb := by have := blk_lt T5.out; have := hb6.size; omega
  have H7 := Lib.hid (H5.out.below hb57)
  have T7a := Lib.hid ((hb57.block ab (blk_lt T5.out)).trans T5.out)
  have O7a := Lib.hid (own_blw O5.out hb57)
  have T7b := Lib.hid hT7
  have O7b := Lib.hid hO7
  have B7 := Lib.hid bw7
  have HNE := Lib.hid hne
  have HLBB := Lib.hid hlbb
  have HW7 := Lib.hid hW7
  have HBB := Lib.hid hbb
  have T6a := Lib.hid ((hb6.block ab (blk_lt T5.out)).trans T5.out)
  clear ho6 hb6 hb7 hT7 hO7 hb57 bw7 hlbb hne hW7 hbb H5 T5 O5 Y5 B5 HW5 HAB HB5 hY4 hlty
  obtain ⟨m, hm⟩ : ∃ m, m = min qn 8 := ⟨_, rfl⟩
  have hmin : min (qn : Int) 8 = (m : Int) := by omega
  obtain ⟨k, hk⟩ : ∃ k, k = min pn 8 := ⟨_, rfl⟩
  have hmin2 : min (pn : Int) 8 = (k : Int) := by omega
  have hmq : m ≤ qn := by omega
  have hkp : k ≤ pn := by omega
  have hm8 : m ≤ 8 := by omega
  have hk8 : k ≤ 8 := by omega
  have hqc : qn ≤ qc := by obtain ⟨_, _, e, h, _⟩ := ownsRow_slice O7a.out; simp only [Value.slice.injEq] at e; obtain ⟨_, _, rfl⟩ := e; exact h
  have hpc : pn ≤ pc := by obtain ⟨_, _, e, h, _⟩ := ownsRow_slice O7b.out; simp only [Value.slice.injEq] at e; obtain ⟨_, _, rfl⟩ := e; exact h
  have HMM := Lib.hid hm
  have HKK := Lib.hid hk
  clear hm hk
  go_upto_region 6 with (fail)
  rw [← HW7.out, ← HBB.out]
  have a0 : W7.cell? ⟨ab, 0, none⟩ = some (.int .i64 r.gen) := blk_cell (i := 0) T7a.out rfl
  have a1 : W7.cell? ⟨ab, 1, none⟩ = some (.slice qa qn qc) := blk_cell (i := 1) T7a.out rfl
  have a2 : W7.cell? ⟨ab, 2, none⟩ = some (.int .i64 r.idx) := blk_cell (i := 2) T7a.out rfl
  have f1 := blk_free T7a.out 1
  have b0 : W7.cell? ⟨bb, 0, none⟩ = some (.int .i64 s.gen) := blk_cell (i := 0) T7b.out rfl
  have b1 : W7.cell? ⟨bb, 1, none⟩ = some (.slice pa pn pc) := blk_cell (i := 1) T7b.out rfl
  have b2 : W7.cell? ⟨bb, 2, none⟩ = some (.int .i64 s.idx) := blk_cell (i := 2) T7b.out rfl
  have g1' := blk_free T7b.out 1
  obtain ⟨V1, hV1⟩ : ∃ V1, V1 = W7.setCell ⟨ab, 1, none⟩ (.slice qa m qc) := ⟨_, rfl⟩
  obtain ⟨W8, hW8⟩ : ∃ W8, W8 = V1.setCell ⟨bb, 1, none⟩ (.slice pa k pc) := ⟨_, rfl⟩
  have stA : TStay (fun j => j = ab) W7 V1 := by rw [hV1]; exact (TStay.refl (fun j => j = ab) W7).setCell (p := ⟨ab, 1, none⟩) (.inl rfl) _
  have stB : TStay (fun j => j = bb) V1 W8 := by rw [hW8]; exact (TStay.refl (fun j => j = bb) V1).setCell (p := ⟨bb, 1, none⟩) (.inl rfl) _
  have TV1a : V1.heap[ab]? = some (.cells #[.int .i64 r.gen, .slice qa m qc, .int .i64 r.idx] 67 (0, 0)) := by rw [hV1]; exact heap_setCell_same W7 ab 1 _ _ _ T7a.out
  have TV1b := (stA.block bb (blk_lt T7b.out) (fun e => HNE.out e.symm)).trans T7b.out
  have T8a := (stB.block ab (blk_lt TV1a) HNE.out).trans TV1a
  have T8b : W8.heap[bb]? = some (.cells #[.int .i64 s.gen, .slice pa k pc, .int .i64 s.idx] 67 (0, 0)) := by rw [hW8]; exact heap_setCell_same V1 bb 1 _ _ _ TV1b
  have R1a : RootAt V1 w.heap.size ab 67 (Rt.cut8 r) := by rw [hV1]; exact RootAt.cut T7a.out O7a.out (by decide) HLAB.out HMM.out
  have R8a := R1a.set TV1b (by decide) HNE.out stB
  have O1b := own_set O7b.out T7a.out (by decide) stA
  have R8b : RootAt W8 w.heap.size bb 67 (Rt.cut8 s) := by rw [hW8]; exact RootAt.cut TV1b O1b (by decide) HLBB.out HKK.out
  have D8 := isDk_set (isDk_set H7.out T7a.out (by decide) (by decide) (by decide) stA) TV1b (by decide) (by decide) (by decide) stB
  have B8 : Below w.heap.size w W8 := by rw [hW8, hV1]; exact (B7.out.setCell HLAB.out _).setCell HLBB.out _
  have v0 : V1.cell? ⟨bb, 1, none⟩ = some (.slice pa pn pc) := blk_cell (i := 1) TV1b rfl
  have v1 := blk_free TV1b 1
  have u0 : W8.cell? ⟨ab, 0, none⟩ = some (.int .i64 r.gen) := blk_cell (i := 0) T8a rfl
  have u1 : W8.cell? ⟨ab, 1, none⟩ = some (.slice qa m qc) := blk_cell (i := 1) T8a rfl
  have u2 : W8.cell? ⟨ab, 2, none⟩ = some (.int .i64 r.idx) := blk_cell (i := 2) T8a rfl
  rw [hV1] at v0 v1
  rw [hW8, hV1] at u0 u1 u2
  have HW8 : Hid (W8 = (W7.setCell ⟨ab, 1, none⟩ (.slice qa m qc)).setCell ⟨bb, 1, none⟩ (.slice pa k pc)) := Lib.hid (by rw [hW8, hV1])
  have T8a := Lib.hid T8a
  have T8b := Lib.hid T8b
  have R8a := Lib.hid R8a
  have R8b := Lib.hid R8b
  have D8 := Lib.hid D8
  have B8 := Lib.hid B8
  clear stA stB TV1a TV1b R1a O1b H7 T7a T7b O7a O7b B7 hV1 hW8 HMM HKK T6a
  go_wp2_with fail
  rw [← HW8.out]
  have RA8 := Lib.hid (R8a.out.rv T8a.out)
  have RB8 := Lib.hid (R8b.out.rv T8b.out)
  clear a0 a1 a2 f1 b0 b1 b2 g1' v0 v1 u0 u1 u2 T8a T8b R8a R8b HW8 HW7 HBB HNE HLBB HLAB hmin hmin2 hmq hkp hqc hpc
  obtain ⟨p, hp⟩ : ∃ p, p = Rt.cut8 r := ⟨_, rfl⟩
  obtain ⟨q, hq⟩ : ∃ q, q = Rt.cut8 s := ⟨_, rfl⟩
  have e1 : r.gen = p.gen := by rw [hp]; rfl
  have e2 : r.idx = p.idx := by rw [hp]; rfl
  have e3 : s.gen = q.gen := by rw [hq]; rfl
  have e4 : s.idx = q.idx := by rw [hq]; rfl
  rw [← hp] at RA8
  rw [← hq] at RB8
  rw [e1, e2]
  try rw [e3, e4]
  clear e1 e2 e3 e4 hp hq
  have hly := rtLay_any W8 p qa m qc RA8.out.ints (by omega)
  refine hly.mono ?_
  clear hly
  rintro e w9 ⟨hb9, hla⟩
  by_cases hm1 : Rt.may p = true
  rotate_left
  · rw [if_neg hm1] at hla
    subst hla
    have bE := B8.out.trans (hb9.mono B8.out.size)
    clear hb9 hm1
    go_wp2
    go_ret
    exact ⟨rfl, bE⟩
  rw [if_pos hm1] at hla
  obtain ⟨v9, rfl, _⟩ := hla
  have HM1 := Lib.hid hm1
  have RA9 := Lib.hid (RA8.out.below hb9)
  have RB9 := Lib.hid (RB8.out.below hb9)
  have D9 := Lib.hid (D8.out.below hb9)
  have B9 := Lib.hid (B8.out.trans (hb9.mono B8.out.size))
  obtain ⟨k0, k1, k2⟩ := RB9.out.cells
  have hly := rtLay_any w9 q pa k pc RB9.out.ints (by omega)
  clear hm1 hb9 RA8 RB8 D8 B8
  go_wp2_with fail
  refine hly.mono ?_
  clear hly k0 k1 k2
  rintro e w10 ⟨hb10, hla⟩
  by_cases hm2 : Rt.may q = true
  rotate_left
  · rw [if_neg hm2] at hla
    subst hla
    have bE := B9.out.trans (hb10.mono B9.out.size)
    clear hb10 hm2
    go_wp2
    go_ret
    exact ⟨rfl, bE⟩
  rw [if_pos hm2] at hla
  obtain ⟨v10, rfl, _⟩ := hla
  have HM2 := Lib.hid hm2
  have RA10 := Lib.hid (RA9.out.below hb10)
  have RB10 := Lib.hid (RB9.out.below hb10)
  have D10 := Lib.hid (D9.out.below hb10)
  have B10 := Lib.hid (B9.out.trans (hb10.mono B9.out.size))
  obtain ⟨k0, k1, k2⟩ := RA10.out.cells
  have hsv := rtSave_any w10 w.heap.size B _ D10.out rfl (by decide) p qa m qc RA10.out.ints (by omega)
  have lp := Rt.lay_length p HM1.out
  have lq := Rt.lay_length q HM2.out
  obtain ⟨s1, i1, n1, o1⟩ := Rt.save_off Rt.inv_new (by show 0 ≤ _; omega) (Rt.off_new _) (Rt.lay p) (by omega)
  have wk1 := Rt.wk_saveB (Dsk.newD 100000) (Rt.lay p)
  have wk0 : (Dsk.newD 100000).works = 0 := rfl
  obtain ⟨d1, hd1⟩ : ∃ d1, d1 = (Rt.saveB (Dsk.newD 100000) (Rt.lay p)).1 := ⟨_, rfl⟩
  rw [← hd1] at i1 n1 o1 wk1
  have S1 := Lib.hid s1
  have I1 := Lib.hid i1
  have N1 := Lib.hid n1
  have O1 := Lib.hid o1
  have WK1 : Hid (d1.works ≤ 5) := Lib.hid (by omega)
  have HD1 := Lib.hid hd1
  have HLP := Lib.hid lp
  have HLQ := Lib.hid lq
  clear hm2 hb10 RA9 RB9 D9 B9 s1 i1 n1 o1 wk1 wk0 hd1 lp lq
  go_wp2_with fail
  refine hsv.mono ?_
  clear hsv k0 k1 k2
  intro e y1 hq
  unfold RtSaveAft at hq
  rw [if_pos HM1.out, if_pos S1.out, ← HD1.out] at hq
  obtain ⟨h1, hb1, hk1, rfl⟩ := hq
  have D1 := Lib.hid h1
  have RB1 := Lib.hid (RB10.out.keep hk1)
  have B1 := Lib.hid (B10.out.trans hb1)
  have hr2 : Rds y1 s2 n2 l2 := R2.out.below B1.out (fun h0 b o e => by subst e; exact R2.out.lt h0)
  have hfw := few_wide y1 s2 n2 c2 100 l2 hr2 le2 z2 (by omega) (by omega) (by omega)
  obtain ⟨lf, hlf⟩ : ∃ lf, lf = l2.take (100 : Int).toNat := ⟨_, rfl⟩
  have hlf1 : lf.length ≤ 100 := by rw [hlf, List.length_take]; show min 100 _ ≤ _; omega
  rw [← hlf] at hfw
  clear h1 hb1 hk1 hr2 hlf RA10 RB10 D10 B10 S1 HD1
  go_wp2_with fail
  refine hfw.mono ?_
  clear hfw
  rintro e y2 ⟨a2', c2', rfl, ho2, hb2⟩
  obtain ⟨nf, hnf⟩ : ∃ nf, nf = lf.length := ⟨_, rfl⟩
  rw [← hnf] at ho2 hlf1 ⊢
  have hrf : Rds y2 a2' nf lf := Rds.of_own (by rw [← hnf]; exact ho2) hnf.symm
  obtain ⟨_, _, hsl, _, _, hzf, _⟩ := ownsRow_slice ho2
  simp only [Value.slice.injEq] at hsl
  obtain ⟨rfl, _, rfl⟩ := hsl
  obtain ⟨d2, kk, hap⟩ : ∃ d2 kk, d1.append Rt.nmA lf = (d2, kk) := ⟨_, _, rfl⟩
  have wk2 := Dsk.wk_append d1 Rt.nmA lf
  rw [hap] at wk2
  have hac := append_is y2 w.heap.size B d1 d2 kk (D1.out.below hb2) (by have := WK1.out; omega) Rt.nmA Rt.goodA a2' nf c2' lf hrf hzf (by omega) hap
  have RB2 := Lib.hid (RB1.out.below hb2)
  have B2 := Lib.hid (B1.out.trans (hb2.mono B1.out.size))
  have WK2 : Hid (d2.works ≤ 6) := Lib.hid (by have := WK1.out; simp only at wk2; omega)
  have HAP := Lib.hid hap
  have HNF := Lib.hid hnf
  clear ho2 hb2 hrf hzf wk2 hap hnf D1 RB1 B1 WK1
  go_wp2_with fail
  refine hac.mono ?_
  clear hac
  rintro e y3 ⟨rfl, h3, hb3, hk3⟩
  have hpk := pick_any y3 a3 6 b3a b3b (by omega) (by omega)
  obtain ⟨pn, hpn⟩ : ∃ pn, pn = a3 % 6 := ⟨_, rfl⟩
  rw [← hpn] at hpk
  have hpn0 : 0 ≤ pn ∧ pn ≤ 9223372036854775807 := by rw [hpn]; have h1 := Int.emod_nonneg a3 (show (6 : Int) ≠ 0 by omega); have h2 := Int.emod_lt_of_pos a3 (show (0 : Int) < 6 by omega); omega
  have hfu := fuse_any y3 _ B d2 h3 pn hpn0.2
  rw [if_neg (by omega)] at hfu
  have RB3 := Lib.hid (RB2.out.keep hk3)
  have B3 := Lib.hid (B2.out.trans hb3)
  clear h3 hb3 hk3 hpn hpn0 RB2 B2
  go_wp2_with fail
  refine hpk.mono ?_
  clear hpk
  rintro e w' ⟨rfl, rfl⟩
  go_wp2_with fail
  refine hfu.mono ?_
  clear hfu
  rintro e y4 ⟨rfl, h4, hb4, hk4⟩
  have D4 := Lib.hid h4
  have RB4 := Lib.hid (RB3.out.keep hk4)
  have B4 := Lib.hid (B3.out.trans hb4)
  have hdd : ({ d2 with fuse := pn } : Dsk.Dk).dead = false := by
    have := (Rt.Off.append O1.out Rt.nmA lf).2
    rw [HAP.out] at this
    exact this
  have hsl := Rt.save_left I1.out (by have := HLP.out; show (Rt.lay p).length ≤ 200; omega) O1.out N1.out lf (Rt.lay q) (by have := HNF.out; omega) (by have := HLQ.out; omega) pn a4 a5
  rw [HAP.out] at hsl
  simp only at hsl
  obtain ⟨d3, hd3⟩ : ∃ d3, d3 = ({ d2 with fuse := pn } : Dsk.Dk) := ⟨_, rfl⟩
  rw [← hd3] at hsl hdd D4
  have hwk3 : d3.works ≤ 6 := by rw [hd3]; exact WK2.out
  obtain ⟨k0, k1, k2⟩ := RB4.out.cells
  have hsv := rtSave_any y4 w.heap.size B d3 D4.out hdd (by omega) q pa k pc RB4.out.ints (by omega)
  have wk4 := Rt.wk_saveB d3 (Rt.lay q)
  obtain ⟨d4, hd4⟩ : ∃ d4, d4 = (Rt.saveB d3 (Rt.lay q)).1 := ⟨_, rfl⟩
  rw [← hd4] at hsl wk4
  have HSL := Lib.hid hsl
  have HD4 := Lib.hid hd4
  have WK4 : Hid (d4.works ≤ 11) := Lib.hid (by omega)
  clear h4 hb4 hk4 hd3 hdd hsl hd4 wk4 hwk3 RB3 B3 I1 N1 O1 HAP HNF WK2 HLP
  go_wp2_with fail
  refine hsv.mono ?_
  clear hsv k0 k1 k2
  intro e y5 hq
  obtain ⟨h5, hb5, hk5, ev, ok, rfl, _, _⟩ := save_ev hq HM2.out
  rw [← HD4.out] at h5
  have hcr := crash_any y5 _ B d4 h5 a4 a5
  have RB5 := Lib.hid (RB4.out.keep hk5)
  have B5 := Lib.hid (B4.out.trans hb5)
  clear hq h5 hb5 hk5 RB4 B4 D4 HD4
  go_wp2_with fail
  refine hcr.mono ?_
  clear hcr
  rintro e y6 ⟨rfl, h6, hb6, hk6⟩
  have RB6 := Lib.hid (RB5.out.keep hk6)
  have B6 := Lib.hid (B5.out.trans hb6)
  have ho5 := Rt.off_crash d4 a4 a5
  have hwk5 : (d4.crash a4 a5).works ≤ 11 := WK4.out
  obtain ⟨d5, hd5⟩ : ∃ d5, d5 = d4.crash a4 a5 := ⟨_, rfl⟩
  have hsl := HSL.out
  rw [← hd5] at hsl h6 ho5 hwk5
  have hlq := HLQ.out
  have hfin : (Rt.saveB d5 (Rt.lay q)).2 = 0 ∧ Rt.Inv (Rt.saveB d5 (Rt.lay q)).1 (some (Rt.lay q)) ∧ Dsk.get (Rt.saveB d5 (Rt.lay q)).1.now Rt.nmA = none ∧ Rt.Off (Rt.saveB d5 (Rt.lay q)).1 := by
    rcases hsl with h | h
    · exact Rt.save_off h (Rt.Now.ol (nw := p) (.inr ⟨HM1.out, rfl⟩)) ho5 (Rt.lay q) (by omega)
    · exact Rt.save_off h (Rt.Now.ol (nw := q) (.inr ⟨HM2.out, rfl⟩)) ho5 (Rt.lay q) (by omega)
  obtain ⟨k0, k1, k2⟩ := RB6.out.cells
  have hsv := rtSave_any y6 w.heap.size B d5 h6 ho5.2 (by omega) q pa k pc RB6.out.ints (by omega)
  obtain ⟨d6, hd6⟩ : ∃ d6, d6 = (Rt.saveB d5 (Rt.lay q)).1 := ⟨_, rfl⟩
  have HF1 := Lib.hid hfin.1
  have hf2 := hfin.2
  rw [← hd6] at hf2
  have HF2 := Lib.hid hf2
  have HD6 := Lib.hid hd6
  clear h6 hb6 hk6 RB5 B5 ho5 hwk5 hd5 hsl hlq hfin hf2 hd6 HSL WK4 HLQ HM1
  go_wp2_with fail
  refine hsv.mono ?_
  clear hsv k0 k1 k2
  intro e y7 hq
  unfold RtSaveAft at hq
  rw [if_pos HM2.out, if_pos HF1.out, ← HD6.out] at hq
  obtain ⟨h7, hb7, hk7, rfl⟩ := hq
  have D7 := Lib.hid h7
  have RB7 := Lib.hid (RB6.out.keep hk7)
  have B7 := Lib.hid (B6.out.trans hb7)
  have hnow : Rt.Now d6 q := ⟨_, HF2.out.1, .inr ⟨HM2.out, rfl⟩⟩
  have hld := load_any y7 w.heap.size B d6 D7.out hnow.dead (by have := hnow.val; omega)
  have HNW := Lib.hid hnow
  clear h7 hb7 hk7 RB6 B6 hnow HF1 HD6
  go_wp2_with fail
  refine hld.mono ?_
  clear hld
  intro e y8 hq
  obtain ⟨hb8, hq⟩ := now_load HNW.out hq
  rcases hq with ⟨hg, _⟩ | ⟨_, ta, tn, tc, rfl, ho8, hn8⟩
  · exact absurd hg (Rt.may_gen HM2.out)
  obtain ⟨sb, hsb⟩ : ∃ sb, sb = y8.heap.size := ⟨_, rfl⟩
  obtain ⟨Y9, hY9⟩ : ∃ Y9, Y9 = y8.alloc (.cells #[.int .i64 q.gen, .slice ta tn tc, .int .i64 q.idx] 67) := ⟨_, rfl⟩
  have hb9 : Below y8.heap.size y8 Y9 := by rw [hY9]; exact (Below.refl _ _).alloc (Nat.le_refl _) _
  have hS9 : RV Y9 w.heap.size sb q ta tn tc := ⟨by rw [hY9, hsb]; exact heap_alloc_new _ _, own_blw (ownsRow_base ho8 B7.out.size) hb9⟩
  have hb79 := hb8.trans (hb9.mono hb8.size)
  have hnm := names_any Y9 w.heap.size B d6 (D7.out.below hb79) HNW.out.dead
  have S9 := Lib.hid hS9
  have RB9 := Lib.hid (RB7.out.below hb79)
  have B9 := Lib.hid (B7.out.trans (hb79.mono B7.out.size))
  have HY9 := Lib.hid hY9
  have HSB := Lib.hid hsb
  have hn8' : tn ≤ 8 := hn8
  clear hb8 hn8 ho8 hb9 hS9 hb79 hY9 hsb D7 RB7 B7
  go_wp2_with fail
  rw [← HY9.out, ← HSB.out]
  refine hnm.mono ?_
  clear hnm HY9 HSB
  rintro e W16 ⟨v, ss, rfl, hperm, hoN, hbN⟩
  obtain ⟨_, hfs, _⟩ := HF2.out.1.fs
  have hnone : _ = none := hfs.n.symm.trans HF2.out.2.1
  rw [hnone] at hfs
  have hnames := Rt.names_one hfs
  rw [hnames] at hperm
  obtain ⟨hlen, henc⟩ := encL_one hperm
  rw [hlen] at hoN
  obtain ⟨na, nc, rfl, _⟩ := ownsRow_slice hoN
  obtain ⟨gn, rfl, _, hgn⟩ := own_head hoN (by omega)
  have hcn : ∀ Y : World, Below W16.heap.size W16 Y → Y.cell? ⟨gn, 0, none⟩ = some (.string ⟨#[114, 111, 111, 116]⟩) := fun Y hY => by
    rw [World.cell?_of_block (hY.block gn hgn), hoN.cellAt 0 (by omega), henc]; rfl
  have CN := Lib.hid hcn
  have S16 := S9.out.below hbN
  have RB16 := RB9.out.below hbN
  have hcs := rootCells S16.1 S16.2
  have hcr := rootCells RB16.1 RB16.2
  have CS := Lib.hid hcs
  have CR := Lib.hid hcr
  have SM : Hid (∀ Y, Below W16.heap.size W16 Y → Calls Tryz.prog 38 #[.agg #[.int .i64 q.gen, .slice ta tn tc, .int .i64 q.idx], .agg #[.int .i64 q.gen, .slice pa k pc, .int .i64 q.idx]] Y fun e w' => e = .returned (.bool true) ∧ Below Y.heap.size Y w') := Lib.hid (fun Y hY => by
    have := sameRoot_any Y q.gen q.idx ta tn tc _ (hcs Y hY).2.1 q.gen q.idx pa k pc _ (hcr Y hY).2.1 (by omega) (by omega)
    rw [show decide (q.gen = q.gen ∧ q.idx = q.idx ∧ q.logs = q.logs) = true from decide_eq_true ⟨rfl, rfl, rfl⟩] at this
    exact this)
  have BE := Lib.hid (B9.out.trans (hbN.mono B9.out.size))
  clear hperm hoN hbN hfs hnone hnames hlen henc hgn hcn S16 RB16 hcs hcr S9 RB9 B9 HNW HF2
  go_wp2_with fail
  refine wp_region_held_drew (S := (fun Y => Below W16.heap.size W16 Y)) (by kernel_rfl) ((Below.refl _ _).drew) (fun hHeld => ?_)
  refine wpAnyH_take (i := 0) (v := ?_) rfl (by kernel_rfl) (by kernel_rfl) (by kernel_rfl) (fun _ _ _ h => h) (Or.inl ⟨by kernel_rfl, ?_⟩) hHeld ?_
  rotate_left
  · (intro w hSw; clear hSw; go_simp; try (with_reducible rfl))
  (try simp only [Act.put, List.setIfInBounds_toArray, List.set_cons_zero, List.set_cons_succ])
  refine wpAnyH_take (i := 1) (v := ?_) rfl (by kernel_rfl) (by kernel_rfl) (by kernel_rfl) (fun _ _ _ h => h) (Or.inl ⟨by kernel_rfl, ?_⟩) hHeld ?_
  rotate_left
  · (intro w hSw; clear hSw; go_simp; try (with_reducible rfl))
  (try simp only [Act.put, List.setIfInBounds_toArray, List.set_cons_zero, List.set_cons_succ])
  refine wpAnyH_take (i := 2) (v := ?_) rfl (by kernel_rfl) (by kernel_rfl) (by kernel_rfl) (fun _ _ _ h => h) (Or.inl ⟨by kernel_rfl, ?_⟩) hHeld ?_
  rotate_left
  · (intro w hSw; clear hSw; go_simp; try (with_reducible rfl))
  (try simp only [Act.put, List.setIfInBounds_toArray, List.set_cons_zero, List.set_cons_succ])
  refine wpAnyH_take (i := 3) (v := ?_) rfl (by kernel_rfl) (by kernel_rfl) (by kernel_rfl) (fun _ _ _ h => h) (Or.inl ⟨by kernel_rfl, ?_⟩) hHeld ?_
  rotate_left
  · (intro w hSw; obtain ⟨k0, k1, k2⟩ := (CS.out w hSw).1; clear hSw; go_simp; try (with_reducible rfl))
  (try simp only [Act.put, List.setIfInBounds_toArray, List.set_cons_zero, List.set_cons_succ])
  refine wpAnyH_take (i := 5) (v := ?_) rfl (by kernel_rfl) (by kernel_rfl) (by kernel_rfl) (fun _ _ _ h => h) (Or.inl ⟨by kernel_rfl, ?_⟩) hHeld ?_
  rotate_left
  · (intro w hSw; obtain ⟨k0, k1, k2⟩ := (CR.out w hSw).1; clear hSw; go_simp; try (with_reducible rfl))
  (try simp only [Act.put, List.setIfInBounds_toArray, List.set_cons_zero, List.set_cons_succ])
  refine wpAnyH_ready (rs := [4]) (by kernel_rfl) (by simp) ?_
  refine AllReadyH.cons rfl (fun K hK => ?_) AllReadyH.nil
  go_simp
  go_wp2_with fail
  refine (plain_any _ _ _ _ _ _).mono ?_
  rintro e w21 ⟨rfl, hb'⟩
  have hH : Below W16.heap.size W16 _ := hHeld
  have hS2 : Below W16.heap.size W16 w21 := hH.trans (hb'.mono hH.size)
  clear hHeld hb' hH
  go_wp2_with fail
  refine hK.out _ _ hS2 (fun hHeld => ?_)
  clear hK K hS2
  (try simp only [Act.put, List.setIfInBounds_toArray, List.set_cons_zero, List.set_cons_succ])
  refine wpAnyH_ready (rs := [6]) (by kernel_rfl) (by simp) ?_
  refine AllReadyH.cons rfl (fun K hK => ?_) AllReadyH.nil
  go_simp
  go_wp2_with fail
  refine (plain_any _ _ _ _ _ _).mono ?_
  rintro e w22 ⟨rfl, hb'⟩
  have hH : Below W16.heap.size W16 _ := hHeld
  have hS2 : Below W16.heap.size W16 w22 := hH.trans (hb'.mono hH.size)
  clear hHeld hb' hH
  go_wp2_with fail
  refine hK.out _ _ hS2 (fun hHeld => ?_)
  clear hK K hS2
  (try simp only [Act.put, List.setIfInBounds_toArray, List.set_cons_zero, List.set_cons_succ])
  refine wpAnyH_ready (rs := [7]) (by kernel_rfl) (by simp) ?_
  refine AllReadyH.cons rfl (fun K hK => ?_) AllReadyH.nil
  go_simp
  go_wp2_with fail
  refine (SM.out _ hHeld).mono ?_
  rintro e w23 ⟨rfl, hb'⟩
  have hH : Below W16.heap.size W16 _ := hHeld
  have hS2 : Below W16.heap.size W16 w23 := hH.trans (hb'.mono hH.size)
  clear hHeld hb' hH
  go_wp2_with fail
  refine hK.out _ _ hS2 (fun hHeld => ?_)
  clear hK K hS2
  (try simp only [Act.put, List.setIfInBounds_toArray, List.set_cons_zero, List.set_cons_succ])
  refine wpAnyH_take (i := 8) (v := ?_) rfl (by kernel_rfl) (by kernel_rfl) (by kernel_rfl) (fun _ _ _ h => h) (Or.inl ⟨by kernel_rfl, ?_⟩) hHeld ?_
  rotate_left
  · (intro w hSw; clear hSw; go_simp; try (with_reducible rfl))
  (try simp only [Act.put, List.setIfInBounds_toArray, List.set_cons_zero, List.set_cons_succ])
  refine wpAnyH_take (i := 9) (v := ?_) rfl (by kernel_rfl) (by kernel_rfl) (by kernel_rfl) (fun _ _ _ h => h) (Or.inl ⟨by kernel_rfl, ?_⟩) hHeld ?_
  rotate_left
  · (intro w hSw; clear hSw; go_simp; try (with_reducible rfl))
  (try simp only [Act.put, List.setIfInBounds_toArray, List.set_cons_zero, List.set_cons_succ])
  refine wpAnyH_take (i := 10) (v := ?_) rfl (by kernel_rfl) (by kernel_rfl) (by kernel_rfl) (fun _ _ _ h => h) (Or.inl ⟨by kernel_rfl, ?_⟩) hHeld ?_
  rotate_left
  · (intro w hSw; clear hSw; go_simp; try (with_reducible rfl))
  (try simp only [Act.put, List.setIfInBounds_toArray, List.set_cons_zero, List.set_cons_succ])
  refine wpAnyH_take (i := 11) (v := ?_) rfl (by kernel_rfl) (by kernel_rfl) (by kernel_rfl) (fun _ _ _ h => h) (Or.inl ⟨by kernel_rfl, ?_⟩) hHeld ?_
  rotate_left
  · (intro w hSw; clear hSw; go_simp; try (with_reducible rfl))
  (try simp only [Act.put, List.setIfInBounds_toArray, List.set_cons_zero, List.set_cons_succ])
  refine wpAnyH_take (i := 12) (v := ?_) rfl (by kernel_rfl) (by kernel_rfl) (by kernel_rfl) (fun _ _ _ h => h) (Or.inl ⟨by kernel_rfl, ?_⟩) hHeld ?_
  rotate_left
  · (intro w hSw; clear hSw; go_simp; try (with_reducible rfl))
  (try simp only [Act.put, List.setIfInBounds_toArray, List.set_cons_zero, List.set_cons_succ])
  refine wpAnyH_take (i := 13) (v := ?_) rfl (by kernel_rfl) (by kernel_rfl) (by kernel_rfl) (fun _ _ _ h => h) (Or.inl ⟨by kernel_rfl, ?_⟩) hHeld ?_
  rotate_left
  · (intro w hSw; clear hSw; go_simp; try (with_reducible rfl))
  (try simp only [Act.put, List.setIfInBounds_toArray, List.set_cons_zero, List.set_cons_succ])
  refine wpAnyH_take (i := 14) (v := ?_) rfl (by kernel_rfl) (by kernel_rfl) (by kernel_rfl) (fun _ _ _ h => h) (Or.inl ⟨by kernel_rfl, ?_⟩) hHeld ?_
  rotate_left
  · (intro w hSw; clear hSw; go_simp; try (with_reducible rfl))
  (try simp only [Act.put, List.setIfInBounds_toArray, List.set_cons_zero, List.set_cons_succ])
  refine wpAnyH_take (i := 15) (v := ?_) rfl (by kernel_rfl) (by kernel_rfl) (by kernel_rfl) (fun _ _ _ h => h) (Or.inl ⟨by kernel_rfl, ?_⟩) hHeld ?_
  rotate_left
  · (intro w hSw; clear hSw; go_simp; try (with_reducible rfl))
  (try simp only [Act.put, List.setIfInBounds_toArray, List.set_cons_zero, List.set_cons_succ])
  refine wpAnyH_take (i := 16) (v := ?_) rfl (by kernel_rfl) (by kernel_rfl) (by kernel_rfl) (fun _ _ _ h => h) (Or.inl ⟨by kernel_rfl, ?_⟩) hHeld ?_
  rotate_left
  · (intro w hSw; clear hSw; go_simp; try (with_reducible rfl))
  (try simp only [Act.put, List.setIfInBounds_toArray, List.set_cons_zero, List.set_cons_succ])
  refine wpAnyH_take (i := 17) (v := ?_) rfl (by kernel_rfl) (by kernel_rfl) (by kernel_rfl) (fun _ _ _ h => h) (Or.inl ⟨by kernel_rfl, ?_⟩) hHeld ?_
  rotate_left
  · (intro w hSw; have hnn := CN.out w hSw; clear hSw; go_simp; try (with_reducible rfl))
  (try simp only [Act.put, List.setIfInBounds_toArray, List.set_cons_zero, List.set_cons_succ])
  refine wpAnyH_take (i := 18) (v := ?_) rfl (by kernel_rfl) (by kernel_rfl) (by kernel_rfl) (fun _ _ _ h => h) (Or.inl ⟨by kernel_rfl, ?_⟩) hHeld ?_
  rotate_left
  · (intro w hSw; clear hSw; go_simp; try (with_reducible rfl))
  (try simp only [Act.put, List.setIfInBounds_toArray, List.set_cons_zero, List.set_cons_succ])
  refine wpAnyH_take (i := 19) (v := ?_) rfl (by kernel_rfl) (by kernel_rfl) (by kernel_rfl) (fun _ _ _ h => h) (Or.inl ⟨by kernel_rfl, ?_⟩) hHeld ?_
  rotate_left
  · (intro w hSw; clear hSw; go_simp; try (with_reducible rfl))
  (try simp only [Act.put, List.setIfInBounds_toArray, List.set_cons_zero, List.set_cons_succ])
  refine wpAnyH_take (i := 20) (v := ?_) rfl (by kernel_rfl) (by kernel_rfl) (by kernel_rfl) (fun _ _ _ h => h) (Or.inl ⟨by kernel_rfl, ?_⟩) hHeld ?_
  rotate_left
  · (intro w hSw; clear hSw; go_simp; try (with_reducible rfl))
  (try simp only [Act.put, List.setIfInBounds_toArray, List.set_cons_zero, List.set_cons_succ])
  refine wpAnyH_done (by kernel_rfl) ?_ _
  simp only [Act.put, List.getElem_toArray, List.getElem_cons_zero, List.getElem_cons_succ, List.setIfInBounds_toArray, List.set_cons_zero, List.set_cons_succ]
  go_wp2
  go_ret
  exact ⟨rfl, BE.out.trans ((show Below W16.heap.size W16 _ from hHeld).mono BE.out.size)⟩
end Go.Proofs.YtdlpehlgmfhheaaGreatDoor
