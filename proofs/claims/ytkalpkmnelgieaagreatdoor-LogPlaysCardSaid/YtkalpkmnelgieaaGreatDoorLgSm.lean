/- LogPlays: same answers true for a log and its like. -/
import Derived.Test.YtkalpkmnelgieaaGreatDoorLgSame
import Derived.Deep.RegionHeld3
import Derived.BigQuiet
import Derived.Deep.QuietTactic
import Derived.Deep.Cut
import Derived.Deep.CutRange
namespace Go.Proofs.YtkalpkmnelgieaaGreatDoor
open Go.RowKit Go.Tap Go.Maps
set_option linter.unusedVariables false
set_option linter.unusedSimpArgs false
attribute [local go_sem ↓] Go.wp_at_zero Go.wp_at_succ

theorem frs_elem_le {its : Its} {j : Nat} {x : Nat × List UInt8} (h : its[j]? = some x) : x.2.length ≤ (frs its).length := by
  have h1 := frs_take_succ h
  have h2 := frs_take_le its (j + 1)
  omega
theorem bel_drewNL {B : Nat} {a w : World} (h : Below B a w) (n : Nat) : Below B a (w.drewN n) := bel_drewN h n
set_option maxHeartbeats 8000000 in
set_option maxRecDepth 100000 in
theorem lsame_any (w X : World) (B RB LB RLB xb : Nat) (cs : Array Value) (T : TypeId) (d : Dsk.Dk) (its : Its) (r : Ref.Rd) (st : LgSt w B RB LB RLB xb cs T X d its r its) (he : Ref.Eq d r) (hil : its.length ≤ 100000) (hs : (frs its).length ≤ 1048576) :
    Calls Tryz.prog 25 #[.pointer (some ⟨LB, 0, none⟩), .pointer (some ⟨RLB, 0, none⟩), .pointer (some ⟨B, 0, none⟩), .pointer (some ⟨RB, 0, none⟩)] X fun e w' => e = .returned (.bool true) ∧ Below X.heap.size X w' := by
  obtain ⟨ra, rc, g1, g2, g3, g4, g5⟩ := st.rl.cells
  obtain ⟨pa, pc, z2, z4, z5⟩ := st.rd.cells
  have hok := st.ok
  have ST := Lib.hid st
  have HE := Lib.hid he
  have HS := Lib.hid hs
  have HO := Lib.hid hok
  have HLR := Lib.hid g2
  obtain ⟨m, hm⟩ : ∃ m, m = its.length := ⟨_, rfl⟩
  obtain ⟨S, hS⟩ : ∃ S, S = (frs its).length := ⟨_, rfl⟩
  obtain ⟨dd, hdd⟩ : ∃ dd, dd = r.dead := ⟨_, rfl⟩
  obtain ⟨wk, hwk⟩ : ∃ wk, wk = r.works := ⟨_, rfl⟩
  rw [← hm] at g5 hil
  rw [← hdd] at z4
  rw [← hwk] at z5
  have F1 : Hid (∀ Y, Below X.heap.size X Y → Calls Tryz.prog 17 #[.pointer (some ⟨B, 0, none⟩)] Y fun e Z => e = .returned (.bool dd) ∧ Hid (Below X.heap.size X Z)) := Lib.hid (fun Y h => by rw [hdd, he.dead]; exact (dead_any Y _ B d (st.dk.below h)).mono fun e Z ⟨q1, q2⟩ => ⟨q1, by rw [q2]; exact Lib.hid h⟩)
  have F2 : Hid (∀ Y, Below X.heap.size X Y → Calls Tryz.prog 53 #[.pointer (some ⟨B, 0, none⟩)] Y fun e Z => e = .returned (.int .i64 (wk : Int)) ∧ Hid (Below X.heap.size X Z)) := Lib.hid (fun Y h => by rw [hwk, he.works]; exact (works_any Y _ B d (st.dk.below h)).mono fun e Z ⟨q1, q2⟩ => ⟨q1, by rw [q2]; exact Lib.hid h⟩)
  have F3 : Hid (∀ Y, Below X.heap.size X Y → Calls Tryz.prog 31 #[.pointer (some ⟨LB, 0, none⟩)] Y fun e Z => e = .returned (.int .i64 (m : Int)) ∧ Hid (Below X.heap.size X Z)) := Lib.hid (fun Y h => by rw [hm, ← recsAt_length its 0]; exact (count_any Y _ LB B [102] _ (st.lg.below h)).mono fun e Z ⟨q1, q2⟩ => ⟨q1, by rw [q2]; exact Lib.hid h⟩)
  have F4 : Hid (∀ Y, Below X.heap.size X Y → Calls Tryz.prog 12 #[.pointer (some ⟨LB, 0, none⟩)] Y fun e Z => e = .returned (.int .i64 (S : Int)) ∧ Hid (Below X.heap.size X Z)) := Lib.hid (fun Y h => by rw [hS, ← lenOf_recs its]; exact (length_any Y _ LB B [102] _ (st.lg.below h) (by rw [recsAt_length, ← hm]; omega)).mono fun e Z ⟨q1, q2⟩ => ⟨q1, by rw [q2]; exact Lib.hid h⟩)
  have F5 : Hid (∀ Y, Below X.heap.size X Y → Calls Tryz.prog 16 #[.pointer (some ⟨RLB, 0, none⟩)] Y fun e Z => e = .returned (.int .i64 (S : Int)) ∧ Hid (Below X.heap.size X Z)) := Lib.hid (fun Y h => by rw [hS]; exact (rlen_any Y RLB RB its (st.rl.below h) (by rw [← hm]; omega) (by omega)).mono fun e Z ⟨q1, q2⟩ => ⟨q1, by rw [← q2]; exact Lib.hid h⟩)
  have S0 : Hid (∀ Y, Below X.heap.size X Y → Y.cell? ⟨RLB, 2, none⟩ = some (.slice ra m rc) ∧ Y.cell? ⟨RB, 4, none⟩ = some (.bool dd) ∧ Y.cell? ⟨RB, 5, none⟩ = some (.int .i64 (wk : Int))) := Lib.hid (fun Y h => by
    have q := blk_same (h.block RB st.rd.lt)
    exact ⟨(blk_same (h.block RLB st.rl.lt) 2).trans g5, (q 4).trans z4, (q 5).trans z5⟩)
  have D0 : Hid (Below X.heap.size X X.drew) := Lib.hid (bel_drew3 (Below.refl _ _))
  have HM := Lib.hid hm
  have HSS := Lib.hid hS
  have HLC : Hid (m ≤ rc) := Lib.hid (by rw [hm]; exact g2.le)
  clear st he hs hok g1 g2 g3 g4 g5 z2 z4 z5 hm hS hdd hwk
  go_enter Tryz.func25, Tryz.ntmps25
  go_wp2_with fail
  go_region_held3 (fun w' => w'.cell? ⟨RLB, 2, none⟩ = some (.slice ra m rc) ∧ w'.cell? ⟨RB, 4, none⟩ = some (.bool dd) ∧ w'.cell? ⟨RB, 5, none⟩ = some (.int .i64 (wk : Int)))
    (exact S0.out _ D0.out)
    (first
      | (go_at_call 31; refine (F3.out _ D0.out).mono ?_; clear D0; rintro e Y ⟨rfl, D0⟩)
      | (go_at_call 12; refine (F4.out _ D0.out).mono ?_; clear D0; rintro e Y ⟨rfl, D0⟩)
      | (go_at_call 16; refine (F5.out _ D0.out).mono ?_; clear D0; rintro e Y ⟨rfl, D0⟩)
      | (go_at_call 53; refine (F2.out _ D0.out).mono ?_; clear D0; rintro e Y ⟨rfl, D0⟩)
      | (go_at_call 17; refine (F1.out _ D0.out).mono ?_; clear D0; rintro e Y ⟨rfl, D0⟩))
  clear F1 F2 F3 F4 F5
  go_wp2
  go_loopw [9, 10, 11, 12] (fun iv _ _ _ wr => ∃ i : Nat, i ≤ m ∧ iv = .int .i64 (i : Int) ∧ Hid (Below X.heap.size X wr)) (fun iv _ _ _ _ => m - (intOf iv).toNat)
  case atStart => exact ⟨0, Nat.zero_le _, rfl, D0⟩
  case round =>
    obtain ⟨i, hi, rfl, HB⟩ := hrel
    obtain ⟨q2, _, _⟩ := S0.out _ HB.out
    by_cases hlt : i < m
    · have d0 : decide ((i : Int) < (m : Int)) = true := decide_eq_true (by omega)
      have d0' : decide (i < m) = true := decide_eq_true hlt
      have hiw := wrapi' ((i : Int) + 1) (by omega)
      have hx : its[i]? = some (its[i]'(by have := HM.out; omega)) := List.getElem?_eq_getElem _
      generalize its[i]'(by have := HM.out; omega) = x at hx
      obtain ⟨y, hy1, hy2, hy3, _⟩ := recsAt_get its 0 i x hx
      have hxl := frs_elem_le hx
      have hxs := HS.out
      have hrc := record_any wr _ LB B [102] _ ((ST.out.below HB.out).lg) i y hy1 (by rw [recsAt_length, ← show m = _ from HM.out]; omega) (by rw [hy3]; omega)
      rw [hy2, hy3] at hrc
      obtain ⟨xk, xl⟩ := x
      simp only at hrc hxl
      obtain ⟨g, a', c', rfl, e2, e3, e4⟩ := HLR.out.elem hx
      simp only at e2 e3 e4
      have HX := Lib.hid hx
      have HKE := Lib.hid e2
      have HE3 : Hid (∀ Y, Below X.heap.size X Y → Y.cell? ⟨g, i * 2, none⟩ = some (.int .i64 (xk : Int)) ∧ Y.cell? ⟨g, i * 2 + 1, none⟩ = some (.slice a' xl.length c')) := Lib.hid (fun Y h => by
        have q := blk_same (h.block g (World.block_lt_of_cell? X _ e3))
        exact ⟨(q _).trans e3, (q _).trans e4⟩)
      obtain ⟨n, hn⟩ : ∃ n, n = xl.length := ⟨_, rfl⟩
      rw [← hn] at hrc HKE HE3
      have HN := Lib.hid hn
      clear hx hy1 hy2 hy3 hxl hxs e2 e3 e4 hn
      go_wp2_with fail
      refine hrc.mono ?_
      clear hrc
      rintro e w5 ⟨a5, c5, rfl, ho5, hb5⟩
      have B5 := Lib.hid (HB.out.trans (hb5.mono HB.out.size))
      have ho5' : Rds w5 a5 n xl := Rds.of_own (by rw [← HN.out]; exact ho5) HN.out.symm
      have ho6' : Rds w5 a' n xl := (HKE.out.below B5.out).rds
      have cvn1 := fun k => convB (w5.drewN k) a5 n c5 xl (Rds.below (B := w5.heap.size) ho5' (bel_drewN (Below.refl _ _) k) (fun h0 b o e => by subst e; exact ho5'.lt h0))
      have cvn2 := fun k => convB (w5.drewN k) a' n c' xl (Rds.below (B := w5.heap.size) ho6' (bel_drewN (Below.refl _ _) k) (fun h0 b o e => by subst e; exact ho6'.lt h0))
      obtain ⟨e3, e4⟩ := HE3.out _ B5.out
      obtain ⟨q5, _, _⟩ := S0.out _ B5.out
      have s0 : ((str xl).toList == (str xl).toList) = true := by simp
      have s1 : ((str xl).toList != (str xl).toList) = false := by simp
      have k0 : ((xk : Int) == (xk : Int)) = true := by simp
      have k1 : ((xk : Int) != (xk : Int)) = false := by simp
      have hi0 : (0 : Int) ≤ (i : Int) := by omega
      have hi1 : (i : Int) < (m : Int) := by omega
      clear ho5 hb5 ho5' ho6' q2
      go_wp2
      go_quiet (fail)
      go_wp2
      go_roundw
      case rel => exact ⟨i + 1, by omega, by go_num, Lib.hid (bel_drewN B5.out _)⟩
      case measure => simp [intOf]; omega
    · obtain rfl : i = m := by omega
      have d0 : decide ((i : Int) < (i : Int)) = false := decide_eq_false (by omega)
      obtain ⟨l0, hl0⟩ : ∃ l0, l0 = r.vals [102] := ⟨_, rfl⟩
      obtain ⟨n0, hn0⟩ : ∃ n0, n0 = l0.length := ⟨_, rfl⟩
      obtain ⟨pq, hpq⟩ : ∃ pq, pq = r.has [102] := ⟨_, rfl⟩
      have hrd := dread_any wr _ B d (ST.out.below HB.out).dk HO.out r HE.out [102] (by decide)
      rw [← hl0, ← hn0, ← hpq] at hrd
      have HL := Lib.hid hl0
      have HN := Lib.hid hn0
      have HP := Lib.hid hpq
      clear hl0 hn0 hpq
      go_wp2_with fail
      refine hrd.mono ?_
      clear hrd
      rintro e w5 ⟨a5, c5, rfl, ho5, hb5⟩
      have B5 := Lib.hid (HB.out.trans (hb5.mono HB.out.size))
      have hr5 := rreadd_any w5 RB r (ST.out.below B5.out).rd ⟨d, HE.out, HO.out⟩ [102]
      rw [← HL.out, ← HN.out, ← HP.out] at hr5
      have HW5 := Lib.hid ho5
      clear ho5 hb5
      go_wp2_with fail
      refine hr5.mono ?_
      clear hr5
      rintro e w6 ⟨a6, c6, rfl, hk6, hb6⟩
      have B6 := Lib.hid (B5.out.trans (hb6.mono B5.out.size))
      obtain ⟨q6, _, _⟩ := S0.out _ B6.out
      have hno := record_no w6 _ LB B [102] _ ((ST.out.below B6.out).lg) i (by rw [recsAt_length, ← show i = _ from HM.out]; exact Nat.le_refl _)
      have hr6 := own_blw HW5.out hb6
      have hd6 := Rds.of_own (by rw [← HN.out]; exact hr6 : w6.ownsRow wr.heap.size 5 1 (.slice a5 n0 c5) l0.length (bv l0)) HN.out.symm
      have m1 := convB w6 a5 n0 c5 l0 hd6
      have m2 := convB w6 a6 n0 c6 l0 hk6.rds
      have s0 : ((str l0).toList == (str l0).toList) = true := by simp
      have s2 : (pq == pq) = true := by simp
      clear hk6 hb6 hr6 hd6 HW5
      go_wp2_with fail
      refine hno.mono ?_
      clear hno
      rintro e w7 ⟨rfl, hww⟩
      obtain rfl := hww.symm
      go_wp2
      go_ret
      exact ⟨rfl, B6.out⟩
end Go.Proofs.YtkalpkmnelgieaaGreatDoor
