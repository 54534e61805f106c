/- The reference's disk: Crash. -/
import Derived.Test.YtkalpkmnelgieaaGreatDoorRfOp2
import Derived.Deep.Cut
import Derived.Deep.CutRange
namespace Go.Proofs.YtkalpkmnelgieaaGreatDoor
open Go.RowKit Go.Tap Go.Maps
set_option linter.unusedVariables false
set_option linter.unusedSimpArgs false
attribute [local go_sem ↓] Go.wp_at_zero Go.wp_at_succ

/-- The reference's pick called at a step of a region that draws its order. -/
theorem step_rpick {w : World} {ops : Array Oper} {o : Oper} {a : Act} {K : Act → World → Prop} {Q : Exit → Act → World → Prop} {E : Prop} (hgd : o.guard = none) (t u : Nat) (n m r : Int) (t1 t2 : TypeId)
    (ho : o.op = .call { callee := .value (.func 47), args := #[.tmp t, .tmp u], argTypes := #[t1, t2] }) (hx : a.tmps[t]?.getD undef = .int .i64 n) (hy : a.tmps[u]?.getD undef = .int .i64 m)
    (h0 : -9223372036854775808 ≤ n) (h1 : n ≤ 9223372036854775807) (hm : 0 < m) (hm1 : m ≤ 9223372036854775807) (hr : n % m = r) (h : K (a.put o.dst (.int .i64 r)) w) :
    if Region.wanted o (yielded ops a.tmps) = true then Oper.wp Tryz.prog o a w K Q else E := by
  have hw : Region.wanted o (yielded ops a.tmps) = true := by simp [Region.wanted, hgd]
  rw [if_pos hw]
  obtain ⟨dst, op, type, pos, after, guard⟩ := o
  simp only at ho hgd
  subst ho hgd
  clear hw
  have hf := Tryz.func47
  go_simp
  refine (rpick_any w n m h0 h1 hm hm1).mono ?_
  rintro e w' ⟨rfl, rfl⟩
  subst hr
  simpa [Act.put] using h
theorem FRow.sl {w : World} {v : Value} {l : Dsk.Files} (h : FRow w v l) : ∃ a n c, v = .slice a n c := by
  obtain ⟨a, c, e, _⟩ := h.slice
  exact ⟨_, _, _, e⟩
theorem crash_done {w w' : World} {B : Nat} {kv pv v : Value} {r : Ref.Rd} {l : Dsk.Files} (h : IsRv w B kv pv r) (hf : FRow w v l) :
    IsRd ((((w.setCell ⟨B, 1, none⟩ v).setCell ⟨B, 2, none⟩ (.slice none 0 0)).setCell ⟨B, 4, none⟩ (.bool false)).setCell ⟨B, 3, none⟩ (.int .i64 (-1))) B { r with kept := l, pend := [], dead := false, fuse := -1 } ∧
    TStay (fun k => k = B) w ((((w.setCell ⟨B, 1, none⟩ v).setCell ⟨B, 2, none⟩ (.slice none 0 0)).setCell ⟨B, 4, none⟩ (.bool false)).setCell ⟨B, 3, none⟩ (.int .i64 (-1))) := by
  have st := ((((TStay.refl (fun k => k = B) w).setCell (p := ⟨B, 1, none⟩) (.inl rfl) v).setCell (p := ⟨B, 2, none⟩) (.inl rfl) (.slice none 0 0)).setCell (p := ⟨B, 4, none⟩) (.inl rfl) (.bool false)).setCell (p := ⟨B, 3, none⟩) (.inl rfl) (.int .i64 (-1))
  have kf := IsRv.keepB h.blk st
  exact ⟨⟨v, .slice none 0 0, heap_setCell_same _ B 3 _ _ _ (heap_setCell_same _ B 4 _ _ _ (heap_setCell_same _ B 2 _ _ _ (heap_setCell_same w B 1 _ _ _ h.blk))), hf.keep kf, PRow.nil _⟩, st⟩
set_option maxHeartbeats 8000000 in
set_option maxRecDepth 100000 in
theorem rcrash_any (w : World) (B : Nat) (r : Ref.Rd) (h : IsRd w B r) (hr : Rok r) (done part : Int) (hd : -9223372036854775808 ≤ done ∧ done ≤ 9223372036854775807) (hp : -9223372036854775808 ≤ part ∧ part ≤ 9223372036854775807) :
    Calls Tryz.prog 19 #[.pointer (some ⟨B, 0, none⟩), .int .i64 done, .int .i64 part] w fun e w' => e = .returned (.tuple #[]) ∧ IsRd w' B (r.crash done part) ∧ TStay (fun k => k = B) w w' := by
  obtain ⟨kv, pv, h⟩ := h
  have hlen := hr.len
  obtain ⟨pa, pc, hpv, hpc, hpn⟩ := h.pend.slice
  subst hpv
  obtain ⟨P, hP⟩ : ∃ P, P = r.pend.length := ⟨_, rfl⟩
  rw [← hP] at hpc hlen
  have hblk : w.heap[B]? = some (.cells #[.int .i64 (r.room : Int), kv, .slice pa P pc, .int .i64 r.fuse, .bool r.dead, .int .i64 (r.works : Int)] 90 (0, 0)) := by rw [hP]; exact h.blk
  obtain ⟨k, hk⟩ : ∃ k : Nat, done % ((P : Int) + 1) = k := ⟨(done % ((P : Int) + 1)).toNat, by have := Int.emod_nonneg done (show (P : Int) + 1 ≠ 0 by omega); omega⟩
  have hkP : k ≤ P := by have := Int.emod_lt_of_pos done (show (0 : Int) < (P : Int) + 1 by omega); omega
  have hpk := rpick_any w done ((P : Int) + 1) hd.1 hd.2 (by omega) (by omega)
  rw [hk] at hpk
  obtain ⟨L, hL⟩ : ∃ L, L = r.crashed done part := ⟨_, rfl⟩
  have hLq : L = match r.pend[k]? with | some x => if x.kind = 0 ∧ 0 < Dsk.pl part x then Ref.turn (Ref.now r.kept (r.pend.take k)) (Ref.cut1 part x) else Ref.now r.kept (r.pend.take k) | none => Ref.now r.kept (r.pend.take k) := by
    rw [hL]
    unfold Ref.Rd.crashed
    rw [← hP, hk, Int.toNat_natCast]
    rfl
  have hcr : r.crash done part = { r with kept := L, pend := [], dead := false, fuse := -1 } := by rw [hL]; rfl
  rw [hcr]
  have hw1 := wrapi' ((P : Int) + 1) (by omega)
  have c1 : w.cell? ⟨B, 1, none⟩ = some kv := blk_cell (i := 1) hblk rfl
  have c2 : w.cell? ⟨B, 2, none⟩ = some (.slice pa P pc) := blk_cell (i := 2) hblk rfl
  have HBK := Lib.hid hblk
  have H := Lib.hid h
  have HP := Lib.hid hP
  have HR := Lib.hid hr
  have HLQ := Lib.hid hLq
  have HPP := Lib.hid hp
  have hlt := blk_lt hblk
  clear h hblk hP hr hk hL hLq hcr hd hp
  go_enter Tryz.func19, Tryz.ntmps19
  go_wp2_with fail
  refine hpk.mono ?_
  clear hpk
  rintro e w' ⟨rfl, rfl⟩
  go_wp2_with fail
  go_loopw [6, 7] (fun lv' iv' wr => ∃ (i : Nat) (lv : Value), lv' = lv ∧ iv' = .int .i64 (i : Int) ∧ i ≤ k ∧ Hid (FRow wr lv (Ref.now r.kept (r.pend.take i))) ∧ Below w.heap.size w wr) (fun _ iv' _ => k - (intOf iv').toNat)
  case atStart => exact ⟨0, _, rfl, rfl, Nat.zero_le _, Lib.hid H.out.kept, Below.refl _ _⟩
  case round =>
    obtain ⟨i, lv, hlv, rfl, hi, HF, hb⟩ := hrel
    obtain rfl : lv = _ := hlv.symm
    have c2 : wr.cell? ⟨B, 2, none⟩ = some (.slice pa P pc) := blk_cell (i := 2) ((hb.block B hlt).trans HBK.out) rfl
    have hw := wrapi' ((i : Int) + 1) (by omega)
    by_cases hgo : i < k
    · have d0 : decide ((i : Int) < (k : Int)) = true := decide_eq_true (by omega)
      have d0' : decide (i < k) = true := decide_eq_true hgo
      have d1 : (i : Int) < (P : Int) := by omega
      have d2 : (0 : Int) ≤ (i : Int) := by omega
      have hx : r.pend[i]? = some (r.pend[i]'(by have := HP.out; omega)) := List.getElem?_eq_getElem _
      generalize r.pend[i]'(by have := HP.out; omega) = x at hx
      obtain ⟨g, cap, a, c, hsl, hkx, e0, e1, e2, e3, e4⟩ := (H.out.pend.keep (KeepF.below hb (Nat.le_refl _))).elem hx
      simp only [Value.slice.injEq] at hsl
      obtain ⟨rfl, _, rfl⟩ := hsl
      obtain ⟨s1, s2⟩ := HR.out.step i (by have := HP.out; omega)
      obtain ⟨x1, x2, x3⟩ := HR.out.elem hx
      have hv := apart_used (l := Ref.now r.kept (r.pend.take i)) x.name
      have htn := rturn_any wr lv _ HF.out x a c hkx x1 s1 x3 ⟨by omega, by omega⟩
      have hst : Ref.turn (Ref.now r.kept (r.pend.take i)) x = Ref.now r.kept (r.pend.take (i + 1)) := by
        unfold Ref.now
        rw [List.take_add_one, hx]
        simp
      rw [hst] at htn
      obtain ⟨n, hn⟩ : ∃ n, n = x.b.length := ⟨_, rfl⟩
      rw [← hn] at e3
      have htn' : Calls Tryz.prog 48 #[lv, .agg #[.int .i64 ((x.kind : Int) + 1), .string (str x.name), .string (str x.dst), .slice a n c, .int .i64 (x.n : Int)]] wr (RowAft wr (Ref.now r.kept (r.pend.take (i + 1)))) := by rw [hn]; exact htn
      clear htn hst hx hkx s1 s2 x1 x2 x3 hv hn
      go_wp2_with fail
      refine htn'.mono ?_
      clear htn'
      rintro e w2 ⟨v2, rfl, hf2, hb2⟩
      have HF2 := Lib.hid hf2.row
      have b2 := hb.trans (hb2.mono hb.size)
      clear hf2 hb2
      go_wp2
      go_roundw
      case rel => exact ⟨i + 1, _, rfl, by go_num, by omega, HF2, b2⟩
      case measure => simp [intOf]; omega
    · obtain rfl : i = k := by omega
      have d0 : decide ((i : Int) < (i : Int)) = false := decide_eq_false (by omega)
      have HFB := Lib.hid hb
      have hff : ∃ b : Bool, (i < P ∧ ∃ x, r.pend[i]? = some x ∧ b = decide (x.kind = 0)) ∨ (i = P ∧ b = false) := by
        by_cases h : i < P
        · exact ⟨_, .inl ⟨h, _, List.getElem?_eq_getElem (by rw [← HP.out]; exact h), rfl⟩⟩
        · exact ⟨false, .inr ⟨by omega, rfl⟩⟩
      obtain ⟨bb, hff⟩ := hff
      have hbb := Lib.hid hff
      rcases hff with ⟨hiP, x, hx, hbx⟩ | ⟨hiP, rfl⟩
      · have d1 : decide ((i : Int) < (P : Int)) = true := decide_eq_true (by omega)
        have d1' : decide (i < P) = true := decide_eq_true hiP
        have d3 : (i : Int) < (P : Int) := by omega
        have d2 : (0 : Int) ≤ (i : Int) := by omega
        obtain ⟨g, cap, a, c, hsl, hkx, e0, e1, e2, e3, e4⟩ := (H.out.pend.keep (KeepF.below hb (Nat.le_refl _))).elem hx
        simp only [Value.slice.injEq] at hsl
        obtain ⟨rfl, _, rfl⟩ := hsl
        by_cases hk0 : x.kind = 0
        · rw [hk0, show ((((0 : Nat) : Int) + 1) : Int) = 1 from rfl] at e0
          obtain ⟨n, hn⟩ : ∃ n, n = x.b.length := ⟨_, rfl⟩
          obtain ⟨x1, x2, x3⟩ := HR.out.elem hx
          obtain ⟨s1, s2⟩ := HR.out.step i (by have := HP.out; omega)
          have hv := apart_used (l := Ref.now r.kept (r.pend.take i)) x.name
          rw [← hn] at e3 hkx x2
          have hnc := hkx.le
          have hw2 := wrapi' ((n : Int) + 1) (by omega)
          obtain ⟨p, hp⟩ : ∃ p : Nat, part % ((n : Int) + 1) = p := ⟨(part % ((n : Int) + 1)).toNat, by have := Int.emod_nonneg part (show (n : Int) + 1 ≠ 0 by omega); omega⟩
          have hpn0 : p ≤ n := by have := Int.emod_lt_of_pos part (show (0 : Int) < (n : Int) + 1 by omega); omega
          have hpl : Dsk.pl part x = p := by unfold Dsk.pl; rw [← hn, hp, Int.toNat_natCast]
          have hp0 : (0 : Int) ≤ (p : Int) := by omega
          have hp1 : (p : Int) ≤ (c : Int) := by omega
          have hp2 : p ≤ c := by omega
          obtain ⟨tb, htb⟩ : ∃ tb, tb = wr.heap.size := ⟨_, rfl⟩
          obtain ⟨W2, hW2⟩ : ∃ W2, W2 = wr.alloc (.cells #[.int .i64 1, .string (str x.name), .string (str x.dst), .slice a n c, .int .i64 (x.n : Int)] 115) := ⟨_, rfl⟩
          have hT2 : W2.heap[tb]? = some (.cells #[.int .i64 1, .string (str x.name), .string (str x.dst), .slice a n c, .int .i64 (x.n : Int)] 115 (0, 0)) := by rw [hW2, htb]; exact heap_alloc_new _ _
          have hb2 : Below wr.heap.size wr W2 := by rw [hW2]; exact (Below.refl _ _).alloc (Nat.le_refl _) _
          have HW2 := Lib.hid hW2
          have HTB := Lib.hid htb
          have HT2 := Lib.hid hT2
          have HB2 := Lib.hid hb2
          have HKX := Lib.hid hkx
          have HPL := Lib.hid hpl
          have HXX := Lib.hid hx
          have HK0 := Lib.hid hk0
          have HNN := Lib.hid hn
          have HX1 := Lib.hid x1
          have HX3 := Lib.hid x3
          have hpp := HPP.out
          have hlb : w.heap.size ≤ tb := by rw [htb]; exact HFB.out.size
          have HLB := Lib.hid hlb
          clear hW2 htb hT2 hb2 hkx hpl hx hbx hbb hn x1 x3 hlb hk0
          go_upto_region 8 with (fail)
          rw [← HW2.out, ← HTB.out]
          have k3 : W2.cell? ⟨tb, 3, none⟩ = some (.slice a n c) := blk_cell (i := 3) HT2.out rfl
          have kf3 := blk_free HT2.out 3
          clear e0 e1 e2 e3 e4
          go_region_law (refine step_rpick (by rfl) 62 66 part ((n : Int) + 1) p _ _ (by rfl) (by rfl) (by rfl) hpp.1 hpp.2 (by omega) (by omega) hp ?_)
          all_goals
            obtain ⟨W3, hW3⟩ : ∃ W3, W3 = (W2.setCell ⟨tb, 3, none⟩ (.slice a p c)).drew := ⟨_, rfl⟩
            have hT3 : W3.heap[tb]? = some (.cells #[.int .i64 1, .string (str x.name), .string (str x.dst), .slice a p c, .int .i64 (x.n : Int)] 115 (0, 0)) := by rw [hW3]; exact heap_setCell_same W2 tb 3 _ _ (.slice a p c) HT2.out
            have hb3 : Below wr.heap.size wr W3 := by
              rw [hW3]
              have q := HB2.out.setCell (p := ⟨tb, 3, none⟩) (by rw [HTB.out]; exact Nat.le_refl _) (.slice a p c)
              exact ⟨q.os, q.tape, q.output, q.size, q.block⟩
            rw [← hW3]
            have f0 : W3.cell? ⟨tb, 0, none⟩ = some (.int .i64 1) := blk_cell (i := 0) hT3 rfl
            have f1 : W3.cell? ⟨tb, 1, none⟩ = some (.string (str x.name)) := blk_cell (i := 1) hT3 rfl
            have f2 : W3.cell? ⟨tb, 2, none⟩ = some (.string (str x.dst)) := blk_cell (i := 2) hT3 rfl
            have f3 : W3.cell? ⟨tb, 3, none⟩ = some (.slice a p c) := blk_cell (i := 3) hT3 rfl
            have f4 : W3.cell? ⟨tb, 4, none⟩ = some (.int .i64 (x.n : Int)) := blk_cell (i := 4) hT3 rfl
            have HF3 := Lib.hid (HF.out.keep (KeepF.below hb3 (Nat.le_refl _)))
            have HB3 := Lib.hid (HFB.out.trans (hb3.mono HFB.out.size))
            clear hW3 hT3 k3 kf3
            by_cases hp00 : p = 0
            · have HE : Hid (L = Ref.now r.kept (r.pend.take i)) := Lib.hid (by rw [HLQ.out, HXX.out]; simp [HPL.out, hp00])
              have dp : decide ((0 : Int) < (p : Int)) = false := decide_eq_false (by omega)
              have dp' : decide (0 < p) = false := decide_eq_false (by omega)
              clear hb3
              obtain ⟨va, vn, vc, rfl⟩ := HF3.out.sl
              have hz := H.out.below HB3.out
              have hz1 := heap_setCell_same W3 B 1 _ _ (.slice va vn vc) hz.blk
              have hz2 := heap_setCell_same _ B 2 _ _ (.slice none 0 0) hz1
              have hz3 := heap_setCell_same _ B 4 _ _ (.bool false) hz2
              have zf1 := blk_free hz.blk 1
              have zf2 := blk_free hz1 2
              have zf4 := blk_free hz2 4
              have zf3 := blk_free hz3 3
              have zc1 : W3.cell? ⟨B, 1, none⟩ = some kv := blk_cell (i := 1) hz.blk rfl
              have zc2 := blk_cell (i := 2) hz1 rfl
              have zc4 := blk_cell (i := 4) hz2 rfl
              have zc3 := blk_cell (i := 3) hz3 rfl
              obtain ⟨q1, q2⟩ := crash_done (w' := W3) hz HF3.out
              have Q1 := Lib.hid q1
              have Q2 := Lib.hid ((TStay.of_below HB3.out (fun k => k = B)).trans q2 (fun _ _ h => h))
              clear hz hz1 hz2 hz3 q1 q2
              go_wp2
              go_end0
              rw [HE.out]
              exact ⟨rfl, Q1.out, Q2.out⟩
            · have HE : Hid (L = Ref.turn (Ref.now r.kept (r.pend.take i)) (Ref.cut1 part x)) := Lib.hid (by
                have q : 0 < p := by omega
                rw [HLQ.out, HXX.out]
                simp [HPL.out, HK0.out, q])
              have dp : decide ((0 : Int) < (p : Int)) = true := decide_eq_true (by omega)
              have dp' : decide (0 < p) = true := decide_eq_true (by omega)
              have hkt := (HKX.out.below hb3).takeT hpn0
              have hlp := hkt.len
              have hcx : (Ref.cut1 part x).b = x.b.take p := by unfold Ref.cut1; rw [HPL.out]
              have hcl : (Ref.cut1 part x).b.length = p := by rw [hcx, hlp]
              have hkc : Keeps W3 a (Ref.cut1 part x).b.length c (Ref.cut1 part x).b := by rw [hcl, hcx]; exact hkt
              have hk0 : (Ref.cut1 part x).kind = 0 := HK0.out
              have htn := rturn_any W3 lv _ HF3.out (Ref.cut1 part x) a c hkc (by omega) s1 (fun h => absurd (hk0.symm.trans h) (by decide)) ⟨by show (Dsk.val _ x.name).length ≤ _; omega, by omega⟩
              have hcells : (Wcells (Ref.cut1 part x) a c).toArray = #[.int .i64 1, .string (str x.name), .string (str x.dst), .slice a p c, .int .i64 (x.n : Int)] := by
                simp only [Wcells, hk0, hcl]
                rfl
              rw [hcells] at htn
              clear hcells hkc hkt hlp hcx hcl hk0 hb3
              go_wp2_with fail
              refine htn.mono ?_
              clear htn
              rintro e w2 ⟨v2, rfl, hf2, hb2⟩
              have HF4 := Lib.hid hf2.row
              have HB4 := Lib.hid (HB3.out.trans (hb2.mono HB3.out.size))
              clear hf2 hb2 f0 f1 f2 f3 f4
              obtain ⟨va, vn, vc, rfl⟩ := HF4.out.sl
              have hz := H.out.below HB4.out
              have hz1 := heap_setCell_same w2 B 1 _ _ (.slice va vn vc) hz.blk
              have hz2 := heap_setCell_same _ B 2 _ _ (.slice none 0 0) hz1
              have hz3 := heap_setCell_same _ B 4 _ _ (.bool false) hz2
              have zf1 := blk_free hz.blk 1
              have zf2 := blk_free hz1 2
              have zf4 := blk_free hz2 4
              have zf3 := blk_free hz3 3
              have zc1 : w2.cell? ⟨B, 1, none⟩ = some kv := blk_cell (i := 1) hz.blk rfl
              have zc2 := blk_cell (i := 2) hz1 rfl
              have zc4 := blk_cell (i := 4) hz2 rfl
              have zc3 := blk_cell (i := 3) hz3 rfl
              obtain ⟨q1, q2⟩ := crash_done (w' := w2) hz HF4.out
              have Q1 := Lib.hid q1
              have Q2 := Lib.hid ((TStay.of_below HB4.out (fun k => k = B)).trans q2 (fun _ _ h => h))
              clear hz hz1 hz2 hz3 q1 q2
              go_wp2
              go_end0
              rw [HE.out]
              exact ⟨rfl, Q1.out, Q2.out⟩
        · have HE : Hid (L = Ref.now r.kept (r.pend.take i)) := Lib.hid (by rw [HLQ.out, hx]; simp [hk0])
          have d5 : ((x.kind : Int) + 1 == 1) = false := by simp; omega
          have d6 : ((x.kind : Int) == 0) = false := by simp; omega
          have d7 : (x.kind == 0) = false := by simp; omega
          clear hx hkx hbb hbx
          obtain ⟨va, vn, vc, rfl⟩ := HF.out.sl
          have hz := H.out.below HFB.out
          have hz1 := heap_setCell_same wr B 1 _ _ (.slice va vn vc) hz.blk
          have hz2 := heap_setCell_same _ B 2 _ _ (.slice none 0 0) hz1
          have hz3 := heap_setCell_same _ B 4 _ _ (.bool false) hz2
          have zf1 := blk_free hz.blk 1
          have zf2 := blk_free hz1 2
          have zf4 := blk_free hz2 4
          have zf3 := blk_free hz3 3
          have zc1 : wr.cell? ⟨B, 1, none⟩ = some kv := blk_cell (i := 1) hz.blk rfl
          have zc2 := blk_cell (i := 2) hz1 rfl
          have zc4 := blk_cell (i := 4) hz2 rfl
          have zc3 := blk_cell (i := 3) hz3 rfl
          obtain ⟨q1, q2⟩ := crash_done (w' := wr) hz HF.out
          have Q1 := Lib.hid q1
          have Q2 := Lib.hid ((TStay.of_below HFB.out (fun k => k = B)).trans q2 (fun _ _ h => h))
          clear hz hz1 hz2 hz3 q1 q2
          go_wp2
          go_end0
          rw [HE.out]
          exact ⟨rfl, Q1.out, Q2.out⟩
      · subst hiP
        have d1 : decide ((i : Int) < (i : Int)) = false := decide_eq_false (by omega)
        have HE : Hid (L = Ref.now r.kept (r.pend.take i)) := Lib.hid (by rw [HLQ.out, List.getElem?_eq_none (by rw [← HP.out]; exact Nat.le_refl _)])
        clear hbb
        obtain ⟨va, vn, vc, rfl⟩ := HF.out.sl
        have hz := H.out.below HFB.out
        have hz1 := heap_setCell_same wr B 1 _ _ (.slice va vn vc) hz.blk
        have hz2 := heap_setCell_same _ B 2 _ _ (.slice none 0 0) hz1
        have hz3 := heap_setCell_same _ B 4 _ _ (.bool false) hz2
        have zf1 := blk_free hz.blk 1
        have zf2 := blk_free hz1 2
        have zf4 := blk_free hz2 4
        have zf3 := blk_free hz3 3
        have zc1 : wr.cell? ⟨B, 1, none⟩ = some kv := blk_cell (i := 1) hz.blk rfl
        have zc2 := blk_cell (i := 2) hz1 rfl
        have zc4 := blk_cell (i := 4) hz2 rfl
        have zc3 := blk_cell (i := 3) hz3 rfl
        obtain ⟨q1, q2⟩ := crash_done (w' := wr) hz HF.out
        have Q1 := Lib.hid q1
        have Q2 := Lib.hid ((TStay.of_below HFB.out (fun k => k = B)).trans q2 (fun _ _ h => h))
        clear hz hz1 hz2 hz3 q1 q2
        go_wp2
        go_end0
        rw [HE.out]
        exact ⟨rfl, Q1.out, Q2.out⟩
end Go.Proofs.YtkalpkmnelgieaaGreatDoor
