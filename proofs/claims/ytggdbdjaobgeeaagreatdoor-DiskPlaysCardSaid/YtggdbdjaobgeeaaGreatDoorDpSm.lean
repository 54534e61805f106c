/- DiskPlays: same answers true for a disk and its like. -/
import Derived.Test.YtggdbdjaobgeeaaGreatDoorDpRead
import Derived.Deep.RegionHeld3
import Derived.BigQuiet
import Derived.Deep.Cut
import Derived.Deep.CutRange
namespace Go.Proofs.YtggdbdjaobgeeaaGreatDoor
open Go.RowKit Go.Tap Go.Maps
set_option linter.unusedVariables false
set_option linter.unusedSimpArgs false
attribute [local go_sem ↓] Go.wp_at_zero Go.wp_at_succ

theorem SOwn.slice {w : World} {lo : Nat} {v : Value} {l : List Dsk.Name} (h : SOwn w lo v l) : ∃ a c, v = .slice a l.length c ∧ l.length ≤ c := by
  obtain ⟨a, c, e, h1, _⟩ := ownsRow_slice h
  exact ⟨a, c, e, h1⟩
theorem SOwn.elem {w : World} {lo : Nat} {v : Value} {l : List Dsk.Name} (h : SOwn w lo v l) {j : Nat} {x : Dsk.Name} (hj : l[j]? = some x) :
    ∃ g cap, v = .slice (some ⟨g, 0, none⟩) l.length cap ∧ w.cell? ⟨g, j, none⟩ = some (.string (str x)) := by
  have hlt : j < l.length := (List.getElem?_eq_some_iff.1 hj).1
  have h3 : w.ownsRow lo 9 1 v l.length (strsR l) := h
  rcases h3.2 with ⟨_, hx⟩ | ⟨g, cap, cur, rfl, _⟩
  · omega
  · refine ⟨g, cap, rfl, ?_⟩
    have := h3.cells (g := g) rfl j (.string (str x)) (by unfold strsR; rw [List.getElem?_map, hj]; rfl)
    rw [Addr.add_lit, Nat.zero_add] at this
    exact this
theorem SOwn.below {w w' : World} {lo : Nat} {v : Value} {l : List Dsk.Name} (h : SOwn w lo v l) (hb : Below w.heap.size w w') : SOwn w' lo v l :=
  own_keep h (fun k cur hk => hb.block k (blk_lt hk))
theorem IsRd.cells {w : World} {B : Nat} {r : Ref.Rd} (h : IsRd w B r) : ∃ pa pc, w.cell? ⟨B, 2, none⟩ = some (.slice pa r.pend.length pc) ∧ w.cell? ⟨B, 4, none⟩ = some (.bool r.dead) ∧ w.cell? ⟨B, 5, none⟩ = some (.int .i64 (r.works : Int)) := by
  obtain ⟨kv, pv, h⟩ := h
  obtain ⟨pa, pc, rfl, _⟩ := h.pend.slice
  exact ⟨pa, pc, blk_cell (i := 2) h.blk rfl, blk_cell (i := 4) h.blk rfl, blk_cell (i := 5) h.blk rfl⟩
theorem blk_same {w X : World} {B : Nat} (h : X.heap[B]? = w.heap[B]?) (i : Nat) : X.cell? ⟨B, i, none⟩ = w.cell? ⟨B, i, none⟩ := by
  simp [World.cell?, h]
theorem IsRd.lt {w : World} {B : Nat} {r : Ref.Rd} (h : IsRd w B r) : B < w.heap.size := by
  obtain ⟨kv, pv, h⟩ := h
  exact blk_lt h.blk
theorem wrap_u8_succ (x : UInt8) : IntKind.u8.wrap ((x.toNat : Int) + 1) = ((x + 1).toNat : Int) := by
  rw [UInt8.toNat_add]
  have := x.toNat_lt
  have h : IntKind.u8.wrap ((x.toNat : Int) + 1) = ((x.toNat : Int) + 1) % 256 := by rfl
  rw [h]
  simp
set_option maxHeartbeats 8000000 in
set_option maxRecDepth 100000 in
theorem dsame_any (w : World) (lo B RB : Nat) (d : Dsk.Dk) (r : Ref.Rd) (h : IsDk w lo B d) (hr : IsRd w RB r) (he : Ref.Eq d r) (ho : Dsk.Ok d) :
    Calls Tryz.prog 51 #[.pointer (some ⟨B, 0, none⟩), .pointer (some ⟨RB, 0, none⟩)] w fun e w' => e = .returned (.bool true) ∧ Below w.heap.size w w' := by
  have hok : Rok r := ⟨d, he, ho⟩
  have HD0 := Lib.hid h
  have HR0 := Lib.hid hr
  have HE := Lib.hid he
  have HO := Lib.hid ho
  have HK := Lib.hid hok
  have hn1 := dnames_any w lo B d h ho r he
  clear h hr he ho hok
  go_enter Tryz.func51, Tryz.ntmps51
  go_wp2_with fail
  refine hn1.mono ?_
  clear hn1
  rintro e w1 ⟨v1, rfl, ho1, hb1⟩
  have hn2 := rnames_any w1 RB r (HR0.out.below hb1) HK.out
  have HO1 := Lib.hid ho1
  have HB1 := Lib.hid hb1
  clear ho1 hb1
  go_wp2_with fail
  refine hn2.mono ?_
  clear hn2
  rintro e w2 ⟨v2, rfl, ho2, hb2⟩
  have HB2 := Lib.hid (HB1.out.trans (hb2.mono HB1.out.size))
  have HO2 := Lib.hid ho2
  have HO1' : Hid (SOwn w2 w.heap.size v1 r.names) := by
    exact Lib.hid (own_keep HO1.out (fun k cur hk => hb2.block k (blk_lt hk)))
  have HD := Lib.hid (HD0.out.below HB2.out)
  have HR := Lib.hid (HR0.out.below HB2.out)
  clear ho2 hb2 HO1 HB1
  obtain ⟨a1, c1, rfl, hc1⟩ := HO1'.out.slice
  obtain ⟨a2, c2, rfl, hc2⟩ := HO2.out.slice
  obtain ⟨pa, pc, z2, z4, z5⟩ := HR.out.cells
  obtain ⟨m, hm⟩ : ∃ m, m = r.names.length := ⟨_, rfl⟩
  rw [← hm]
  rw [← hm] at hc1 hc2
  have HM := Lib.hid hm
  obtain ⟨dd, hdd⟩ : ∃ dd, dd = r.dead := ⟨_, rfl⟩
  obtain ⟨wk, hwk⟩ : ∃ wk, wk = r.works := ⟨_, rfl⟩
  obtain ⟨P, hP⟩ : ∃ P, P = r.pend.length := ⟨_, rfl⟩
  obtain ⟨U, hU⟩ : ∃ U, U = (if r.dead = true then 0 else Dsk.used r.now) := ⟨_, rfl⟩
  rw [← hP] at z2
  rw [← hdd] at z4
  rw [← hwk] at z5
  have F1 : Hid (∀ X, IsDk X lo B d → Calls Tryz.prog 19 #[.pointer (some ⟨B, 0, none⟩)] X fun e w' => e = .returned (.bool dd) ∧ w' = X) := Lib.hid (fun X h => by rw [hdd, HE.out.dead]; exact dead_any X lo B d h)
  have F2 : Hid (∀ X, IsDk X lo B d → Calls Tryz.prog 38 #[.pointer (some ⟨B, 0, none⟩)] X fun e w' => e = .returned (.int .i64 (wk : Int)) ∧ w' = X) := Lib.hid (fun X h => by rw [hwk, HE.out.works]; exact works_any X lo B d h)
  have F3 : Hid (∀ X, IsDk X lo B d → Calls Tryz.prog 90 #[.pointer (some ⟨B, 0, none⟩)] X fun e w' => e = .returned (.int .i64 (P : Int)) ∧ w' = X) := Lib.hid (fun X h => by rw [hP, HE.out.pend]; exact pending_any X lo B d h)
  have F4 : Hid (∀ X, IsDk X lo B d → Calls Tryz.prog 39 #[.pointer (some ⟨B, 0, none⟩)] X fun e w' => e = .returned (.int .i64 (U : Int)) ∧ Below X.heap.size X w') := Lib.hid (fun X h => by rw [hU]; exact dused_any X lo B d h HO.out r HE.out)
  have F5 : Hid (∀ X, IsRd X RB r → Calls Tryz.prog 40 #[.pointer (some ⟨RB, 0, none⟩)] X fun e w' => e = .returned (.int .i64 (U : Int)) ∧ Below X.heap.size X w') := Lib.hid (fun X h => by rw [hU]; exact rusedd_any X RB r h HK.out)
  have G : Hid (∀ X Y, IsDk X lo B d → IsRd X RB r → Below w2.heap.size w2 X → Below X.heap.size X Y → IsDk Y lo B d ∧ IsRd Y RB r ∧ Below w2.heap.size w2 Y) := Lib.hid (fun X Y h1 h2 h3 h4 => ⟨h1.below h4, h2.below h4, h3.trans (h4.mono h3.size)⟩)
  have hcl : ∀ X, Below w2.heap.size w2 X → X.cell? ⟨RB, 2, none⟩ = some (.slice pa P pc) ∧ X.cell? ⟨RB, 4, none⟩ = some (.bool dd) ∧ X.cell? ⟨RB, 5, none⟩ = some (.int .i64 (wk : Int)) := fun X hX => by
    have q := blk_same (hX.block RB HR.out.lt)
    exact ⟨(q 2).trans z2, (q 4).trans z4, (q 5).trans z5⟩
  have S0 : Hid (∀ X, Below w2.heap.size w2 X → X.cell? ⟨RB, 2, none⟩ = some (.slice pa P pc) ∧ X.cell? ⟨RB, 4, none⟩ = some (.bool dd) ∧ X.cell? ⟨RB, 5, none⟩ = some (.int .i64 (wk : Int)) ∧ Hid (Below w2.heap.size w2 X)) := Lib.hid (fun X hX => ⟨(hcl X hX).1, (hcl X hX).2.1, (hcl X hX).2.2, Lib.hid hX⟩)
  have D0 : Hid (Below w2.heap.size w2 w2.drew) := Lib.hid ⟨rfl, rfl, rfl, Nat.le_refl _, fun _ _ => rfl⟩
  clear hm hdd hwk hP hU hcl
  go_wp2_with fail
  go_region_held3 (fun w' => w'.cell? ⟨RB, 2, none⟩ = some (.slice pa P pc) ∧ w'.cell? ⟨RB, 4, none⟩ = some (.bool dd) ∧ w'.cell? ⟨RB, 5, none⟩ = some (.int .i64 (wk : Int)) ∧ Hid (Below w2.heap.size w2 w'))
    (first | exact S0.out _ D0.out | exact S0.out _ D3.out | exact S0.out _ D4.out)
    (first
      | (go_at_call 19; refine (F1.out _ (HD.out.below D0.out)).mono ?_; rintro e w' ⟨rfl, rfl⟩)
      | (go_at_call 38; refine (F2.out _ (HD.out.below D0.out)).mono ?_; rintro e w' ⟨rfl, rfl⟩)
      | (go_at_call 90; refine (F3.out _ (HD.out.below D0.out)).mono ?_; rintro e w' ⟨rfl, rfl⟩)
      | (go_at_call 39; refine (F4.out _ (HD.out.below D0.out)).mono ?_; rintro e w3 ⟨rfl, hb3⟩; have D3 := Lib.hid (D0.out.trans (hb3.mono D0.out.size)))
      | (go_at_call 39; refine (F4.out _ (HD.out.below D3.out)).mono ?_; rintro e w4 ⟨rfl, hb4⟩; have D4 := Lib.hid (D3.out.trans (hb4.mono D3.out.size)))
      | (go_at_call 40; refine (F5.out _ (HR.out.below D0.out)).mono ?_; rintro e w3 ⟨rfl, hb3⟩; have D3 := Lib.hid (D0.out.trans (hb3.mono D0.out.size)))
      | (go_at_call 40; refine (F5.out _ (HR.out.below D3.out)).mono ?_; rintro e w4 ⟨rfl, hb4⟩; have D4 := Lib.hid (D3.out.trans (hb4.mono D3.out.size))))
  have hm60 : m ≤ 1000000 := by
    rw [HM.out]; unfold Ref.Rd.names
    have := HK.out.now
    split
    · simp
    · rw [List.length_map]; omega
  clear F1 F2 F3 F4 F5 G S0 z2 z4 z5 hb3 hb4 D3 D0
  go_wp2
  go_loopw [7] (fun iv wr => ∃ i : Nat, i ≤ m ∧ iv = .int .i64 (i : Int) ∧ Hid (Below w2.heap.size w2 wr)) (fun iv _ => m - (intOf iv).toNat)
  case atStart => exact ⟨0, Nat.zero_le _, rfl, D4⟩
  case round =>
    obtain ⟨i, hin, rfl, HB⟩ := hrel
    by_cases hlt : i < m
    · have d0 : decide ((i : Int) < (m : Int)) = true := decide_eq_true (by omega)
      have d0' : decide (i < m) = true := decide_eq_true hlt
      have d1 : (i : Int) < (m : Int) := by omega
      have hx : r.names[i]? = some (r.names[i]'(by have := HM.out; omega)) := List.getElem?_eq_getElem _
      generalize r.names[i]'(by have := HM.out; omega) = x at hx
      obtain ⟨g1, cap1, hs1, y1⟩ := (HO1'.out.below HB.out).elem hx
      obtain ⟨g2, cap2, hs2, y2⟩ := (HO2.out.below HB.out).elem hx
      simp only [Value.slice.injEq] at hs1 hs2
      obtain ⟨rfl, _, rfl⟩ := hs1
      obtain ⟨rfl, _, rfl⟩ := hs2
      have hw := wrapi' ((i : Int) + 1) (by omega)
      have q0 : ((str x).toList == (str x).toList) = true := by simp
      have q1 : ((str x).toList != (str x).toList) = false := by simp
      clear hx
      go_wp2
      go_quiet (fail)
      go_wp2
      go_roundw
      case rel => exact ⟨i + 1, by omega, by go_num, Lib.hid (bel_drewN HB.out _)⟩
      case measure => simp [intOf]; omega
    · obtain rfl : i = m := by omega
      have d0 : decide ((i : Int) < (i : Int)) = false := decide_eq_false (by omega)
      go_wp2
      go_loopw [8, 9, 10, 11, 12, 13] (fun iv _ _ _ _ _ wr => ∃ k : Nat, k ≤ 6 ∧ iv = .int .i64 (k : Int) ∧ Hid (Below w2.heap.size w2 wr)) (fun iv _ _ _ _ _ _ => 6 - (intOf iv).toNat)
      case atStart => exact ⟨0, Nat.zero_le _, rfl, HB⟩
      case round =>
        obtain ⟨k, hk6, rfl, HB⟩ := hrel
        by_cases hlk : k < 6
        · have d0 : decide ((k : Int) < 6) = true := decide_eq_true (by omega)
          have d0' : decide (k < 6) = true := decide_eq_true hlk
          have hw := wrapi' ((k : Int) + 1) (by omega)
          obtain ⟨s, hs⟩ : ∃ s, s = Dp.name (k : Int) := ⟨_, rfl⟩
          have hsl : s.length ≤ 1048576 := by have := Dp.name_len (k : Int); rw [hs]; omega
          have hnm := dpname_any wr (k : Int) (by omega) (by omega)
          rw [← hs] at hnm
          have hrd := dread_any wr lo B d (HD.out.below HB.out) HO.out r HE.out s hsl
          have HS := Lib.hid hs
          obtain ⟨l0, hl0⟩ : ∃ l0, l0 = r.vals s := ⟨_, rfl⟩
          obtain ⟨n0, hn0⟩ : ∃ n0, n0 = l0.length := ⟨_, rfl⟩
          obtain ⟨pq, hpq⟩ : ∃ pq, pq = r.has s := ⟨_, rfl⟩
          rw [← hl0, ← hn0, ← hpq] at hrd
          have HL := Lib.hid hl0
          have HN := Lib.hid hn0
          have HP := Lib.hid hpq
          clear hs hl0 hn0 hpq
          go_wp2_with fail
          refine hnm.mono ?_
          clear hnm
          rintro e w' ⟨rfl, rfl⟩
          go_wp2_with fail
          refine hrd.mono ?_
          clear hrd
          rintro e w5 ⟨ra, rc, rfl, hown5, hb5⟩
          have H5 := Lib.hid (HB.out.trans (hb5.mono HB.out.size))
          have hnm2 := dpname_any w5 (k : Int) (by omega) (by omega)
          rw [← HS.out] at hnm2
          have hr5 := rreadd_any w5 RB r (HR.out.below H5.out) HK.out s
          rw [← HL.out, ← HN.out, ← HP.out] at hr5
          have HW5 := Lib.hid hown5
          have HB5 := Lib.hid hb5
          clear hown5 hb5
          go_wp2_with fail
          refine hnm2.mono ?_
          clear hnm2
          rintro e w' ⟨rfl, rfl⟩
          go_wp2_with fail
          refine hr5.mono ?_
          clear hr5
          rintro e w6 ⟨qa, qc, rfl, hk6, hb6⟩
          have H6 := Lib.hid (H5.out.trans (hb6.mono H5.out.size))
          have hl00 : n0 ≤ 16777216 := by
            rw [HN.out, HL.out]; unfold Ref.Rd.vals
            have := HK.out.now
            split
            · simp
            · exact Nat.le_trans (apart_used s) this.2
          have HW6 : Hid (w6.ownsRow w2.heap.size 5 1 (.slice ra n0 rc) n0 (bv l0)) := Lib.hid (ownsRow_base (own_keep HW5.out (fun k cur hk => hb6.block k (blk_lt hk))) HB.out.size)
          have hq := hk6.rds
          have ho := Rds.of_own (by rw [← HN.out]; exact HW6.out : w6.ownsRow w2.heap.size 5 1 (.slice ra n0 rc) l0.length (bv l0)) HN.out.symm
          have m1 := convB w6 ra n0 rc l0 ho
          have m2 := convB w6 qa n0 qc l0 hq
          have q0 : ((str l0).toList == (str l0).toList) = true := by simp
          have q1 : ((str l0).toList != (str l0).toList) = false := by simp
          have q2 : (pq == pq) = true := by simp
          have q3 : (pq != pq) = false := by simp
          clear hk6 hb6 hq ho HW5 HB5 H5 HB
          go_wp2
          clear m1 m2 q0 q1 q2 q3
          go_loopw [13] (fun jv wz => ∃ (j : Nat) (l1 : List UInt8), j ≤ n0 ∧ jv = .int .i64 (j : Int) ∧ Hid (l1.length = n0) ∧ Hid (wz.ownsRow w2.heap.size 5 1 (.slice ra n0 rc) n0 (bv l1)) ∧ Hid (Below w2.heap.size w2 wz)) (fun jv _ => n0 - (intOf jv).toNat)
          case atStart => exact ⟨0, l0, Nat.zero_le _, rfl, Lib.hid HN.out.symm, HW6, H6⟩
          case round =>
            obtain ⟨j, l1, hj, rfl, HL1, HO1, HBz⟩ := hrel
            by_cases hjl : j < n0
            · obtain ⟨g, rfl, hg1, hg2⟩ := own_head HO1.out (by omega)
              obtain ⟨x, hx⟩ : ∃ x, l1[j]? = some x := ⟨_, List.getElem?_eq_getElem (by rw [HL1.out]; exact hjl)⟩
              have hcell : wr.cell? ⟨g, j, none⟩ = some (.int .u8 (x.toNat : Int)) := by
                rw [HO1.out.cellAt j (by omega), bv_getElem?, hx]; rfl
              have hfr : wr.frozen? ⟨g, j, none⟩ = false := HO1.out.frozenAt j
              have hst := (HO1.out.stored j (.int .u8 ((x + 1).toNat : Int))).1
              rw [bv_set] at hst
              have HS1 := Lib.hid hst
              have HL2 : Hid ((l1.set j (x + 1)).length = n0) := Lib.hid (by rw [List.length_set]; exact HL1.out)
              have hw1 : IntKind.u8.wrap ((x.toNat : Int) + 1) = ((x + 1).toNat : Int) := wrap_u8_succ x
              have hjw := wrapi' ((j : Int) + 1) (by omega)
              have e0 : decide ((j : Int) < (n0 : Int)) = true := decide_eq_true (by omega)
              have e0' : decide (j < n0) = true := decide_eq_true hjl
              clear hst hx
              go_wp2
              go_roundw
              case rel => exact ⟨j + 1, _, by omega, by go_num, HL2, HS1, Lib.hid (HBz.out.setCell hg1 _)⟩
              case measure => simp [intOf]; omega
            · have e0 : decide ((j : Int) < (n0 : Int)) = false := decide_eq_false (by omega)
              have e0' : decide (j < n0) = false := decide_eq_false hjl
              go_wp2
              go_roundw
              case rel => exact ⟨k + 1, by omega, by go_num, HBz⟩
              case measure => simp [intOf]; omega
        · obtain rfl : k = 6 := by omega
          have d0 : decide (((6 : Nat) : Int) < 6) = false := decide_eq_false (by omega)
          go_wp2
          go_ret
          exact ⟨rfl, HB2.out.trans (HB.out.mono HB2.out.size)⟩
end Go.Proofs.YtggdbdjaobgeeaaGreatDoor
