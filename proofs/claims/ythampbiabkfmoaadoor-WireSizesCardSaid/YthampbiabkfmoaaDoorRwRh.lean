/- The reference's test of a head, and what it lays. -/
import Derived.Test.YthampbiabkfmoaaDoorRwHd2
namespace Go.Proofs.YthampbiabkfmoaaDoor
open Go.RowKit Go.Tap
set_option linter.unusedVariables false
set_option linter.unusedSimpArgs false
theorem cmp_path_ne {w : World} (a b : List UInt8) (x y : Int) (ha : a.length = 32) (hb : b.length = 32) : (binOp .neq 42 (.agg (pathC a x)) (.agg (pathC b y))).run Tryd.prog w = .ok (.bool (!(decide (a = b) && decide (x = y)))) w := by
  rw [run_neq_struct, show (10000 : Nat) = 9997 + 3 from rfl, eq_path a b x y ha hb]; rfl
theorem str_no (l : List UInt8) (h : l ≠ []) : (str l).toList.isEmpty = false ∧ ((str l).toList == []) = false ∧ ((str l).toList = []) = False := by
  rw [str_toList]
  cases l with
  | nil => exact absurd rfl h
  | cons a r => exact ⟨rfl, rfl, by simp⟩
theorem str_yes (l : List UInt8) (h : l = []) : (str l).toList.isEmpty = true ∧ ((str l).toList == []) = true ∧ ((str l).toList = []) = True := by
  rw [str_toList, h]; exact ⟨rfl, rfl, by simp⟩
theorem not_all {q : Wi.Rq} {kd : Int} {x : Wi.It} {r : Bool} (hr : r = Wi.mayRq q) (hk : kd = q.kind) (hx : x ∈ q.items) (h : Wi.mayIt kd x = false) : r = false := by
  rw [hr, Wi.mayRq, ← hk]
  have : q.items.all (Wi.mayIt kd) = false := by
    rw [List.all_eq_false]
    exact ⟨x, hx, by rw [h]; decide⟩
  rw [this]; rfl
theorem take_all {q : Wi.Rq} {kd : Int} {x : Wi.It} {k : Nat} (hx : q.items[k]? = some x) (h : Wi.mayIt kd x = true) (he : (q.items.take k).all (Wi.mayIt kd) = true) : (q.items.take (k + 1)).all (Wi.mayIt kd) = true := by
  rw [List.take_add_one, hx, Option.toList_some, List.all_append, he]
  simp [h]
theorem right_fin {q : Wi.Rq} {sq kd : Int} {r : Bool} {n : Nat} (hr : r = Wi.mayRq q) (hs : sq = q.seq) (hk : kd = q.kind) (hn : q.items.length = n) (b1 : 0 ≤ sq) (b2 : sq ≤ 2147483647) (b4 : 1 ≤ n) (b5 : n ≤ 16) (he : (q.items.take n).all (Wi.mayIt kd) = true) : r = true := by
  rw [hr, Wi.mayRq, ← hk, ← hs, hn]
  rw [List.take_of_length_le (by omega)] at he
  rw [he, decide_eq_true b1, decide_eq_true b2, decide_eq_true b4, decide_eq_true b5]
  rfl
set_option maxHeartbeats 4000000 in
set_option maxRecDepth 100000 in
theorem rightHead_any (w : World) (q : Wi.Rq) (hq : q.ok) (a : Option Addr) (n c : Nat) (hr : RdI w a n q.items) (hn : n ≤ 140737488351232) :
    Calls Tryd.prog 71 #[.int .i64 q.seq, .int .i64 q.kind, .slice a n c] w fun e w' => e = .returned (.bool (Wi.mayRq q)) ∧ Below w.heap.size w w' := by
  obtain ⟨r, hrr⟩ : ∃ r, r = Wi.mayRq q := ⟨_, rfl⟩
  rw [← hrr]
  have HR := Lib.hid hrr
  have HQ := Lib.hid hq
  have HN := Lib.hid hr.1
  have HNL := Lib.hid hn
  obtain ⟨sq, hsq⟩ : ∃ sq, sq = q.seq := ⟨_, rfl⟩
  obtain ⟨kd, hkd⟩ : ∃ kd, kd = q.kind := ⟨_, rfl⟩
  rw [← hsq, ← hkd]
  have HSQ := Lib.hid hsq
  have HKD := Lib.hid hkd
  have R1 := Lib.hid hr
  clear hrr hq hr hn hsq hkd
  by_cases hb : 0 ≤ sq ∧ sq ≤ 2147483647 ∧ (kd = 1 ∨ kd = 2) ∧ 1 ≤ n ∧ n ≤ 16
  · obtain ⟨b1, b2, b3, b4, b5⟩ := hb
    have d1 : decide (sq < 0) = false := decide_eq_false (by omega)
    have d2 : decide (2147483647 < sq) = false := decide_eq_false (by omega)
    have d3 : decide ((n : Int) < 1) = false := decide_eq_false (by omega)
    have d3' : decide (n < 1) = false := decide_eq_false (by omega)
    have d3'' : decide (n = 0) = false := decide_eq_false (by omega)
    have d4 : decide (16 < (n : Int)) = false := decide_eq_false (by omega)
    have d4' : decide (16 < n) = false := decide_eq_false (by omega)
    have FIN : Hid (∀ kd', kd' = kd → (q.items.take n).all (Wi.mayIt kd') = true → r = true) := Lib.hid (fun kd' e he => right_fin HR.out HSQ.out HKD.out HN.out b1 b2 b4 b5 (by rw [← e]; exact he))
    rcases b3 with rfl | rfl
    · as_aux_lemma =>
        clear b1 b2 b4 b5
        go_enter Tryd.func71, Tryd.ntmps71
        go_wp2
        go_loopw [7] (fun kv wr => ∃ k : Nat, k ≤ n ∧ kv = .int .i64 (k : Int) ∧ Hid (Below w.heap.size w wr) ∧ Hid ((q.items.take k).all (Wi.mayIt 1) = true)) (fun kv _ => n - (intOf kv).toNat)
        case atStart => exact ⟨0, Nat.zero_le _, rfl, Lib.hid (Below.refl _ _), Lib.hid rfl⟩
        case round =>
          obtain ⟨k, hk, rfl, BR, HE⟩ := hrel
          have RW : Hid (RdI wr a n q.items) := Lib.hid (R1.out.below BR.out)
          by_cases hlt : k < n
          · have d0 : decide ((k : Int) < (n : Int)) = true := decide_eq_true (by omega)
            have d0' : decide (k < n) = true := decide_eq_true hlt
            have e1 : (k : Int) < (n : Int) := by omega
            have hx : q.items[k]? = some (q.items[k]'(by have := HN.out; omega)) := List.getElem?_eq_getElem _
            generalize q.items[k]'(by have := HN.out; omega) = x at hx
            obtain ⟨b, o, rfl, hb, hp⟩ := RW.out.at hx
            have HX := Lib.hid hx
            have HP := Lib.hid hp
            have HOK : Hid x.ok := Lib.hid (HQ.out.items x (List.mem_of_getElem? hx))
            have hw := wrapi' ((k : Int) + 1) (by have := HNL.out; omega)
            obtain ⟨XB, hXB⟩ : ∃ XB, XB = wr.heap.size := ⟨_, rfl⟩
            obtain ⟨W1, hW1⟩ : ∃ W1, W1 = wr.alloc (.cells (itC x) 44) := ⟨_, rfl⟩
            have HA : W1.heap[XB]? = some (.cells (itC x) 44 (0, 0)) := by rw [hW1, hXB]; exact heap_alloc_new _ _
            have B2 : Hid (Below w.heap.size w W1) := Lib.hid (by rw [hW1]; exact BR.out.alloc BR.out.size _)
            obtain ⟨ST, hST⟩ : ∃ ST, ST = str x.text := ⟨_, rfl⟩
            obtain ⟨SX, hSX⟩ : ∃ SX, SX = x.steps := ⟨_, rfl⟩
            have g33 : W1.cell? ⟨XB, 33, none⟩ = some (.string ST) := by rw [hST]; exact blk_cell (i := 33) HA (itC_text x HOK.out)
            have g32 : W1.cell? ⟨XB, 32, none⟩ = some (.int .i64 SX) := by rw [hSX]; exact blk_cell (i := 32) HA (itC_steps x HOK.out)
            have HSX := Lib.hid hSX
            have HST := Lib.hid hST
            clear hx hp hSX hST HA hlt
            go_upto_region 7 with (first | (refine wpL_load ?hw 44 (.tmp 41) rfl b (o + k * 34) rfl (itC x) _ HP.out Tryd.underlying44 rfl (by rw [itC_size _ HOK.out]; exact sz_item) ?_; case hw => kernel_rfl) | (refine wpL_var 44 42 8 (itC ⟨Wi.z32, 0, []⟩) rfl rfl rfl rfl rfl rfl (itC x) ?hv (by rw [itC_size _ HOK.out]; exact zi_item) (by rw [itC_size _ HOK.out]; rfl) (itC_one _) (by decide) ?hj ?_; (try case hv => rfl); (try case hj => kernel_rfl)))
            rw [← hW1, ← hXB]
            clear hW1 hXB
            by_cases ht : x.text = []
            · obtain ⟨t1, t2, t3⟩ := str_yes x.text ht
              rw [← show ST = _ from HST.out] at t1 t2 t3
              by_cases h0 : SX < 0
              · have hfin : Hid (r = false) := Lib.hid (not_all HR.out HKD.out (List.mem_of_getElem? HX.out) (by rw [Wi.mayIt, if_pos rfl, ← HSX.out, Wi.stepsOk, decide_eq_false (show ¬ 0 ≤ SX by omega)]; simp))
                have f0 : decide (SX < 0) = true := decide_eq_true h0
                clear ht
                go_wp2
                go_ret
                exact ⟨ret_bool (by rw [hfin.out]), B2.out⟩
              · have f0 : decide (SX < 0) = false := decide_eq_false h0
                by_cases h1 : 1048576 < SX
                · have hfin : Hid (r = false) := Lib.hid (not_all HR.out HKD.out (List.mem_of_getElem? HX.out) (by rw [Wi.mayIt, if_pos rfl, ← HSX.out, Wi.stepsOk, decide_eq_false (show ¬ SX ≤ 1048576 by omega)]; simp))
                  have f1 : decide (1048576 < SX) = true := decide_eq_true h1
                  clear ht
                  go_wp2
                  go_ret
                  exact ⟨ret_bool (by rw [hfin.out]), B2.out⟩
                · have f1 : decide (1048576 < SX) = false := decide_eq_false h1
                  have HE2 : Hid ((q.items.take (k + 1)).all (Wi.mayIt 1) = true) := Lib.hid (take_all HX.out (by rw [Wi.mayIt, if_pos rfl, ← HSX.out, Wi.stepsOk, decide_eq_true ht, decide_eq_true (show 0 ≤ SX by omega), decide_eq_true (show SX ≤ 1048576 by omega)]; rfl) HE.out)
                  have hk2 : k + 1 ≤ n := by omega
                  clear ht
                  go_wp2
                  go_roundw
                  case rel => exact ⟨k + 1, hk2, by go_num, B2, HE2⟩
                  case measure => simp [intOf]; omega
            · obtain ⟨t1, t2, t3⟩ := str_no x.text ht
              rw [← show ST = _ from HST.out] at t1 t2 t3
              have hfin : Hid (r = false) := Lib.hid (not_all HR.out HKD.out (List.mem_of_getElem? HX.out) (by rw [Wi.mayIt, if_pos rfl, decide_eq_false ht]; rfl))
              clear ht
              go_wp2
              go_ret
              exact ⟨ret_bool (by rw [hfin.out]), B2.out⟩
          · obtain rfl : k = n := by omega
            have d0 : decide ((k : Int) < (k : Int)) = false := decide_eq_false (by omega)
            have hfin : Hid (r = true) := Lib.hid (FIN.out 1 rfl HE.out)
            go_wp2
            go_ret
            exact ⟨ret_bool (by rw [hfin.out]), BR.out⟩
    · as_aux_lemma =>
        clear b1 b2 b4 b5
        go_enter Tryd.func71, Tryd.ntmps71
        go_wp2
        go_loopw [7] (fun kv wr => ∃ k : Nat, k ≤ n ∧ kv = .int .i64 (k : Int) ∧ Hid (Below w.heap.size w wr) ∧ Hid ((q.items.take k).all (Wi.mayIt 2) = true)) (fun kv _ => n - (intOf kv).toNat)
        case atStart => exact ⟨0, Nat.zero_le _, rfl, Lib.hid (Below.refl _ _), Lib.hid rfl⟩
        case round =>
          obtain ⟨k, hk, rfl, BR, HE⟩ := hrel
          have RW : Hid (RdI wr a n q.items) := Lib.hid (R1.out.below BR.out)
          by_cases hlt : k < n
          · have d0 : decide ((k : Int) < (n : Int)) = true := decide_eq_true (by omega)
            have d0' : decide (k < n) = true := decide_eq_true hlt
            have e1 : (k : Int) < (n : Int) := by omega
            have hx : q.items[k]? = some (q.items[k]'(by have := HN.out; omega)) := List.getElem?_eq_getElem _
            generalize q.items[k]'(by have := HN.out; omega) = x at hx
            obtain ⟨b, o, rfl, hb, hp⟩ := RW.out.at hx
            have HX := Lib.hid hx
            have HP := Lib.hid hp
            have HOK : Hid x.ok := Lib.hid (HQ.out.items x (List.mem_of_getElem? hx))
            have hw := wrapi' ((k : Int) + 1) (by have := HNL.out; omega)
            obtain ⟨XB, hXB⟩ : ∃ XB, XB = wr.heap.size := ⟨_, rfl⟩
            obtain ⟨W1, hW1⟩ : ∃ W1, W1 = wr.alloc (.cells (itC x) 44) := ⟨_, rfl⟩
            have HA : W1.heap[XB]? = some (.cells (itC x) 44 (0, 0)) := by rw [hW1, hXB]; exact heap_alloc_new _ _
            have B2 : Hid (Below w.heap.size w W1) := Lib.hid (by rw [hW1]; exact BR.out.alloc BR.out.size _)
            have P1 : Hid (Part W1 XB 0 (pathC x.high x.steps)) := Lib.hid (part_of HA (itC_path x HOK.out))
            have g33 : W1.cell? ⟨XB, 33, none⟩ = some (.string (str x.text)) := blk_cell (i := 33) HA (itC_text x HOK.out)
            have hG := refIsPrefix_any W1 x.text HOK.out.text
            have hk2 : k + 1 ≤ n := by omega
            clear hx hp HA hlt
            go_upto_region 7 with (first | (refine wpL_load ?hw 44 (.tmp 41) rfl b (o + k * 34) rfl (itC x) _ HP.out Tryd.underlying44 rfl (by rw [itC_size _ HOK.out]; exact sz_item) ?_; case hw => kernel_rfl) | (refine wpL_var 44 42 8 (itC ⟨Wi.z32, 0, []⟩) rfl rfl rfl rfl rfl rfl (itC x) ?hv (by rw [itC_size _ HOK.out]; exact zi_item) (by rw [itC_size _ HOK.out]; rfl) (itC_one _) (by decide) ?hj ?_; (try case hv => rfl); (try case hj => kernel_rfl)))
            rw [← hW1, ← hXB]
            clear hW1 hXB
            go_wp2_with fail
            refine hG.mono ?_
            clear hG g33
            rintro e w2 ⟨rfl, rfl⟩
            have MI : Hid (Wi.mayIt 2 x = (Wi.isPre x.text && (decide (x.high = Wi.z32) && decide (x.steps = 0)))) := Lib.hid (by rw [Wi.mayIt, if_neg (by decide), if_pos rfl])
            obtain ⟨p, hp⟩ : ∃ p, p = Wi.isPre x.text := ⟨_, rfl⟩
            rw [← hp] at MI ⊢
            clear hp
            cases p
            · have hfin : Hid (r = false) := Lib.hid (not_all HR.out HKD.out (List.mem_of_getElem? HX.out) (by rw [MI.out]; rfl))
              go_wp2
              go_ret
              exact ⟨ret_bool (by rw [hfin.out]), B2.out⟩
            · obtain ⟨s, hs⟩ : ∃ s, s = (decide (x.high = Wi.z32) && decide (x.steps = 0)) := ⟨_, rfl⟩
              have CMP : Hid (∀ W : World, (binOp .neq 42 (.agg (pathC x.high x.steps)) (.agg (pathC Wi.z32 0))).run Tryd.prog W = .ok (.bool (!s)) W) := Lib.hid (fun W => by rw [hs]; exact cmp_path_ne _ _ _ _ HOK.out.high z32_len)
              rw [← hs, Bool.true_and] at MI
              clear hs
              cases s
              · have hfin : Hid (r = false) := Lib.hid (not_all HR.out HKD.out (List.mem_of_getElem? HX.out) (by rw [MI.out]))
                go_wp2_with (first | (refine wpL_load ?hw 42 (.tmp 70) rfl XB 0 rfl (pathC x.high x.steps) _ P1.out Tryd.underlying42 rfl (by rw [pathC_size _ _ HOK.out.high]; exact sz_path) ?_; case hw => kernel_rfl) | (refine wpL_built ?hw 42 #[] rfl [] rfl (pathC Wi.z32 0) bt_path0 ?_; case hw => kernel_rfl) | (refine wpL_cmp ?hw .neq 42 _ (.tmp 71) (.tmp 72) rfl (pathC x.high x.steps) (pathC Wi.z32 0) rfl rfl gd_path _ (CMP.out _) ?_; case hw => kernel_rfl))
                go_ret
                exact ⟨ret_bool (by rw [hfin.out]), B2.out⟩
              · have HE2 : Hid ((q.items.take (k + 1)).all (Wi.mayIt 2) = true) := Lib.hid (take_all HX.out MI.out HE.out)
                go_wp2_with (first | (refine wpL_load ?hw 42 (.tmp 70) rfl XB 0 rfl (pathC x.high x.steps) _ P1.out Tryd.underlying42 rfl (by rw [pathC_size _ _ HOK.out.high]; exact sz_path) ?_; case hw => kernel_rfl) | (refine wpL_built ?hw 42 #[] rfl [] rfl (pathC Wi.z32 0) bt_path0 ?_; case hw => kernel_rfl) | (refine wpL_cmp ?hw .neq 42 _ (.tmp 71) (.tmp 72) rfl (pathC x.high x.steps) (pathC Wi.z32 0) rfl rfl gd_path _ (CMP.out _) ?_; case hw => kernel_rfl))
                go_roundw
                case rel => exact ⟨k + 1, hk2, by go_num, B2, HE2⟩
                case measure => simp [intOf]; omega
          · obtain rfl : k = n := by omega
            have d0 : decide ((k : Int) < (k : Int)) = false := decide_eq_false (by omega)
            have hfin : Hid (r = true) := Lib.hid (FIN.out 2 rfl HE.out)
            go_wp2
            go_ret
            exact ⟨ret_bool (by rw [hfin.out]), BR.out⟩
  · have hfin : Hid (r = false) := Lib.hid (by
      rcases Bool.eq_false_or_eq_true r with hv | hv
      · exfalso
        apply hb
        have h1 : Wi.mayRq q = true := by rw [← HR.out, hv]
        have h2 := Wi.mayRq_kind h1
        simp only [Wi.mayRq, Bool.and_eq_true, decide_eq_true_eq] at h1
        have := HN.out
        rw [show sq = _ from HSQ.out, show kd = _ from HKD.out]
        exact ⟨by omega, by omega, h2, by omega, by omega⟩
      · exact hv)
    clear HR HQ HN HNL HSQ HKD R1
    by_cases c1 : sq < 0
    · have d1 : decide (sq < 0) = true := decide_eq_true c1
      clear hb
      go_enter Tryd.func71, Tryd.ntmps71
      go_wp2
      go_ret
      exact ⟨ret_bool (by rw [hfin.out]), Below.refl _ _⟩
    · have d1 : decide (sq < 0) = false := decide_eq_false c1
      by_cases c2 : 2147483647 < sq
      · have d2 : decide (2147483647 < sq) = true := decide_eq_true c2
        clear hb
        go_enter Tryd.func71, Tryd.ntmps71
        go_wp2
        go_ret
        exact ⟨ret_bool (by rw [hfin.out]), Below.refl _ _⟩
      · have d2 : decide (2147483647 < sq) = false := decide_eq_false c2
        by_cases c3 : kd = 1 ∨ kd = 2
        · by_cases c4 : n < 1
          · obtain rfl : n = 0 := by omega
            clear hb c4
            rcases c3 with rfl | rfl
            · go_enter Tryd.func71, Tryd.ntmps71
              go_wp2
              go_ret
              exact ⟨ret_bool (by rw [hfin.out]), Below.refl _ _⟩
            · go_enter Tryd.func71, Tryd.ntmps71
              go_wp2
              go_ret
              exact ⟨ret_bool (by rw [hfin.out]), Below.refl _ _⟩
          · have c5 : 16 < n := by omega
            have d3 : decide ((n : Int) < 1) = false := decide_eq_false (by omega)
            have d3' : decide (n < 1) = false := decide_eq_false (by omega)
            have d3'' : decide (n = 0) = false := decide_eq_false (by omega)
            have d4 : decide (16 < (n : Int)) = true := decide_eq_true (by omega)
            have d4' : decide (16 < n) = true := decide_eq_true c5
            clear hb c4 c5
            rcases c3 with rfl | rfl
            · go_enter Tryd.func71, Tryd.ntmps71
              go_wp2
              go_ret
              exact ⟨ret_bool (by rw [hfin.out]), Below.refl _ _⟩
            · go_enter Tryd.func71, Tryd.ntmps71
              go_wp2
              go_ret
              exact ⟨ret_bool (by rw [hfin.out]), Below.refl _ _⟩
        · have n1 : ¬ kd = 1 := fun e => c3 (.inl e)
          have n2 : ¬ kd = 2 := fun e => c3 (.inr e)
          have e1 : (kd == 1) = false := by simp; omega
          have e2 : (kd == 2) = false := by simp; omega
          clear hb c3
          go_enter Tryd.func71, Tryd.ntmps71
          go_wp2
          go_ret
          exact ⟨ret_bool (by rw [hfin.out]), Below.refl _ _⟩
end Go.Proofs.YthampbiabkfmoaaDoor
