/- taprootref21.SameItems, SameReply: of what is alike. -/
import Derived.Test.YtpblopdcbjfkpaaDoorWiTold
import Derived.Test.YtpblopdcbjfkpaaDoorWiEqI
namespace Go.Proofs.YtpblopdcbjfkpaaDoor
open Go.RowKit Go.Tap
set_option linter.unusedVariables false
set_option linter.unusedSimpArgs false
set_option maxHeartbeats 1000000 in
set_option maxRecDepth 100000 in
theorem sameItems_yes (w : World) (a : Option Addr) (n c : Nat) (l : List Wi.It) (hr : RdI w a n l) (ho : ∀ i ∈ l, i.ok) (a2 : Option Addr) (d : Nat) (hr2 : RdI w a2 n l) (hn : n ≤ 1000000) :
    Calls Tryd.prog 66 #[.slice a n c, .slice a2 n d] w fun e w' => e = .returned (.bool true) ∧ Below w.heap.size w w' := by
  have HL := Lib.hid hr.1
  have HR := Lib.hid hr
  have HR2 := Lib.hid hr2
  have HO := Lib.hid ho
  have q0 : ((n : Int) == (n : Int)) = true := by simp
  clear hr hr2 ho
  go_enter Tryd.func66, Tryd.ntmps66
  go_wp2
  go_loopw [5] (fun kv wr => ∃ k q : Nat, k ≤ n ∧ kv = .int .i64 (k : Int) ∧ wr = w.drewN q) (fun kv _ => n - (intOf kv).toNat)
  case atStart => exact ⟨0, 0, Nat.zero_le _, rfl, rfl⟩
  case round =>
    obtain ⟨k, q, hk, rfl, rfl⟩ := hrel
    by_cases hlt : k < n
    · have d0 : decide ((k : Int) < (n : Int)) = true := decide_eq_true (by omega)
      have d0' : decide (k < n) = true := decide_eq_true hlt
      have d1 : (k : Int) < (n : Int) := by omega
      have d2 : (0 : Int) ≤ (k : Int) := by omega
      have hx : l[k]? = some (l[k]'(by have := HL.out; omega)) := List.getElem?_eq_getElem _
      generalize l[k]'(by have := HL.out; omega) = x at hx
      obtain ⟨b, o, rfl, hc⟩ := HR.out.2 (by omega)
      obtain ⟨b2, o2, rfl, hc2⟩ := HR2.out.2 (by omega)
      have HX := Lib.hid (HO.out x (List.mem_of_getElem? hx))
      have g1 : Hid (Part (w.drewN q) b (o + k * 34) (itC x)) := Lib.hid ((hc.2 k x hx).keep rfl)
      have g2 : Hid (Part (w.drewN q) b2 (o2 + k * 34) (itC x)) := Lib.hid ((hc2.2 k x hx).keep rfl)
      have hw := wrapi' ((k : Int) + 1) (by omega)
      generalize hwq : w.drewN q = wq at g1 g2 ⊢
      have Q0 : Hid (∀ w, (binOp .neq 71 (.agg (itC x)) (.agg (itC x))).run Tryd.prog w = .ok (.bool false) w) := Lib.hid (fun w => by rw [cmp_item_ne x x HX.out HX.out, decide_eq_true rfl]; rfl)
      clear hc hc2 hx
      go_wp2_with fail
      refine wp_region_quiet_lit (by kernel_rfl) (by kernel_rfl) ?_
      repeat (go_big_quiet_step (fail))
      refine wpQuiet_load (by kernel_rfl) 71 (.tmp 19) rfl b (o + k * 34) rfl (itC x) _ g1.out Tryd.underlying71 rfl (by rw [itC_size _ HX.out]; exact sz_item) ?_
      simp only [Act.put, List.setIfInBounds_toArray, List.set_cons_zero, List.set_cons_succ]
      repeat (go_big_quiet_step (fail))
      refine wpQuiet_load (by kernel_rfl) 71 (.tmp 23) rfl b2 (o2 + k * 34) rfl (itC x) _ g2.out Tryd.underlying71 rfl (by rw [itC_size _ HX.out]; exact sz_item) ?_
      simp only [Act.put, List.setIfInBounds_toArray, List.set_cons_zero, List.set_cons_succ]
      refine wpQuiet_cmp (by kernel_rfl) .neq 71 71 (.tmp 20) (.tmp 24) rfl (itC x) (itC x) rfl rfl gd_item false Q0.out ?_
      refine wpQuiet_nil ?_
      intro _ hw'
      obtain ⟨nq, hw2⟩ := hw'
      subst hw2
      go_wp2
      go_roundw
      case rel => exact ⟨k + 1, q + nq, by omega, by go_num, by rw [← hwq, World.drewN_drewN]⟩
      case measure => simp [intOf]; omega
    · obtain rfl : k = n := by omega
      have d0 : decide ((k : Int) < (k : Int)) = false := decide_eq_false (by omega)
      go_wp2
      go_ret
      exact ⟨rfl, ⟨rfl, rfl, rfl, Nat.le_refl _, fun _ _ => rfl⟩⟩
set_option maxHeartbeats 1000000 in
set_option maxRecDepth 100000 in
theorem sameReply_yes (w : World) (sq kd : Int) (a : Option Addr) (n c : Nat) (l : List Wi.It) (hr : RdI w a n l) (ho : ∀ i ∈ l, i.ok) (a2 : Option Addr) (d : Nat) (hr2 : RdI w a2 n l) (hn : n ≤ 1000000)
    (b : Option Addr) (m c1 : Nat) (le : List Wi.En) (he : RdE w b m le) (hoe : ∀ i ∈ le, i.ok) (b2 : Option Addr) (d2 : Nat) (he2 : RdE w b2 m le) (hm : m ≤ 1000000) :
    Calls Tryd.prog 27 #[.agg #[.int .i64 sq, .int .i64 kd, .slice a n c, .slice b m c1], .agg #[.int .i64 sq, .int .i64 kd, .slice a2 n d, .slice b2 m d2]] w fun e w' => e = .returned (.bool true) ∧ Below w.heap.size w w' := by
  obtain ⟨W1, hW1⟩ : ∃ W1, W1 = (w.alloc (.cells #[.int .i64 sq, .int .i64 kd, .slice a n c, .slice b m c1] 55)).alloc (.cells #[.int .i64 sq, .int .i64 kd, .slice a2 n d, .slice b2 m d2] 55) := ⟨_, rfl⟩
  have b1 : Below w.heap.size w W1 := by rw [hW1]; exact ((Below.refl _ _).alloc (Nat.le_refl _) _).alloc (by simp) _
  have T0 : Hid (W1.heap[w.heap.size]? = some (.cells #[.int .i64 sq, .int .i64 kd, .slice a n c, .slice b m c1] 55 (0, 0))) := Lib.hid (by rw [hW1]; exact heap_alloc2_old _ _ _)
  have T1 : Hid (W1.heap[w.heap.size + 1]? = some (.cells #[.int .i64 sq, .int .i64 kd, .slice a2 n d, .slice b2 m d2] 55 (0, 0))) := Lib.hid (by rw [hW1]; exact heap_alloc2_new _ _ _)
  have hs := sameItems_yes W1 a n c l (hr.below b1) ho a2 d (hr2.below b1) hn
  have HE := Lib.hid (he.below b1)
  have HE2 := Lib.hid (he2.below b1)
  have HL := Lib.hid he.1
  have HO := Lib.hid hoe
  have B1 := Lib.hid b1
  obtain ⟨g0, g1, g2, g3⟩ := cells4 T0.out
  obtain ⟨j0, j1, j2, j3⟩ := cells4 T1.out
  have q0 : (sq == sq) = true := by simp
  have q1' : (kd == kd) = true := by simp
  have q2 : ((m : Int) == (m : Int)) = true := by simp
  clear hr hr2 he he2 ho hoe b1
  go_enter Tryd.func27, Tryd.ntmps27
  go_upto_region 1 with (fail)
  rw [← hW1]
  clear hW1
  go_wp2_with fail
  refine hs.mono ?_
  clear hs g0 g1 g2 g3 j0 j1 j2 j3
  rintro e w2 ⟨rfl, b2'⟩
  have HEX := Lib.hid (HE.out.below b2')
  have HEX2 := Lib.hid (HE2.out.below b2')
  have T02 := Lib.hid ((b2'.block _ (blk_lt T0.out)).trans T0.out)
  have T12 := Lib.hid ((b2'.block _ (blk_lt T1.out)).trans T1.out)
  have B2 := Lib.hid (B1.out.trans (b2'.mono B1.out.size))
  obtain ⟨g0, g1, g2, g3⟩ := cells4 T02.out
  obtain ⟨j0, j1, j2, j3⟩ := cells4 T12.out
  clear b2' HE HE2 T0 T1 B1
  go_wp2
  go_loopw [5] (fun kv wr => ∃ k q : Nat, k ≤ m ∧ kv = .int .i64 (k : Int) ∧ wr = w2.drewN q) (fun kv _ => m - (intOf kv).toNat)
  case atStart => exact ⟨0, 0, Nat.zero_le _, rfl, rfl⟩
  case round =>
    obtain ⟨k, q, hk, rfl, rfl⟩ := hrel
    have k3 : (w2.drewN q).cell? ⟨w.heap.size, 3, none⟩ = some (.slice b m c1) := g3
    have k3' : (w2.drewN q).cell? ⟨w.heap.size + 1, 3, none⟩ = some (.slice b2 m d2) := j3
    by_cases hlt : k < m
    · have d0 : decide ((k : Int) < (m : Int)) = true := decide_eq_true (by omega)
      have d0' : decide (k < m) = true := decide_eq_true hlt
      have d1 : (k : Int) < (m : Int) := by omega
      have d2 : (0 : Int) ≤ (k : Int) := by omega
      have hx : le[k]? = some (le[k]'(by have := HL.out; omega)) := List.getElem?_eq_getElem _
      generalize le[k]'(by have := HL.out; omega) = x at hx
      obtain ⟨eb, eo, rfl, hc⟩ := HEX.out.2 (by omega)
      obtain ⟨eb2, eo2, rfl, hc2⟩ := HEX2.out.2 (by omega)
      have HX := Lib.hid (HO.out x (List.mem_of_getElem? hx))
      have p1 : Hid (Part (w2.drewN q) eb (eo + k * 66) (enC x)) := Lib.hid ((hc.2 k x hx).keep rfl)
      have p2 : Hid (Part (w2.drewN q) eb2 (eo2 + k * 66) (enC x)) := Lib.hid ((hc2.2 k x hx).keep rfl)
      have hw := wrapi' ((k : Int) + 1) (by omega)
      generalize hwq : w2.drewN q = wq at p1 p2 k3 k3' ⊢
      have Q0 : Hid (∀ w, (binOp .neq 120 (.agg (enC x)) (.agg (enC x))).run Tryd.prog w = .ok (.bool false) w) := Lib.hid (fun w => by rw [cmp_entry_ne x x HX.out HX.out, decide_eq_true rfl]; rfl)
      clear hc hc2 hx g0 g1 g2 g3 j0 j1 j2 j3
      go_wp2_with fail
      refine wp_region_quiet_lit (by kernel_rfl) (by kernel_rfl) ?_
      repeat (go_big_quiet_step (fail))
      refine wpQuiet_load (by kernel_rfl) 120 (.tmp 45) rfl eb (eo + k * 66) rfl (enC x) _ p1.out Tryd.underlying120 rfl (by rw [enC_size _ HX.out]; exact sz_entry) ?_
      simp only [Act.put, List.setIfInBounds_toArray, List.set_cons_zero, List.set_cons_succ]
      repeat (go_big_quiet_step (fail))
      refine wpQuiet_load (by kernel_rfl) 120 (.tmp 50) rfl eb2 (eo2 + k * 66) rfl (enC x) _ p2.out Tryd.underlying120 rfl (by rw [enC_size _ HX.out]; exact sz_entry) ?_
      simp only [Act.put, List.setIfInBounds_toArray, List.set_cons_zero, List.set_cons_succ]
      refine wpQuiet_cmp (by kernel_rfl) .neq 120 120 (.tmp 46) (.tmp 51) rfl (enC x) (enC x) rfl rfl gd_entry false Q0.out ?_
      refine wpQuiet_nil ?_
      intro _ hw'
      obtain ⟨nq, hw2⟩ := hw'
      subst hw2
      go_wp2
      go_roundw
      case rel => exact ⟨k + 1, q + nq, by omega, by go_num, by rw [← hwq, World.drewN_drewN]⟩
      case measure => simp [intOf]; omega
    · obtain rfl : k = m := by omega
      have d0 : decide ((k : Int) < (k : Int)) = false := decide_eq_false (by omega)
      clear g0 g1 g2 g3 j0 j1 j2 j3
      go_wp2
      go_ret
      exact ⟨rfl, ⟨B2.out.os, B2.out.tape, B2.out.output, B2.out.size, B2.out.block⟩⟩
end Go.Proofs.YtpblopdcbjfkpaaDoor
