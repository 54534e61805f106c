/- slices.Equal of items: what it answers. -/
import Derived.Test.YtpblopdcbjfkpaaDoorWiEq
namespace Go
namespace Tap
open Go.RowKit
section
variable {P : Program}
theorem wpQuiet_load {ops : Array Oper} {rest : List Oper} {o : Oper} {a : Act} {w : World} {Q : Act → Prop} (hw : Region.wanted o (yielded ops a.tmps) = true) (ty : TypeId) (x : Operand) (ho : o.op = .load ty x)
    (g of : Nat) (hx : a.eval x = .pointer (some ⟨g, of, none⟩)) (cs : Array Value) (d : TypeDesc) (hc : Part w g of cs) (hu : P.underlying ty = some d) (hd : isAggDesc d = true) (hi : (P.info? ty).map (·.size) = some cs.size)
    (h : wpQuiet P ops (fun w' => ∃ n, w' = w.drewN n) Q rest (a.put o.dst (.agg cs))) : wpQuiet P ops (fun w' => ∃ n, w' = w.drewN n) Q (o :: rest) a :=
  BigFrame.wpQuiet_want hw fun K hK => ⟨.agg cs, fun w' ⟨n, hn⟩ => by
    subst hn
    unfold Oper.quietAt execOp
    have hp : Part (w.drewN n) g of cs := hc.keep rfl
    simp only [ho, hx, Instr.loadAt, Instr.sureAddr, Sem.run_bind, Sem.run_pure, Result.andThen_ok, run_loadVar_at hp hu hd hi]
    exact ⟨rfl, rfl⟩, hK _ h⟩
theorem wpQuiet_cmp {ops : Array Oper} {rest : List Oper} {o : Oper} {a : Act} {w : World} {Q : Act → Prop} (hw : Region.wanted o (yielded ops a.tmps) = true) (op : BinOp) (T T' : TypeId) (x y : Operand) (ho : o.op = .binOp op T x y T') (X Y : Array Value) (hx : a.eval x = .agg X) (hy : a.eval y = .agg Y)
    (hm : P.eqGuardType P.depth T = false) (b : Bool) (hr : ∀ w, (binOp op T (.agg X) (.agg Y)).run P w = .ok (.bool b) w) (h : wpQuiet P ops (fun w' => ∃ n, w' = w.drewN n) Q rest (a.put o.dst (.bool b))) : wpQuiet P ops (fun w' => ∃ n, w' = w.drewN n) Q (o :: rest) a :=
  BigFrame.wpQuiet_want hw fun K hK => ⟨.bool b, fun w' ⟨n, hn⟩ => by
    subst hn
    unfold Oper.quietAt execOp
    simp only [ho, hx, hy, Sem.run_bind, run_eqGuard_agg _ op T x y X Y hm, Result.andThen_ok, hr, Sem.run_pure]
    exact ⟨rfl, rfl⟩, hK _ h⟩
end
end Tap
end Go
namespace Go.Proofs.YtpblopdcbjfkpaaDoor
open Go.RowKit Go.Tap
set_option linter.unusedVariables false
set_option linter.unusedSimpArgs false
set_option maxHeartbeats 1000000 in
set_option maxRecDepth 100000 in
theorem equalI_any (w : World) (a : Option Addr) (n c : Nat) (l : List Wi.It) (hr : RdI w a n l) (ho : ∀ i ∈ l, i.ok) (a2 : Option Addr) (m d : Nat) (l2 : List Wi.It) (hr2 : RdI w a2 m l2) (ho2 : ∀ i ∈ l2, i.ok) (hn : n ≤ 140737488355328) (hm : m ≤ 140737488355328) :
    Calls Tryd.prog 65 #[.slice a n c, .slice a2 m d] w fun e w' => e = .returned (.bool (decide (l = l2))) ∧ Below w.heap.size w w' := by
  have hl := hr.1
  have hl2 := hr2.1
  have HR := Lib.hid hr
  have HR2 := Lib.hid hr2
  have HO := Lib.hid ho
  have HO2 := Lib.hid ho2
  clear hr hr2 ho ho2
  by_cases hnm : n = m
  · subst hnm
    have HL := Lib.hid (And.intro hl hl2)
    clear hl hl2
    go_enter Tryd.func65, Tryd.ntmps65
    go_wp2
    go_loopw [13] (fun kv wr => ∃ k q : Nat, k ≤ n ∧ kv = .int .i64 (k : Int) ∧ wr = w.drewN q ∧ Hid (l.take k = l2.take k)) (fun kv _ => n - (intOf kv).toNat)
    case atStart => exact ⟨0, 0, Nat.zero_le _, rfl, rfl, by show List.take 0 l = List.take 0 l2; rfl⟩
    case round =>
      obtain ⟨k, q, hk, rfl, rfl, HE⟩ := hrel
      by_cases hlt : k < n
      · have d0 : decide ((k : Int) < (n : Int)) = true := decide_eq_true (by omega)
        have d0' : decide (k < n) = true := decide_eq_true hlt
        have d1 : (k : Int) < (n : Int) := by omega
        have hx : l[k]? = some (l[k]'(by have := HL.out; omega)) := List.getElem?_eq_getElem _
        generalize l[k]'(by have := HL.out; omega) = x at hx
        have hy : l2[k]? = some (l2[k]'(by have := HL.out; omega)) := List.getElem?_eq_getElem _
        generalize l2[k]'(by have := HL.out; omega) = y at hy
        obtain ⟨b, o, rfl, hc⟩ := HR.out.2 (by omega)
        obtain ⟨b2, o2, rfl, hc2⟩ := HR2.out.2 (by omega)
        have HX := Lib.hid (HO.out x (List.mem_of_getElem? hx))
        have HY := Lib.hid (HO2.out y (List.mem_of_getElem? hy))
        have g1 : Hid (Part (w.drewN q) b (o + k * 34) (itC x)) := Lib.hid ((hc.2 k x hx).keep rfl)
        have g2 : Hid (Part (w.drewN q) b2 (o2 + k * 34) (itC y)) := Lib.hid ((hc2.2 k y hy).keep rfl)
        have hw := wrapi' ((k : Int) + 1) (by omega)
        generalize hwq : w.drewN q = wq at g1 g2 ⊢
        have HXY := Lib.hid (And.intro hx hy)
        clear hc hc2 hx hy
        by_cases hxy : x = y
        · subst hxy
          have q0 : ∀ w, (binOp .neq 71 (.agg (itC x)) (.agg (itC x))).run Tryd.prog w = .ok (.bool false) w := fun w => by rw [cmp_item_ne x x HX.out HX.out, decide_eq_true rfl]; rfl
          have Q0 := Lib.hid q0
          clear q0
          go_wp2_with fail
          refine wp_region_quiet_lit (by kernel_rfl) (by kernel_rfl) ?_
          repeat (go_big_quiet_step (fail))
          refine wpQuiet_load (by kernel_rfl) 71 (.tmp 18) rfl b (o + k * 34) rfl (itC x) _ g1.out Tryd.underlying71 rfl (by rw [itC_size _ HX.out]; exact sz_item) ?_
          simp only [Act.put, List.setIfInBounds_toArray, List.set_cons_zero, List.set_cons_succ]
          repeat (go_big_quiet_step (fail))
          refine wpQuiet_load (by kernel_rfl) 71 (.tmp 22) rfl b2 (o2 + k * 34) rfl (itC x) _ g2.out Tryd.underlying71 rfl (by rw [itC_size _ HX.out]; exact sz_item) ?_
          simp only [Act.put, List.setIfInBounds_toArray, List.set_cons_zero, List.set_cons_succ]
          refine wpQuiet_cmp (by kernel_rfl) .neq 71 71 (.tmp 19) (.tmp 23) rfl (itC x) (itC x) rfl rfl gd_item false Q0.out ?_
          refine wpQuiet_nil ?_
          intro _ hw'
          obtain ⟨nq, hw2⟩ := hw'
          subst hw2
          go_wp2
          go_roundw
          case rel =>
            refine ⟨k + 1, q + nq, by omega, by go_num, by rw [← hwq, World.drewN_drewN], ?_⟩
            show l.take (k + 1) = l2.take (k + 1)
            rw [List.take_add_one, List.take_add_one, HE.out, HXY.out.1, HXY.out.2]
          case measure => simp [intOf]; omega
        · have q0 : ∀ w, (binOp .neq 71 (.agg (itC x)) (.agg (itC y))).run Tryd.prog w = .ok (.bool true) w := fun w => by rw [cmp_item_ne x y HX.out HY.out, decide_eq_false hxy]; rfl
          have hfin : l ≠ l2 := fun e => by subst e; have h1 := HXY.out.1; have h2 := HXY.out.2; rw [h1] at h2; simp only [Option.some.injEq] at h2; exact hxy h2
          have HFI := Lib.hid hfin
          clear hfin hxy
          have Q0 := Lib.hid q0
          clear q0
          go_wp2_with fail
          refine wp_region_quiet_lit (by kernel_rfl) (by kernel_rfl) ?_
          repeat (go_big_quiet_step (fail))
          refine wpQuiet_load (by kernel_rfl) 71 (.tmp 18) rfl b (o + k * 34) rfl (itC x) _ g1.out Tryd.underlying71 rfl (by rw [itC_size _ HX.out]; exact sz_item) ?_
          simp only [Act.put, List.setIfInBounds_toArray, List.set_cons_zero, List.set_cons_succ]
          repeat (go_big_quiet_step (fail))
          refine wpQuiet_load (by kernel_rfl) 71 (.tmp 22) rfl b2 (o2 + k * 34) rfl (itC y) _ g2.out Tryd.underlying71 rfl (by rw [itC_size _ HY.out]; exact sz_item) ?_
          simp only [Act.put, List.setIfInBounds_toArray, List.set_cons_zero, List.set_cons_succ]
          refine wpQuiet_cmp (by kernel_rfl) .neq 71 71 (.tmp 19) (.tmp 23) rfl (itC x) (itC y) rfl rfl gd_item true Q0.out ?_
          refine wpQuiet_nil ?_
          intro _ hw'
          obtain ⟨nq, hw2⟩ := hw'
          subst hw2
          go_wp2
          go_ret
          refine ⟨by rw [decide_eq_false HFI.out]; first | done | rfl, ?_⟩
          rw [← hwq, World.drewN_drewN]
          exact ⟨rfl, rfl, rfl, Nat.le_refl _, fun _ _ => rfl⟩
      · obtain rfl : k = n := by omega
        have d0 : decide ((k : Int) < (k : Int)) = false := decide_eq_false (by omega)
        have hfin : l = l2 := by
          have := HE.out
          rwa [List.take_of_length_le (by have := HL.out; omega), List.take_of_length_le (by have := HL.out; omega)] at this
        have HFI := Lib.hid hfin
        clear hfin HE
        go_wp2
        go_ret
        exact ⟨by rw [decide_eq_true HFI.out]; first | done | rfl, ⟨rfl, rfl, rfl, Nat.le_refl _, fun _ _ => rfl⟩⟩
  · have q0 : ((n : Int) != (m : Int)) = true := by rw [bne, beq_eq_false_iff_ne.2 (by omega)]; rfl
    have q0' : ((n : Int) == (m : Int)) = false := beq_eq_false_iff_ne.2 (by omega)
    have hfin : l ≠ l2 := fun e => hnm (by rw [← hl, ← hl2, e])
    have HFI := Lib.hid hfin
    clear hfin hl hl2 hnm
    go_enter Tryd.func65, Tryd.ntmps65
    go_wp2
    go_ret
    exact ⟨by rw [decide_eq_false HFI.out]; first | done | rfl, Below.refl _ _⟩
end Go.Proofs.YtpblopdcbjfkpaaDoor
