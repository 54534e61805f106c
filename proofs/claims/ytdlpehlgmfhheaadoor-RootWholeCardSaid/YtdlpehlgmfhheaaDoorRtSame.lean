/- SameInts, SameRoot: what they answer. -/
import Derived.Test.YtdlpehlgmfhheaaDoorRtRef
namespace Go.Proofs.YtdlpehlgmfhheaaDoor
open Go.RowKit Go.Tap Go.Maps
set_option linter.unusedVariables false
attribute [local go_sem ↓] Go.wp_at_zero Go.wp_at_succ

set_option maxHeartbeats 1000000 in
set_option maxRecDepth 100000 in
theorem sameInts_any (w : World) (a : Option Addr) (n c : Nat) (l : List Int) (hr : Ints w a n c l) (a2 : Option Addr) (m d : Nat) (l2 : List Int) (hr2 : Ints w a2 m d l2) (hn : n ≤ 140737488355328) (hm : m ≤ 140737488355328) :
    Calls Tryd.prog 94 #[.slice a n c, .slice a2 m d] w fun e w' => e = .returned (.bool (decide (l = l2))) ∧ Below w.heap.size w w' := by
  have hl := hr.len
  have hl2 := hr2.len
  have HR := Lib.hid hr
  have HR2 := Lib.hid hr2
  clear hr hr2
  by_cases hnm : n = m
  · subst hnm
    have HL := Lib.hid (And.intro hl hl2)
    clear hl hl2
    go_enter Tryd.func94, Tryd.ntmps94
    go_wp2
    go_loopw [5] (fun kv wr => ∃ k q : Nat, k ≤ n ∧ kv = .int .i64 (k : Int) ∧ wr = w.drewN q ∧ Hid (l.take k = l2.take k)) (fun kv _ => n - (intOf kv).toNat)
    case atStart => exact ⟨0, 0, Nat.zero_le _, rfl, rfl, by show List.take 0 l = List.take 0 l2; rfl⟩
    case round =>
      obtain ⟨k, q, hk, rfl, rfl, HE⟩ := hrel
      by_cases hlt : k < n
      · have d0 : decide ((k : Int) < (n : Int)) = true := decide_eq_true (by omega)
        have d0' : decide (k < n) = true := decide_eq_true hlt
        have d1 : (k : Int) < (n : Int) := by omega
        have hx : l[k]? = some (l[k]'(by have := HL.out; omega)) := List.getElem?_eq_getElem _
        generalize l[k]'(by have := HL.out; omega) = x at hx
        have hy : l2[k]? = some (l2[k]'(by have := HL.out; omega)) := List.getElem?_eq_getElem _
        generalize l2[k]'(by have := HL.out; omega) = y at hy
        obtain ⟨b, o, rfl, hc⟩ := HR.out.cell hx
        obtain ⟨b2, o2, rfl, hc2⟩ := HR2.out.cell hy
        have g1 : (w.drewN q).cell? ⟨b, o + k, none⟩ = some (.int .i64 x) := by rw [World.cell?_drewN]; exact hc
        have g2 : (w.drewN q).cell? ⟨b2, o2 + k, none⟩ = some (.int .i64 y) := by rw [World.cell?_drewN]; exact hc2
        have hw := wrapi' ((k : Int) + 1) (by omega)
        generalize hwq : w.drewN q = wq at g1 g2 ⊢
        have HXY := Lib.hid (And.intro hx hy)
        clear hc hc2 hx hy
        by_cases hxy : x = y
        · subst hxy
          have q0 : (x != x) = false := by simp
          go_wp2_with fail
          go_quiet (fail)
          go_wp2
          go_roundw
          case rel =>
            refine ⟨k + 1, q + nq, by omega, by go_num, by rw [← hwq, World.drewN_drewN], ?_⟩
            show l.take (k + 1) = l2.take (k + 1)
            rw [List.take_add_one, List.take_add_one, HE.out, HXY.out.1, HXY.out.2]
          case measure => simp [intOf]; omega
        · have q0 : (x != y) = true := by rw [bne, beq_eq_false_iff_ne.2 hxy]; rfl
          have q0' : (x == y) = false := beq_eq_false_iff_ne.2 hxy
          have hfin : l ≠ l2 := fun e => by subst e; have h1 := HXY.out.1; have h2 := HXY.out.2; rw [h1] at h2; simp only [Option.some.injEq] at h2; exact hxy h2
          have HFI := Lib.hid hfin
          clear hfin hxy
          go_wp2_with fail
          go_quiet (fail)
          go_wp2
          go_ret
          refine ⟨by rw [decide_eq_false HFI.out]; first | done | rfl, ?_⟩
          rw [← hwq, World.drewN_drewN]
          exact ⟨rfl, rfl, rfl, Nat.le_refl _, fun _ _ => rfl⟩
      · obtain rfl : k = n := by omega
        have d0 : decide ((k : Int) < (k : Int)) = false := decide_eq_false (by omega)
        have hfin : l = l2 := by
          have := HE.out
          rwa [List.take_of_length_le (by have := HL.out; omega), List.take_of_length_le (by have := HL.out; omega)] at this
        have HFI := Lib.hid hfin
        clear hfin HE
        go_wp2
        go_ret
        exact ⟨by rw [decide_eq_true HFI.out]; first | done | rfl, ⟨rfl, rfl, rfl, Nat.le_refl _, fun _ _ => rfl⟩⟩
  · have q0 : ((n : Int) != (m : Int)) = true := by rw [bne, beq_eq_false_iff_ne.2 (by omega)]; rfl
    have q0' : ((n : Int) == (m : Int)) = false := beq_eq_false_iff_ne.2 (by omega)
    have hfin : l ≠ l2 := fun e => hnm (by rw [← hl, ← hl2, e])
    have HFI := Lib.hid hfin
    clear hfin hl hl2 hnm
    go_enter Tryd.func94, Tryd.ntmps94
    go_wp2
    go_ret
    exact ⟨by rw [decide_eq_false HFI.out]; first | done | rfl, Below.refl _ _⟩
set_option maxHeartbeats 2000000 in
set_option maxRecDepth 100000 in
theorem sameRoot_any (w : World) (g i : Int) (a : Option Addr) (n c : Nat) (l : List Int) (hr : Ints w a n c l) (g2 i2 : Int) (a2 : Option Addr) (m d : Nat) (l2 : List Int) (hr2 : Ints w a2 m d l2) (hn : n ≤ 140737488355328) (hm : m ≤ 140737488355328) :
    Calls Tryd.prog 39 #[.agg #[.int .i64 g, .slice a n c, .int .i64 i], .agg #[.int .i64 g2, .slice a2 m d, .int .i64 i2]] w fun e w' => e = .returned (.bool (decide (g = g2 ∧ i = i2 ∧ l = l2))) ∧ Below w.heap.size w w' := by
  have hb2 : Below w.heap.size w ((w.alloc (.cells #[.int .i64 g, .slice a n c, .int .i64 i] 90)).alloc (.cells #[.int .i64 g2, .slice a2 m d, .int .i64 i2] 90)) := ((Below.refl _ _).alloc (Nat.le_refl _) _).alloc (by simp) _
  have hsi := sameInts_any _ a n c l (hr.below hb2 (Nat.le_refl _)) a2 m d l2 (hr2.below hb2 (Nat.le_refl _)) hn hm
  clear hr hr2
  by_cases e1 : g = g2
  · subst e1
    have q0 : (g == g) = true := by simp
    by_cases e2 : i = i2
    · subst e2
      have q1 : (i == i) = true := by simp
      have hfin : decide (g = g ∧ i = i ∧ l = l2) = decide (l = l2) := by simp
      rw [hfin]
      clear hfin
      go_enter Tryd.func39, Tryd.ntmps39
      go_wp2_with fail
      refine hsi.mono ?_
      rintro e w3 ⟨rfl, hb3⟩
      have b3 := hb2.trans (hb3.mono hb2.size)
      clear hsi hb2 hb3
      go_wp2
      go_ret
      exact ⟨rfl, b3⟩
    · have q1 : (i == i2) = false := beq_eq_false_iff_ne.2 e2
      obtain ⟨T, hT⟩ : ∃ T, T = decide (g = g ∧ i = i2 ∧ l = l2) := ⟨_, rfl⟩
      rw [← hT]
      have HFI := Lib.hid (show T = false by rw [hT]; exact decide_eq_false (fun h => e2 h.2.1))
      clear hsi e2 hT
      go_enter Tryd.func39, Tryd.ntmps39
      go_wp2
      go_ret
      exact ⟨by rw [show T = false from HFI.out]; first | done | rfl, hb2⟩
  · have q1 : (g == g2) = false := beq_eq_false_iff_ne.2 e1
    obtain ⟨T, hT⟩ : ∃ T, T = decide (g = g2 ∧ i = i2 ∧ l = l2) := ⟨_, rfl⟩
    rw [← hT]
    have HFI := Lib.hid (show T = false by rw [hT]; exact decide_eq_false (fun h => e1 h.1))
    clear hsi e1 hT
    go_enter Tryd.func39, Tryd.ntmps39
    go_wp2
    go_ret
    exact ⟨by rw [show T = false from HFI.out]; first | done | rfl, hb2⟩
end Go.Proofs.YtdlpehlgmfhheaaDoor
