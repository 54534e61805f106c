/- slices.Equal of bytes; octet.NewReader with the place of its bytes (for the trees). -/
import Derived.Test.YthampbiabkfmoaaGreatDoorWiRd
import Derived.BigQuiet
namespace Go.Proofs.YthampbiabkfmoaaGreatDoor
open Go.RowKit Go.Tap
set_option linter.unusedVariables false
set_option linter.unusedSimpArgs false
set_option maxHeartbeats 1000000 in
set_option maxRecDepth 100000 in
theorem equal_any (w : World) (a : Option Addr) (n c : Nat) (l : List UInt8) (hr : Rds w a n l) (a2 : Option Addr) (m d : Nat) (l2 : List UInt8) (hr2 : Rds w a2 m l2) (hn : n ≤ 140737488355328) (hm : m ≤ 140737488355328) :
    Calls Tryz.prog 48 #[.slice a n c, .slice a2 m d] w fun e w' => e = .returned (.bool (decide (l = l2))) ∧ Below w.heap.size w w' := by
  have hl := hr.1
  have hl2 := hr2.1
  have HR := Lib.hid hr
  have HR2 := Lib.hid hr2
  clear hr hr2
  by_cases hnm : n = m
  · subst hnm
    have HL := Lib.hid (And.intro hl hl2)
    clear hl hl2
    go_enter Tryz.func48, Tryz.ntmps48
    go_wp2
    go_loopw [13] (fun kv wr => ∃ k q : Nat, k ≤ n ∧ kv = .int .i64 (k : Int) ∧ wr = w.drewN q ∧ Hid (l.take k = l2.take k)) (fun kv _ => n - (intOf kv).toNat)
    case atStart => exact ⟨0, 0, Nat.zero_le _, rfl, rfl, by show List.take 0 l = List.take 0 l2; rfl⟩
    case round =>
      obtain ⟨k, q, hk, rfl, rfl, HE⟩ := hrel
      by_cases hlt : k < n
      · have d0 : decide ((k : Int) < (n : Int)) = true := decide_eq_true (by omega)
        have d0' : decide (k < n) = true := decide_eq_true hlt
        have d1 : (k : Int) < (n : Int) := by omega
        have hx : l[k]? = some (l[k]'(by have := HL.out; omega)) := List.getElem?_eq_getElem _
        generalize l[k]'(by have := HL.out; omega) = x at hx
        have hy : l2[k]? = some (l2[k]'(by have := HL.out; omega)) := List.getElem?_eq_getElem _
        generalize l2[k]'(by have := HL.out; omega) = y at hy
        obtain ⟨b, o, rfl, hc⟩ := HR.out.2 (by omega)
        obtain ⟨b2, o2, rfl, hc2⟩ := HR2.out.2 (by omega)
        have g1 : (w.drewN q).cell? ⟨b, o + k, none⟩ = some (.int .u8 (x.toNat : Int)) := by rw [World.cell?_drewN]; exact hc k x hx
        have g2 : (w.drewN q).cell? ⟨b2, o2 + k, none⟩ = some (.int .u8 (y.toNat : Int)) := by rw [World.cell?_drewN]; exact hc2 k y hy
        have hw := wrapi' ((k : Int) + 1) (by omega)
        generalize hwq : w.drewN q = wq at g1 g2 ⊢
        have HXY := Lib.hid (And.intro hx hy)
        clear hc hc2 hx hy
        by_cases hxy : x = y
        · subst hxy
          have q0 : ((x.toNat : Int) != (x.toNat : Int)) = false := by simp
          go_wp2_with fail
          go_quiet (fail)
          go_wp2
          go_roundw
          case rel =>
            refine ⟨k + 1, q + nq, by omega, by go_num, by rw [← hwq, World.drewN_drewN], ?_⟩
            show l.take (k + 1) = l2.take (k + 1)
            rw [List.take_add_one, List.take_add_one, HE.out, HXY.out.1, HXY.out.2]
          case measure => simp [intOf]; omega
        · have hne : (x.toNat : Int) ≠ (y.toNat : Int) := fun e => hxy (UInt8.toNat_inj.1 (by omega))
          have q0 : ((x.toNat : Int) != (y.toNat : Int)) = true := by rw [bne, beq_eq_false_iff_ne.2 hne]; rfl
          have q0' : ((x.toNat : Int) == (y.toNat : Int)) = false := beq_eq_false_iff_ne.2 hne
          have hfin : l ≠ l2 := fun e => by subst e; have h1 := HXY.out.1; have h2 := HXY.out.2; rw [h1] at h2; simp only [Option.some.injEq] at h2; exact hxy h2
          have HFI := Lib.hid hfin
          clear hfin hxy hne
          go_wp2_with fail
          go_quiet (fail)
          go_wp2
          go_ret
          refine ⟨by rw [decide_eq_false HFI.out]; first | done | rfl, ?_⟩
          rw [← hwq, World.drewN_drewN]
          exact ⟨rfl, rfl, rfl, Nat.le_refl _, fun _ _ => rfl⟩
      · obtain rfl : k = n := by omega
        have d0 : decide ((k : Int) < (k : Int)) = false := decide_eq_false (by omega)
        have hfin : l = l2 := by
          have := HE.out
          rwa [List.take_of_length_le (by have := HL.out; omega), List.take_of_length_le (by have := HL.out; omega)] at this
        have HFI := Lib.hid hfin
        clear hfin HE
        go_wp2
        go_ret
        exact ⟨by rw [decide_eq_true HFI.out]; first | done | rfl, ⟨rfl, rfl, rfl, Nat.le_refl _, fun _ _ => rfl⟩⟩
  · have q0 : ((n : Int) != (m : Int)) = true := by rw [bne, beq_eq_false_iff_ne.2 (by omega)]; rfl
    have q0' : ((n : Int) == (m : Int)) = false := beq_eq_false_iff_ne.2 (by omega)
    have hfin : l ≠ l2 := fun e => hnm (by rw [← hl, ← hl2, e])
    have HFI := Lib.hid hfin
    clear hfin hl hl2 hnm
    go_enter Tryz.func48, Tryz.ntmps48
    go_wp2
    go_ret
    exact ⟨by rw [decide_eq_false HFI.out]; first | done | rfl, Below.refl _ _⟩
theorem newReader_q (w : World) (a : Option Addr) (n c : Nat) (l : List UInt8) (hr : Rds w a n l) (hz : a = none → c = 0) (hn : n ≤ 140737488355328) :
    Calls Tryz.prog 53 #[.slice a n c] w fun e w' => ∃ B D, e = .returned (.pointer (some ⟨B, 0, none⟩)) ∧ w.heap.size ≤ B ∧ w.heap.size ≤ D ∧ Rd 156 w' B D l false ∧ Below w.heap.size w w' := by
  obtain ⟨i0, hi, hz0, hz1, hz2⟩ := info_parts Tryz.infoB
  go_enter Tryz.func53, Tryz.ntmps53
  go_wp2_with (at_builtin; refine wpList_append_rds _ rfl (.tmp 3) (.tmp 4) 66 rfl w.heap.size 5 i0 Tryz.underlying66 hi hz0 hz1 hz2 _ 0 [] rfl (own_empty _ _) _ _ _ rfl hz l (hr.alloc _) (by omega) (by simp) ?_)
  intro v' w' hown hg
  obtain ⟨a', c', rfl, h1, h2, h3, h4⟩ := ownsRow_slice hown
  have hl := hr.1
  clear h2
  have HL := Lib.hid hl
  have H1 := Lib.hid h1
  clear hl h1
  go_wp2
  go_ret
  have hsz := hg.size
  simp only [World.size_alloc] at hsz
  have hrd := Rds.of_own (n := n) (c := c') (a := a') (by rw [HL.out]; simpa using hown) HL.out
  have e : (w'.alloc (.cells #[.slice a' n c', .bool false] 156)).heap[w'.heap.size]? = _ := heap_alloc_new _ _
  have hD : ∃ D, InB D a' ∧ w.heap.size ≤ D ∧ D ≤ w'.heap.size := by
    cases a' with
    | none => exact ⟨w'.heap.size, InB.nil _, by omega, Nat.le_refl _⟩
    | some x =>
      have := hown.lt x.block rfl
      exact ⟨x.block, fun y e => by cases e; rfl, this.1, by omega⟩
  obtain ⟨D, hD1, hD2, hD3⟩ := hD
  refine ⟨w'.heap.size, D, by simp, by omega, hD2, ⟨⟨a', c', ⟨⟨by rw [HL.out]; simpa using e, ?_, by rw [HL.out]; simpa using H1.out, h3, by rw [HL.out]; omega⟩, hD1⟩⟩, by simp; omega⟩, (((Below.refl _ _).alloc (Nat.le_refl _) _).grown hg (by simp) (by intro j hj; simp [Value.ownBlock] at hj; omega)).alloc (by omega) _⟩
  rw [HL.out]; exact hrd.alloc _
end Go.Proofs.YthampbiabkfmoaaGreatDoor
