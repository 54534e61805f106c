/- root.may, root.Lay, slices.Equal of bytes: what they answer. -/
import Derived.Test.YtggdbdjaobgeeaaGreatDoorRtPlain
import Derived.Test.YtggdbdjaobgeeaaGreatDoorRowK
import Derived.Test.YtggdbdjaobgeeaaGreatDoorDskSt
import Derived.Test.YtggdbdjaobgeeaaGreatDoorReadVar
import Derived.Laws.ResultCell
import Derived.BigQuiet
import Derived.Deep.QuietTactic
namespace Go.Proofs.YtggdbdjaobgeeaaGreatDoor
open Go.RowKit Go.Tap Go.Maps
set_option linter.unusedVariables false
attribute [local go_sem ↓] Go.wp_at_zero Go.wp_at_succ

theorem infoInt : (Tryz.prog.info? 3).map (fun i => (i.zero, i.size, i.bytes)) = some (some (.int .i64 0), 1, 8) := by kernel_rfl
def iv (l : List Int) : List Value := l.map (Value.int .i64)
theorem iv_get (l : List Int) (j : Nat) : (iv l)[j]? = (l[j]?).map (Value.int .i64) := by unfold iv; rw [List.getElem?_map]
theorem iv_len (l : List Int) : (iv l).length = l.length := by unfold iv; rw [List.length_map]
theorem iv_one (l : List Int) : ∀ u ∈ iv l, u.oneCell' = true := by
  intro u hu
  obtain ⟨z, _, rfl⟩ := List.mem_map.1 hu
  rfl
theorem iv_app (l m : List Int) : iv (l ++ m) = iv l ++ iv m := by unfold iv; rw [List.map_append]
/-- A slice of ints that can be read. -/
structure Ints (w : World) (a : Option Addr) (n c : Nat) (l : List Int) : Prop where
  src : Src w a n 1 (iv l)
  le : n ≤ c
  none : a = none → c = 0
theorem Ints.len {w : World} {a : Option Addr} {n c : Nat} {l : List Int} (h : Ints w a n c l) : l.length = n := by have := h.src.1; rw [iv_len] at this; omega
theorem Ints.nil (w : World) : Ints w Option.none 0 0 [] := ⟨Src.nil _ _ _, Nat.le_refl _, fun _ => rfl⟩
theorem Ints.below {w w' : World} {B : Nat} {a : Option Addr} {n c : Nat} {l : List Int} (h : Ints w a n c l) (hb : Below B w w') (hB : w.heap.size ≤ B) : Ints w' a n c l := ⟨h.src.below (by omega) hb hB, h.le, h.none⟩
theorem Ints.of_own {w : World} {base : Nat} {a : Option Addr} {n c : Nat} {l : List Int} (h : w.ownsRow base 3 1 (.slice a n c) n (iv l)) : Ints w a n c l := by
  obtain ⟨_, _, e, h1, _, h2, _⟩ := ownsRow_slice h
  simp only [Value.slice.injEq] at e
  obtain ⟨rfl, _, rfl⟩ := e
  exact ⟨Src.of_own h, h1, h2⟩
/-- The cell of an element. -/
theorem Ints.cell {w : World} {a : Option Addr} {n c : Nat} {l : List Int} (h : Ints w a n c l) {j : Nat} {z : Int} (hj : l[j]? = some z) : ∃ b o, a = some ⟨b, o, Option.none⟩ ∧ w.cell? ⟨b, o + j, Option.none⟩ = some (.int .i64 z) := by
  have hlt := (List.getElem?_eq_some_iff.1 hj).1
  have := h.len
  obtain ⟨b, o, e, hc⟩ := h.src.2 (by omega)
  exact ⟨b, o, e, hc j _ (by rw [iv_get, hj]; rfl)⟩
theorem fine_no {z : Int} : Rt.fine z = false ↔ z < 0 ∨ 1099511627776 < z := by
  unfold Rt.fine
  rw [decide_eq_false_iff_not]; omega
/-- The numbers of a root, as 'may' walks them. -/
def Rt.all (r : Rt.Root) : List Int := [r.gen, r.idx] ++ r.logs
theorem may_all (r : Rt.Root) : Rt.may r = ((Rt.all r).all Rt.fine && decide (r.logs.length ≤ 8)) := by
  unfold Rt.may Rt.all
  simp [Bool.and_assoc]
set_option maxHeartbeats 2000000 in
set_option maxRecDepth 100000 in
theorem may_any (w : World) (r : Rt.Root) (a : Option Addr) (n c : Nat) (hs : Ints w a n c r.logs) (hn : n ≤ 2097152) :
    Calls Tryz.prog 130 #[.agg #[.int .i64 r.gen, .slice a n c, .int .i64 r.idx]] w fun e w' => e = .returned (.bool (Rt.may r)) ∧ Below w.heap.size w w' := by
  obtain ⟨i0, hi, hz0, hz1, hz2⟩ := info_parts infoInt
  have hl := hs.len
  have hz := hs.none
  obtain ⟨R, hR⟩ : ∃ R, R = Rt.all r := ⟨_, rfl⟩
  have hRl : R.length = 2 + n := by rw [hR]; unfold Rt.all; simp [hl]; omega
  have hRe : iv R = Value.int .i64 r.gen :: Value.int .i64 r.idx :: iv r.logs := by rw [hR]; rfl
  have hm := may_all r
  rw [← hR, hl] at hm
  have hown0 : ((w.alloc (.cells #[.int .i64 r.gen, .slice a n c, .int .i64 r.idx] 67)).alloc (.cells #[.int .i64 r.gen, .int .i64 r.idx] 3)).ownsRow w.heap.size 3 1 (.slice (some ⟨w.heap.size + 1, 0, none⟩) 2 2) 2 [.int .i64 r.gen, .int .i64 r.idx] := by
    have := World.ownsRow_lit (base := w.heap.size) (e := 3) (size := 1) (w.alloc (.cells #[.int .i64 r.gen, .slice a n c, .int .i64 r.idx] 67)) #[.int .i64 r.gen, .int .i64 r.idx] 2 (by simp) (by unfold maxLen; omega) rfl
    rwa [show (w.alloc (.cells #[.int .i64 r.gen, .slice a n c, .int .i64 r.idx] 67)).heap.size = w.heap.size + 1 by simp] at this
  have hsrc0 := (hs.src.alloc (by omega) (.cells #[.int .i64 r.gen, .slice a n c, .int .i64 r.idx] 67)).alloc (by omega) (.cells #[.int .i64 r.gen, .int .i64 r.idx] 3)
  have HOW := Lib.hid hown0
  have HSR := Lib.hid hsrc0
  have HM := Lib.hid hm
  have HR := Lib.hid hRe
  have HRL := Lib.hid hRl
  clear hm hRe hRl hR hs hl hown0 hsrc0
  go_enter Tryz.func130, Tryz.ntmps130
  go_wp2_with (at_builtin; go_must (refine wpList_append_src _ rfl (.tmp 9) (.tmp 11) 58 rfl w.heap.size 3 i0 _ 1 8 Tryz.underlying58 hi hz0 hz1 hz2 rfl (by omega) _ 2 _ rfl HOW.out a n c rfl hz (iv r.logs) HSR.out (iv_one _) (by omega) (by omega) (by simp; omega) ?_))
  intro a3 c3 w3 hown hg
  have bw : Below w.heap.size w w3 := (((Below.refl w.heap.size w).alloc (Nat.le_refl _) _).alloc (by simp) _).grown hg (by simp; omega) (by intro j hj; simp [Value.ownBlock] at hj; omega)
  have k1w : w3.cell? ⟨w.heap.size, 1, none⟩ = some (.slice a n c) := (World.cell?_of_block (hg.block w.heap.size (by simp; omega) (by intro e; simp [Value.ownBlock] at e))).trans (by rw [World.cell?_alloc_lt _ _ ⟨w.heap.size, 1, none⟩ (by simp)]; simp)
  rw [← show iv R = _ from HR.out] at hown
  have hints := Ints.of_own hown
  have HI := Lib.hid hints
  clear hown hg hints HOW HSR
  obtain ⟨N, hN⟩ : ∃ N, N = 2 + n := ⟨_, rfl⟩
  have hNi : (2 : Int) + (n : Int) = (N : Int) := by omega
  rw [← hN] at HI HRL ⊢
  have HNN := Lib.hid hN
  have hNb : N ≤ 2097154 := by omega
  clear hN
  go_wp2_with fail
  go_loop [14] (fun kv => ∃ k : Nat, k ≤ N ∧ kv = .int .i64 (k : Int) ∧ Hid (∀ j z, j < k → R[j]? = some z → Rt.fine z = true)) (fun kv => N - (intOf kv).toNat)
  case atStart => exact ⟨0, Nat.zero_le _, rfl, fun j z hj => by omega⟩
  case round =>
    obtain ⟨k, hk, rfl, HF⟩ := hrel
    by_cases hlt : k < N
    · have d0 : decide ((k : Int) < (N : Int)) = true := decide_eq_true (by omega)
      have d0' : decide (k < N) = true := decide_eq_true hlt
      have d1 : (k : Int) < (N : Int) := by omega
      have hx : R[k]? = some (R[k]'(by have := HRL.out; omega)) := List.getElem?_eq_getElem _
      generalize R[k]'(by have := HRL.out; omega) = z at hx
      obtain ⟨b, o, rfl, hc⟩ := HI.out.cell hx
      have hw := wrapi' ((k : Int) + 1) (by omega)
      have HX := Lib.hid hx
      clear hx
      rcases Int.lt_or_le z 0 with h0 | h0
      · have q0 : decide (z < 0) = true := decide_eq_true h0
        have hfin : Rt.may r = false := by
          rw [show Rt.may r = _ from HM.out, Bool.and_eq_false_iff]; left
          rw [List.all_eq_false]
          exact ⟨z, List.mem_of_getElem? HX.out, by rw [fine_no.2 (.inl h0)]; simp⟩
        have HFI := Lib.hid hfin
        clear hfin
        go_wp2
        go_ret
        exact ⟨by rw [HFI.out]; first | done | rfl, bw⟩
      · have q0 : decide (z < 0) = false := decide_eq_false (by omega)
        rcases Int.lt_or_le 1099511627776 z with h1 | h1
        · have q1 : decide ((1099511627776 : Int) < z) = true := decide_eq_true h1
          have hfin : Rt.may r = false := by
            rw [show Rt.may r = _ from HM.out, Bool.and_eq_false_iff]; left
            rw [List.all_eq_false]
            exact ⟨z, List.mem_of_getElem? HX.out, by rw [fine_no.2 (.inr h1)]; simp⟩
          have HFI := Lib.hid hfin
          clear hfin
          go_wp2
          go_ret
          exact ⟨by rw [HFI.out]; first | done | rfl, bw⟩
        · have q1 : decide ((1099511627776 : Int) < z) = false := decide_eq_false (by omega)
          have hfz : Rt.fine z = true := decide_eq_true ⟨h0, h1⟩
          have HFZ := Lib.hid hfz
          clear hfz
          go_wp2
          go_round
          case rel =>
            refine ⟨k + 1, by omega, by go_num, fun j y hj hy => ?_⟩
            by_cases e : j = k
            · subst e
              have := HX.out
              rw [hy] at this
              simp only [Option.some.injEq] at this
              rw [this]; exact HFZ.out
            · exact HF.out j y (by omega) hy
          case measure => simp [intOf]; omega
    · obtain rfl : k = N := by omega
      have d0 : decide ((k : Int) < (k : Int)) = false := decide_eq_false (by omega)
      have hall : R.all Rt.fine = true := by
        rw [List.all_eq_true]
        intro z hz'
        obtain ⟨j, hj, e⟩ := List.getElem_of_mem hz'
        exact HF.out j z (by have := HRL.out; omega) (by rw [List.getElem?_eq_getElem hj, e])
      have hfin : Rt.may r = decide ((n : Int) ≤ 8) := by
        rw [show Rt.may r = _ from HM.out, hall, Bool.true_and]
        by_cases h : n ≤ 8
        · rw [decide_eq_true h, decide_eq_true (by omega)]
        · rw [decide_eq_false h, decide_eq_false (by omega)]
      have HFI := Lib.hid hfin
      obtain ⟨t, q0, q1⟩ : ∃ t : Bool, decide ((n : Int) ≤ 8) = t ∧ decide (n ≤ 8) = t := by
        by_cases h : n ≤ 8
        · exact ⟨true, decide_eq_true (by omega), decide_eq_true h⟩
        · exact ⟨false, decide_eq_false (by omega), decide_eq_false h⟩
      rw [q0] at HFI
      clear hall hfin HF
      go_wp2
      go_ret
      exact ⟨by rw [HFI.out]; first | done | rfl, bw⟩
/-- A Writer's call, seen from the world in which it was made. -/
theorem WAft.next {T : TypeId} {w wr w' : World} {B : Nat} {v : Value} {l : List UInt8} {e : Ending} (hb : Below w.heap.size w wr) (hB : w.heap.size ≤ B) (g : ∀ j, v.ownBlock = some j → w.heap.size ≤ j) (h : WAft T wr B v l e w') :
    e = .returned (.tuple #[]) ∧ ∃ v', IsW T w' B v' l ∧ (∀ j, v'.ownBlock = some j → w.heap.size ≤ j) ∧ Below w.heap.size w w' := by
  obtain ⟨rfl, v', h1, h2, h3⟩ := h
  exact ⟨rfl, v', h1, fun j hj => (h3 j hj).elim (g j) (fun h => by have := hb.size; omega), Below.trans_stay hb h2 (Nat.le_refl _) (wf_new (w1 := wr) hB g)⟩
def RtLayAft (w : World) (r : Rt.Root) (e : Ending) (w' : World) : Prop :=
  Below w.heap.size w w' ∧ if Rt.may r = true then ∃ v, e = .returned (.tuple #[v, .nilIface]) ∧ w'.ownsRow w.heap.size 5 1 v (Rt.lay r).length (bv (Rt.lay r)) else e = .returned (.tuple #[.slice none 0 0, .iface 35 (.int .i64 1)])
theorem vars_snoc (l : List Int) (z : Int) : Rt.vars (l ++ [z]) = Rt.vars l ++ Rt.vr z := by simp [Rt.vars]
set_option maxHeartbeats 4000000 in
set_option maxRecDepth 100000 in
theorem rtLay_any (w : World) (r : Rt.Root) (a : Option Addr) (n c : Nat) (hs : Ints w a n c r.logs) (hn : n ≤ 2097152) :
    Calls Tryz.prog 84 #[.agg #[.int .i64 r.gen, .slice a n c, .int .i64 r.idx]] w (RtLayAft w r) := by
  have hl := hs.len
  obtain ⟨W1, hW1⟩ : ∃ W1, W1 = w.alloc (.cells #[.int .i64 r.gen, .slice a n c, .int .i64 r.idx] 67) := ⟨_, rfl⟩
  have hT1 : W1.heap[w.heap.size]? = some (.cells #[.int .i64 r.gen, .slice a n c, .int .i64 r.idx] 67 (0, 0)) := by rw [hW1]; exact heap_alloc_new _ _
  have hB1 : Below w.heap.size w W1 := by rw [hW1]; exact (Below.refl _ _).alloc (Nat.le_refl _) _
  have hs1 : W1.heap.size = w.heap.size + 1 := by rw [hW1]; simp
  have k0 : W1.cell? ⟨w.heap.size, 0, none⟩ = some (.int .i64 r.gen) := blk_cell (i := 0) hT1 rfl
  have k1 : W1.cell? ⟨w.heap.size, 1, none⟩ = some (.slice a n c) := blk_cell (i := 1) hT1 rfl
  have k2 : W1.cell? ⟨w.heap.size, 2, none⟩ = some (.int .i64 r.idx) := blk_cell (i := 2) hT1 rfl
  have hmay := may_any W1 r a n c (hs.below hB1 (Nat.le_refl _)) hn
  have HI := Lib.hid (hs.below hB1 (Nat.le_refl _))
  have HT1 := Lib.hid hT1
  have HB1 := Lib.hid hB1
  have HS1 := Lib.hid hs1
  clear hs hT1 hB1 hs1
  obtain ⟨m, hm⟩ : ∃ m, m = Rt.may r := ⟨_, rfl⟩
  rw [← hm] at hmay
  unfold RtLayAft
  rw [← hm]
  have HM := Lib.hid hm
  clear hm
  go_enter Tryz.func84, Tryz.ntmps84
  go_wp2_with fail
  rw [← hW1]
  clear hW1
  go_wp2_with fail
  refine hmay.mono ?_
  clear hmay
  rintro e w2 ⟨rfl, hb2⟩
  have hT2 := Lib.hid ((hb2.block w.heap.size (by rw [HS1.out]; omega)).trans HT1.out)
  have hi2 := Lib.hid (HI.out.below hb2 (Nat.le_refl _))
  have bw2 := HB1.out.trans (hb2.mono HB1.out.size)
  have hs2 : w.heap.size + 1 ≤ w2.heap.size := by have := hb2.size; rw [HS1.out] at this; exact this
  clear hb2 HI HT1 HB1 k0 k1 k2
  cases m with
  | false =>
    go_wp2
    go_ret2
    exact ⟨bw2, rfl⟩
  | true =>
    have hmay := HM.out.symm
    have hck : ∀ X : World, Below w2.heap.size w2 X → (X.cell? ⟨w.heap.size, 0, none⟩ = some (.int .i64 r.gen) ∧ X.cell? ⟨w.heap.size, 1, none⟩ = some (.slice a n c) ∧ X.cell? ⟨w.heap.size, 2, none⟩ = some (.int .i64 r.idx)) ∧ Ints X a n c r.logs := fun X hX => by
      have hT := (hX.block w.heap.size (by omega)).trans hT2.out
      exact ⟨⟨blk_cell (i := 0) hT rfl, blk_cell (i := 1) hT rfl, blk_cell (i := 2) hT rfl⟩, hi2.out.below hX (Nat.le_refl _)⟩
    have CK := Lib.hid hck
    have hn8 : n ≤ 8 := by rw [← hl]; exact ((Rt.may_iff r).1 hmay).2.2.2
    have hg1 := ((Rt.may_iff r).1 hmay).1
    have hg2 := ((Rt.may_iff r).1 hmay).2.1
    have hg3 := Rt.fine_len r hmay
    have hg4 := ((Rt.may_iff r).1 hmay).2.2.1
    have e1 := (Rt.vr_length _ hg1).2
    have e2 := (Rt.vr_length _ hg2).2
    have e3 := (Rt.vr_length _ hg3).2
    rw [hl] at e3
    have hva : ∀ k, (Rt.vars (r.logs.take k)).length ≤ 10 * k := fun k => by
      have := Rt.vars_length (r.logs.take k) (fun z hz => hg4 z (List.mem_of_mem_take hz))
      have h2 : (r.logs.take k).length ≤ k := List.length_take_le _ _
      omega
    have HVA := Lib.hid hva
    have HMAY := Lib.hid hmay
    have HE := Lib.hid (And.intro e1 (And.intro e2 e3))
    clear hck hT2 hi2 hg1 hg2 hg3 hg4 e1 e2 e3 hva hmay HM
    obtain ⟨⟨k0, _, _⟩, _⟩ := CK.out w2 (Below.refl _ _)
    clear k0
    go_wp2_with fail
    refine (newWriter_any w2).mono ?_
    rintro e w3 ⟨B, rfl, hB, h3, hb3⟩
    obtain ⟨⟨k0, k1, k2⟩, _⟩ := CK.out w3 hb3
    have hv3 := oVar_any w3 B _ [] h3 r.gen (by simp)
    clear h3 k1 k2
    go_wp2_with fail
    refine hv3.mono ?_
    clear hv3
    intro e w4 h4
    obtain ⟨rfl, v4, h4, g4, hb4⟩ := WAft.next hb3 hB (by intro j hj; simp [Value.ownBlock] at hj) h4
    rw [List.nil_append] at h4
    change IsW _ w4 B v4 (Rt.vr r.gen) at h4
    clear hb3 k0
    obtain ⟨⟨k0, k1, k2⟩, _⟩ := CK.out w4 hb4
    have hv4 := oVar_any w4 B _ _ h4 r.idx (by have := HE.out; omega)
    clear h4 k0 k1
    go_wp2_with fail
    refine hv4.mono ?_
    clear hv4
    intro e w5 h5
    obtain ⟨rfl, v5, h5, g5, hb5⟩ := WAft.next hb4 hB g4 h5
    change IsW _ w5 B v5 (Rt.vr r.gen ++ Rt.vr r.idx) at h5
    clear hb4 k2 g4
    obtain ⟨⟨k0, k1, k2⟩, _⟩ := CK.out w5 hb5
    have hv5 := oVar_any w5 B _ _ h5 (n : Int) (by have := HE.out; rw [List.length_append]; omega)
    clear h5 k0 k2
    go_wp2_with fail
    refine hv5.mono ?_
    clear hv5
    intro e w6 h6
    obtain ⟨rfl, v6, h6, g6, hb6⟩ := WAft.next hb5 hB g5 h6
    change IsW _ w6 B v6 (Rt.vr r.gen ++ Rt.vr r.idx ++ Rt.vr (n : Int)) at h6
    clear hb5 k1 g5
    obtain ⟨⟨k0, k1, k2⟩, hin⟩ := CK.out w6 hb6
    obtain ⟨H0, hH0⟩ : ∃ H0, H0 = Rt.vr r.gen ++ Rt.vr r.idx ++ Rt.vr (n : Int) := ⟨_, rfl⟩
    have hHl : H0.length ≤ 30 := by rw [hH0]; have := HE.out; simp only [List.length_append]; omega
    rw [← hH0] at h6
    have HH0 := Lib.hid hH0
    have H6 := Lib.hid h6
    have G6 := Lib.hid g6
    have HI6 := Lib.hid hin
    clear k0 k2 h6 g6 hin hH0 HE
    go_wp2_with fail
    clear k1
    go_loopw [28] (fun kv wr => ∃ (k : Nat) (v : Value), k ≤ n ∧ kv = .int .i64 (k : Int) ∧ Hid (IsW 264 wr B v (H0 ++ Rt.vars (r.logs.take k))) ∧ Hid (∀ j, v.ownBlock = some j → w2.heap.size ≤ j) ∧ Below w2.heap.size w2 wr) (fun kv _ => n - (intOf kv).toNat)
    case atStart => exact ⟨0, v6, Nat.zero_le _, rfl, by rw [List.take_zero, show Rt.vars [] = [] from rfl, List.append_nil]; exact H6, G6, hb6⟩
    case round =>
      obtain ⟨k, v, hk, rfl, HW, HG, hb⟩ := hrel
      by_cases hlt : k < n
      · have d0 : decide ((k : Int) < (n : Int)) = true := decide_eq_true (by omega)
        have d0' : decide (k < n) = true := decide_eq_true hlt
        have d1 : (k : Int) < (n : Int) := by omega
        have hx : r.logs[k]? = some (r.logs[k]'(by omega)) := List.getElem?_eq_getElem _
        generalize r.logs[k]'(by omega) = z at hx
        obtain ⟨b, o, rfl, hc⟩ := ((CK.out wr hb).2).cell hx
        have hw := wrapi' ((k : Int) + 1) (by omega)
        have hst : Rt.vars (r.logs.take (k + 1)) = Rt.vars (r.logs.take k) ++ Rt.vr z := by rw [List.take_add_one, hx]; exact vars_snoc _ _
        have hvk := oVar_any wr B v _ HW.out z (by rw [List.length_append]; have := HVA.out k; omega)
        have HST := Lib.hid hst
        clear hx hst
        go_wp2_with fail
        refine hvk.mono ?_
        clear hvk
        intro e w7 h7
        obtain ⟨rfl, v7, h7, g7, hb7⟩ := WAft.next hb hB HG.out h7
        have H7 : Hid (IsW 264 w7 B v7 (H0 ++ Rt.vars (r.logs.take (k + 1)))) := by
          have e : H0 ++ Rt.vars (r.logs.take (k + 1)) = H0 ++ Rt.vars (r.logs.take k) ++ Oct.var (Oct.u64 z) := by rw [HST.out, ← List.append_assoc]; rfl
          show IsW _ _ _ _ _
          rw [e]; exact h7
        have G7 := Lib.hid g7
        clear h7 g7 hc
        go_wp2
        go_roundw
        case rel => exact ⟨k + 1, v7, by omega, by go_num, H7, G7, hb7⟩
        case measure => simp [intOf]; omega
      · obtain rfl : k = n := by omega
        have d0 : decide ((k : Int) < (k : Int)) = false := decide_eq_false (by omega)
        have hbody : H0 ++ Rt.vars (r.logs.take k) = Rt.body r := by
          rw [List.take_of_length_le (by omega), show H0 = _ from HH0.out, ← hl]; rfl
        have HW2 := HW
        rw [hbody] at HW2
        have hbl := Rt.body_length r HMAY.out
        have hby := bytes_any wr B v _ HW2.out (by omega)
        clear hbody HW HH0
        go_wp2_with fail
        refine hby.mono ?_
        clear hby
        rintro e w7 ⟨a7, c7, rfl, hown7, hb7⟩
        obtain ⟨_, _, hq7, _, _, hz7, _⟩ := ownsRow_slice hown7
        simp only [Value.slice.injEq] at hq7
        obtain ⟨rfl, _, rfl⟩ := hq7
        have hlay := lay_any w7 1 (by omega) (by omega) a7 _ c7 _ (Rds.of_own hown7 rfl) hz7 (by omega)
        have bw7 : Below w.heap.size w w7 := bw2.trans ((hb.trans (hb7.mono hb.size)).mono bw2.size)
        clear hown7 hb7 hz7
        go_wp2_with fail
        refine hlay.mono ?_
        clear hlay
        rintro e w8 ⟨v8, rfl, ho8, hb8⟩
        have bw8 := bw7.trans (hb8.mono bw7.size)
        have HO8 := Lib.hid (ownsRow_base ho8 bw7.size)
        clear ho8 hb8
        go_wp2
        go_ret2
        exact ⟨bw8, v8, rfl, HO8.out⟩
set_option maxHeartbeats 1000000 in
set_option maxRecDepth 100000 in
theorem equal_any (w : World) (a : Option Addr) (n c : Nat) (l : List UInt8) (hr : Rds w a n l) (a2 : Option Addr) (m d : Nat) (l2 : List UInt8) (hr2 : Rds w a2 m l2) (hn : n ≤ 140737488355328) (hm : m ≤ 140737488355328) :
    Calls Tryz.prog 137 #[.slice a n c, .slice a2 m d] w fun e w' => e = .returned (.bool (decide (l = l2))) ∧ Below w.heap.size w w' := by
  have hl := hr.1
  have hl2 := hr2.1
  have HR := Lib.hid hr
  have HR2 := Lib.hid hr2
  clear hr hr2
  by_cases hnm : n = m
  · subst hnm
    have HL := Lib.hid (And.intro hl hl2)
    clear hl hl2
    go_enter Tryz.func137, Tryz.ntmps137
    go_wp2
    go_loopw [13] (fun kv wr => ∃ k q : Nat, k ≤ n ∧ kv = .int .i64 (k : Int) ∧ wr = w.drewN q ∧ Hid (l.take k = l2.take k)) (fun kv _ => n - (intOf kv).toNat)
    case atStart => exact ⟨0, 0, Nat.zero_le _, rfl, rfl, by show List.take 0 l = List.take 0 l2; rfl⟩
    case round =>
      obtain ⟨k, q, hk, rfl, rfl, HE⟩ := hrel
      by_cases hlt : k < n
      · have d0 : decide ((k : Int) < (n : Int)) = true := decide_eq_true (by omega)
        have d0' : decide (k < n) = true := decide_eq_true hlt
        have d1 : (k : Int) < (n : Int) := by omega
        have hx : l[k]? = some (l[k]'(by have := HL.out; omega)) := List.getElem?_eq_getElem _
        generalize l[k]'(by have := HL.out; omega) = x at hx
        have hy : l2[k]? = some (l2[k]'(by have := HL.out; omega)) := List.getElem?_eq_getElem _
        generalize l2[k]'(by have := HL.out; omega) = y at hy
        obtain ⟨b, o, rfl, hc⟩ := HR.out.2 (by omega)
        obtain ⟨b2, o2, rfl, hc2⟩ := HR2.out.2 (by omega)
        have g1 : (w.drewN q).cell? ⟨b, o + k, none⟩ = some (.int .u8 (x.toNat : Int)) := by rw [World.cell?_drewN]; exact hc k x hx
        have g2 : (w.drewN q).cell? ⟨b2, o2 + k, none⟩ = some (.int .u8 (y.toNat : Int)) := by rw [World.cell?_drewN]; exact hc2 k y hy
        have hw := wrapi' ((k : Int) + 1) (by omega)
        generalize hwq : w.drewN q = wq at g1 g2 ⊢
        have HXY := Lib.hid (And.intro hx hy)
        clear hc hc2 hx hy
        by_cases hxy : x = y
        · subst hxy
          have q0 : ((x.toNat : Int) != (x.toNat : Int)) = false := by simp
          go_wp2_with fail
          go_quiet (fail)
          go_wp2
          go_roundw
          case rel =>
            refine ⟨k + 1, q + nq, by omega, by go_num, by rw [← hwq, World.drewN_drewN], ?_⟩
            show l.take (k + 1) = l2.take (k + 1)
            rw [List.take_add_one, List.take_add_one, HE.out, HXY.out.1, HXY.out.2]
          case measure => simp [intOf]; omega
        · have hne : (x.toNat : Int) ≠ (y.toNat : Int) := fun e => hxy (UInt8.toNat_inj.1 (by omega))
          have q0 : ((x.toNat : Int) != (y.toNat : Int)) = true := by rw [bne, beq_eq_false_iff_ne.2 hne]; rfl
          have q0' : ((x.toNat : Int) == (y.toNat : Int)) = false := beq_eq_false_iff_ne.2 hne
          have hfin : l ≠ l2 := fun e => by subst e; have h1 := HXY.out.1; have h2 := HXY.out.2; rw [h1] at h2; simp only [Option.some.injEq] at h2; exact hxy h2
          have HFI := Lib.hid hfin
          clear hfin hxy hne
          go_wp2_with fail
          go_quiet (fail)
          go_wp2
          go_ret
          refine ⟨by rw [decide_eq_false HFI.out]; first | done | rfl, ?_⟩
          rw [← hwq, World.drewN_drewN]
          exact ⟨rfl, rfl, rfl, Nat.le_refl _, fun _ _ => rfl⟩
      · obtain rfl : k = n := by omega
        have d0 : decide ((k : Int) < (k : Int)) = false := decide_eq_false (by omega)
        have hfin : l = l2 := by
          have := HE.out
          rwa [List.take_of_length_le (by have := HL.out; omega), List.take_of_length_le (by have := HL.out; omega)] at this
        have HFI := Lib.hid hfin
        clear hfin HE
        go_wp2
        go_ret
        exact ⟨by rw [decide_eq_true HFI.out]; first | done | rfl, ⟨rfl, rfl, rfl, Nat.le_refl _, fun _ _ => rfl⟩⟩
  · have q0 : ((n : Int) != (m : Int)) = true := by rw [bne, beq_eq_false_iff_ne.2 (by omega)]; rfl
    have q0' : ((n : Int) == (m : Int)) = false := beq_eq_false_iff_ne.2 (by omega)
    have hfin : l ≠ l2 := fun e => hnm (by rw [← hl, ← hl2, e])
    have HFI := Lib.hid hfin
    clear hfin hl hl2 hnm
    go_enter Tryz.func137, Tryz.ntmps137
    go_wp2
    go_ret
    exact ⟨by rw [decide_eq_false HFI.out]; first | done | rfl, Below.refl _ _⟩
end Go.Proofs.YtggdbdjaobgeeaaGreatDoor
