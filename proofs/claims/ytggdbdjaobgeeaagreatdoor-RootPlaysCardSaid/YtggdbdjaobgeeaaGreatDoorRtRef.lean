/- The reference's roots: fine, LayRoot, SameRoot; taprootlaw8.plain. -/
import Derived.Test.YtggdbdjaobgeeaaGreatDoorRtOne
import Derived.Test.YtggdbdjaobgeeaaGreatDoorRefFrame
namespace Go.Proofs.YtggdbdjaobgeeaaGreatDoor
open Go.RowKit Go.Tap Go.Maps
set_option linter.unusedVariables false
set_option linter.unusedSimpArgs false
attribute [local go_sem ↓] Go.wp_at_zero Go.wp_at_succ

theorem load_ref {X : World} {b : Nat} {x y z : Value} (h : X.heap[b]? = some (.cells #[x, y, z] 71 (0, 0))) : (loadVar 71 ⟨b, 0, none⟩).run Tryz.prog X = .ok (.agg #[x, y, z]) X := by
  have c0 : X.cell? ⟨b, 0, none⟩ = some x := blk_cell (i := 0) h rfl
  have c1 : X.cell? ⟨b, 1, none⟩ = some y := blk_cell (i := 1) h rfl
  have c2 : X.cell? ⟨b, 2, none⟩ = some z := blk_cell (i := 2) h rfl
  have a1 := Tryz.isAgg71
  have z1 := Tryz.sizeOf71
  clear h
  unfold loadVar
  go_simp
theorem ret_ref1 {fn : Func} {p : Tmp} (hf : fn.results = #[.cell p 71]) {tmps : Array Value} {X : World} {b : Nat} {x y z : Value} (hp : tmps.getD p undef = .pointer (some ⟨b, 0, none⟩)) (h : X.heap[b]? = some (.cells #[x, y, z] 71 (0, 0))) :
    (results fn tmps).run Tryz.prog X = .ok (.agg #[x, y, z]) X := by
  have := load_ref h
  have hp' : tmps[p]?.getD undef = .pointer (some ⟨b, 0, none⟩) := by simpa using hp
  simp only [results, hf]
  simp [Sem.run_bind, Result.andThen, hp', asAddr, this]
theorem ret_ref {fn : Func} {p u : Tmp} (hf : fn.results = #[.cell p 71, .tmp u]) {tmps : Array Value} {X : World} {b : Nat} {x y z : Value} (hp : tmps.getD p undef = .pointer (some ⟨b, 0, none⟩)) (h : X.heap[b]? = some (.cells #[x, y, z] 71 (0, 0))) :
    (results fn tmps).run Tryz.prog X = .ok (.tuple #[.agg #[x, y, z], tmps.getD u undef]) X := by
  rw [results_cell_tmp hf, hp]
  have := load_ref h
  simp only [asAddr, Sem.run_pure, Result.andThen]
  rw [this]
set_option maxHeartbeats 1000000 in
theorem plain_any (w : World) (g i : Int) (a : Option Addr) (n c : Nat) : Calls Tryz.prog 34 #[.agg #[.int .i64 g, .slice a n c, .int .i64 i]] w fun e w' => e = .returned (.agg #[.int .i64 g, .slice a n c, .int .i64 i]) ∧ Below w.heap.size w w' := by
  go_enter Tryz.func34, Tryz.ntmps34
  go_wp2
  (try simp only [Exit.inBlock, Exit.then])
  have e : (w.alloc (.cells #[.int .i64 g, .slice a n c, .int .i64 i] 67)).heap.size = w.heap.size + 1 := by simp
  refine bodyPost_ret (ret_ref1 (by rfl) (b := w.heap.size + 1) (by rfl) (by rw [← e]; exact heap_alloc_new _ _)) rfl ⟨rfl, ((Below.refl _ _).alloc (Nat.le_refl _) _).alloc (by simp) _⟩
theorem fine_any (w : World) (n : Int) : Calls Tryz.prog 132 #[.int .i64 n] w fun e w' => e = .returned (.bool (Rt.fine n)) ∧ w' = w := by
  rcases (show n < 0 ∨ (0 ≤ n ∧ n ≤ 1099511627776) ∨ (0 ≤ n ∧ 1099511627776 < n) by omega) with h | ⟨h, h'⟩ | ⟨h, h'⟩
  · have d0 : decide ((0 : Int) ≤ n) = false := decide_eq_false (by omega)
    have e : Rt.fine n = false := fine_no.2 (.inl h)
    have E := Lib.hid e
    clear e
    go_enter Tryz.func132, Tryz.ntmps132
    go_wp2
    go_ret
    exact ⟨by rw [E.out]; first | done | rfl, rfl⟩
  · have d0 : decide ((0 : Int) ≤ n) = true := decide_eq_true h
    have d1 : decide (n ≤ 1099511627776) = true := decide_eq_true h'
    have E := Lib.hid (show Rt.fine n = true from decide_eq_true ⟨h, h'⟩)
    go_enter Tryz.func132, Tryz.ntmps132
    go_wp2
    go_ret
    exact ⟨by rw [E.out]; first | done | rfl, rfl⟩
  · have d0 : decide ((0 : Int) ≤ n) = true := decide_eq_true h
    have d1 : decide (n ≤ 1099511627776) = false := decide_eq_false (by omega)
    have E := Lib.hid (show Rt.fine n = false from fine_no.2 (.inr h'))
    go_enter Tryz.func132, Tryz.ntmps132
    go_wp2
    go_ret
    exact ⟨by rw [E.out]; first | done | rfl, rfl⟩
def RefLayAft (w : World) (r : Rt.Root) (e : Ending) (w' : World) : Prop :=
  Below w.heap.size w w' ∧ if Rt.may r = true then ∃ v, e = .returned (.tuple #[v, .int .i64 0]) ∧ w'.ownsRow w.heap.size 5 1 v (Rt.lay r).length (bv (Rt.lay r)) else e = .returned (.tuple #[.slice none 0 0, .int .i64 1])
set_option maxHeartbeats 8000000 in
set_option maxRecDepth 100000 in
theorem refLay_any (w : World) (r : Rt.Root) (a : Option Addr) (n c : Nat) (hs : Ints w a n c r.logs) (hn : n ≤ 2097152) :
    Calls Tryz.prog 86 #[.agg #[.int .i64 r.gen, .slice a n c, .int .i64 r.idx]] w (RefLayAft w r) := by
  have hl := hs.len
  obtain ⟨W1, hW1⟩ : ∃ W1, W1 = w.alloc (.cells #[.int .i64 r.gen, .slice a n c, .int .i64 r.idx] 71) := ⟨_, rfl⟩
  have hT1 : W1.heap[w.heap.size]? = some (.cells #[.int .i64 r.gen, .slice a n c, .int .i64 r.idx] 71 (0, 0)) := by rw [hW1]; exact heap_alloc_new _ _
  have hB1 : Below w.heap.size w W1 := by rw [hW1]; exact (Below.refl _ _).alloc (Nat.le_refl _) _
  have hs1 : W1.heap.size = w.heap.size + 1 := by rw [hW1]; simp
  have hck : ∀ X : World, Below W1.heap.size W1 X → (X.cell? ⟨w.heap.size, 0, none⟩ = some (.int .i64 r.gen) ∧ X.cell? ⟨w.heap.size, 1, none⟩ = some (.slice a n c) ∧ X.cell? ⟨w.heap.size, 2, none⟩ = some (.int .i64 r.idx)) ∧ Ints X a n c r.logs := fun X hX => by
    have hT := (hX.block w.heap.size (by omega)).trans hT1
    exact ⟨⟨blk_cell (i := 0) hT rfl, blk_cell (i := 1) hT rfl, blk_cell (i := 2) hT rfl⟩, (hs.below hB1 (Nat.le_refl _)).below hX (Nat.le_refl _)⟩
  have CK := Lib.hid hck
  have HB1 := Lib.hid hB1
  have HS1 := Lib.hid hs1
  clear hs hT1 hB1 hs1 hck
  obtain ⟨⟨k0, k1, k2⟩, _⟩ := CK.out W1 (Below.refl _ _)
  -- what 'ok' is ahead of the first loop
  obtain ⟨ok0, hok0⟩ : ∃ ok0, ok0 = (Rt.fine r.gen && Rt.fine r.idx && decide (n ≤ 8)) := ⟨_, rfl⟩
  obtain ⟨f1, hf1⟩ : ∃ f1, f1 = Rt.fine r.gen := ⟨_, rfl⟩
  obtain ⟨f2, hf2⟩ : ∃ f2, f2 = Rt.fine r.idx := ⟨_, rfl⟩
  obtain ⟨f3, hf3, hf3'⟩ : ∃ f3 : Bool, decide ((n : Int) ≤ 8) = f3 ∧ decide (n ≤ 8) = f3 := by
    by_cases h : n ≤ 8
    · exact ⟨true, decide_eq_true (by omega), decide_eq_true h⟩
    · exact ⟨false, decide_eq_false (by omega), decide_eq_false h⟩
  rw [← hf1, ← hf2, hf3'] at hok0
  have hc1 := fine_any W1 r.gen
  have hc2 := fine_any W1 r.idx
  rw [← hf1] at hc1
  rw [← hf2] at hc2
  have HF1 := Lib.hid hf1
  have HF2 := Lib.hid hf2
  have HF3 := Lib.hid hf3'
  clear hf1 hf2 hf3'
  have hmay : Rt.may r = (ok0 && r.logs.all Rt.fine) := by
    unfold Rt.may
    rw [hok0, hl, ← show f1 = _ from HF1.out, ← show f2 = _ from HF2.out, show decide (n ≤ 8) = f3 from HF3.out]
    cases f1 <;> cases f2 <;> cases f3 <;> simp
  have HMAY := Lib.hid hmay
  go_enter Tryz.func86, Tryz.ntmps86
  go_wp2_with fail
  rw [← hW1]
  clear hW1 hmay
  have hwalk : f1 = false ∨ (f1 = true ∧ f2 = false) ∨ (f1 = true ∧ f2 = true) := by cases f1 <;> cases f2 <;> simp
  rcases hwalk with rfl | ⟨rfl, rfl⟩ | ⟨rfl, rfl⟩
  all_goals
    simp only [Bool.false_and, Bool.true_and] at hok0
    have HOK := Lib.hid hok0
    go_wp2_with (go_at_call 132; first | (refine hc1.mono ?_; rintro e w' ⟨rfl, hh⟩; obtain rfl := hh.symm) | (refine hc2.mono ?_; rintro e w' ⟨rfl, hh⟩; obtain rfl := hh.symm))
    clear hc1 hc2
    go_loop [4, 5] (fun ov iv' => ∃ i : Nat, i ≤ n ∧ iv' = .int .i64 (i : Int) ∧ ov = .bool (ok0 && (r.logs.take i).all Rt.fine)) (fun _ iv' => n - (intOf iv').toNat)
    case atStart => exact ⟨0, Nat.zero_le _, rfl, by simp; first | exact hok0 | exact hok0.symm⟩
    case round =>
      obtain ⟨i, hin, rfl, rfl⟩ := hrel
      by_cases hlt : i < n
      · have d0 : decide ((i : Int) < (n : Int)) = true := decide_eq_true (by omega)
        have d0' : decide (i < n) = true := decide_eq_true hlt
        have d1 : (i : Int) < (n : Int) := by omega
        have hx : r.logs[i]? = some (r.logs[i]'(by omega)) := List.getElem?_eq_getElem _
        generalize r.logs[i]'(by omega) = z at hx
        obtain ⟨b, o, rfl, hc⟩ := ((CK.out W1 (Below.refl _ _)).2).cell hx
        have hw := wrapi' ((i : Int) + 1) (by omega)
        have hfz := fine_any W1 z
        have hst : (r.logs.take (i + 1)).all Rt.fine = ((r.logs.take i).all Rt.fine && Rt.fine z) := by rw [List.take_add_one, hx, List.all_append]; simp
        have HST := Lib.hid hst
        obtain ⟨fz, hfz'⟩ : ∃ fz, fz = Rt.fine z := ⟨_, rfl⟩
        obtain ⟨cur, hcur⟩ : ∃ cur, cur = (ok0 && (r.logs.take i).all Rt.fine) := ⟨_, rfl⟩
        rw [← hcur]
        rw [← hfz'] at hfz
        have HFZ := Lib.hid hfz'
        have HCUR := Lib.hid hcur
        clear hx hst hfz' hcur
        cases cur with
        | false =>
          go_wp2_with (go_at_call 132; refine hfz.mono ?_; rintro e w' ⟨rfl, hh⟩; obtain rfl := hh.symm)
          go_round
          case rel => exact ⟨i + 1, by omega, by go_num, by rw [HST.out, ← Bool.and_assoc, ← show false = _ from HCUR.out]; first | done | rfl⟩
          case measure => simp [intOf]; omega
        | true =>
          go_wp2_with (go_at_call 132; refine hfz.mono ?_; rintro e w' ⟨rfl, hh⟩; obtain rfl := hh.symm)
          go_round
          case rel => exact ⟨i + 1, by omega, by go_num, by rw [HST.out, ← Bool.and_assoc, ← show true = _ from HCUR.out, ← show fz = _ from HFZ.out]; first | done | rfl⟩
          case measure => simp [intOf]; omega
      · obtain rfl : i = n := by omega
        have d0 : decide ((i : Int) < (i : Int)) = false := decide_eq_false (by omega)
        rw [List.take_of_length_le (by omega)]
        obtain ⟨m, hm⟩ : ∃ m, m = Rt.may r := ⟨_, rfl⟩
        have HM := Lib.hid hm
        have hmm : (ok0 && r.logs.all Rt.fine) = m := by rw [hm, show Rt.may r = _ from HMAY.out]
        rw [hmm]
        clear hmm hm
        cases m with
        | false =>
          go_wp2
          go_ret2
          refine ⟨HB1.out, ?_⟩
          rw [if_neg (by rw [← show false = _ from HM.out]; simp)]
          rfl
        | true =>
          have hmay := HM.out.symm
          have hn8 : i ≤ 8 := by rw [← hl]; exact ((Rt.may_iff r).1 hmay).2.2.2
          have hg1 := ((Rt.may_iff r).1 hmay).1
          have hg2 := ((Rt.may_iff r).1 hmay).2.1
          have hg3 := Rt.fine_len r hmay
          have hg4 := ((Rt.may_iff r).1 hmay).2.2.1
          have e1 := (Rt.vr_length _ hg1).2
          have e2 := (Rt.vr_length _ hg2).2
          have e3 := (Rt.vr_length _ hg3).2
          rw [hl] at e3
          have hva : ∀ k, (Rt.vars (r.logs.take k)).length ≤ 10 * k := fun k => by
            have := Rt.vars_length (r.logs.take k) (fun z hz => hg4 z (List.mem_of_mem_take hz))
            have h2 : (r.logs.take k).length ≤ k := List.length_take_le _ _
            omega
          have HVA := Lib.hid hva
          have HMY := Lib.hid hmay
          have HE := Lib.hid (And.intro e1 (And.intro e2 e3))
          obtain ⟨W2, hW2⟩ : ∃ W2, W2 = W1.alloc (.cells #[.slice none 0 0] 228) := ⟨_, rfl⟩
          have h2 : IsW 228 W2 W1.heap.size (.slice none 0 0) [] := ⟨by rw [hW2]; exact heap_alloc_new _ _, World.ownsRow_nil _ _ _ _⟩
          have hb2 : Below W1.heap.size W1 W2 := by rw [hW2]; exact (Below.refl _ _).alloc (Nat.le_refl _) _
          clear hg1 hg2 hg3 hg4 e1 e2 e3 hva hmay HM k0 k2
          obtain ⟨⟨m0, m1, m2⟩, _⟩ := CK.out W2 hb2
          have hv3 := refVar_any W2 W1.heap.size _ [] h2 r.gen (by simp)
          have k0' : (W1.alloc (.cells #[.slice none 0 0] 228)).cell? ⟨w.heap.size, 0, none⟩ = some (.int .i64 r.gen) := by rw [← hW2]; exact m0
          clear h2 m1 m2
          go_wp2_with fail
          rw [← hW2]
          clear hW2 k0'
          refine hv3.mono ?_
          clear hv3
          intro e w4 h4
          obtain ⟨rfl, v4, h4, g4, hb4⟩ := WAft.next hb2 (Nat.le_refl _) (by intro j hj; simp [Value.ownBlock] at hj) h4
          rw [List.nil_append] at h4
          change IsW _ w4 W1.heap.size v4 (Rt.vr r.gen) at h4
          clear hb2 m0 k1
          obtain ⟨⟨k0, k1, k2⟩, _⟩ := CK.out w4 hb4
          have hv4 := refVar_any w4 W1.heap.size _ _ h4 r.idx (by have := HE.out; omega)
          clear h4 k0 k1
          go_wp2_with fail
          refine hv4.mono ?_
          clear hv4
          intro e w5 h5
          obtain ⟨rfl, v5, h5, g5, hb5⟩ := WAft.next hb4 (Nat.le_refl _) g4 h5
          change IsW _ w5 W1.heap.size v5 (Rt.vr r.gen ++ Rt.vr r.idx) at h5
          clear hb4 k2 g4
          obtain ⟨⟨k0, k1, k2⟩, _⟩ := CK.out w5 hb5
          have hv5 := refVar_any w5 W1.heap.size _ _ h5 (i : Int) (by have := HE.out; rw [List.length_append]; omega)
          clear h5 k0 k2
          go_wp2_with fail
          refine hv5.mono ?_
          clear hv5
          intro e w6 h6
          obtain ⟨rfl, v6, h6, g6, hb6⟩ := WAft.next hb5 (Nat.le_refl _) g5 h6
          change IsW _ w6 W1.heap.size v6 (Rt.vr r.gen ++ Rt.vr r.idx ++ Rt.vr (i : Int)) at h6
          clear hb5 k1 g5
          obtain ⟨H0, hH0⟩ : ∃ H0, H0 = Rt.vr r.gen ++ Rt.vr r.idx ++ Rt.vr (i : Int) := ⟨_, rfl⟩
          have hHl : H0.length ≤ 30 := by rw [hH0]; have := HE.out; simp only [List.length_append]; omega
          rw [← hH0] at h6
          have HH0 := Lib.hid hH0
          have H6 := Lib.hid h6
          have G6 := Lib.hid g6
          clear h6 g6 hH0 HE
          go_wp2_with fail
          go_loopw [7] (fun kv wr => ∃ (k : Nat) (v : Value), k ≤ i ∧ kv = .int .i64 (k : Int) ∧ Hid (IsW 228 wr W1.heap.size v (H0 ++ Rt.vars (r.logs.take k))) ∧ Hid (∀ j, v.ownBlock = some j → W1.heap.size ≤ j) ∧ Below W1.heap.size W1 wr) (fun kv _ => i - (intOf kv).toNat)
          case atStart => exact ⟨0, v6, Nat.zero_le _, rfl, by rw [List.take_zero, show Rt.vars [] = [] from rfl, List.append_nil]; exact H6, G6, hb6⟩
          case round =>
            obtain ⟨k, v, hk, rfl, HW, HG, hb⟩ := hrel
            obtain ⟨⟨k0, k1, k2⟩, hink⟩ := CK.out wr hb
            clear k0 k2
            by_cases hlt : k < i
            · have d0 : decide ((k : Int) < (i : Int)) = true := decide_eq_true (by omega)
              have d0' : decide (k < i) = true := decide_eq_true hlt
              have d1 : (k : Int) < (i : Int) := by omega
              have hx : r.logs[k]? = some (r.logs[k]'(by omega)) := List.getElem?_eq_getElem _
              generalize r.logs[k]'(by omega) = z at hx
              obtain ⟨b, o, rfl, hc⟩ := hink.cell hx
              have hw := wrapi' ((k : Int) + 1) (by omega)
              have hst : Rt.vars (r.logs.take (k + 1)) = Rt.vars (r.logs.take k) ++ Rt.vr z := by rw [List.take_add_one, hx]; exact vars_snoc _ _
              have hvk := refVar_any wr W1.heap.size v _ HW.out z (by rw [List.length_append]; have := HVA.out k; omega)
              have HST := Lib.hid hst
              clear hx hst hink
              go_wp2_with fail
              refine hvk.mono ?_
              clear hvk
              intro e w7 h7
              obtain ⟨rfl, v7, h7, g7, hb7⟩ := WAft.next hb (Nat.le_refl _) HG.out h7
              have H7 : Hid (IsW 228 w7 W1.heap.size v7 (H0 ++ Rt.vars (r.logs.take (k + 1)))) := by
                have e : H0 ++ Rt.vars (r.logs.take (k + 1)) = H0 ++ Rt.vars (r.logs.take k) ++ Oct.var (Oct.u64 z) := by rw [HST.out, ← List.append_assoc]; rfl
                show IsW _ _ _ _ _
                rw [e]; exact h7
              have G7 := Lib.hid g7
              clear h7 g7 hc k1
              go_wp2
              go_roundw
              case rel => exact ⟨k + 1, v7, by omega, by go_num, H7, G7, hb7⟩
              case measure => simp [intOf]; omega
            · obtain rfl : k = i := by omega
              have d0 : decide ((k : Int) < (k : Int)) = false := decide_eq_false (by omega)
              have hbody : H0 ++ Rt.vars (r.logs.take k) = Rt.body r := by
                rw [List.take_of_length_le (by omega), show H0 = _ from HH0.out, ← hl]; rfl
              have HW2 := HW
              rw [hbody] at HW2
              have hbl := Rt.body_length r HMY.out
              have cB : wr.cell? ⟨W1.heap.size, 0, none⟩ = some v := blk_cell (i := 0) HW2.out.blk rfl
              obtain ⟨a7, c7, rfl, _, _, hz7, _⟩ := ownsRow_slice HW2.out.own
              have hlay := refFrame_any wr 1 a7 _ c7 _ (Rds.of_own HW2.out.own rfl) hz7 (by omega)
              have bw := HB1.out.trans (hb.mono HB1.out.size)
              clear hbody HW HH0 hz7 hink
              go_wp2_with fail
              refine hlay.mono ?_
              clear hlay
              rintro e w8 ⟨v8, rfl, ho8, hb8⟩
              have bw8 := bw.trans (hb8.mono bw.size)
              have HO8 := Lib.hid (ownsRow_base ho8 bw.size)
              clear ho8 hb8
              go_wp2
              go_ret2
              refine ⟨bw8, ?_⟩
              rw [if_pos HMY.out]
              exact ⟨v8, rfl, HO8.out⟩
end Go.Proofs.YtggdbdjaobgeeaaGreatDoor
/- SameInts, SameRoot: what they answer. -/
namespace Go.Proofs.YtggdbdjaobgeeaaGreatDoor
open Go.RowKit Go.Tap Go.Maps
set_option linter.unusedVariables false
set_option linter.unusedSimpArgs false
attribute [local go_sem ↓] Go.wp_at_zero Go.wp_at_succ

set_option maxHeartbeats 1000000 in
set_option maxRecDepth 100000 in
theorem sameInts_any (w : World) (a : Option Addr) (n c : Nat) (l : List Int) (hr : Ints w a n c l) (a2 : Option Addr) (m d : Nat) (l2 : List Int) (hr2 : Ints w a2 m d l2) (hn : n ≤ 140737488355328) (hm : m ≤ 140737488355328) :
    Calls Tryz.prog 89 #[.slice a n c, .slice a2 m d] w fun e w' => e = .returned (.bool (decide (l = l2))) ∧ Below w.heap.size w w' := by
  have hl := hr.len
  have hl2 := hr2.len
  have HR := Lib.hid hr
  have HR2 := Lib.hid hr2
  clear hr hr2
  by_cases hnm : n = m
  · subst hnm
    have HL := Lib.hid (And.intro hl hl2)
    clear hl hl2
    go_enter Tryz.func89, Tryz.ntmps89
    go_wp2
    go_loopw [5] (fun kv wr => ∃ k q : Nat, k ≤ n ∧ kv = .int .i64 (k : Int) ∧ wr = w.drewN q ∧ Hid (l.take k = l2.take k)) (fun kv _ => n - (intOf kv).toNat)
    case atStart => exact ⟨0, 0, Nat.zero_le _, rfl, rfl, by show List.take 0 l = List.take 0 l2; rfl⟩
    case round =>
      obtain ⟨k, q, hk, rfl, rfl, HE⟩ := hrel
      by_cases hlt : k < n
      · have d0 : decide ((k : Int) < (n : Int)) = true := decide_eq_true (by omega)
        have d0' : decide (k < n) = true := decide_eq_true hlt
        have d1 : (k : Int) < (n : Int) := by omega
        have hx : l[k]? = some (l[k]'(by have := HL.out; omega)) := List.getElem?_eq_getElem _
        generalize l[k]'(by have := HL.out; omega) = x at hx
        have hy : l2[k]? = some (l2[k]'(by have := HL.out; omega)) := List.getElem?_eq_getElem _
        generalize l2[k]'(by have := HL.out; omega) = y at hy
        obtain ⟨b, o, rfl, hc⟩ := HR.out.cell hx
        obtain ⟨b2, o2, rfl, hc2⟩ := HR2.out.cell hy
        have g1 : (w.drewN q).cell? ⟨b, o + k, none⟩ = some (.int .i64 x) := by rw [World.cell?_drewN]; exact hc
        have g2 : (w.drewN q).cell? ⟨b2, o2 + k, none⟩ = some (.int .i64 y) := by rw [World.cell?_drewN]; exact hc2
        have hw := wrapi' ((k : Int) + 1) (by omega)
        generalize hwq : w.drewN q = wq at g1 g2 ⊢
        have HXY := Lib.hid (And.intro hx hy)
        clear hc hc2 hx hy
        by_cases hxy : x = y
        · subst hxy
          have q0 : (x != x) = false := by simp
          go_wp2_with fail
          go_quiet (fail)
          go_wp2
          go_roundw
          case rel =>
            refine ⟨k + 1, q + nq, by omega, by go_num, by rw [← hwq, World.drewN_drewN], ?_⟩
            show l.take (k + 1) = l2.take (k + 1)
            rw [List.take_add_one, List.take_add_one, HE.out, HXY.out.1, HXY.out.2]
          case measure => simp [intOf]; omega
        · have q0 : (x != y) = true := by rw [bne, beq_eq_false_iff_ne.2 hxy]; rfl
          have q0' : (x == y) = false := beq_eq_false_iff_ne.2 hxy
          have hfin : l ≠ l2 := fun e => by subst e; have h1 := HXY.out.1; have h2 := HXY.out.2; rw [h1] at h2; simp only [Option.some.injEq] at h2; exact hxy h2
          have HFI := Lib.hid hfin
          clear hfin hxy
          go_wp2_with fail
          go_quiet (fail)
          go_wp2
          go_ret
          refine ⟨by rw [decide_eq_false HFI.out]; first | done | rfl, ?_⟩
          rw [← hwq, World.drewN_drewN]
          exact ⟨rfl, rfl, rfl, Nat.le_refl _, fun _ _ => rfl⟩
      · obtain rfl : k = n := by omega
        have d0 : decide ((k : Int) < (k : Int)) = false := decide_eq_false (by omega)
        have hfin : l = l2 := by
          have := HE.out
          rwa [List.take_of_length_le (by have := HL.out; omega), List.take_of_length_le (by have := HL.out; omega)] at this
        have HFI := Lib.hid hfin
        clear hfin HE
        go_wp2
        go_ret
        exact ⟨by rw [decide_eq_true HFI.out]; first | done | rfl, ⟨rfl, rfl, rfl, Nat.le_refl _, fun _ _ => rfl⟩⟩
  · have q0 : ((n : Int) != (m : Int)) = true := by rw [bne, beq_eq_false_iff_ne.2 (by omega)]; rfl
    have q0' : ((n : Int) == (m : Int)) = false := beq_eq_false_iff_ne.2 (by omega)
    have hfin : l ≠ l2 := fun e => hnm (by rw [← hl, ← hl2, e])
    have HFI := Lib.hid hfin
    clear hfin hl hl2 hnm
    go_enter Tryz.func89, Tryz.ntmps89
    go_wp2
    go_ret
    exact ⟨by rw [decide_eq_false HFI.out]; first | done | rfl, Below.refl _ _⟩
set_option maxHeartbeats 2000000 in
set_option maxRecDepth 100000 in
theorem sameRoot_any (w : World) (g i : Int) (a : Option Addr) (n c : Nat) (l : List Int) (hr : Ints w a n c l) (g2 i2 : Int) (a2 : Option Addr) (m d : Nat) (l2 : List Int) (hr2 : Ints w a2 m d l2) (hn : n ≤ 140737488355328) (hm : m ≤ 140737488355328) :
    Calls Tryz.prog 37 #[.agg #[.int .i64 g, .slice a n c, .int .i64 i], .agg #[.int .i64 g2, .slice a2 m d, .int .i64 i2]] w fun e w' => e = .returned (.bool (decide (g = g2 ∧ i = i2 ∧ l = l2))) ∧ Below w.heap.size w w' := by
  have hb2 : Below w.heap.size w ((w.alloc (.cells #[.int .i64 g, .slice a n c, .int .i64 i] 71)).alloc (.cells #[.int .i64 g2, .slice a2 m d, .int .i64 i2] 71)) := ((Below.refl _ _).alloc (Nat.le_refl _) _).alloc (by simp) _
  have hsi := sameInts_any _ a n c l (hr.below hb2 (Nat.le_refl _)) a2 m d l2 (hr2.below hb2 (Nat.le_refl _)) hn hm
  clear hr hr2
  by_cases e1 : g = g2
  · subst e1
    have q0 : (g == g) = true := by simp
    by_cases e2 : i = i2
    · subst e2
      have q1 : (i == i) = true := by simp
      have hfin : decide (g = g ∧ i = i ∧ l = l2) = decide (l = l2) := by simp
      rw [hfin]
      clear hfin
      go_enter Tryz.func37, Tryz.ntmps37
      go_wp2_with fail
      refine hsi.mono ?_
      rintro e w3 ⟨rfl, hb3⟩
      have b3 := hb2.trans (hb3.mono hb2.size)
      clear hsi hb2 hb3
      go_wp2
      go_ret
      exact ⟨rfl, b3⟩
    · have q1 : (i == i2) = false := beq_eq_false_iff_ne.2 e2
      obtain ⟨T, hT⟩ : ∃ T, T = decide (g = g ∧ i = i2 ∧ l = l2) := ⟨_, rfl⟩
      rw [← hT]
      have HFI := Lib.hid (show T = false by rw [hT]; exact decide_eq_false (fun h => e2 h.2.1))
      clear hsi e2 hT
      go_enter Tryz.func37, Tryz.ntmps37
      go_wp2
      go_ret
      exact ⟨by rw [show T = false from HFI.out]; first | done | rfl, hb2⟩
  · have q1 : (g == g2) = false := beq_eq_false_iff_ne.2 e1
    obtain ⟨T, hT⟩ : ∃ T, T = decide (g = g2 ∧ i = i2 ∧ l = l2) := ⟨_, rfl⟩
    rw [← hT]
    have HFI := Lib.hid (show T = false by rw [hT]; exact decide_eq_false (fun h => e1 h.1))
    clear hsi e1 hT
    go_enter Tryz.func37, Tryz.ntmps37
    go_wp2
    go_ret
    exact ⟨by rw [show T = false from HFI.out]; first | done | rfl, hb2⟩
end Go.Proofs.YtggdbdjaobgeeaaGreatDoor
