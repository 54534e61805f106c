/- The reference's open and head. -/
import Derived.Test.YthampbiabkfmoaaDoorWiRdHead
import Derived.Test.YthampbiabkfmoaaDoorRwWr
import Derived.BigQuiet
namespace Go.Proofs.YthampbiabkfmoaaDoor
open Go.RowKit Go.Tap
set_option linter.unusedVariables false
set_option linter.unusedSimpArgs false
/-- What open answers. -/
def OpAftW (w : World) (r : Option (List UInt8)) (e : Ending) (w' : World) : Prop :=
  Below w.heap.size w w' ∧ match r with
  | none => e = .returned (.tuple #[.slice none 0 0, .int .i64 4])
  | some x => ∃ a c, e = .returned (.tuple #[.slice a x.length c, .int .i64 0]) ∧ Rds w' a x.length x ∧ x.length ≤ c ∧ (a = none → c = 0) ∧ (∀ y, a = some y → y.block < w.heap.size)
theorem sum4 (s : Nat) (hs : s < 4294967296) (L : List UInt8) (hL : L.length = 4) : (Wi.u32B (s : Int) = L) ↔ s = Oct.val L := by
  have hu : Oct.u64 (s : Int) = s := Wi.u64_nat s (by omega)
  have hv : Oct.val (Wi.u32B (s : Int)) = s := by
    unfold Wi.u32B
    rw [hu, Oct.val_be, Nat.mod_eq_of_lt (by simpa using hs)]
  constructor
  · intro e; rw [← e, hv]
  · intro e
    refine Wi.val_inj4 _ _ (by rw [Wi.u32B_len, hL]) (by rw [hv, e])
set_option maxHeartbeats 2000000 in
set_option maxRecDepth 100000 in
theorem ropen_any (w : World) (a : Option Addr) (n c : Nat) (l : List UInt8) (hr : Rds w a n l) (hnc : n ≤ c) (hz : a = none → c = 0) (hn : n ≤ 140737488353232) :
    Calls Tryd.prog 33 #[.slice a n c] w (OpAftW w (Wi.opened l)) := by
  have hl := hr.1
  obtain ⟨R, hR⟩ : ∃ R, R = Wi.opened l := ⟨_, rfl⟩
  rw [← hR]
  by_cases h4 : n < 4
  · have hnone : Hid (R = none) := Lib.hid (by rw [hR, Wi.opened, if_pos (by omega)])
    have d0 : decide ((n : Int) < 4) = true := decide_eq_true (by omega)
    have d0' : decide (n < 4) = true := decide_eq_true h4
    clear hR hr h4 hn hl
    go_enter Tryd.func33, Tryd.ntmps33
    go_wp2
    go_ret2
    rw [hnone.out]
    exact ⟨Below.refl _ _, rfl⟩
  · obtain ⟨m, hm⟩ : ∃ m, n = m + 4 := ⟨n - 4, by omega⟩
    have d0 : decide ((n : Int) < 4) = false := decide_eq_false (by omega)
    have d0' : decide (n < 4) = false := decide_eq_false h4
    have hw : IntKind.i64.wrap ((n : Int) - 4) = (m : Int) := by rw [wrapi' _ (by omega)]; omega
    have i0 : (0 : Int) ≤ (m : Int) := by omega
    have i1 : (m : Int) ≤ (n : Int) := by omega
    have i2 : (m : Int) ≤ (c : Int) := by omega
    have i3 : (n : Int) ≤ (c : Int) := by omega
    have hcm : (c = m) = False := by simp; omega
    obtain ⟨b, o, rfl, hcell⟩ := hr.2 (by omega)
    have hblt : b < w.heap.size := hr.lt (by omega)
    have HBL := Lib.hid hblt
    have HRK : Hid (∀ X, Below w.heap.size w X → Rds X (some ⟨b, o, none⟩) n l) := Lib.hid (fun X hX => hr.below hX (fun _ b' o' e => by simp at e; omega))
    obtain ⟨s, hs⟩ : ∃ s, s = Crc.sum (l.take m) := ⟨_, rfl⟩
    have hs32 : s < 4294967296 := by rw [hs]; exact Crc.sum_lt _
    have hsw : IntKind.i64.wrap (s : Int) = (s : Int) := wrapi' _ (by omega)
    have hdl : (l.drop m).length = 4 := by rw [List.length_drop]; omega
    obtain ⟨L1, hL1⟩ : ∃ L1, L1 = Wi.u32B (s : Int) := ⟨_, rfl⟩
    obtain ⟨L2, hL2⟩ : ∃ L2, L2 = l.drop m := ⟨_, rfl⟩
    have HL1 := Lib.hid hL1
    have HL2 : Hid (L2 = l.drop m ∧ n - m = 4) := Lib.hid ⟨hL2, by omega⟩
    obtain ⟨eqb, heqb⟩ : ∃ eqb, eqb = decide (L1 = L2) := ⟨_, rfl⟩
    have HRV : Hid (R = if eqb = true then some (l.take m) else none) := Lib.hid (by
      rw [hR, Wi.opened, if_neg (by omega), hl, hm, Nat.add_sub_cancel, ← hs, ← hL2, heqb]
      have := sum4 s hs32 L2 (by rw [hL2]; exact hdl)
      rw [← hL1] at this
      by_cases e : L1 = L2
      · rw [decide_eq_true e, if_pos (this.1 e), if_pos rfl]
      · rw [decide_eq_false e, if_neg (fun h => e (this.2 h)), if_neg (by decide)])
    obtain ⟨SS1, hS1⟩ : ∃ SS1, SS1 = str L1 := ⟨_, rfl⟩
    obtain ⟨SS2, hS2⟩ : ∃ SS2, SS2 = str L2 := ⟨_, rfl⟩
    have q0 : (SS1.toList == SS2.toList) = eqb := by rw [hS1, hS2, str_toList, str_toList, heqb]; by_cases e : L1 = L2 <;> simp [e]
    have HS1 := Lib.hid hS1
    have HS2 := Lib.hid hS2
    have HM := Lib.hid hm
    have HN := Lib.hid hn
    have HL := Lib.hid hl
    obtain ⟨W1, hW1⟩ : ∃ W1, W1 = w.alloc (.cells #[.slice none 0 0] 37) := ⟨_, rfl⟩
    have b1 : Below w.heap.size w W1 := by rw [hW1]; exact (Below.refl _ _).alloc (Nat.le_refl _) _
    have H1 : Hid (Wr 37 w W1 w.heap.size []) := Lib.hid ⟨⟨.slice none 0 0, ⟨by rw [hW1]; exact heap_alloc_new _ _, World.ownsRow_nil _ _ _ _⟩, fun k hk => by cases hk⟩, Nat.le_refl _, b1⟩
    have hsum := refSum W1 (some ⟨b, o, none⟩) m c (l.take m) ((HRK.out W1 b1).take (by omega)) (by omega)
    rw [← hs] at hsum
    clear hR hr h4 hl hcell hs hs32 hdl hL1 hL2 heqb hS1 hS2 hm hn b1 hblt hz
    go_enter Tryd.func33, Tryd.ntmps33
    go_wp2_with fail
    rw [← hW1]
    clear hW1
    refine hsum.mono ?_
    clear hsum
    rintro e w' ⟨rfl, rfl⟩
    have hu := rw_u32 H1.out (s : Int) (by simp)
    rw [List.nil_append, ← show L1 = _ from HL1.out] at hu
    go_wp2_with fail
    refine hu.mono ?_
    clear hu H1
    rintro e w3 ⟨rfl, h3, k3⟩
    obtain ⟨a3, c3, q3, o3⟩ := h3.row
    have H3 := Lib.hid h3.bel
    have cv1 : ∀ k, (convert 25 9 (.slice a3 L1.length c3)).run Tryd.prog (w3.drewN k) = .ok (.string SS1) (w3.drewN k) := fun k => by rw [HS1.out]; exact convB _ a3 _ c3 L1 (Rds.of_own o3 rfl)
    have cv2 : ∀ k, (convert 25 9 (.slice (some ⟨b, o + m, none⟩) (n - m) (c - m))).run Tryd.prog (w3.drewN k) = .ok (.string SS2) (w3.drewN k) := fun k => by
      rw [HS2.out]
      refine convB _ _ _ _ L2 ?_
      have := (HRK.out _ (bel_drewN H3.out k)).drop (k := m) (c := c) (by omega) hnc
      rw [if_neg (by intro e; rw [e] at hcm; simp at hcm)] at this
      rw [HL2.out.1]
      simpa [Addr.add_lit] using this
    have BF : Hid (∀ k, Below w.heap.size w (w3.drewN k)) := Lib.hid (fun k => bel_drewN H3.out k)
    have RT : Hid (∀ k, Rds (w3.drewN k) (some ⟨b, o, none⟩) m (l.take m)) := Lib.hid (fun k => (HRK.out _ (BF.out k)).take (by have := HM.out; omega))
    have LT : Hid ((l.take m).length = m) := Lib.hid (by rw [List.length_take]; have := HL.out; have := HM.out; omega)
    clear h3 k3 o3 H3
    go_wp2_with fail
    go_quiet (fail)
    cases eqb
    · have hnone : Hid (R = none) := Lib.hid (by rw [HRV.out]; rfl)
      have q1 : (!(SS1.toList == SS2.toList)) = true := by rw [q0]; rfl
      clear HRV
      go_wp2
      go_ret2
      rw [hnone.out]
      exact ⟨BF.out _, rfl⟩
    · have hsome : Hid (R = some (l.take m)) := Lib.hid (by rw [HRV.out]; rfl)
      have q1 : (!(SS1.toList == SS2.toList)) = false := by rw [q0]; rfl
      clear HRV
      go_wp2
      go_ret2
      rw [hsome.out]
      refine ⟨BF.out _, some ⟨b, o, none⟩, c, by rw [LT.out]; rfl, by rw [LT.out]; exact RT.out _, by rw [LT.out]; omega, (fun e => by cases e), (fun y e => by cases e; exact HBL.out)⟩
/-- What head has read so far. -/
structure HdSt (w wr : World) (B D : Nat) (li : List Wi.It) (q : List UInt8 × Bool) (v : Value) : Prop where
  own : OwnI wr w.heap.size v li
  rd : Rd 98 wr B D q.1 q.2
  st : TStay (fun k => k = B) w wr
  ok : ∀ i ∈ li, i.ok
  lt : B < w.heap.size ∧ D < w.heap.size
theorem HdSt.step {w wr w' : World} {B D : Nat} {li : List Wi.It} {q q' : List UInt8 × Bool} {v : Value} (h : HdSt w wr B D li q v) (h1 : Rd 98 w' B D q'.1 q'.2) (h2 : TStay (fun k => k = B) wr w') : HdSt w w' B D li q' v :=
  ⟨ownsRow_stay h.own h2 (fun k hk e => by have := (h.own.lt k hk).1; have := h.lt.1; omega), h1, h.st.trans h2 (fun _ _ h => h), h.ok, h.lt⟩
theorem HdSt.below {w wr w' : World} {B D : Nat} {li : List Wi.It} {q : List UInt8 × Bool} {v : Value} (h : HdSt w wr B D li q v) (h2 : Below wr.heap.size wr w') : HdSt w w' B D li q v :=
  ⟨ownsRow_stay h.own (TStay.of_below h2 (fun _ => False)) (fun _ _ h => h), h.rd.below h2, h.st.trans (TStay.of_below h2 (fun k => k = B)) (fun _ _ h => h), h.ok, h.lt⟩
theorem HdSt.turn {w wr w' : World} {B D g : Nat} {li : List Wi.It} {q : List UInt8 × Bool} {v : Value} (h : HdSt w wr B D li q v) (h2 : TStay (fun k => k = g) wr w') (hg : w.heap.size ≤ g) (h5 : ∀ k, v.ownBlock = some k → k ≠ g) : HdSt w w' B D li q v :=
  ⟨ownsRow_stay h.own h2 (fun k hk => h5 k hk), h.rd.stay h2 (by have := h.lt; omega) (by have := h.lt; omega), h.st.trans h2 (fun i hi e => by exfalso; omega), h.ok, h.lt⟩
theorem HdSt.app {w wr w' : World} {B D : Nat} {li : List Wi.It} {q : List UInt8 × Bool} {v v' : Value} {x : Wi.It} (h : HdSt w wr B D li q v) (ho : OwnI w' w.heap.size v' (li ++ [x])) (hg : wr.grownBy w' v.ownBlock) (hx : x.ok) : HdSt w w' B D (li ++ [x]) q v' := by
  have hs : TStay (fun k => w.heap.size ≤ k) wr w' := (TStay.refl (fun k => w.heap.size ≤ k) wr).grown hg (fun k hk => .inl (h.own.lt k hk).1)
  refine ⟨ho, h.rd.stay hs (by have := h.lt; omega) (by have := h.lt; omega), h.st.trans hs (fun i hi e => by exfalso; omega), fun i hi => ?_, h.lt⟩
  rcases List.mem_append.1 hi with hi | hi
  · exact h.ok i hi
  · simp only [List.mem_singleton] at hi; subst hi; exact hx
theorem itC_hash (h h2 : List UInt8) (s : Int) (t : List UInt8) (hl : h.length = 32) (hl2 : h2.length = 32) : (splice (itC ⟨h, s, t⟩).toList 0 (hashC h2).toList).toArray = itC ⟨h2, s, t⟩ := by
  apply Array.ext'
  simp only [itC, hashC, splice, List.take_zero, List.nil_append]
  rw [List.drop_left' (by simp [bv_length, hl, hl2])]
theorem itC_setS (i : Wi.It) (h : i.high.length = 32) (z : Int) : (itC i).setIfInBounds 32 (.int .i64 z) = itC { i with steps := z } := by
  apply Array.ext'
  rw [Array.toList_setIfInBounds]
  simp only [itC]
  rw [List.set_append_right _ _ (by rw [bv_length]; omega), bv_length, h]
  rfl
theorem itC_setT (i : Wi.It) (h : i.high.length = 32) (t : List UInt8) : (itC i).setIfInBounds 33 (.string (str t)) = itC { i with text := t } := by
  apply Array.ext'
  rw [Array.toList_setIfInBounds]
  simp only [itC]
  rw [List.set_append_right _ _ (by rw [bv_length]; omega), bv_length, h]
  rfl
end Go.Proofs.YthampbiabkfmoaaDoor
