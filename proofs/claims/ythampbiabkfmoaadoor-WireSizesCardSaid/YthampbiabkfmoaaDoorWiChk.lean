/- octet.NewReader with the place of its bytes; wire.checked. -/
import Derived.Test.YthampbiabkfmoaaDoorWiRdHead
import Derived.BigQuiet
namespace Go.Proofs.YthampbiabkfmoaaDoor
open Go.RowKit Go.Tap
set_option linter.unusedVariables false
set_option linter.unusedSimpArgs false
theorem newReader_q (w : World) (a : Option Addr) (n c : Nat) (l : List UInt8) (hr : Rds w a n l) (hz : a = none → c = 0) (hn : n ≤ 140737488355328) :
    Calls Tryd.prog 74 #[.slice a n c] w fun e w' => ∃ B D, e = .returned (.pointer (some ⟨B, 0, none⟩)) ∧ w.heap.size ≤ B ∧ w.heap.size ≤ D ∧ Rd 198 w' B D l false ∧ Below w.heap.size w w' := by
  obtain ⟨i0, hi, hz0, hz1, hz2⟩ := info_parts Tryd.infoB
  go_enter Tryd.func74, Tryd.ntmps74
  go_wp2_with (at_builtin; refine wpList_append_rds _ rfl (.tmp 3) (.tmp 4) 25 rfl w.heap.size 5 i0 Tryd.underlying25 hi hz0 hz1 hz2 _ 0 [] rfl (own_empty _ _) _ _ _ rfl hz l (hr.alloc _) (by omega) (by simp) ?_)
  intro v' w' hown hg
  obtain ⟨a', c', rfl, h1, h2, h3, h4⟩ := ownsRow_slice hown
  have hl := hr.1
  clear h2
  have HL := Lib.hid hl
  have H1 := Lib.hid h1
  clear hl h1
  go_wp2
  go_ret
  have hsz := hg.size
  simp only [World.size_alloc] at hsz
  have hrd := Rds.of_own (n := n) (c := c') (a := a') (by rw [HL.out]; simpa using hown) HL.out
  have e : (w'.alloc (.cells #[.slice a' n c', .bool false] 198)).heap[w'.heap.size]? = _ := heap_alloc_new _ _
  have hD : ∃ D, InB D a' ∧ w.heap.size ≤ D ∧ D ≤ w'.heap.size := by
    cases a' with
    | none => exact ⟨w'.heap.size, InB.nil _, by omega, Nat.le_refl _⟩
    | some x =>
      have := hown.lt x.block rfl
      exact ⟨x.block, fun y e => by cases e; rfl, this.1, by omega⟩
  obtain ⟨D, hD1, hD2, hD3⟩ := hD
  refine ⟨w'.heap.size, D, by simp, by omega, hD2, ⟨⟨a', c', ⟨⟨by rw [HL.out]; simpa using e, ?_, by rw [HL.out]; simpa using H1.out, h3, by rw [HL.out]; omega⟩, hD1⟩⟩, by simp; omega⟩, (((Below.refl _ _).alloc (Nat.le_refl _) _).grown hg (by simp) (by intro j hj; simp [Value.ownBlock] at hj; omega)).alloc (by omega) _⟩
  rw [HL.out]; exact hrd.alloc _
/-- What checked answers. -/
def ChkAft (w : World) (r : Option (List UInt8)) (e : Ending) (w' : World) : Prop :=
  Below w.heap.size w w' ∧ match r with
  | none => e = .returned (.tuple #[.pointer none, .iface 45 (.int .i64 4)])
  | some x => ∃ B D, e = .returned (.tuple #[.pointer (some ⟨B, 0, none⟩), .nilIface]) ∧ w.heap.size ≤ B ∧ w.heap.size ≤ D ∧ Rd 198 w' B D (Wi.behind x).1 (Wi.behind x).2
set_option maxHeartbeats 2000000 in
set_option maxRecDepth 100000 in
theorem checked_any (w : World) (a : Option Addr) (n c : Nat) (l : List UInt8) (hr : Rds w a n l) (hnc : n ≤ c) (hz : a = none → c = 0) (hn : n ≤ 140737488353232) :
    Calls Tryd.prog 36 #[.slice a n c] w (ChkAft w (Wi.opened l)) := by
  have hl := hr.1
  obtain ⟨R, hR⟩ : ∃ R, R = Wi.opened l := ⟨_, rfl⟩
  rw [← hR]
  by_cases h4 : n < 4
  · have hnone : Hid (R = none) := Lib.hid (by rw [hR, Wi.opened, if_pos (by omega)])
    obtain ⟨m, hm⟩ : ∃ m : Int, m = (n : Int) - 4 := ⟨_, rfl⟩
    have hw : IntKind.i64.wrap ((n : Int) - 4) = m := by rw [hm, wrapi' _ (by omega)]
    have d0 : decide (m < 0) = true := decide_eq_true (by omega)
    clear hm hn hr hl h4 hR
    go_enter Tryd.func36, Tryd.ntmps36
    go_wp2_with fail
    go_quiet (fail)
    go_wp2
    go_ret2
    rw [hnone.out]
    exact ⟨⟨rfl, rfl, rfl, Nat.le_refl _, fun _ _ => rfl⟩, rfl⟩
  · obtain ⟨m, hm⟩ : ∃ m : Nat, n = m + 4 := ⟨n - 4, by omega⟩
    have hw : IntKind.i64.wrap ((n : Int) - 4) = (m : Int) := by rw [wrapi' _ (by omega)]; omega
    have d0 : decide ((m : Int) < 0) = false := decide_eq_false (by omega)
    have i0 : (0 : Int) ≤ (m : Int) := by omega
    have i1 : (m : Int) ≤ (n : Int) := by omega
    have i2 : (m : Int) ≤ (c : Int) := by omega
    have i3 : (n : Int) ≤ (c : Int) := by omega
    have hcm : (c = m) = False := by simp; omega
    obtain ⟨b, o, rfl, hcell⟩ := hr.2 (by omega)
    have hblt : b < w.heap.size := hr.lt (by omega)
    have hrk : ∀ X, Below w.heap.size w X → Rds X (some ⟨b, o, none⟩) n l := fun X hX => hr.below hX (fun _ b' o' e => by simp at e; omega)
    obtain ⟨s, hs⟩ : ∃ s, s = Crc.sum (l.take m) := ⟨_, rfl⟩
    obtain ⟨v, hv⟩ : ∃ v, v = Oct.val (l.drop m) := ⟨_, rfl⟩
    have hs32 : s < 4294967296 := by rw [hs]; exact Crc.sum_lt _
    have hv32 : v < 4294967296 := by rw [hv]; have := Oct.val_lt (l.drop m); rw [List.length_drop, hl, hm, Nat.add_sub_cancel_left] at this; exact this
    have hsw : IntKind.i64.wrap (s : Int) = (s : Int) := wrapi' _ (by omega)
    have hRU : Oct.rdU 4 (l.drop m) false = (v, [], false) := by
      unfold Oct.rdU
      have hdl : (l.drop m).length = 4 := by rw [List.length_drop]; omega
      rw [if_neg (by rw [hdl]; simp), List.take_of_length_le (l := l.drop m) (Nat.le_of_eq hdl), List.drop_of_length_le (l := l.drop m) (Nat.le_of_eq hdl), hv]
    have FS : Hid (∀ X, Below w.heap.size w X → Calls Tryd.prog 58 #[.slice (some ⟨b, o, none⟩) m c] X fun e w' => e = .returned (.int .u32 (s : Int)) ∧ X = w') := Lib.hid (fun X hX => by rw [hs]; exact crcSum X _ m c _ ((hrk X hX).take (by omega)) (by omega))
    have FN : Hid (∀ X, Below w.heap.size w X → Calls Tryd.prog 74 #[.slice (some ⟨b, o + m, none⟩) (n - m) (c - m)] X fun e Y => ∃ B D, e = .returned (.pointer (some ⟨B, 0, none⟩)) ∧ Hid (Rd 198 Y B D (l.drop m) false) ∧ Hid (w.heap.size ≤ B) ∧ Hid (Below w.heap.size w Y)) := Lib.hid (fun X hX =>
      (newReader_q X (some ⟨b, o + m, none⟩) (n - m) (c - m) (l.drop m) (by have := (hrk X hX).drop (k := m) (c := c) (by omega) hnc; rw [if_neg (by omega)] at this; simpa [Addr.add_lit] using this) (by intro e; cases e) (by omega)).mono fun e Y ⟨B, D, h1, h2, h3, h4, h5⟩ => ⟨B, D, h1, Lib.hid h4, Lib.hid (Nat.le_trans hX.size h2), Lib.hid (hX.trans (h5.mono hX.size))⟩)
    have FU : Hid (∀ X B D, Below w.heap.size w X → w.heap.size ≤ B → Rd 198 X B D (l.drop m) false → Calls Tryd.prog 75 #[.pointer (some ⟨B, 0, none⟩)] X fun e Y => e = .returned (.int .i64 (v : Int)) ∧ Hid (Below w.heap.size w Y)) := Lib.hid (fun X B D hX hB hR => (rd_u32 hR).mono fun e Y ⟨h1, h2, h3⟩ => ⟨by rw [h1, hRU, Wi.i64_nat _ (by show v < _; omega)], Lib.hid (Below.trans_stay hX h3 (Nat.le_refl _) (fun k hk e => by omega))⟩)
    have D0 : Hid (Below w.heap.size w w.drew) := Lib.hid ⟨rfl, rfl, rfl, Nat.le_refl _, fun _ _ => rfl⟩
    have HRK := Lib.hid hrk
    have HSV : Hid (R = if s = v then some (l.take m) else none) := Lib.hid (by
      rw [hR, Wi.opened, if_neg (by omega), hl, hm, Nat.add_sub_cancel, ← hs, ← hv])
    have HM := Lib.hid hm
    have HNL := Lib.hid hn
    clear hrk hr hcell hs hv hs32 hv32 hRU hR hm hn h4 hl hblt hz
    go_enter Tryd.func36, Tryd.ntmps36
    go_wp2_with fail
    go_region_held3 (fun w' => True) (trivial) (first | (go_at_call 58; refine (FS.out _ D0.out).mono ?_; rintro e w' ⟨rfl, rfl⟩) | (go_at_call 74; refine (FN.out _ D0.out).mono ?_; clear D0; rintro e Y ⟨B, D, rfl, RN, LB, D0⟩) | (go_at_call 75; refine (FU.out _ _ _ D0.out LB.out RN.out).mono ?_; clear D0 RN; rintro e Y ⟨rfl, D0⟩))
    have hzz : (some (⟨b, o, none⟩ : Addr) = none → c = 0) := by intro e; cases e
    have FN2 : Hid (∀ X, Below w.heap.size w X → Calls Tryd.prog 74 #[.slice (some ⟨b, o, none⟩) m c] X fun e Z => ∃ B D, e = .returned (.pointer (some ⟨B, 0, none⟩)) ∧ Hid (w.heap.size ≤ B) ∧ Hid (w.heap.size ≤ D) ∧ Hid (Rd 198 Z B D (l.take m) false) ∧ Hid (Below w.heap.size w Z)) := Lib.hid (fun X hX =>
      (newReader_q X (some ⟨b, o, none⟩) m c (l.take m) ((HRK.out X hX).take (by have := HM.out; omega)) hzz (by have := HM.out; have := HNL.out; omega)).mono fun e Y ⟨B, D, h1, h2, h3, h4, h5⟩ => ⟨B, D, h1, Lib.hid (Nat.le_trans hX.size h2), Lib.hid (Nat.le_trans hX.size h3), Lib.hid h4, Lib.hid (hX.trans (h5.mono hX.size))⟩)
    clear FS FN FU HRK hzz
    by_cases hsv : s = v
    · subst hsv
      have dsv : ((s : Int) != (s : Int)) = false := by simp
      have hsome : Hid (R = some (l.take m)) := Lib.hid (by rw [HSV.out, if_pos rfl])
      clear HSV
      have hnr := FN2.out _ D0.out
      go_wp2_with fail
      refine hnr.mono ?_
      clear hnr FN2
      rintro e Z ⟨B2, D2, rfl, L1, L2, R1, DZ⟩
      have hu := rd_u8 R1.out
      go_wp2_with fail
      refine hu.mono ?_
      clear hu
      rintro e Z2 ⟨rfl, r2, s2⟩
      have R2 := Lib.hid r2
      have DZ2 := Lib.hid (Below.trans_stay DZ.out s2 (Nat.le_refl _) (fun k hk e => by have := L1.out; omega))
      clear r2 s2
      go_wp2
      go_ret2
      rw [hsome.out]
      exact ⟨DZ2.out, B2, D2, rfl, L1.out, L2.out, R2.out⟩
    · have dsv : ((s : Int) != (v : Int)) = true := by rw [bne, beq_eq_false_iff_ne.2 (by omega)]; rfl
      have hnone : Hid (R = none) := Lib.hid (by rw [HSV.out, if_neg hsv])
      clear HSV hsv
      go_wp2
      go_ret2
      rw [hnone.out]
      exact ⟨D0.out, rfl⟩
end Go.Proofs.YthampbiabkfmoaaDoor
