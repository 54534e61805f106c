/- The reference's disk: Append, Sync, New. -/
import Derived.Test.YtkalpkmnelgieaaGreatDoorRfOp
namespace Go.Proofs.YtkalpkmnelgieaaGreatDoor
open Go.RowKit Go.Tap Go.Maps
set_option linter.unusedVariables false
set_option linter.unusedSimpArgs false
attribute [local go_sem ↓] Go.wp_at_zero Go.wp_at_succ

theorem yl_undefA (f : Bool → Option Bool) (g : Option Value → Option Bool) : Go.yielded.match_1 (motive := fun _ => Option Bool) (some undef) f g = g (some undef) := rfl
attribute [local go_sem] yl_undefA
set_option maxHeartbeats 8000000 in
set_option maxRecDepth 100000 in
theorem rappend_any (w : World) (B : Nat) (r : Ref.Rd) (h : IsRd w B r) (hr : Rok r) (s : List UInt8) (a : Option Addr) (n c : Nat) (l : List UInt8) (hrd : Rds w a n l) (hz : a = none → c = 0) (hn : n ≤ 140737488355328) :
    Calls Tryz.prog 51 #[.pointer (some ⟨B, 0, none⟩), .string (str s), .slice a n c] w (ROp w B (r.append s l)) := by
  obtain ⟨n1, n2⟩ := hr.now
  obtain ⟨b1, b2, b3⟩ := hr.bnd
  obtain ⟨iB, hb0, hy0, hy1, hy2⟩ := info_parts Tryz.infoB
  have hl := hrd.1
  obtain ⟨g, hg⟩ : ∃ g, g = decide (Dsk.good s) := ⟨_, rfl⟩
  obtain ⟨dd, hdd⟩ : ∃ dd, dd = r.dead := ⟨_, rfl⟩
  obtain ⟨U, hU⟩ : ∃ U, U = Dsk.used r.now := ⟨_, rfl⟩
  obtain ⟨rm, hrm⟩ : ∃ rm, rm = r.room := ⟨_, rfl⟩
  obtain ⟨R, hRR⟩ : ∃ R, R = r.append s l := ⟨_, rfl⟩
  have hq : R = if g = false then (r, 1) else if dd = true then (r, 7) else if rm < U + n then (r, 6) else r.pnd ⟨0, s, [], l, 0⟩ := by
    rw [hRR]
    unfold Ref.Rd.append
    rw [hdd, hg, hU, hrm, ← hl]
    by_cases h : Dsk.good s <;> simp [h]
  rw [← hRR]
  have HQ := Lib.hid hq
  have H := Lib.hid h
  have HR := Lib.hid hr
  have HDD := Lib.hid hdd
  have HU := Lib.hid hU
  have HL := Lib.hid hl
  have HRD := Lib.hid hrd
  have hnm := rname_any w s
  rw [← hg] at hnm
  obtain ⟨kv, pv, hv⟩ := h
  have c4 : w.cell? ⟨B, 4, none⟩ = some (.bool dd) := by rw [hdd]; exact blk_cell (i := 4) hv.blk rfl
  have HRM := Lib.hid hrm
  rw [← hU] at n2
  rw [← hrm] at b3
  clear hv hr hg hdd hU hrm hRR hq hrd hl
  go_enter Tryz.func51, Tryz.ntmps51
  go_wp2_with fail
  refine hnm.mono ?_
  clear hnm
  rintro e w1 ⟨rfl, rfl⟩
  cases g
  · have HE : Hid (R = (r, 1)) := Lib.hid (by rw [HQ.out]; simp)
    go_wp2
    go_ret
    rw [HE.out]
    exact ROp.same H.out (Below.refl _ _)
  cases dd
  rotate_left
  · have HE : Hid (R = (r, 7)) := Lib.hid (by rw [HQ.out]; simp)
    go_wp2
    go_ret
    rw [HE.out]
    exact ROp.same H.out (Below.refl _ _)
  obtain ⟨w1, hw1⟩ : ∃ w1, w1 = w := ⟨_, rfl⟩
  rw [← hw1] at c4 ⊢
  have H1 : Hid (IsRd w1 B r) := Lib.hid (by rw [hw1]; exact H.out)
  have HRD1 : Hid (Rds w1 a n l) := Lib.hid (by rw [hw1]; exact HRD.out)
  have hws := wrapi' ((U : Int) + (n : Int)) (by omega)
  have HW1 := Lib.hid hw1
  clear hw1 H HRD
  by_cases hfull : rm < U + n
  · have HE : Hid (R = (r, 6)) := Lib.hid (by rw [HQ.out]; simp [hfull])
    have q0 : decide ((rm : Int) < (U : Int) + (n : Int)) = true := decide_eq_true (by omega)
    rw [HRM.out] at q0
    rw [HU.out] at q0 hws
    go_wp2_with fail
    refine wp_region_held_drew (S := (fun Y => Below w1.heap.size w1 Y)) (by kernel_rfl) ((Below.refl _ _).drew) (fun hHeld => ?_)
    refine wpAnyH_take (i := 0) (v := ?_) rfl (by kernel_rfl) (by kernel_rfl) (by kernel_rfl) (fun _ _ _ h => h) (Or.inl ⟨by kernel_rfl, ?_⟩) hHeld ?_
    rotate_left
    · (intro w hSw; clear hSw; go_simp; try (with_reducible rfl))
    (try simp only [Act.put, List.setIfInBounds_toArray, List.set_cons_zero, List.set_cons_succ])
    refine wpAnyH_take (i := 3) (v := ?_) rfl (by kernel_rfl) (by kernel_rfl) (by kernel_rfl) (fun _ _ _ h => h) (Or.inl ⟨by kernel_rfl, ?_⟩) hHeld ?_
    rotate_left
    · (intro w hSw; clear hSw; go_simp; try (with_reducible rfl))
    (try simp only [Act.put, List.setIfInBounds_toArray, List.set_cons_zero, List.set_cons_succ])
    refine wpAnyH_take (i := 4) (v := ?_) rfl (by kernel_rfl) (by kernel_rfl) (by kernel_rfl) (fun _ _ _ h => h) (Or.inl ⟨by kernel_rfl, ?_⟩) hHeld ?_
    rotate_left
    · (intro w hSw; clear hSw; go_simp; try (with_reducible rfl))
    (try simp only [Act.put, List.setIfInBounds_toArray, List.set_cons_zero, List.set_cons_succ])
    refine wpAnyH_take (i := 6) (v := ?_) rfl (by kernel_rfl) (by kernel_rfl) (by kernel_rfl) (fun _ _ _ h => h) (Or.inl ⟨by kernel_rfl, ?_⟩) hHeld ?_
    rotate_left
    · (intro w hSw; clear hSw; go_simp; try (with_reducible rfl))
    (try simp only [Act.put, List.setIfInBounds_toArray, List.set_cons_zero, List.set_cons_succ])
    refine wpAnyH_take (i := 7) (v := ?_) rfl (by kernel_rfl) (by kernel_rfl) (by kernel_rfl) (fun _ _ _ h => h) (Or.inl ⟨by kernel_rfl, ?_⟩) hHeld ?_
    rotate_left
    · (intro w hSw; clear hSw; go_simp; try (with_reducible rfl))
    (try simp only [Act.put, List.setIfInBounds_toArray, List.set_cons_zero, List.set_cons_succ])
    refine wpAnyH_take (i := 8) (v := ?_) rfl (by kernel_rfl) (by kernel_rfl) (by kernel_rfl) (fun _ _ _ h => h) (Or.inl ⟨by kernel_rfl, ?_⟩) hHeld ?_
    rotate_left
    · (intro w hSw; clear hSw; go_simp; try (with_reducible rfl))
    (try simp only [Act.put, List.setIfInBounds_toArray, List.set_cons_zero, List.set_cons_succ])
    refine wpAnyH_take (i := 9) (v := ?_) rfl (by kernel_rfl) (by kernel_rfl) (by kernel_rfl) (fun _ _ _ h => h) (Or.inl ⟨by kernel_rfl, ?_⟩) hHeld ?_
    rotate_left
    · (intro w hSw; obtain ⟨kv', pv', hv'⟩ := H1.out.below (show Below w1.heap.size w1 w from hSw); have k0 : w.cell? ⟨B, 0, none⟩ = some (.int .i64 (r.room : Int)) := blk_cell (i := 0) hv'.blk rfl; clear hSw; go_simp; try (with_reducible rfl))
    (try simp only [Act.put, List.setIfInBounds_toArray, List.set_cons_zero, List.set_cons_succ])
    refine wpAnyH_ready (rs := [1]) (by kernel_rfl) (by simp) ?_
    refine AllReadyH.cons rfl (fun K hK => ?_) AllReadyH.nil
    go_simp
    go_wp2_with fail
    refine (rnow_any _ B r (H1.out.below (show Below w1.heap.size w1 _ from hHeld)) HR.out.kp).mono ?_
    rintro e w2 ⟨v2, rfl, hf2, hb'⟩
    have hS2 : Below w1.heap.size w1 w2 := (show Below w1.heap.size w1 _ from hHeld).trans (hb'.mono (show Below w1.heap.size w1 _ from hHeld).size)
    clear hHeld hb'
    go_wp2_with fail
    refine hK.out _ _ hS2 (fun hHeld => ?_)
    clear hK K hS2
    (try simp only [Act.put, List.setIfInBounds_toArray, List.set_cons_zero, List.set_cons_succ])
    refine wpAnyH_ready (rs := [2]) (by kernel_rfl) (by simp) ?_
    refine AllReadyH.cons rfl (fun K hK => ?_) AllReadyH.nil
    go_simp
    go_wp2_with fail
    refine (rused_any _ v2 r.now hf2 n1 (by rw [← HU.out]; omega)).mono ?_
    rintro e w' ⟨rfl, rfl⟩
    have hS2 : Below w1.heap.size w1 w2 := hHeld
    clear hHeld
    go_wp2_with fail
    refine hK.out _ _ hS2 (fun hHeld => ?_)
    clear hK K hS2
    (try simp only [Act.put, List.setIfInBounds_toArray, List.set_cons_zero, List.set_cons_succ])
    refine wpAnyH_take (i := 5) (v := ?_) rfl (by kernel_rfl) (by kernel_rfl) (by kernel_rfl) (fun _ _ _ h => h) (Or.inl ⟨by kernel_rfl, ?_⟩) hHeld ?_
    rotate_left
    · (intro w hSw; clear hSw; go_simp; try (with_reducible rfl))
    (try simp only [Act.put, List.setIfInBounds_toArray, List.set_cons_zero, List.set_cons_succ])
    refine wpAnyH_take (i := 10) (v := ?_) rfl (by kernel_rfl) (by kernel_rfl) (by kernel_rfl) (fun _ _ _ h => h) (Or.inl ⟨by kernel_rfl, ?_⟩) hHeld ?_
    rotate_left
    · (intro w hSw; clear hSw; go_simp; try (with_reducible rfl))
    (try simp only [Act.put, List.setIfInBounds_toArray, List.set_cons_zero, List.set_cons_succ])
    refine wpAnyH_take (i := 11) (v := ?_) rfl (by kernel_rfl) (by kernel_rfl) (by kernel_rfl) (fun _ _ _ h => h) (Or.inl ⟨by kernel_rfl, ?_⟩) hHeld ?_
    rotate_left
    · (intro w hSw; clear hSw; go_simp; try (with_reducible rfl))
    (try simp only [Act.put, List.setIfInBounds_toArray, List.set_cons_zero, List.set_cons_succ])
    refine wpAnyH_done (by kernel_rfl) ?_ _
    simp only [Act.put, List.getElem_toArray, List.getElem_cons_zero, List.getElem_cons_succ, List.setIfInBounds_toArray, List.set_cons_zero, List.set_cons_succ]
    go_wp2
    go_ret
    rw [HE.out]
    exact (show ∀ w', w1 = w' → ROp w' B _ _ _ from fun _ e => by subst e; exact ROp.same H1.out hHeld) _ HW1.out
  · have HE : Hid (R = r.pnd ⟨0, s, [], l, 0⟩) := Lib.hid (by rw [HQ.out]; simp [hfull])
    have q0 : decide ((rm : Int) < (U : Int) + (n : Int)) = false := decide_eq_false (by omega)
    rw [HRM.out] at q0
    rw [HU.out] at q0 hws
    go_wp2_with fail
    refine wp_region_held_drew (S := (fun Y => Below w1.heap.size w1 Y)) (by kernel_rfl) ((Below.refl _ _).drew) (fun hHeld => ?_)
    refine wpAnyH_take (i := 0) (v := ?_) rfl (by kernel_rfl) (by kernel_rfl) (by kernel_rfl) (fun _ _ _ h => h) (Or.inl ⟨by kernel_rfl, ?_⟩) hHeld ?_
    rotate_left
    · (intro w hSw; clear hSw; go_simp; try (with_reducible rfl))
    (try simp only [Act.put, List.setIfInBounds_toArray, List.set_cons_zero, List.set_cons_succ])
    refine wpAnyH_take (i := 3) (v := ?_) rfl (by kernel_rfl) (by kernel_rfl) (by kernel_rfl) (fun _ _ _ h => h) (Or.inl ⟨by kernel_rfl, ?_⟩) hHeld ?_
    rotate_left
    · (intro w hSw; clear hSw; go_simp; try (with_reducible rfl))
    (try simp only [Act.put, List.setIfInBounds_toArray, List.set_cons_zero, List.set_cons_succ])
    refine wpAnyH_take (i := 4) (v := ?_) rfl (by kernel_rfl) (by kernel_rfl) (by kernel_rfl) (fun _ _ _ h => h) (Or.inl ⟨by kernel_rfl, ?_⟩) hHeld ?_
    rotate_left
    · (intro w hSw; clear hSw; go_simp; try (with_reducible rfl))
    (try simp only [Act.put, List.setIfInBounds_toArray, List.set_cons_zero, List.set_cons_succ])
    refine wpAnyH_take (i := 6) (v := ?_) rfl (by kernel_rfl) (by kernel_rfl) (by kernel_rfl) (fun _ _ _ h => h) (Or.inl ⟨by kernel_rfl, ?_⟩) hHeld ?_
    rotate_left
    · (intro w hSw; clear hSw; go_simp; try (with_reducible rfl))
    (try simp only [Act.put, List.setIfInBounds_toArray, List.set_cons_zero, List.set_cons_succ])
    refine wpAnyH_take (i := 7) (v := ?_) rfl (by kernel_rfl) (by kernel_rfl) (by kernel_rfl) (fun _ _ _ h => h) (Or.inl ⟨by kernel_rfl, ?_⟩) hHeld ?_
    rotate_left
    · (intro w hSw; clear hSw; go_simp; try (with_reducible rfl))
    (try simp only [Act.put, List.setIfInBounds_toArray, List.set_cons_zero, List.set_cons_succ])
    refine wpAnyH_take (i := 8) (v := ?_) rfl (by kernel_rfl) (by kernel_rfl) (by kernel_rfl) (fun _ _ _ h => h) (Or.inl ⟨by kernel_rfl, ?_⟩) hHeld ?_
    rotate_left
    · (intro w hSw; clear hSw; go_simp; try (with_reducible rfl))
    (try simp only [Act.put, List.setIfInBounds_toArray, List.set_cons_zero, List.set_cons_succ])
    refine wpAnyH_take (i := 9) (v := ?_) rfl (by kernel_rfl) (by kernel_rfl) (by kernel_rfl) (fun _ _ _ h => h) (Or.inl ⟨by kernel_rfl, ?_⟩) hHeld ?_
    rotate_left
    · (intro w hSw; obtain ⟨kv', pv', hv'⟩ := H1.out.below (show Below w1.heap.size w1 w from hSw); have k0 : w.cell? ⟨B, 0, none⟩ = some (.int .i64 (r.room : Int)) := blk_cell (i := 0) hv'.blk rfl; clear hSw; go_simp; try (with_reducible rfl))
    (try simp only [Act.put, List.setIfInBounds_toArray, List.set_cons_zero, List.set_cons_succ])
    refine wpAnyH_ready (rs := [1]) (by kernel_rfl) (by simp) ?_
    refine AllReadyH.cons rfl (fun K hK => ?_) AllReadyH.nil
    go_simp
    go_wp2_with fail
    refine (rnow_any _ B r (H1.out.below (show Below w1.heap.size w1 _ from hHeld)) HR.out.kp).mono ?_
    rintro e w2 ⟨v2, rfl, hf2, hb'⟩
    have hS2 : Below w1.heap.size w1 w2 := (show Below w1.heap.size w1 _ from hHeld).trans (hb'.mono (show Below w1.heap.size w1 _ from hHeld).size)
    clear hHeld hb'
    go_wp2_with fail
    refine hK.out _ _ hS2 (fun hHeld => ?_)
    clear hK K hS2
    (try simp only [Act.put, List.setIfInBounds_toArray, List.set_cons_zero, List.set_cons_succ])
    refine wpAnyH_ready (rs := [2]) (by kernel_rfl) (by simp) ?_
    refine AllReadyH.cons rfl (fun K hK => ?_) AllReadyH.nil
    go_simp
    go_wp2_with fail
    refine (rused_any _ v2 r.now hf2 n1 (by rw [← HU.out]; omega)).mono ?_
    rintro e w' ⟨rfl, rfl⟩
    have hS2 : Below w1.heap.size w1 w2 := hHeld
    clear hHeld
    go_wp2_with fail
    refine hK.out _ _ hS2 (fun hHeld => ?_)
    clear hK K hS2
    (try simp only [Act.put, List.setIfInBounds_toArray, List.set_cons_zero, List.set_cons_succ])
    refine wpAnyH_take (i := 5) (v := ?_) rfl (by kernel_rfl) (by kernel_rfl) (by kernel_rfl) (fun _ _ _ h => h) (Or.inl ⟨by kernel_rfl, ?_⟩) hHeld ?_
    rotate_left
    · (intro w hSw; clear hSw; go_simp; try (with_reducible rfl))
    (try simp only [Act.put, List.setIfInBounds_toArray, List.set_cons_zero, List.set_cons_succ])
    refine wpAnyH_take (i := 10) (v := ?_) rfl (by kernel_rfl) (by kernel_rfl) (by kernel_rfl) (fun _ _ _ h => h) (Or.inl ⟨by kernel_rfl, ?_⟩) hHeld ?_
    rotate_left
    · (intro w hSw; clear hSw; go_simp; try (with_reducible rfl))
    (try simp only [Act.put, List.setIfInBounds_toArray, List.set_cons_zero, List.set_cons_succ])
    refine wpAnyH_take (i := 11) (v := ?_) rfl (by kernel_rfl) (by kernel_rfl) (by kernel_rfl) (fun _ _ _ h => h) (Or.inl ⟨by kernel_rfl, ?_⟩) hHeld ?_
    rotate_left
    · (intro w hSw; clear hSw; go_simp; try (with_reducible rfl))
    (try simp only [Act.put, List.setIfInBounds_toArray, List.set_cons_zero, List.set_cons_succ])
    refine wpAnyH_done (by kernel_rfl) ?_ _
    simp only [Act.put, List.getElem_toArray, List.getElem_cons_zero, List.getElem_cons_succ, List.setIfInBounds_toArray, List.set_cons_zero, List.set_cons_succ]
    have hb12 : Below w1.heap.size w1 w2 := hHeld
    clear hHeld
    have H2 := Lib.hid (H1.out.below hb12)
    have R2 := Lib.hid (HRD1.out.below hb12 (fun h0 b o e => by subst e; exact HRD1.out.lt h0))
    have B12 := Lib.hid hb12
    clear hb12 q0 hws
    go_wp2_with (at_builtin; go_must (refine wpList_append_src _ rfl (.tmp 30) (.tmp 31) 38 rfl w2.heap.size 5 iB _ 1 1 Tryz.underlying38 hb0 hy0 hy1 hy2 rfl (by omega) _ 0 [] rfl (World.ownsRow_made _ #[] 0 (Nat.le_refl _) (Nat.zero_le _) rfl) _ _ _ rfl hz (bv l) ((Src.of_rds R2.out).alloc (by omega) _) (bv_one _) (by omega) (by omega) (by simp) ?_))
    intro a3 c3 w3 hown3 hg3
    have hb23 : Below w2.heap.size w2 w3 := ((Below.refl _ _).alloc (Nat.le_refl _) _).grown hg3 (by simp) (fun j hj => by simp only [Value.ownBlock, Option.some.injEq] at hj; omega)
    have ho3 : w3.ownsRow w2.heap.size 5 1 (.slice a3 n c3) n (bv l) := by simpa using hown3
    have hk3 : Keeps w3 a3 n c3 l := Keeps.of_own (by rw [HL.out]; exact ho3) HL.out
    have hb13 := B12.out.trans (hb23.mono B12.out.size)
    have hk3' : Keeps w3 a3 l.length c3 l := by rw [HL.out]; exact hk3
    have hp0 := rpend_any w3 B r (H2.out.below hb23) b1 (by omega) ⟨0, s, [], l, 0⟩ a3 c3 hk3' (by have := HR.out.len; omega)
    have hp : Calls Tryz.prog 79 #[.pointer (some ⟨B, 0, none⟩), .agg #[.int .i64 1, .string (str s), .string ⟨#[]⟩, .slice a3 n c3, .int .i64 0]] w3 (ROp w3 B (r.pnd ⟨0, s, [], l, 0⟩)) := by rw [← HL.out]; exact hp0
    have B13 := Lib.hid hb13
    clear hown3 hg3 hb23 ho3 hk3 hb13 hk3' hp0
    go_wp2_with fail
    refine hp.mono ?_
    clear hp
    rintro e w4 hop
    have hop2 := Lib.hid ((show ∀ w', w1 = w' → ROp w' B _ _ _ from fun _ e => by subst e; exact hop.pre B13.out) _ HW1.out)
    obtain ⟨rfl, _⟩ := hop
    go_wp2
    go_ret
    rw [HE.out]
    exact hop2.out
/-- Sync of the reference. -/
theorem rsync_done {w w' : World} {B : Nat} {kv pv v : Value} {r : Ref.Rd} (h : IsRv w B kv pv r) (hf : FRow w v r.now) :
    IsRd ((w.setCell ⟨B, 1, none⟩ v).setCell ⟨B, 2, none⟩ (.slice none 0 0)) B { r with kept := r.now, pend := [] } ∧ TStay (fun k => k = B) w ((w.setCell ⟨B, 1, none⟩ v).setCell ⟨B, 2, none⟩ (.slice none 0 0)) := by
  have st := ((TStay.refl (fun k => k = B) w).setCell (p := ⟨B, 1, none⟩) (.inl rfl) v).setCell (p := ⟨B, 2, none⟩) (.inl rfl) (.slice none 0 0)
  have kf := IsRv.keepB h.blk st
  exact ⟨⟨v, .slice none 0 0, heap_setCell_same _ B 2 _ _ _ (heap_setCell_same w B 1 _ _ _ h.blk), hf.keep kf, PRow.nil _⟩, st⟩
theorem rnew_any (w : World) (room : Nat) (hr : room ≤ 16777216) :
    Calls Tryz.prog 9 #[.int .i64 (room : Int)] w fun e w' => ∃ B, e = .returned (.pointer (some ⟨B, 0, none⟩)) ∧ w.heap.size ≤ B ∧ IsRd w' B ⟨room, [], [], -1, false, 0⟩ ∧ Below w.heap.size w w' := by
  have a1 : min (room : Int) 16777216 = (room : Int) := by omega
  have a2 : max 0 (room : Int) = (room : Int) := by omega
  have hB : Below w.heap.size w (w.alloc (.cells #[.int .i64 (room : Int), .slice none 0 0, .slice none 0 0, .int .i64 (-1), .bool false, .int .i64 0] 90)) := (Below.refl _ _).alloc (Nat.le_refl _) _
  have hI : IsRd (w.alloc (.cells #[.int .i64 (room : Int), .slice none 0 0, .slice none 0 0, .int .i64 (-1), .bool false, .int .i64 0] 90)) w.heap.size ⟨room, [], [], -1, false, 0⟩ := ⟨.slice none 0 0, .slice none 0 0, heap_alloc_new _ _, FRow.nil _, PRow.nil _⟩
  have HB := Lib.hid hB
  have HI := Lib.hid hI
  clear hB hI
  by_cases h0 : 0 < room
  · have h1 : (0 : Int) < (room : Int) := by omega
    go_enter Tryz.func9, Tryz.ntmps9
    go_wp2
    go_ret
    exact ⟨w.heap.size, rfl, Nat.le_refl _, HI.out, HB.out⟩
  · obtain rfl : room = 0 := by omega
    clear h0 a1 a2
    go_enter Tryz.func9, Tryz.ntmps9
    go_wp2
    go_ret
    exact ⟨w.heap.size, rfl, Nat.le_refl _, HI.out, HB.out⟩
end Go.Proofs.YtkalpkmnelgieaaGreatDoor
