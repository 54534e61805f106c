/- taprootlaw9.known. -/
import Derived.Test.YthampbiabkfmoaaGreatDoorRxIs
import Derived.Test.YthampbiabkfmoaaGreatDoorRxLaid
namespace Go.Proofs.YthampbiabkfmoaaGreatDoor
open Go.RowKit Go.Tap
set_option linter.unusedVariables false
set_option linter.unusedSimpArgs false
def Rx.ab : List UInt8 := 171 :: List.replicate 31 0
def Rx.ac : List UInt8 := 172 :: List.replicate 31 0
theorem bt_ab : Tryz.prog.built 42 [(0, .int .u8 171)] = some (hashC Rx.ab) := by kernel_rfl
theorem bt_ac : Tryz.prog.built 42 [(0, .int .u8 172)] = some (hashC Rx.ac) := by kernel_rfl
theorem known9_plain (t : Rx.T) (ho : Rx.ok t []) (hM : Rx.Mt t [(Rx.ab, 1), (Rx.ac, 2)]) : Rx.pfx t [97] = (Wi.z32, 14) ∧ Rx.pfx t [97, 98] = (Rx.ab, 0) ∧ Rx.cnt t = 2 := by
  have h1 : Rx.hashes t = [Rx.ab, Rx.ac] := by rw [hM.hashes ho]; rfl
  have h32 : ∀ x ∈ Rx.hashes t, x.length = 32 := fun x hx => by rw [h1] at hx; simp at hx; rcases hx with rfl | rfl <;> rfl
  refine ⟨?_, ?_, hM.cnt ho⟩
  · have := Rx.pfx_want (t := t) (s := [97]) (.inl rfl) h32 [Rx.ab, Rx.ac] (by rw [h1]; rfl)
    rw [this]; rfl
  · have := Rx.pfx_want (t := t) (s := [97, 98]) (.inl rfl) h32 [Rx.ab] (by rw [h1]; rfl)
    rw [this]; rfl
set_option maxHeartbeats 2000000 in
set_option maxRecDepth 100000 in
theorem known9_any (w : World) (hE : EType w) : Calls Tryz.prog 8 #[] w fun e w' => e = .returned (.bool true) ∧ Below w.heap.size w w' := by
  have hnew := rnew_any w
  have HE := Lib.hid hE
  clear hE
  go_enter Tryz.func8, Tryz.ntmps8
  go_wp2_with fail
  refine hnew.mono ?_
  clear hnew
  rintro e w1 ⟨rfl, hT, b1⟩
  have hput := rPut_any w1 w.heap.size w.heap.size .nil hT Rx.ab 1 rfl (by omega) (by decide) b1.size
  have B1 := Lib.hid b1
  clear hT b1
  go_wp2_with (first | (refine wpL_mk (by kernel_rfl) 42 #[(0, .const (.int .u8 171))] rfl [(0, .int .u8 171)] (by rfl) (hashC Rx.ab) bt_ab ?_))
  refine hput.mono ?_
  clear hput
  rintro e w2 ⟨rfl, t1, f1, hT2, hP, hS⟩
  have hM1 := Rx.Mt.nil.put hP rfl
  have B2 : Hid (Below w.heap.size w w2) := Lib.hid (Below.trans_stay B1.out hS (Nat.le_refl _) (fun j hj e => by
    rcases e with rfl | e
    · omega
    · exact e.elim))
  have hput := rPut_any w2 w.heap.size w.heap.size t1 hT2 Rx.ac 2 rfl (by omega) (by rw [hM1.cnt hT2.ok]; decide) B2.out.size
  have T2 := Lib.hid hT2
  have M1 := Lib.hid hM1
  clear hT2 hP hS hM1
  go_wp2_with (first | (refine wpL_mk (by kernel_rfl) 42 #[(0, .const (.int .u8 172))] rfl [(0, .int .u8 172)] (by rfl) (hashC Rx.ac) bt_ac ?_))
  refine hput.mono ?_
  clear hput
  rintro e w3 ⟨rfl, t2, f2, hT3, hP, hS⟩
  have hM2 := M1.out.put hP rfl
  have B3 : Hid (Below w.heap.size w w3) := Lib.hid (Below.trans_stay B2.out hS (Nat.le_refl _) (fun j hj e => by
    rcases e with rfl | e
    · omega
    · have := T2.out.mem j e; omega))
  obtain ⟨p1, p2, p3⟩ := known9_plain t2 hT3.ok hM2
  have hpf := prefix_any w3 _ _ t2 hT3 [97] (by decide)
  rw [p1] at hpf
  have T3 := Lib.hid hT3
  have P2 := Lib.hid p2
  have P3 := Lib.hid p3
  clear hT3 hP hS hM2 p1 p2 p3
  obtain ⟨V14, hV14⟩ : ∃ v, v = Rx.errV 14 := ⟨_, rfl⟩
  rw [← hV14] at hpf
  have K14 : Hid (∀ X, EType X → Calls Tryz.prog 22 #[V14] X fun e w' => e = .returned (.int .i64 14) ∧ Below X.heap.size X w') := Lib.hid (fun X hg => by rw [hV14]; exact errV_kind X 14 hg)
  clear hV14
  go_wp2_with fail
  refine hpf.mono ?_
  clear hpf
  rintro e w4 ⟨rfl, b4⟩
  have B4 : Hid (Below w.heap.size w w4) := Lib.hid (B3.out.trans (b4.mono B3.out.size))
  have T4 : Hid (TreeAt w4 w.heap.size w.heap.size t2) := Lib.hid (T3.out.below b4)
  clear b4
  go_upto_region 5 with (first | (refine wpL_var 42 24 2 (hashC Wi.z32) rfl rfl rfl rfl rfl rfl (hashC Wi.z32) (by rfl) zi_hash rfl (hashC_one _) (by decide) (by kernel_rfl) ?_))
  obtain ⟨w5, hw5⟩ : ∃ w5, w5 = w4.alloc (.cells (hashC Wi.z32) 42) := ⟨_, rfl⟩
  rw [← hw5]
  have b5 : Below w4.heap.size w4 w5 := by rw [hw5]; exact (Below.refl _ _).alloc (Nat.le_refl _) _
  have B5 : Hid (Below w.heap.size w w5) := Lib.hid (B4.out.trans (b5.mono B4.out.size))
  have T5 : Hid (TreeAt w5 w.heap.size w.heap.size t2) := Lib.hid (T4.out.below b5)
  clear b5 hw5
  have hpf := prefix_any w5 _ _ t2 T5.out [97, 98] (by decide)
  rw [P2.out] at hpf
  have e0 : Rx.errV 0 = .nilIface := rfl
  simp only [e0] at hpf
  clear e0
  go_wp2_with fail
  refine hpf.mono ?_
  clear hpf
  rintro e w6 ⟨rfl, b6⟩
  have B6 : Hid (Below w.heap.size w w6) := Lib.hid (B5.out.trans (b6.mono B5.out.size))
  have T6 : Hid (TreeAt w6 w.heap.size w.heap.size t2) := Lib.hid (T5.out.below b6)
  clear b6
  go_upto_region 6 with (first | (refine wpL_var 42 29 4 (hashC Wi.z32) rfl rfl rfl rfl rfl rfl (hashC Rx.ab) (by rfl) zi_hash rfl (hashC_one _) (by decide) (by kernel_rfl) ?_))
  obtain ⟨w7, hw7⟩ : ∃ w7, w7 = w6.alloc (.cells (hashC Rx.ab) 42) := ⟨_, rfl⟩
  rw [← hw7]
  have b7 : Below w6.heap.size w6 w7 := by rw [hw7]; exact (Below.refl _ _).alloc (Nat.le_refl _) _
  have B7 : Hid (Below w.heap.size w w7) := Lib.hid (B6.out.trans (b7.mono B6.out.size))
  have T7 : Hid (TreeAt w7 w.heap.size w.heap.size t2) := Lib.hid (T6.out.below b7)
  have A7 : Hid (w7.heap[w6.heap.size]? = some (.cells (hashC Rx.ab) 42 (0, 0))) := Lib.hid (by rw [hw7]; exact heap_alloc_new _ _)
  have hk := K14.out w7 (HE.out.keep B7.out)
  clear b7 hw7
  go_wp2_with fail
  refine hk.mono ?_
  clear hk
  rintro e w8 ⟨rfl, b8⟩
  have B8 : Hid (Below w.heap.size w w8) := Lib.hid (B7.out.trans (b8.mono B7.out.size))
  have T8 : Hid (TreeAt w8 w.heap.size w.heap.size t2) := Lib.hid (T7.out.below b8)
  have P8 : Hid (Part w8 w6.heap.size 0 (hashC Rx.ab)) := Lib.hid (Part.of_blk ((b8.block _ (blk_lt A7.out)).trans A7.out))
  clear b8
  have hc := rcount_q w8 _ _ t2 2 P3.out T8.out
  have HQ : Hid (∀ W, (binOp .eql 42 (.agg (hashC Rx.ab)) (.agg (hashC Rx.ab))).run Tryz.prog W = .ok (.bool true) W) := Lib.hid (fun W => by rw [cmp_hash Rx.ab Rx.ab rfl rfl]; simp)
  go_wp2_with (first | (refine wpL_load ?hw 42 (.tmp 4) rfl w6.heap.size 0 (by kernel_rfl) (hashC Rx.ab) _ P8.out Tryz.underlying42 rfl sz_hash ?_; case hw => kernel_rfl) | (refine wpL_mk (by kernel_rfl) 42 #[(0, .const (.int .u8 171))] rfl [(0, .int .u8 171)] (by rfl) (hashC Rx.ab) bt_ab ?_) | (refine wpL_cmp (by kernel_rfl) .eql 42 42 (.tmp 39) (.tmp 40) rfl (hashC Rx.ab) (hashC Rx.ab) (by kernel_rfl) (by kernel_rfl) gd_hash true (HQ.out _) ?_))
  refine hc.mono ?_
  clear hc
  rintro e w9 ⟨rfl, rfl⟩
  go_wp2
  go_ret
  exact ⟨rfl, B8.out⟩
end Go.Proofs.YthampbiabkfmoaaGreatDoor
/- A tree and the log in which it is saved, as a law function sees them. -/
namespace Go.Proofs.YthampbiabkfmoaaGreatDoor
open Go.RowKit Go.Tap
set_option linter.unusedVariables false
set_option linter.unusedSimpArgs false
structure RSt (w wr : World) (TB LB B room : Nat) (t : Rx.T) (I : Rx.Its) : Prop where
  tree : TreeAt wr w.heap.size TB t
  ls : LS wr w.heap.size LB B room I
  sv : Rx.sv (Rx.Rof I) t
  big : Rx.big t
  bel : Below w.heap.size w wr
theorem LS.tree {wr w' : World} {lo LB B room TB : Nat} {I : Rx.Its} {t : Rx.T} (h : LS wr lo LB B room I) (hT : TreeAt wr lo TB t) (hs : TStay (fun x => x = TB ∨ Rx.mem t x) wr w') : LS w' lo LB B room I :=
  h.keep (KeepL.tstay hs (fun k e _ => by
    rcases e with rfl | e
    · exact ⟨_, _, _, hT.top, by decide, by decide, by decide, by decide, by decide⟩
    · obtain ⟨cs, hc⟩ := hT.at_.ty k e
      exact ⟨_, _, _, hc, by decide, by decide, by decide, by decide, by decide⟩))
theorem RSt.step {w wr w' : World} {TB LB B room : Nat} {t : Rx.T} {I : Rx.Its} (h : RSt w wr TB LB B room t I) (hb : Below wr.heap.size wr w') : RSt w w' TB LB B room t I :=
  ⟨h.tree.below hb, h.ls.below hb, h.sv, h.big, h.bel.trans (hb.mono h.bel.size)⟩
theorem RSt.drew {w wr : World} {TB LB B room : Nat} {t : Rx.T} {I : Rx.Its} (h : RSt w wr TB LB B room t I) : RSt w wr.drew TB LB B room t I := h.step (bel_drw wr)
theorem RSt.put {w wr w' : World} {TB LB B room : Nat} {t : Rx.T} {I : Rx.Its} {x : List UInt8} {n : Int} (h : RSt w wr TB LB B room t I) (hp : PutT wr w.heap.size TB x n t w') : ∃ t' f, RSt w w' TB LB B room t' I ∧ Rx.Puts [] x n t t' f := by
  obtain ⟨t', f, h1, h2, h3⟩ := hp
  refine ⟨t', f, ⟨h1, h.ls.tree h.tree h3, h2.sv _ h.sv, h2.big h.big, Below.trans_stay h.bel h3 (Nat.le_refl _) (fun j hj e => ?_)⟩, h2⟩
  rcases e with rfl | e
  · have := h.tree.lo_; omega
  · have := h.tree.mem j e; omega
theorem RSt.save {w wr w' : World} {TB LB B room : Nat} {t : Rx.T} {I : Rx.Its} {e : Ending} (h : RSt w wr TB LB B room t I) (hs : STree wr w.heap.size LB B room TB t I e w') :
    ∃ t' I', e = .returned (.tuple #[.int .i64 t'.saved, .nilIface]) ∧ RSt w w' TB LB B room t' I' ∧ Rx.Saves t I t' I' ∧ KeepM (Rx.mem t) wr w' := by
  obtain ⟨t', I', rfl, h1, h2, h3, h4, h5⟩ := hs
  exact ⟨t', I', rfl, ⟨h1, h3, h2.sv, Rx.er_big h2.sm h.big, h.bel.trans h4⟩, h2, h5⟩
theorem RSt.save_call {w wr : World} {TB LB B room : Nat} {t : Rx.T} {I : Rx.Its} (h : RSt w wr TB LB B room t I) (hb : I.length + Rx.uns t ≤ 90000) (hr : 169 * (I.length + Rx.uns t) ≤ room) (h24 : room ≤ 16777216) :
    Calls Tryz.prog 14 #[.pointer (some ⟨TB, 0, none⟩), .pointer (some ⟨LB, 0, none⟩)] wr (STree wr w.heap.size LB B room TB t I) := rSave_any wr w.heap.size LB B room TB I t h.tree h.ls h.sv hb hr h24
/-- Saved once more: nothing is added. -/
theorem RSt.again {w wr w' : World} {TB LB B room : Nat} {t0 t : Rx.T} {I0 I : Rx.Its} {e : Ending} (h : RSt w wr TB LB B room t I) (hs0 : Rx.Saves t0 I0 t I) (hs : STree wr w.heap.size LB B room TB t I e w') :
    e = .returned (.tuple #[.int .i64 t.saved, .nilIface]) ∧ RSt w w' TB LB B room t I ∧ KeepM (Rx.mem t) wr w' := by
  obtain ⟨t', I', rfl, h1, h2, h3⟩ := h.save hs
  obtain rfl := h2.old hs0.all
  have := h2.len
  have hu := hs0.uns
  obtain ⟨E, rfl, hE⟩ := h2.ext
  have : E = [] := List.eq_nil_of_length_eq_zero (by omega)
  subst this
  rw [List.append_nil] at h1
  exact ⟨rfl, h1, h3⟩
end Go.Proofs.YthampbiabkfmoaaGreatDoor
