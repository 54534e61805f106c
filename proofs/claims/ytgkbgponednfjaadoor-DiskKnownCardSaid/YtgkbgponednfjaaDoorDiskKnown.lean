/- DiskKnown: what it comes to. -/
import Derived.Test.YtgkbgponednfjaaDoorDskKn2
import Derived.Test.YtgkbgponednfjaaDoorDiskOrder
import Derived.Test.YtgkbgponednfjaaDoorKind
import Derived.Lib.SmallJoins
import Derived.Sort.KeysCollected
namespace Go.Proofs.YtgkbgponednfjaaDoor
open Go.RowKit Go.Tap Go.Maps
set_option linter.unusedVariables false
attribute [local go_sem ↓] Go.wp_at_zero Go.wp_at_succ

namespace Dsk
def z0 : Dk := newD 10
def z1 : Dk := ⟨10, [], [([120], [49, 50, 51, 52, 53, 54])], [⟨0, [120], [], [49, 50, 51, 52, 53, 54], 0⟩], -1, false, 1⟩
def z2 : Dk := ⟨10, [], [([121], [49, 50, 51, 52]), ([120], [49, 50, 51, 52, 53, 54])], [⟨0, [120], [], [49, 50, 51, 52, 53, 54], 0⟩, ⟨0, [121], [], [49, 50, 51, 52], 0⟩], -1, false, 2⟩
def z3 : Dk := ⟨10, [], [([120], [49, 50]), ([121], [49, 50, 51, 52])], [⟨0, [120], [], [49, 50, 51, 52, 53, 54], 0⟩, ⟨0, [121], [], [49, 50, 51, 52], 0⟩, ⟨1, [120], [], [], 2⟩], -1, false, 3⟩
def z4 : Dk := ⟨10, [], [([121], [49, 50])], [⟨0, [120], [], [49, 50, 51, 52, 53, 54], 0⟩, ⟨0, [121], [], [49, 50, 51, 52], 0⟩, ⟨1, [120], [], [], 2⟩, ⟨2, [120], [121], [], 0⟩], -1, false, 4⟩
def z5 : Dk := ⟨10, [([120], [49, 50]), ([121], [49, 50, 51, 52])], [([120], [49, 50]), ([121], [49, 50, 51, 52])], [], -1, false, 4⟩
def z6 : Dk := ⟨10, [([120], [49, 50]), ([121], [49, 50, 51, 52])], [([120], [49, 50]), ([121], [49, 50, 51, 52])], [], 1, false, 4⟩
def z7 : Dk := ⟨10, [([120], [49, 50]), ([121], [49, 50, 51, 52])], [([120], [49, 50]), ([121], [49, 50, 51, 52])], [], 0, false, 5⟩
def z8 : Dk := ⟨10, [([120], [49, 50]), ([121], [49, 50, 51, 52])], [([120], [49, 50]), ([121], [49, 50, 51, 52])], [], 0, true, 5⟩
def z9 : Dk := ⟨10, [([120], [49, 50]), ([121], [49, 50, 51, 52])], [([120], [49, 50]), ([121], [49, 50, 51, 52])], [], -1, false, 5⟩
end Dsk
theorem good1 (b : UInt8) : Dsk.good [b] := ⟨by simp, by show 1 ≤ 20; omega⟩
theorem new10 (w : World) : Calls Tryd.prog 28 #[.int .i64 10] w fun e w' => ∃ B, e = .returned (.pointer (some ⟨B, 0, none⟩)) ∧ IsDk w' w.heap.size B Dsk.z0 ∧ Below w.heap.size w w' := by
  have := new_any w 10 (by omega)
  rw [show ((10 : Nat) : Int) = 10 from rfl] at this
  exact this
theorem mono_eq {P : Prop} (h : P) : P := h
/-- The least of two names. -/
theorem enc_pair {ss : List (List UInt8)} (h : ss.Perm [[120], [121]]) : (encL ss)[0]? = some (.string (str [120])) := by
  have e : ss.mergeSort (fun x y => decide (x ≤ y)) = [[120], [121]] := by
    have := Go.mergeSort_of_perm h
    unfold leB at this
    rw [this]
    exact List.mergeSort_of_pairwise (by simp; decide)
  unfold encL
  rw [e]; rfl
theorem enc_one {ss : List (List UInt8)} (h : ss.Perm [[121]]) : (encL ss)[0]? = some (.string (str [121])) := by
  rw [List.perm_singleton.1 h]
  unfold encL
  rw [List.mergeSort_singleton]; rfl
set_option maxHeartbeats 16000000 in
set_option maxRecDepth 100000 in
theorem diskKnown_walk (w : World) (hg : EType w) : Calls Tryd.prog 12 #[] w fun e w' => e = .returned (.bool true) ∧ Below w.heap.size w w' := by
  have HG := Lib.hid hg
  have kc := Lib.hid (fun (w : World) (C : Array Value) (n c : Nat) => Lib.run_convert_bytes_const (P := Tryd.prog) w 25 5 C n c Tryd.underlying25 Tryd.underlying5)
  clear hg
  go_enter Tryd.func12, Tryd.ntmps12
  go_wp2_with fail
  refine (new10 w).mono ?_
  rintro e w0 ⟨B, rfl, h0, b0⟩
  go_wp2_with fail
  refine (known6 w0).mono ?_
  rintro e w1 ⟨rfl, hb1⟩
  have b1 := b0.trans (hb1.mono b0.size)
  have h1 := h0.below hb1
  clear h0 b0 hb1
  go_wp2_with fail
  refine (append_unnamed w1 _ _).mono ?_
  rintro e w' ⟨rfl, hh⟩
  obtain rfl := hh.symm
  have hal : ∀ fr, Below w1.heap.size w1 (w1.alloc (.cells (bv [49, 50, 51, 52, 53, 54]).toArray 5 fr)) := fun fr => (Below.refl _ _).alloc (Nat.le_refl _) _
  have happ := fun fr => append_is (w1.alloc (.cells (bv [49, 50, 51, 52, 53, 54]).toArray 5 fr)) w.heap.size B Dsk.z0 Dsk.z1 0 (h1.below (hal fr)) (by decide) [120] (good1 120) _ 6 6 [49, 50, 51, 52, 53, 54] (rds_lit w1 _ [49, 50, 51, 52, 53, 54] fr) (by intro h; cases h) (by omega) rfl
  have HAPP := Lib.hid happ
  have HAL := Lib.hid hal
  have kcc := kc.out
  clear happ hal
  go_wp2_with fail
  refine (HAPP.out _).mono ?_
  rintro e w2 hop
  obtain ⟨rfl, h2, hb2, kt2⟩ := hop.ok
  have b2 := (b1.trans ((HAL.out _).mono b1.size)).trans hb2
  clear HAPP HAL kcc h1 b1 hb2 kt2 hop
  have hal : ∀ fr, Below w2.heap.size w2 (w2.alloc (.cells (bv [49, 50, 51, 52, 53]).toArray 5 fr)) := fun fr => (Below.refl _ _).alloc (Nat.le_refl _) _
  have happ := fun fr => append_is (w2.alloc (.cells (bv [49, 50, 51, 52, 53]).toArray 5 fr)) w.heap.size B Dsk.z1 Dsk.z1 6 (h2.below (hal fr)) (by decide) [121] (good1 121) _ 5 5 [49, 50, 51, 52, 53] (rds_lit w2 _ [49, 50, 51, 52, 53] fr) (by intro h; cases h) (by omega) rfl
  have HAPP := Lib.hid happ
  have HAL := Lib.hid hal
  have kcc := kc.out
  clear happ hal
  go_wp2_with fail
  refine (HAPP.out _).mono ?_
  rintro e w3 hop
  obtain ⟨rfl, h3, hb3, kt3⟩ := hop.no (by omega)
  have b3 := (b2.trans ((HAL.out _).mono b2.size)).trans hb3
  clear HAPP HAL kcc h2 b2 hb3 kt3 hop
  have hal : ∀ fr, Below w3.heap.size w3 (w3.alloc (.cells (bv [49, 50, 51, 52]).toArray 5 fr)) := fun fr => (Below.refl _ _).alloc (Nat.le_refl _) _
  have happ := fun fr => append_is (w3.alloc (.cells (bv [49, 50, 51, 52]).toArray 5 fr)) w.heap.size B Dsk.z1 Dsk.z2 0 (h3.below (hal fr)) (by decide) [121] (good1 121) _ 4 4 [49, 50, 51, 52] (rds_lit w3 _ [49, 50, 51, 52] fr) (by intro h; cases h) (by omega) rfl
  have HAPP := Lib.hid happ
  have HAL := Lib.hid hal
  have kcc := kc.out
  clear happ hal
  go_wp2_with fail
  refine (HAPP.out _).mono ?_
  rintro e w4 hop
  obtain ⟨rfl, h4, hb4, kt4⟩ := hop.ok
  have b4 := (b3.trans ((HAL.out _).mono b3.size)).trans hb4
  clear HAPP HAL kcc h3 b3 hb4 kt4 hop
  go_wp2_with fail
  refine (trunc_is w4 w.heap.size B Dsk.z2 Dsk.z2 1 h4 (by decide) [120] (good1 120) 9 rfl).mono ?_
  rintro e w5 hop
  obtain ⟨rfl, h5, hb5, kt5⟩ := hop.no (by omega)
  have b5 := b4.trans hb5
  clear h4 b4 hb5 kt5 hop
  go_wp2_with fail
  refine (trunc_is w5 w.heap.size B Dsk.z2 Dsk.z2 11 h5 (by decide) [122] (good1 122) 0 rfl).mono ?_
  rintro e w6 hop
  obtain ⟨rfl, h6, hb6, kt6⟩ := hop.no (by omega)
  have b6 := b5.trans hb6
  clear h5 b5 hb6 kt6 hop
  go_wp2_with fail
  refine (trunc_is w6 w.heap.size B Dsk.z2 Dsk.z3 0 h6 (by decide) [120] (good1 120) 2 rfl).mono ?_
  rintro e w7 hop
  obtain ⟨rfl, h7, hb7, kt7⟩ := hop.ok
  have b7 := b6.trans hb7
  clear h6 b6 hb7 kt7 hop
  go_wp2_with fail
  refine (rename_is w7 w.heap.size B Dsk.z3 Dsk.z4 0 h7 (by decide) [120] [121] (good1 120) (good1 121) rfl).mono ?_
  rintro e w8 hop
  obtain ⟨rfl, h8, hb8, kt8⟩ := hop.ok
  have b8 := b7.trans hb8
  clear h7 b7 hb8 kt8 hop
  go_wp2_with fail
  refine (names_any w8 w.heap.size B Dsk.z4 h8 rfl).mono ?_
  rintro e w9 ⟨v, ss, rfl, hp, ho, hb9⟩
  have hl : ss.length = 1 := hp.length_eq
  rw [hl] at ho
  obtain ⟨aN, cN, rfl, hcN, _⟩ := ownsRow_slice ho
  obtain ⟨gN, rfl, _, _⟩ := own_head ho (by omega)
  have EN := Lib.hid (enc_one hp)
  have hoN := Lib.hid ho
  have b9 := b8.trans (hb9.mono b8.size)
  have h9 := h8.below hb9
  have ON9 := hoN
  clear hp ho hl hoN h8 b8 hb9
  go_wp2_with fail
  refine (usedm_any w9 w.heap.size B Dsk.z4 h9).mono ?_
  rintro e w10 ⟨rfl, hb10⟩
  rw [show ((if Dsk.z4.dead = true then 0 else Dsk.used Dsk.z4.now : Nat) : Int) = 2 from rfl]
  have b10 := b9.trans (hb10.mono b9.size)
  have h10 := h9.below hb10
  have ON10 := Lib.hid (own_bel ON9.out hb10)
  clear ON9
  clear h9 b9 hb10
  go_wp2_with fail
  refine (remove_is w10 w.heap.size B Dsk.z4 Dsk.z4 11 h10 (by decide) [120] (good1 120) rfl).mono ?_
  rintro e w11 hop
  obtain ⟨rfl, h11, hb11, kt11⟩ := hop.no (by omega)
  have b11 := b10.trans hb11
  have ON11 := Lib.hid (own_nd ON10.out kt11 (by decide) (by decide))
  clear ON10
  clear h10 b10 hb11 kt11 hop
  go_wp2_with fail
  refine (pending_any w11 w.heap.size B Dsk.z4 h11).mono ?_
  rintro e w' ⟨rfl, hh⟩
  obtain rfl := hh.symm
  rw [show ((Dsk.z4.pend.length : Nat) : Int) = 4 from rfl]
  go_wp2_with fail
  refine (crash_is w11 w.heap.size B Dsk.z4 Dsk.z5 h11 3 0 rfl).mono ?_
  rintro e w12 ⟨rfl, h12, hb12, kt12⟩
  have b12 := b11.trans hb12
  have ON12 := Lib.hid (own_nd ON11.out kt12 (by decide) (by decide))
  clear ON11
  clear h11 b11 hb12 kt12
  go_wp2_with fail
  refine (names_any w12 w.heap.size B Dsk.z5 h12 rfl).mono ?_
  rintro e w13 ⟨v, ss, rfl, hp, ho, hb13⟩
  have hl : ss.length = 2 := hp.length_eq
  rw [hl] at ho
  obtain ⟨aM, cM, rfl, hcM, _⟩ := ownsRow_slice ho
  obtain ⟨gM, rfl, _, _⟩ := own_head ho (by omega)
  have EM := Lib.hid (enc_pair hp)
  have hoM := Lib.hid ho
  have b13 := b12.trans (hb13.mono b12.size)
  have h13 := h12.below hb13
  have ON13 := Lib.hid (own_bel ON12.out hb13)
  clear ON12
  have OM13 := hoM
  clear hp ho hl hoM h12 b12 hb13
  go_wp2_with fail
  refine (fuse_any w13 w.heap.size B Dsk.z5 h13 1 (by omega)).mono ?_
  rintro e w14 ⟨rfl, h14, hb14, kt14⟩
  replace h14 : IsDk w14 w.heap.size B Dsk.z6 := h14
  have b14 := b13.trans hb14
  have ON14 := Lib.hid (own_nd ON13.out kt14 (by decide) (by decide))
  clear ON13
  have OM14 := Lib.hid (own_nd OM13.out kt14 (by decide) (by decide))
  clear OM13
  clear h13 b13 hb14 kt14
  go_wp2_with fail
  refine (sync_is w14 w.heap.size B Dsk.z6 Dsk.z7 0 h14 (by decide) rfl).mono ?_
  rintro e w15 hop
  obtain ⟨rfl, h15, hb15, kt15⟩ := hop.ok
  have b15 := b14.trans hb15
  have ON15 := Lib.hid (own_nd ON14.out kt15 (by decide) (by decide))
  clear ON14
  have OM15 := Lib.hid (own_nd OM14.out kt15 (by decide) (by decide))
  clear OM14
  clear h14 b14 hb15 kt15 hop
  have hal : ∀ fr, Below w15.heap.size w15 (w15.alloc (.cells (bv [49, 50, 51, 52, 53, 54, 55, 56, 57, 48, 49]).toArray 5 fr)) := fun fr => (Below.refl _ _).alloc (Nat.le_refl _) _
  have happ := fun fr => append_is (w15.alloc (.cells (bv [49, 50, 51, 52, 53, 54, 55, 56, 57, 48, 49]).toArray 5 fr)) w.heap.size B Dsk.z7 Dsk.z7 6 (h15.below (hal fr)) (by decide) [113] (good1 113) _ 11 11 [49, 50, 51, 52, 53, 54, 55, 56, 57, 48, 49] (rds_lit w15 _ [49, 50, 51, 52, 53, 54, 55, 56, 57, 48, 49] fr) (by intro h; cases h) (by omega) rfl
  have HAPP := Lib.hid happ
  have HAL := Lib.hid hal
  have kcc := kc.out
  clear happ hal
  go_wp2_with fail
  refine (HAPP.out _).mono ?_
  rintro e w16 hop
  obtain ⟨rfl, h16, hb16, kt16⟩ := hop.no (by omega)
  have b16 := (b15.trans ((HAL.out _).mono b15.size)).trans hb16
  have ON16 := Lib.hid (own_nd (own_bel ON15.out (HAL.out _)) kt16 (by decide) (by decide))
  clear ON15
  have OM16 := Lib.hid (own_nd (own_bel OM15.out (HAL.out _)) kt16 (by decide) (by decide))
  clear OM15
  clear HAPP HAL kcc h15 b15 hb16 kt16 hop
  go_wp2_with fail
  refine (sync_is w16 w.heap.size B Dsk.z7 Dsk.z8 7 h16 (by decide) rfl).mono ?_
  rintro e w17 hop
  obtain ⟨rfl, h17, hb17, kt17⟩ := hop.no (by omega)
  have b17 := b16.trans hb17
  have ON17 := Lib.hid (own_nd ON16.out kt17 (by decide) (by decide))
  clear ON16
  have OM17 := Lib.hid (own_nd OM16.out kt17 (by decide) (by decide))
  clear OM16
  clear h16 b16 hb17 kt17 hop
  go_wp2_with fail
  refine (dead_any w17 w.heap.size B Dsk.z8 h17).mono ?_
  rintro e w' ⟨rfl, hh⟩
  obtain rfl := hh.symm
  rw [show Dsk.z8.dead = true from rfl]
  go_wp2_with fail
  refine (append_unnamed w17 _ _).mono ?_
  rintro e w' ⟨rfl, hh⟩
  obtain rfl := hh.symm
  go_wp2_with fail
  refine (crash_is w17 w.heap.size B Dsk.z8 Dsk.z9 h17 0 0 rfl).mono ?_
  rintro e w18 ⟨rfl, h18, hb18, kt18⟩
  have b18 := b17.trans hb18
  have ON18 := Lib.hid (own_nd ON17.out kt18 (by decide) (by decide))
  clear ON17
  have OM18 := Lib.hid (own_nd OM17.out kt18 (by decide) (by decide))
  clear OM17
  clear h17 b17 hb18 kt18
  go_wp2_with fail
  refine (read_is w18 w.heap.size B Dsk.z9 h18 rfl [120] (by decide) [49, 50] true 2 rfl rfl rfl).mono ?_
  rintro e w19 ⟨aT, cT, rfl, hoT, hb19⟩
  have b19 := b18.trans (hb19.mono b18.size)
  have KT := Keeps.of_own hoT rfl
  have ON19 := Lib.hid (own_bel ON18.out hb19)
  clear ON18
  have OM19 := Lib.hid (own_bel OM18.out hb19)
  clear OM18
  clear h18 b18 hb19 hoT
  have hpos := HG.out.pos
  have qN : ((str [121]).toList == [121]) = true := by kernel_rfl
  have qM : ((str [120]).toList == [120]) = true := by kernel_rfl
  have cN : w19.cell? ⟨gN, 0, none⟩ = some (.string (str [121])) := by
    have := ON19.out.cells (g := gN) rfl 0 _ EN.out
    rwa [Addr.add_lit, Nat.zero_add] at this
  clear ON19
  have cM : w19.cell? ⟨gM, 0, none⟩ = some (.string (str [120])) := by
    have := OM19.out.cells (g := gM) rfl 0 _ EM.out
    rwa [Addr.add_lit, Nat.zero_add] at this
  clear OM19
  have g19 := HG.out.below b19 hpos
  go_wp2_with fail
  refine (kind_errno w19 1 g19).mono ?_
  rintro e w20 ⟨rfl, hb20⟩
  have b20 := b19.trans (hb20.mono b19.size)
  replace KT := KT.stay (KeepU.below hb20 (Nat.le_refl _))
  replace cN := (hb20.cell (p := ⟨gN, 0, none⟩) (block_lt_of_cell cN)).trans cN
  replace cM := (hb20.cell (p := ⟨gM, 0, none⟩) (block_lt_of_cell cM)).trans cM
  clear g19 b19 hb20
  have g20 := HG.out.below b20 hpos
  go_wp2_with fail
  refine (kind_errno w20 6 g20).mono ?_
  rintro e w21 ⟨rfl, hb21⟩
  have b21 := b20.trans (hb21.mono b20.size)
  replace KT := KT.stay (KeepU.below hb21 (Nat.le_refl _))
  replace cN := (hb21.cell (p := ⟨gN, 0, none⟩) (block_lt_of_cell cN)).trans cN
  replace cM := (hb21.cell (p := ⟨gM, 0, none⟩) (block_lt_of_cell cM)).trans cM
  clear g20 b20 hb21
  have g21 := HG.out.below b21 hpos
  go_wp2_with fail
  refine (kind_errno w21 1 g21).mono ?_
  rintro e w22 ⟨rfl, hb22⟩
  have b22 := b21.trans (hb22.mono b21.size)
  replace KT := KT.stay (KeepU.below hb22 (Nat.le_refl _))
  replace cN := (hb22.cell (p := ⟨gN, 0, none⟩) (block_lt_of_cell cN)).trans cN
  replace cM := (hb22.cell (p := ⟨gM, 0, none⟩) (block_lt_of_cell cM)).trans cM
  clear g21 b21 hb22
  have g22 := HG.out.below b22 hpos
  go_wp2_with fail
  refine (kind_errno w22 11 g22).mono ?_
  rintro e w23 ⟨rfl, hb23⟩
  have b23 := b22.trans (hb23.mono b22.size)
  replace KT := KT.stay (KeepU.below hb23 (Nat.le_refl _))
  replace cN := (hb23.cell (p := ⟨gN, 0, none⟩) (block_lt_of_cell cN)).trans cN
  replace cM := (hb23.cell (p := ⟨gM, 0, none⟩) (block_lt_of_cell cM)).trans cM
  clear g22 b22 hb23
  have g23 := HG.out.below b23 hpos
  go_wp2_with fail
  refine (kind_errno w23 11 g23).mono ?_
  rintro e w24 ⟨rfl, hb24⟩
  have b24 := b23.trans (hb24.mono b23.size)
  replace KT := KT.stay (KeepU.below hb24 (Nat.le_refl _))
  replace cN := (hb24.cell (p := ⟨gN, 0, none⟩) (block_lt_of_cell cN)).trans cN
  replace cM := (hb24.cell (p := ⟨gM, 0, none⟩) (block_lt_of_cell cM)).trans cM
  clear g23 b23 hb24
  have g24 := HG.out.below b24 hpos
  go_wp2_with fail
  refine (kind_errno w24 6 g24).mono ?_
  rintro e w25 ⟨rfl, hb25⟩
  have b25 := b24.trans (hb25.mono b24.size)
  replace KT := KT.stay (KeepU.below hb25 (Nat.le_refl _))
  replace cN := (hb25.cell (p := ⟨gN, 0, none⟩) (block_lt_of_cell cN)).trans cN
  replace cM := (hb25.cell (p := ⟨gM, 0, none⟩) (block_lt_of_cell cM)).trans cM
  clear g24 b24 hb25
  have g25 := HG.out.below b25 hpos
  go_wp2_with fail
  refine (kind_errno w25 7 g25).mono ?_
  rintro e w26 ⟨rfl, hb26⟩
  have b26 := b25.trans (hb26.mono b25.size)
  replace KT := KT.stay (KeepU.below hb26 (Nat.le_refl _))
  replace cN := (hb26.cell (p := ⟨gN, 0, none⟩) (block_lt_of_cell cN)).trans cN
  replace cM := (hb26.cell (p := ⟨gM, 0, none⟩) (block_lt_of_cell cM)).trans cM
  clear g25 b25 hb26
  have g26 := HG.out.below b26 hpos
  go_wp2_with fail
  refine (kind_errno w26 1 g26).mono ?_
  rintro e w27 ⟨rfl, hb27⟩
  have b27 := b26.trans (hb27.mono b26.size)
  replace KT := KT.stay (KeepU.below hb27 (Nat.le_refl _))
  replace cN := (hb27.cell (p := ⟨gN, 0, none⟩) (block_lt_of_cell cN)).trans cN
  replace cM := (hb27.cell (p := ⟨gM, 0, none⟩) (block_lt_of_cell cM)).trans cM
  clear g26 b26 hb27
  have hcv := convB w27 aT 2 cT [49, 50] KT.rds
  have q0 : ((str [49, 50]).toList == [49, 50]) = true := by kernel_rfl
  clear KT kc
  go_wp2
  go_ret
  exact ⟨rfl, b27⟩
end Go.Proofs.YtgkbgponednfjaaDoor
