/- RootKnown: what it comes to. -/
import Derived.Test.YtgkbgponednfjaaDoorRtSaveW
import Derived.Test.YtgkbgponednfjaaDoorKind
namespace Go.Proofs.YtgkbgponednfjaaDoor
open Go.RowKit Go.Tap Go.Maps
set_option linter.unusedVariables false
attribute [local go_sem ↓] Go.wp_at_zero Go.wp_at_succ

theorem new1000' (w : World) : Calls Tryd.prog 28 #[.int .i64 1000] w fun e w' => ∃ B, e = .returned (.pointer (some ⟨B, 0, none⟩)) ∧ IsDk w' w.heap.size B (Dsk.newD 1000) ∧ Below w.heap.size w w' := by
  have := new_any w 1000 (by omega)
  rw [show ((1000 : Nat) : Int) = 1000 from rfl] at this
  exact this
theorem new5 (w : World) : Calls Tryd.prog 28 #[.int .i64 5] w fun e w' => ∃ B, e = .returned (.pointer (some ⟨B, 0, none⟩)) ∧ IsDk w' w.heap.size B (Dsk.newD 5) ∧ Below w.heap.size w w' := by
  have := new_any w 5 (by omega)
  rw [show ((5 : Nat) : Int) = 5 from rfl] at this
  exact this
namespace Rt
def r8 : Root := ⟨3, [4, 500], 1⟩
def d8 : Dsk.Dk := (saveB (Dsk.newD 1000) (lay r8)).1
theorem s8 : (saveB (Dsk.newD 1000) (lay r8)).2 = 0 := by kernel_rfl
theorem dead8 : d8.dead = false := by kernel_rfl
theorem get8 : Dsk.get d8.now nmR = some (lay r8) := by kernel_rfl
theorem may8 : may r8 = true := by kernel_rfl
theorem val8 : Dsk.val d8.now nmR = lay r8 := by unfold Dsk.val; rw [get8]; rfl
theorem mayA : may ⟨-1, [], 0⟩ = false := by kernel_rfl
theorem mayB : may ⟨0, List.replicate 9 0, 0⟩ = false := by kernel_rfl
theorem mayC : may ⟨0, [], 1099511627777⟩ = false := by kernel_rfl
theorem mayD : may ⟨1, [], 0⟩ = true := by kernel_rfl
theorem mayE : may ⟨0, [], 0⟩ = true := by kernel_rfl
theorem lenD : (lay ⟨1, [], 0⟩).length = 12 := by kernel_rfl
theorem readD : read (lay ⟨1, [], 0⟩ ++ [0]) = .error 2 := by kernel_rfl
theorem readN : read [] = .error 3 := by kernel_rfl
theorem sE : (saveB (Dsk.newD 5) (lay ⟨0, [], 0⟩)).2 = 6 := by kernel_rfl
end Rt
set_option maxHeartbeats 8000000 in
set_option maxRecDepth 100000 in
theorem known8 (w : World) (hg : EType w) : Calls Tryd.prog 40 #[] w fun e w' => e = .returned (.bool true) ∧ Below w.heap.size w w' := by
  have HG := Lib.hid hg
  clear hg
  go_enter Tryd.func40, Tryd.ntmps40
  go_wp2_with fail
  refine (new1000' w).mono ?_
  rintro e w1 ⟨B, rfl, h1, b1⟩
  have hl1 := load_any w1 _ B _ h1 rfl (by show 0 ≤ _; omega)
  have H1 := Lib.hid h1
  clear h1
  go_wp2_with fail
  refine hl1.mono ?_
  clear hl1
  rintro e w2 ⟨hb2, hq⟩
  rw [show Dsk.get (Dsk.newD 1000).now Rt.nmR = none from rfl] at hq
  simp only at hq
  subst hq
  unfold ErrT root0
  have b2 := b1.trans (hb2.mono b1.size)
  have h2 := Lib.hid (H1.out.below hb2)
  clear hb2 b1
  have hal : Below w2.heap.size w2 (w2.alloc (.cells #[.int .i64 0, .slice none 0 0, .int .i64 0] 82)) := (Below.refl _ _).alloc (Nat.le_refl _) _
  have b3 := b2.trans (hal.mono b2.size)
  have h3 := Lib.hid (h2.out.below hal)
  have hk3 := kind_errno _ 11 (HG.out.below b3 HG.out.pos)
  clear hal b2
  go_wp2_with fail
  refine hk3.mono ?_
  clear hk3
  rintro e w4 ⟨rfl, hb4⟩
  have b4 := b3.trans (hb4.mono b3.size)
  have h4 := Lib.hid (h3.out.below hb4)
  clear hb4 b3
  have hal : Below w4.heap.size w4 (w4.alloc (.cells #[.int .i64 4, .int .i64 500] 3)) := (Below.refl _ _).alloc (Nat.le_refl _) _
  have hin : Ints (w4.alloc (.cells #[.int .i64 4, .int .i64 500] 3)) (some ⟨w4.heap.size, 0, none⟩) 2 2 [4, 500] := by
    refine Ints.of_own (base := 0) ?_
    have := World.ownsRow_lit (base := 0) (e := 3) (size := 1) w4 #[.int .i64 4, .int .i64 500] 2 (Nat.zero_le _) (by unfold maxLen; omega) rfl
    exact this
  have b5 := b4.trans (hal.mono b4.size)
  have hsv := rtSave_any _ w.heap.size B _ (h4.out.below hal) rfl (by decide) Rt.r8 _ 2 2 hin (by omega)
  clear hal b4 hin
  go_wp2_with fail
  refine hsv.mono ?_
  clear hsv
  rintro e w6 hq
  unfold RtSaveAft at hq
  rw [if_pos Rt.may8, if_pos Rt.s8] at hq
  obtain ⟨h6, hb6, _, rfl⟩ := hq
  change IsDk w6 _ B Rt.d8 at h6
  have b6 := b5.trans hb6
  have hl6 := load_any w6 _ B _ h6 Rt.dead8 (by rw [Rt.val8]; have := Rt.lay_length _ Rt.may8; omega)
  clear hb6 b5 h6
  go_wp2_with fail
  refine hl6.mono ?_
  clear hl6
  rintro e w7 ⟨hb7, hq⟩
  rw [Rt.get8] at hq
  simp only at hq
  rw [Rt.read_lay _ Rt.may8] at hq
  simp only at hq
  obtain ⟨a7, n7, c7, rfl, ho7, _⟩ := hq
  have hin := Ints.of_own ho7
  have hn7 := hin.len
  obtain rfl : n7 = 2 := by rw [← hn7]; rfl
  obtain ⟨b, o, rfl, hc⟩ := hin.cell (show Rt.r8.logs[1]? = some 500 from rfl)
  have b7 := b6.trans (hb7.mono b6.size)
  have hlt := block_lt_of_cell hc
  have hc' : (w7.alloc (.cells #[.int .i64 3, .slice (some ⟨b, o, none⟩) 2 c7, .int .i64 1] 82)).cell? ⟨b, o + 1, none⟩ = some (.int .i64 500) := (World.cell?_of_block ((MapKept.heap_alloc w7 _).2 _ hlt)).trans hc
  have bX : Below w.heap.size w (w7.alloc (.cells #[.int .i64 3, .slice (some ⟨b, o, none⟩) 2 c7, .int .i64 1] 82)) := b7.alloc b7.size _
  rw [show Rt.r8.gen = 3 from rfl, show Rt.r8.idx = 1 from rfl]
  clear hb7 ho7 hin hn7 hc b6 b7
  go_wp2
  go_ret
  exact ⟨rfl, bX⟩
theorem madeI (n : Nat) : (madeCells #[Value.int .i64 0] n).toList = iv (List.replicate n 0) := by
  apply List.ext_getElem
  · simp [madeCells, iv]
  · intro i h1 h2
    simp [madeCells, iv, Nat.mod_one]
theorem lay_no {w : World} {r : Rt.Root} {e : Ending} {w' : World} (h : RtLayAft w r e w') (hm : Rt.may r = false) : e = .returned (.tuple #[.slice none 0 0, .iface 45 (.int .i64 1)]) ∧ Below w.heap.size w w' := by
  obtain ⟨h1, h2⟩ := h
  rw [if_neg (by rw [hm]; simp)] at h2
  exact ⟨h2, h1⟩
set_option maxHeartbeats 16000000 in
set_option maxRecDepth 100000 in
theorem rootKnown_walk (w : World) (hg : EType w) : Calls Tryd.prog 8 #[] w fun e w' => e = .returned (.bool true) ∧ Below w.heap.size w w' := by
  have HG := Lib.hid hg
  obtain ⟨iI, hi, hz0, hz1, hz2⟩ := info_parts infoInt
  obtain ⟨iB, hb, hy0, hy1, hy2⟩ := info_parts Tryd.infoB
  clear hg
  go_enter Tryd.func8, Tryd.ntmps8
  go_wp2_with fail
  refine (load_nil w).mono ?_
  rintro e w1 ⟨rfl, b1⟩
  unfold ErrT root0
  have b2 : Below w.heap.size w (w1.alloc (.cells #[.int .i64 0, .slice none 0 0, .int .i64 0] 82)) := b1.alloc b1.size _
  have hl2 := rtLay_any (w1.alloc (.cells #[.int .i64 0, .slice none 0 0, .int .i64 0] 82)) ⟨-1, [], 0⟩ none 0 0 (Ints.nil _) (by omega)
  clear b1
  go_wp2_with fail
  refine hl2.mono ?_
  clear hl2
  intro e w3 hla
  obtain ⟨rfl, hb3⟩ := lay_no hla Rt.mayA
  have b3 := b2.trans (hb3.mono b2.size)
  clear hla hb3 b2
  go_wp2_with (refine wpList_make_full _ rfl (.const (.int .i64 9)) (.const (.int .i64 9)) 22 rfl w3.heap.size 3 iI _ 1 Tryd.underlying22 hi hz0 hz1 .i64 .i64 9 9 9 rfl rfl rfl rfl (by rw [hz2]; omega) (by unfold maxLen; omega) (Nat.le_refl _) ?_)
  intro w4 hown4 hg4
  have b4 : Below w.heap.size w w4 := b3.grown hg4 b3.size (by intro j hj; cases hj)
  rw [madeI] at hown4
  have hl4 := rtLay_any w4 ⟨0, List.replicate 9 0, 0⟩ _ 9 9 (Ints.of_own hown4) (by omega)
  clear hown4 hg4 b3
  go_wp2_with fail
  refine hl4.mono ?_
  clear hl4
  intro e w5 hla
  obtain ⟨rfl, hb5⟩ := lay_no hla Rt.mayB
  have b5 := b4.trans (hb5.mono b4.size)
  have hl5 := rtLay_any w5 ⟨0, [], 1099511627777⟩ none 0 0 (Ints.nil _) (by omega)
  clear hla hb5 b4
  go_wp2_with fail
  refine hl5.mono ?_
  clear hl5
  intro e w6 hla
  obtain ⟨rfl, hb6⟩ := lay_no hla Rt.mayC
  have b6 := b5.trans (hb6.mono b5.size)
  have hl6 := rtLay_any w6 ⟨1, [], 0⟩ none 0 0 (Ints.nil _) (by omega)
  clear hla hb6 b5
  go_wp2_with fail
  refine hl6.mono ?_
  clear hl6
  rintro e w7 ⟨hb7, hla⟩
  rw [if_pos Rt.mayD] at hla
  obtain ⟨v7, rfl, ho7⟩ := hla
  have b7 := b6.trans (hb7.mono b6.size)
  rw [Rt.lenD] at ho7
  obtain ⟨a7, c7, rfl, _⟩ := ownsRow_slice ho7
  have HO7 := Lib.hid (ownsRow_base ho7 (Nat.zero_le _) : w7.ownsRow 0 5 1 (.slice a7 12 c7) 12 (bv (Rt.lay ⟨1, [], 0⟩)))
  have hlt7 := Lib.hid (fun k hk => (ho7.lt k hk).1)
  have hb6s := b6.size
  clear hb7 ho7 b6
  go_wp2_with (at_builtin; go_must (refine wpList_append_src _ rfl (.tmp 43) (.tmp 44) 25 rfl 0 5 iB _ 1 1 Tryd.underlying25 hb hy0 hy1 hy2 rfl (by omega) _ 12 _ rfl (HO7.out.alloc _) (some ⟨w7.heap.size, 0, none⟩) 1 1 rfl (by intro h; cases h) [.int .u8 0] (src_new w7 _ _) (by intro u hu; simp only [List.mem_singleton] at hu; subst hu; rfl) (by omega) (by omega) (Nat.zero_le _) ?_))
  intro a8 c8 w8 hown8 hg8
  have b8 : Below w.heap.size w w8 := (b7.alloc b7.size _).grown hg8 (by have := b7.size; simp; omega) (fun j hj => by have := hlt7.out j hj; omega)
  have hown8' : w8.ownsRow 0 5 1 (.slice a8 13 c8) 13 (bv (Rt.lay ⟨1, [], 0⟩ ++ [0])) := by
    rw [← bv_append]; exact hown8
  obtain ⟨_, _, hsl, hnc, _, hno, _⟩ := ownsRow_slice hown8'
  simp only [Value.slice.injEq] at hsl
  obtain ⟨rfl, _, rfl⟩ := hsl
  have hr8 : Rds w8 a8 13 (Rt.lay ⟨1, [], 0⟩ ++ [0]) := Rds.of_own (by rw [List.length_append, Rt.lenD]; exact hown8') (by rw [List.length_append, Rt.lenD]; rfl)
  have hrd := rtRead_any w8 a8 13 c8 _ hr8 hnc hno (by omega)
  clear hown8 hown8' hg8 HO7 hlt7 hnc hno hr8 b7
  go_wp2_with fail
  refine hrd.mono ?_
  clear hrd
  rintro e w9 ⟨hb9, hq⟩
  rw [Rt.readD] at hq
  simp only at hq
  subst hq
  unfold root0
  rw [show ((2 : Nat) : Int) = 2 from rfl]
  have b9 := b8.trans (hb9.mono b8.size)
  have b10 : Below w.heap.size w (w9.alloc (.cells #[.int .i64 0, .slice none 0 0, .int .i64 0] 82)) := b9.alloc b9.size _
  have hrd := rtRead_any (w9.alloc (.cells #[.int .i64 0, .slice none 0 0, .int .i64 0] 82)) none 0 0 [] (Rds.nil _ _) (Nat.le_refl _) (fun _ => rfl) (by omega)
  clear hb9 b8 b9
  go_wp2_with fail
  refine hrd.mono ?_
  clear hrd
  rintro e w11 ⟨hb11, hq⟩
  rw [Rt.readN] at hq
  simp only at hq
  subst hq
  unfold root0
  rw [show ((3 : Nat) : Int) = 3 from rfl]
  have b11 := b10.trans (hb11.mono b10.size)
  have b12 : Below w.heap.size w (w11.alloc (.cells #[.int .i64 0, .slice none 0 0, .int .i64 0] 82)) := b11.alloc b11.size _
  have hs12 := b12.size
  have hnw := new5 (w11.alloc (.cells #[.int .i64 0, .slice none 0 0, .int .i64 0] 82))
  clear hb11 b10 b11
  go_wp2_with fail
  refine hnw.mono ?_
  clear hnw
  rintro e w13 ⟨B, rfl, h13, hb13⟩
  have b13 := b12.trans (hb13.mono b12.size)
  have hsv := rtSave_any w13 _ B _ h13 rfl (by decide) ⟨0, [], 0⟩ none 0 0 (Ints.nil _) (by omega)
  clear b12 hb13 h13
  go_wp2_with fail
  refine hsv.mono ?_
  clear hsv
  intro e w14 hq
  unfold RtSaveAft at hq
  rw [if_pos Rt.mayE, if_neg (by rw [Rt.sE]; decide), Rt.sE] at hq
  obtain ⟨_, hb14, _, pb, rfl, hst⟩ := hq
  have b14 := b13.trans (hb14.mono hs12)
  clear hb14
  have hkn := known8 w14 (HG.out.below b14 HG.out.pos)
  clear b13
  go_wp2_with fail
  refine hkn.mono ?_
  clear hkn
  rintro e w15 ⟨rfl, hb15⟩
  have b15 := b14.trans (hb15.mono b14.size)
  have s15 := hst.keep hb15
  rw [show ((6 : Nat) : Int) = 6 from rfl] at s15
  clear hb15 hst b14
  have e15 := HG.out.below b15 HG.out.pos
  go_wp2_with fail
  refine (kind_errno w15 1 e15).mono ?_
  rintro e w16 ⟨rfl, hb16⟩
  have b16 := b15.trans (hb16.mono b15.size)
  have s16 := s15.keep hb16
  clear e15 b15 s15 hb16
  have e16 := HG.out.below b16 HG.out.pos
  go_wp2_with fail
  refine (kind_errno w16 1 e16).mono ?_
  rintro e w17 ⟨rfl, hb17⟩
  have b17 := b16.trans (hb17.mono b16.size)
  have s17 := s16.keep hb17
  clear e16 b16 s16 hb17
  have e17 := HG.out.below b17 HG.out.pos
  go_wp2_with fail
  refine (kind_errno w17 1 e17).mono ?_
  rintro e w18 ⟨rfl, hb18⟩
  have b18 := b17.trans (hb18.mono b17.size)
  have s18 := s17.keep hb18
  clear e17 b17 s17 hb18
  have e18 := HG.out.below b18 HG.out.pos
  go_wp2_with fail
  refine (kind_errno w18 1 e18).mono ?_
  rintro e w19 ⟨rfl, hb19⟩
  have b19 := b18.trans (hb19.mono b18.size)
  have s19 := s18.keep hb19
  clear e18 b18 s18 hb19
  have e19 := HG.out.below b19 HG.out.pos
  go_wp2_with fail
  refine (kind_errno w19 2 e19).mono ?_
  rintro e w20 ⟨rfl, hb20⟩
  have b20 := b19.trans (hb20.mono b19.size)
  have s20 := s19.keep hb20
  clear e19 b19 s19 hb20
  have e20 := HG.out.below b20 HG.out.pos
  go_wp2_with fail
  refine (kind_errno w20 3 e20).mono ?_
  rintro e w21 ⟨rfl, hb21⟩
  have b21 := b20.trans (hb21.mono b20.size)
  have s21 := s20.keep hb21
  clear e20 b20 s20 hb21
  have e21 := HG.out.below b21 HG.out.pos
  go_wp2_with fail
  refine (kind_step w21 pb 6 s21 e21).mono ?_
  rintro e w23 ⟨rfl, hb23⟩
  have b23 := b21.trans (hb23.mono b21.size)
  clear e21 s21 hb23 b21
  go_wp2
  go_ret
  exact ⟨rfl, b23⟩
end Go.Proofs.YtgkbgponednfjaaDoor
