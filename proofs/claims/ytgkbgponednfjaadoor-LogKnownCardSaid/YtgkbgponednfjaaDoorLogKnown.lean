/- LogKnown: what it comes to. -/
import Derived.Test.YtgkbgponednfjaaDoorLogErr
import Derived.Test.YtgkbgponednfjaaDoorKind
namespace Go.Proofs.YtgkbgponednfjaaDoor
open Go.RowKit Go.Tap Go.Maps
set_option linter.unusedVariables false
attribute [local go_sem ↓] Go.wp_at_zero Go.wp_at_succ

theorem new50 (w : World) : Calls Tryd.prog 28 #[.int .i64 50] w fun e w' => ∃ B, e = .returned (.pointer (some ⟨B, 0, none⟩)) ∧ IsDk w' w.heap.size B (Dsk.newD 50) ∧ Below w.heap.size w w' := by
  have := new_any w 50 (by omega)
  rw [show ((50 : Nat) : Int) = 50 from rfl] at this
  exact this
theorem madeZ (n : Nat) : (madeCells #[Value.int .u8 0] n) = (bv (List.replicate n 0)).toArray := by
  have : (madeCells #[Value.int .u8 0] n).toList = bv (List.replicate n 0) := by
    apply List.ext_getElem
    · simp [madeCells, bv]
    · intro i h1 h2
      simp [madeCells, bv, Nat.mod_one]
  rw [← this]
theorem dsN_full {d : Dsk.Dk} {room w : Nat} {s : Dsk.Name} {c : List UInt8} (h : Dsk.DsN d room s c w) (b : List UInt8) (hb : room < c.length + b.length) : d.append s b = (d, 6) := by
  unfold Dsk.Dk.append
  rw [if_neg (by rw [h.dead]; simp), if_pos (by rw [h.now.used, h.room]; exact hb)]
def lk1 : List (Nat × List UInt8) := [(3, [120, 121, 122])]
def lk2 : List (Nat × List UInt8) := [(3, [120, 121, 122]), (4, [])]
theorem scan11 : scanF ((frs lk1).take 11) = ([], 3) := by kernel_rfl
theorem scan1 : (scanF [1]).1 = [] := by kernel_rfl
theorem len1 : (frs lk1).length = 12 := by kernel_rfl
theorem len2 : (frs lk2).length = 21 := by kernel_rfl
theorem frs0 : frs [] = [] := rfl
theorem ok2 : ∀ p ∈ lk2, Ok1 p := by
  intro p hp
  simp only [lk2, List.mem_cons, List.not_mem_nil, or_false] at hp
  rcases hp with rfl | rfl
  · exact ⟨⟨by decide, by decide⟩, by decide⟩
  · exact ⟨⟨by decide, by decide⟩, by decide⟩
set_option maxHeartbeats 16000000 in
set_option maxRecDepth 100000 in
theorem logKnown_walk (w : World) (hg : EType w) : Calls Tryd.prog 7 #[] w fun e w' => e = .returned (.bool true) ∧ Below w.heap.size w w' := by
  have HG := Lib.hid hg
  have kc := fun (w : World) (C : Array Value) (n c : Nat) => Lib.run_convert_bytes_const (P := Tryd.prog) w 25 5 C n c Tryd.underlying25 Tryd.underlying5
  obtain ⟨iB, hi, hz0, hz1, hz2⟩ := info_parts Tryd.infoB
  clear hg
  go_enter Tryd.func7, Tryd.ntmps7
  go_wp2_with fail
  refine (new50 w).mono ?_
  rintro e w1 ⟨B, rfl, h1, b1⟩
  go_wp2_with fail
  refine (open_nil w1 (str [102]) 0).mono ?_
  rintro e w2 ⟨rfl, hw2⟩
  obtain rfl := hw2.symm
  unfold NoLog
  go_wp2_with fail
  refine (open_neg w1 B (str [102])).mono ?_
  rintro e w2 ⟨rfl, hw2⟩
  obtain rfl := hw2.symm
  unfold NoLog
  have hsh := open_short w1 _ B _ h1 rfl [102] (by decide) 1 (by decide)
  rw [show ((1 : Nat) : Int) = 1 from rfl] at hsh
  go_wp2_with fail
  refine hsh.mono ?_
  rintro e w2 ⟨rfl, hb2⟩
  unfold NoLog
  have b2 := b1.trans (hb2.mono b1.size)
  have h2 := h1.below hb2
  clear h1 b1 hsh hb2
  have ho3 := open_n w2 w.heap.size B _ 50 0 [] h2 (Dsk.dsN_new 50 [102]) (by omega) 0 [] (by simp) (Nat.le_refl _) rfl
  rw [show ((0 : Nat) : Int) = 0 from rfl] at ho3
  clear h2
  go_wp2_with fail
  refine ho3.mono ?_
  rintro e w3 ⟨LB, d3, rfl, h3, n3, g3, hb3, _⟩
  have b3 := b2.trans hb3
  clear hb3 ho3 b2
  go_wp2_with fail
  refine (known7 w3).mono ?_
  rintro e w4 ⟨rfl, hb4⟩
  have b4 := b3.trans (hb4.mono b3.size)
  have h4 := h3.below hb4
  have g4 := g3.below hb4
  clear h3 g3 hb4 b3
  go_wp2_with fail
  refine (add_bad w4 _ LB B [102] _ g4 0 none 0 0 (.inl (by omega)) (by omega)).mono ?_
  rintro e w5 ⟨rfl, hw5⟩
  obtain rfl := hw5.symm
  go_wp2_with (refine wpList_make_full _ rfl (.const (.int .i64 100)) (.const (.int .i64 100)) 25 rfl w4.heap.size 5 iB _ 1 Tryd.underlying25 hi hz0 hz1 .i64 .i64 100 100 100 rfl rfl rfl rfl (by rw [hz2]; omega) (by unfold maxLen; omega) (Nat.le_refl _) ?_)
  intro w5 hown5 hg5
  have b5' : Below w4.heap.size w4 w5 := (Below.refl _ _).grown hg5 (Nat.le_refl _) (by intro j hj; cases hj)
  have hz100 : (madeCells #[Value.int .u8 0] 100).toList = bv (List.replicate 100 0) := by rw [madeZ]
  rw [hz100] at hown5
  have b5 := b4.trans (b5'.mono b4.size)
  have h5 := h4.below b5'
  have g5 := g4.below b5'
  have hfull := dsN_full n3 (frm ((1 : Nat) : Int) (List.replicate 100 0)) (by rw [frs0, frm_length, List.length_nil, List.length_replicate]; omega)
  have ha6 := add_no w5 w.heap.size LB B [102] d3 d3 _ h5 g5 (by have := n3.works; omega) goodf 1 (by omega) _ 100 100 (List.replicate 100 0) (Keeps.of_own (by rw [List.length_replicate]; exact hown5) List.length_replicate) (by omega) 6 (by omega) hfull
  rw [show ((1 : Nat) : Int) = 1 from rfl] at ha6
  clear h4 g4 h5 g5 b4 b5' hown5 hg5 hz100 hfull
  go_wp2_with fail
  refine ha6.mono ?_
  rintro e w6 ⟨rfl, h6, g6, hb6, _⟩
  have b6 := b5.trans hb6
  clear ha6 hb6 b5
  have hal : ∀ fr, Below w6.heap.size w6 (w6.alloc (.cells (bv [120, 121, 122]).toArray 5 fr)) := fun fr => (Below.refl _ _).alloc (Nat.le_refl _) _
  have ha7 := fun fr => add_n _ w.heap.size LB B d3 50 _ [] (h6.below (hal fr)) n3 (by omega) (g6.below (hal fr)) (by simp) 3 (by omega) _ 3 3 [120, 121, 122] (keeps_lit w6 [120, 121, 122] fr) (by omega) (by simp [frs]) (by omega)
  simp only [show ((3 : Nat) : Int) = 3 from rfl] at ha7
  have bal := fun fr => b6.trans ((hal fr).mono b6.size)
  clear h6 n3 g6 hal b6
  go_wp2_with fail
  refine (ha7 _).mono ?_
  rintro e w7 ⟨d7, rfl, h7, n7, g7, hb7, _⟩
  have b7 := (bal _).trans hb7
  rw [List.nil_append] at n7 g7
  clear ha7 bal hb7
  have ha8 := add_n w7 w.heap.size LB B d7 50 _ _ h7 n7 (by omega) g7 (by simp) 4 (by omega) none 0 0 [] (Keeps.nil _) (by omega) (by rw [show [(3, [120, 121, 122])] = lk1 from rfl, len1]; omega) (by omega)
  rw [show ((4 : Nat) : Int) = 4 from rfl] at ha8
  clear h7 n7 g7
  go_wp2_with fail
  refine ha8.mono ?_
  rintro e w8 ⟨d8, rfl, h8, n8, g8, hb8, _⟩
  have b8 := b7.trans hb8
  rw [show [(3, [120, 121, 122])] ++ [(4, [])] = lk2 from rfl] at n8 g8
  clear ha8 hb8 b7
  have hc9 := cut_no w8 _ LB B [102] _ g8 5 (by omega) (fun j x hj => by
    have hlen : j < 2 := by have := (List.getElem?_eq_some_iff.1 hj).1; rwa [recsAt_length] at this
    have hc : j = 0 ∨ j = 1 := by omega
    rcases hc with rfl | rfl
    · have e : (recsAt 0 lk2)[0]? = some ⟨3, [120, 121, 122], 12⟩ := by kernel_rfl
      rw [e] at hj; simp only [Option.some.injEq] at hj; subst hj; show ((12 : Nat) : Int) ≠ 5; omega
    · have e : (recsAt 0 lk2)[1]? = some ⟨4, [], 21⟩ := by kernel_rfl
      rw [e] at hj; simp only [Option.some.injEq] at hj; subst hj; show ((21 : Nat) : Int) ≠ 5; omega) (by rw [recsAt_length]; decide)
  go_wp2_with fail
  refine hc9.mono ?_
  rintro e w9 ⟨rfl, hb9⟩
  have b9 := b8.trans (hb9.mono b8.size)
  have h9 := h8.below hb9
  have g9 := g8.below hb9
  clear hc9 hb9 b8 h8 g8
  have hc10 := cut_n w9 w.heap.size LB B d8 50 _ lk2 h9 n8 (by omega) (by omega) g9 (by decide) (by rw [len2]; omega) 1 (by decide)
  rw [show lk2.take 1 = lk1 from rfl, len1, show ((12 : Nat) : Int) = 12 from rfl] at hc10
  clear h9 g9 n8
  go_wp2_with fail
  refine hc10.mono ?_
  rintro e w10 ⟨d10, rfl, h10, n10, g10, hb10, _⟩
  have b10 := b9.trans hb10
  have hr11 := record_any w10 _ LB B [102] _ g10 0 ⟨3, [120, 121, 122], 12⟩ (by kernel_rfl) (by rw [recsAt_length]; decide) (by decide)
  rw [show ((0 : Nat) : Int) = 0 from rfl] at hr11
  clear hc10 hb10 b9
  go_wp2_with fail
  refine hr11.mono ?_
  rintro e w11 ⟨a11, c11, rfl, ho11, hb11⟩
  rw [show ((3 : Nat) : Int) = 3 from rfl]
  have b11 := b10.trans (hb11.mono b10.size)
  have h11 := h10.below hb11
  have g11 := g10.below hb11
  have K11 : Keeps w11 a11 3 c11 [120, 121, 122] := Keeps.of_own ho11 rfl
  have hr12 := record_no w11 _ LB B [102] _ g11 1 (by rw [recsAt_length]; decide)
  rw [show ((1 : Nat) : Int) = 1 from rfl] at hr12
  clear hr11 ho11 hb11 h10 g10 b10
  go_wp2_with fail
  refine hr12.mono ?_
  rintro e w12 ⟨rfl, hh⟩
  obtain rfl := hh.symm
  have ho13 := open_bad w11 _ B d10 h11 n10.dead [102] goodf 11 (by rw [n10.now.val, len1]; omega) [] 3 (by omega) (by omega) (by rw [n10.now.val]; exact scan11)
  rw [show ((11 : Nat) : Int) = 11 from rfl] at ho13
  clear hr12
  go_wp2_with fail
  refine ho13.mono ?_
  rintro e w13 ⟨pb, rfl, hst, hb13⟩
  rw [show ((3 : Nat) : Int) = 3 from rfl] at hst
  have b13 := b11.trans (hb13.mono b11.size)
  have g13 := g11.below hb13
  have K13 := K11.stay (KeepU.below hb13 (Nat.le_refl _))
  clear ho13 hb13 h11 g11 n10 K11 b11 hw5
  have hal : ∀ fr, Below w13.heap.size w13 (w13.alloc (.cells (bv [1]).toArray 5 fr)) := fun fr => (Below.refl _ _).alloc (Nat.le_refl _) _
  have hs14 := scan_none (w13.alloc (.cells (bv [1]).toArray 5)) _ 1 1 [1] (rds_lit w13 _ [1] _) (by omega) (by intro h; cases h) (by omega) scan1
  go_wp2_with fail
  refine hs14.mono ?_
  rintro e w14 ⟨rfl, hb14⟩
  have hb14' : Below w13.heap.size w13 w14 := (hal _).trans (hb14.mono (by simp))
  have b14 := b13.trans (hb14'.mono b13.size)
  have g14 := g13.below hb14'
  have K14 := K13.stay (KeepU.below hb14' (Nat.le_refl _))
  have s14 := hst.keep hb14'
  clear hs14 hb14 hb14' b13 g13 K13 hst hal
  have hpos := HG.out.pos
  have e14 := HG.out.below b14 hpos
  go_wp2_with fail
  refine (kind_errno w14 1 e14).mono ?_
  rintro e w15 ⟨rfl, hb15⟩
  have b15 := b14.trans (hb15.mono b14.size)
  have g15 := g14.below hb15
  have K15 := K14.stay (KeepU.below hb15 (Nat.le_refl _))
  have s15 := s14.keep hb15
  clear e14 b14 g14 K14 s14 hb15
  have e15 := HG.out.below b15 hpos
  go_wp2_with fail
  refine (kind_errno w15 1 e15).mono ?_
  rintro e w16 ⟨rfl, hb16⟩
  have b16 := b15.trans (hb16.mono b15.size)
  have g16 := g15.below hb16
  have K16 := K15.stay (KeepU.below hb16 (Nat.le_refl _))
  have s16 := s15.keep hb16
  clear e15 b15 g15 K15 s15 hb16
  have e16 := HG.out.below b16 hpos
  go_wp2_with fail
  refine (kind_errno w16 3 e16).mono ?_
  rintro e w17 ⟨rfl, hb17⟩
  have b17 := b16.trans (hb17.mono b16.size)
  have g17 := g16.below hb17
  have K17 := K16.stay (KeepU.below hb17 (Nat.le_refl _))
  have s17 := s16.keep hb17
  clear e16 b16 g16 K16 s16 hb17
  have e17 := HG.out.below b17 hpos
  go_wp2_with fail
  refine (kind_errno w17 1 e17).mono ?_
  rintro e w18 ⟨rfl, hb18⟩
  have b18 := b17.trans (hb18.mono b17.size)
  have g18 := g17.below hb18
  have K18 := K17.stay (KeepU.below hb18 (Nat.le_refl _))
  have s18 := s17.keep hb18
  clear e17 b17 g17 K17 s17 hb18
  have e18 := HG.out.below b18 hpos
  go_wp2_with fail
  refine (kind_errno w18 6 e18).mono ?_
  rintro e w19 ⟨rfl, hb19⟩
  have b19 := b18.trans (hb19.mono b18.size)
  have g19 := g18.below hb19
  have K19 := K18.stay (KeepU.below hb19 (Nat.le_refl _))
  have s19 := s18.keep hb19
  clear e18 b18 g18 K18 s18 hb19
  have e19 := HG.out.below b19 hpos
  go_wp2_with fail
  refine (kind_errno w19 1 e19).mono ?_
  rintro e w20 ⟨rfl, hb20⟩
  have b20 := b19.trans (hb20.mono b19.size)
  have g20 := g19.below hb20
  have K20 := K19.stay (KeepU.below hb20 (Nat.le_refl _))
  have s20 := s19.keep hb20
  clear e19 b19 g19 K19 s19 hb20
  have hcv := convB w20 a11 3 c11 [120, 121, 122] K20.rds
  have q0 : ((str [120, 121, 122]).toList == [120, 121, 122]) = true := by kernel_rfl
  have hln := length_any w20 _ LB B [102] _ g20 (by rw [recsAt_length]; decide)
  rw [lenOf_recs, len1, show ((12 : Nat) : Int) = 12 from rfl] at hln
  go_wp2_with fail
  refine hln.mono ?_
  rintro e w' ⟨rfl, hh⟩
  obtain rfl := hh.symm
  have e20 := HG.out.below b20 hpos
  clear hln hcv K20
  go_wp2_with fail
  refine (kind_step w20 pb 3 s20 e20).mono ?_
  rintro e w21 ⟨rfl, hb21⟩
  have b21 := b20.trans (hb21.mono b20.size)
  clear e20 s20 g20 hb21 b20
  go_wp2
  go_ret
  exact ⟨rfl, b21⟩
end Go.Proofs.YtgkbgponednfjaaDoor
