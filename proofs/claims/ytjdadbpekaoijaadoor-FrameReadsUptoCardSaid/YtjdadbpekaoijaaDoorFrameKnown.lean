/- FrameKnown: what it comes to. -/
import Derived.Test.YtjdadbpekaoijaaDoorNext
import Derived.Test.YtjdadbpekaoijaaDoorKind
import Derived.Test.YtjdadbpekaoijaaDoorConv
namespace Go.Proofs.YtjdadbpekaoijaaDoor
open Go.RowKit Go.Tap
set_option linter.unusedVariables false

theorem fr1 : frm 1 [97] = [1, 0, 0, 0, 1, 89, 48, 18, 137, 97] := by decide +kernel
theorem fr2 : frm 7 [104, 101, 108, 108, 111] = [7, 0, 0, 0, 5, 161, 169, 179, 39, 104, 101, 108, 108, 111] := by decide +kernel
theorem nx0 : nxt [] = .error 3 := by kernel_rfl
theorem nx1 : nxt [1, 0, 0, 0, 1, 89, 48, 18, 137, 97] = .ok (1, [97], 10) := by kernel_rfl
theorem nx2 : nxt [7, 0, 0, 0, 5, 161, 169, 179, 39, 104, 101, 108, 108] = .error 3 := by kernel_rfl
theorem nx3 : nxt [0, 0, 0, 0, 0, 0, 0, 0, 0] = .error 2 := by kernel_rfl
theorem nx4 : nxt [1, 255, 0, 0, 0, 0, 0, 0, 0] = .error 2 := by kernel_rfl
theorem nx5 : nxt [7, 0, 0, 0, 5, 161, 169, 179, 39, 104, 101, 108, 108, 112] = .error 4 := by kernel_rfl
theorem own_rds {w : World} {base : Nat} {v : Value} {l : List UInt8} {n : Nat} (h : w.ownsRow base 5 1 v l.length (bv l)) (hn : l.length = n) : ∃ a c, v = .slice a n c ∧ Rds w a n l ∧ n ≤ c ∧ c ≤ maxLen ∧ (a = none → c = 0) := by
  subst hn
  obtain ⟨a, c, rfl, h1, h2, h3, _⟩ := ownsRow_slice h
  exact ⟨a, c, rfl, Rds.of_own h rfl, h1, h2, h3⟩
set_option maxHeartbeats 2000000 in
set_option maxRecDepth 100000 in
theorem known4 (w : World) (hg : EType w) : Calls Tryd.prog 11 #[] w fun e w' => e = .returned (.bool true) ∧ Below w.heap.size w w' := by
  have kc := fun (w : World) (C : Array Value) (n c : Nat) => Lib.run_convert_bytes_const (P := Tryd.prog) w 22 5 C n c Tryd.underlying22 Tryd.underlying5
  go_enter Tryd.func11, Tryd.ntmps11
  go_wp2_with fail
  refine (next_any w none 0 0 [] (Rds.nil _ _) (Nat.le_refl _) (fun _ => rfl) (by omega)).mono ?_
  rw [nx0]
  rintro e w1 ⟨hb1, rfl⟩
  go_wp2_with fail
  refine (lay_any _ 1 (by omega) (by omega) _ 1 _ [97] (rds_lit w1 _ [97] _) (by intro h; cases h) (by omega)).mono ?_
  rw [fr1]
  rintro e w2 ⟨v2, rfl, hown2, hb2⟩
  have b2 : Below w.heap.size w w2 := (hb1.alloc hb1.size _).trans (hb2.mono (by have := hb1.size; simp; omega))
  clear hb1 hb2
  obtain ⟨a2, c2, rfl, hr2, hnc2, hm2, hz2⟩ := own_rds hown2 (n := 10) rfl
  clear hown2
  go_wp2_with fail
  refine (next_any w2 a2 10 c2 _ hr2 hnc2 hz2 (by omega)).mono ?_
  rw [nx1]
  rintro e w3 ⟨hb3, v3, rfl, hown3⟩
  have b3 := b2.trans (hb3.mono b2.size)
  obtain ⟨a3, c3, rfl, hr3, _, _, _⟩ := own_rds hown3 (n := 1) rfl
  clear hr2 hnc2 hz2 hown3 hb3 b2 hm2
  go_wp2_with fail
  refine (kind_errno w3 3 (hg.keep b3)).mono ?_
  rintro e w4 ⟨rfl, hb4⟩
  have hr4 : Rds w4 a3 1 [97] := hr3.below hb4 (fun h0 b o e => by subst e; exact hr3.lt h0)
  have b4 := b3.trans (hb4.mono b3.size)
  have hcv := convB w4 a3 1 c3 [97] hr4
  have q0 : ((str [97]).toList == [97]) = true := by kernel_rfl
  clear hr3 hr4 b3 hb4 kc
  go_wp2
  go_ret
  exact ⟨rfl, b4⟩
theorem rds_keep {w w' : World} {a : Option Addr} {n : Nat} {l : List UInt8} (h : Rds w a n l) (hb : Below w.heap.size w w') : Rds w' a n l := h.below hb (fun h0 b o e => by subst e; exact h.lt h0)
theorem made0 (n : Nat) : ∃ Z : List UInt8, (madeCells #[Value.int .u8 0] n).toList = bv Z ∧ Z.length = n := by
  refine ⟨List.replicate n 0, ?_, List.length_replicate⟩
  apply List.ext_getElem
  · simp [madeCells, bv]
  · intro i h1 h2
    simp [madeCells, bv, Nat.mod_one]
set_option maxHeartbeats 4000000 in
set_option maxRecDepth 100000 in
theorem frameKnown_walk (w : World) (hg : EType w) : Calls Tryd.prog 3 #[] w fun e w' => e = .returned (.bool true) ∧ Below w.heap.size w w' := by
  have kc := fun (w : World) (C : Array Value) (n c : Nat) => Lib.run_convert_bytes_const (P := Tryd.prog) w 22 5 C n c Tryd.underlying22 Tryd.underlying5
  obtain ⟨iB, hi, hz0, hz1, hz2⟩ := info_parts Tryd.infoB
  go_enter Tryd.func3, Tryd.ntmps3
  go_wp2_with fail
  refine (lay_bad w 0 none 0 0 (.inl (by omega)) (by omega)).mono ?_
  rintro e w' ⟨rfl, rfl⟩
  go_wp2_with fail
  refine (lay_bad _ 256 none 0 0 (.inr (.inl (by omega))) (by omega)).mono ?_
  rintro e w' ⟨rfl, rfl⟩
  go_wp2_with (refine wpList_make_full _ rfl (.const (.int .i64 1048577)) (.const (.int .i64 1048577)) 22 rfl w'.heap.size 5 iB _ 1 Tryd.underlying22 hi hz0 hz1 .i64 .i64 1048577 1048577 1048577 rfl rfl rfl rfl (by rw [hz2]; omega) (by unfold maxLen; omega) (Nat.le_refl _) ?_)
  intro w2 hown hgr
  have b2 : Below w'.heap.size w' w2 := (Below.refl _ _).grown hgr (Nat.le_refl _) (by intro k hk; cases hk)
  clear hown hgr
  go_wp2_with fail
  refine (lay_bad w2 1 _ 1048577 _ (.inr (.inr (by omega))) (by omega)).mono ?_
  rintro e w3 ⟨rfl, hw3⟩
  have b3 : Below w'.heap.size w' w3 := by rw [hw3]; exact b2
  clear b2 hw3
  go_wp2_with fail
  refine (lay_any _ 7 (by omega) (by omega) _ 5 _ [104, 101, 108, 108, 111] (rds_lit w3 _ [104, 101, 108, 108, 111] _) (by intro h; cases h) (by omega)).mono ?_
  rw [fr2]
  rintro e w4 ⟨v4, rfl, hown4, hb4⟩
  have b4 : Below w'.heap.size w' w4 := (b3.alloc b3.size _).trans (hb4.mono (by have := b3.size; simp; omega))
  obtain ⟨a4, c4, rfl, hr4, hnc4, _, _⟩ := own_rds hown4 (n := 14) rfl
  obtain ⟨g, rfl, _, _⟩ := own_head hown4 (by decide)
  have HR4 := Lib.hid hr4
  clear b3 hb4 hown4 hr4
  go_wp2_with fail
  refine (known4 w4 (hg.keep b4)).mono ?_
  rintro e w5 ⟨rfl, hb5⟩
  have hr5 := rds_keep HR4.out hb5
  have HR5 := Lib.hid hr5
  have b5 : Below w'.heap.size w' w5 := b4.trans (hb5.mono b4.size)
  clear b4 hb5 hr5
  have hnc13 : 13 ≤ c4 := by omega
  have hd13 : decide (13 ≤ c4) = true := decide_eq_true hnc13
  go_wp2_with fail
  refine (next_any w5 (some ⟨g, 0, none⟩) 13 c4 [7, 0, 0, 0, 5, 161, 169, 179, 39, 104, 101, 108, 108] (by have h := HR5.out.take (k := 13) (by omega); exact h) hnc13 (by intro h; cases h) (by omega)).mono ?_
  rw [nx2]
  rintro e w6 ⟨hb6, rfl⟩
  have hr6 := rds_keep HR5.out hb6
  have HR6 := Lib.hid hr6
  have b6 : Below w'.heap.size w' w6 := b5.trans (hb6.mono b5.size)
  clear b5 hb6 hr6
  go_wp2_with fail
  refine (next_any _ _ 9 _ [0, 0, 0, 0, 0, 0, 0, 0, 0] (rds_lit w6 _ [0, 0, 0, 0, 0, 0, 0, 0, 0] _) (by omega) (by intro h; cases h) (by omega)).mono ?_
  rw [nx3]
  rintro e w7 ⟨hb7, rfl⟩
  have c7 : Below w6.heap.size w6 w7 := ((Below.refl _ _).alloc (Nat.le_refl _) _).trans (hb7.mono (by simp))
  have hr7 := rds_keep HR6.out c7
  have HR7 := Lib.hid hr7
  have b7 : Below w'.heap.size w' w7 := b6.trans (c7.mono b6.size)
  clear b6 hb7 c7 hr7
  go_wp2_with fail
  refine (next_any _ _ 9 _ [1, 255, 0, 0, 0, 0, 0, 0, 0] (rds_lit w7 _ [1, 255, 0, 0, 0, 0, 0, 0, 0] _) (by omega) (by intro h; cases h) (by omega)).mono ?_
  rw [nx4]
  rintro e w8 ⟨hb8, rfl⟩
  have c8 : Below w7.heap.size w7 w8 := ((Below.refl _ _).alloc (Nat.le_refl _) _).trans (hb8.mono (by simp))
  have hr8 := rds_keep HR7.out c8
  have b8 : Below w'.heap.size w' w8 := b7.trans (c8.mono b7.size)
  clear b7 hb8 c8
  go_wp2_with (at_builtin; refine wpList_append_rds _ rfl (.tmp 74) (.tmp 75) 22 rfl w8.heap.size 5 iB Tryd.underlying22 hi hz0 hz1 hz2 _ 0 [] rfl (own_empty _ _) _ _ _ rfl (by intro h; cases h) _ (hr8.alloc _) (by omega) (by simp) ?_)
  intro v9 w9 hown9 hg9
  have c9 : Below w8.heap.size w8 w9 := ((Below.refl _ _).alloc (Nat.le_refl _) _).grown hg9 (by simp) (by intro j hj; simp [Value.ownBlock] at hj; omega)
  have b9 : Below w'.heap.size w' w9 := b8.trans (c9.mono b8.size)
  have hs8 := b8.size
  obtain ⟨a9, c9', rfl, hq9, _⟩ := ownsRow_slice hown9
  obtain ⟨g9, rfl, hge9, _⟩ := own_head hown9 (by decide)
  have hc13 : w9.cell? ⟨g9, 13, none⟩ = some (.int .u8 111) := hown9.cellAt 13 (by decide)
  have hf13 : w9.frozen? ⟨g9, 13, none⟩ = false := hown9.frozenAt 13
  have hst := (hown9.stored 13 (.int .u8 112)).1
  have hr10 : Rds (w9.setCell ⟨g9, 13, none⟩ (.int .u8 112)) (some ⟨g9, 0, none⟩) 14 [7, 0, 0, 0, 5, 161, 169, 179, 39, 104, 101, 108, 108, 112] := Rds.of_own (by exact hst) rfl
  have b10 : Below w'.heap.size w' (w9.setCell ⟨g9, 13, none⟩ (.int .u8 112)) := b9.setCell (show w'.heap.size ≤ (⟨g9, 13, none⟩ : Addr).block from Nat.le_trans hs8 hge9) _
  have HR10 := Lib.hid hr10
  have hc9c : 14 ≤ c9' := by simpa using hq9
  clear hown9 hg9 c9 b9 hst hr10 hr8 b8
  go_wp2_with fail
  refine (next_any _ (some ⟨g9, 0, none⟩) 14 c9' [7, 0, 0, 0, 5, 161, 169, 179, 39, 104, 101, 108, 108, 112] HR10.out hc9c (by intro h; cases h) (by omega)).mono ?_
  rw [nx5]
  rintro e w10 ⟨hb10, rfl⟩
  have d0 : Below w'.heap.size w' w10 := b10.trans (hb10.mono b10.size)
  clear b10 hb10
  go_wp2_with fail
  refine (kind_errno _ 1 (hg.keep d0)).mono ?_
  rintro e x0 ⟨rfl, hx0⟩
  have d1 : Below w'.heap.size w' x0 := d0.trans (hx0.mono d0.size)
  clear hx0
  go_wp2_with fail
  refine (kind_errno _ 1 (hg.keep d1)).mono ?_
  rintro e x1 ⟨rfl, hx1⟩
  have d2 : Below w'.heap.size w' x1 := d1.trans (hx1.mono d1.size)
  clear hx1
  go_wp2_with fail
  refine (kind_errno _ 1 (hg.keep d2)).mono ?_
  rintro e x2 ⟨rfl, hx2⟩
  have d3 : Below w'.heap.size w' x2 := d2.trans (hx2.mono d2.size)
  clear hx2
  go_wp2_with fail
  refine (kind_errno _ 3 (hg.keep d3)).mono ?_
  rintro e x3 ⟨rfl, hx3⟩
  have d4 : Below w'.heap.size w' x3 := d3.trans (hx3.mono d3.size)
  clear hx3
  go_wp2_with fail
  refine (kind_errno _ 2 (hg.keep d4)).mono ?_
  rintro e x4 ⟨rfl, hx4⟩
  have d5 : Below w'.heap.size w' x4 := d4.trans (hx4.mono d4.size)
  clear hx4
  go_wp2_with fail
  refine (kind_errno _ 2 (hg.keep d5)).mono ?_
  rintro e x5 ⟨rfl, hx5⟩
  have d6 : Below w'.heap.size w' x5 := d5.trans (hx5.mono d5.size)
  clear hx5
  go_wp2_with fail
  refine (kind_errno _ 4 (hg.keep d6)).mono ?_
  rintro e x6 ⟨rfl, hx6⟩
  have d7 : Below w'.heap.size w' x6 := d6.trans (hx6.mono d6.size)
  clear hx6
  go_wp2
  go_ret
  exact ⟨rfl, d7⟩
end Go.Proofs.YtjdadbpekaoijaaDoor
