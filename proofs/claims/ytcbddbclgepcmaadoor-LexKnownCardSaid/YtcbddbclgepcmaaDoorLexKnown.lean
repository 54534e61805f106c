/- LexKnown: what it comes to. -/
import Derived.Test.YtcbddbclgepcmaaDoorKindPl
import Derived.Test.YtcbddbclgepcmaaDoorLexKn
import Derived.Test.YtcbddbclgepcmaaDoorTable
import Derived.Deep.RegionWith
import Derived.Deep.Cut
namespace Go.Proofs.YtcbddbclgepcmaaDoor
open Go.RowKit Go.Tap
set_option linter.unusedVariables false

def NM : Nat → ByteArray
  | 0 => ⟨#[]⟩
  | 1 => ⟨#[119, 111, 114, 100]⟩
  | 2 => ⟨#[40]⟩
  | 3 => ⟨#[41]⟩
  | 4 => ⟨#[44]⟩
  | 5 => ⟨#[58, 58]⟩
  | 6 => ⟨#[46, 46]⟩
  | 7 => ⟨#[43]⟩
  | 8 => ⟨#[45]⟩
  | 9 => ⟨#[38]⟩
  | 10 => ⟨#[33]⟩
  | _ => ⟨#[101, 110, 100]⟩
def tabN : Array Value := #[.string ⟨#[]⟩, .string ⟨#[119, 111, 114, 100]⟩, .string ⟨#[40]⟩, .string ⟨#[41]⟩, .string ⟨#[44]⟩, .string ⟨#[58, 58]⟩, .string ⟨#[46, 46]⟩, .string ⟨#[43]⟩, .string ⟨#[45]⟩, .string ⟨#[38]⟩, .string ⟨#[33]⟩, .string ⟨#[101, 110, 100]⟩]
theorem tabN_get (k : Nat) (h : k < 12) : tabN[k]? = some (.string (NM k)) := by
  rcases (show k = 0 ∨ k = 1 ∨ k = 2 ∨ k = 3 ∨ k = 4 ∨ k = 5 ∨ k = 6 ∨ k = 7 ∨ k = 8 ∨ k = 9 ∨ k = 10 ∨ k = 11 by omega) with rfl | rfl | rfl | rfl | rfl | rfl | rfl | rfl | rfl | rfl | rfl | rfl <;> rfl
set_option maxHeartbeats 2000000 in
set_option maxRecDepth 100000 in
theorem name_any (w : World) (k : Nat) (hk : k < 12) : Calls Tryd.prog 22 #[.int .i64 (k : Int)] w fun e w' => e = .returned (.string (NM k)) ∧ Below w.heap.size w w' := by
  rcases (show k = 0 ∨ k = 1 ∨ k = 2 ∨ k = 3 ∨ k = 4 ∨ k = 5 ∨ k = 6 ∨ k = 7 ∨ k = 8 ∨ k = 9 ∨ k = 10 ∨ k = 11 by omega) with rfl | rfl | rfl | rfl | rfl | rfl | rfl | rfl | rfl | rfl | rfl | rfl
  all_goals
    go_enter Tryd.func22, Tryd.ntmps22
    go_wp2
    go_ret
    exact ⟨rfl, (Below.refl _ _).alloc (Nat.le_refl _) _⟩
theorem kn1 : Lx.lex [97, 32, 58, 32, 98] = .error 2 := by rfl
theorem kn2 : Lx.lex [] = .ok [⟨11, 0, []⟩] := by rfl
theorem kn3 : Lx.lex [102, 105, 114, 115, 116, 40, 120, 44, 51, 41, 46, 46, 33, 121, 45, 122, 124, 119, 32, 109, 105, 110, 117, 115, 32, 110, 111, 116, 95] = .ok [⟨1, 0, [102, 105, 114, 115, 116]⟩, ⟨2, 5, [40]⟩, ⟨1, 6, [120]⟩, ⟨4, 7, [44]⟩, ⟨1, 8, [51]⟩, ⟨3, 9, [41]⟩, ⟨6, 10, [46, 46]⟩, ⟨10, 12, [33]⟩, ⟨1, 13, [121]⟩, ⟨8, 14, [45]⟩, ⟨1, 15, [122]⟩, ⟨7, 16, [124]⟩, ⟨1, 17, [119]⟩, ⟨8, 19, [109, 105, 110, 117, 115]⟩, ⟨1, 25, [110, 111, 116, 95]⟩, ⟨11, 29, []⟩] := by rfl
theorem made_zero (n : Nat) : (madeCells #[Value.int .u8 0] n).toList = bv (List.replicate n 0) := by
  apply List.ext_getElem
  · simp [madeCells, bv]
  · intro i h1 h2
    simp [madeCells, bv, Nat.mod_one]
set_option maxHeartbeats 4000000 in
set_option maxRecDepth 100000 in
theorem lexKnown_walk (w : World) (hg : EType w) : Calls Tryd.prog 6 #[] w fun e w' => e = .returned (.bool true) ∧ Below w.heap.size w w' := by
  have ia : (Tryd.prog.info? 52).map (fun i => (i.zero, i.size)) = some (some (.agg (Array.replicate 12 (.string ⟨#[]⟩))), tabN.size) := by kernel_rfl
  go_enter Tryd.func6, Tryd.ntmps6
  go_wp2_with fail
  refine (lex_strong w [97, 32, 58, 32, 98] (by simp)).mono ?_
  rw [kn1]
  rintro e w1 ⟨hb1, pb, rfl, hpb⟩
  have g1 : EType w1 := hg.keep hb1
  obtain ⟨iB, hi, hz0, hz1, hz2⟩ := info_parts Tryd.infoB
  have HPB := Lib.hid hpb
  have hpbl : pb < w1.heap.size := lt_of_block hpb
  clear hpb
  go_wp2_with (refine wpList_make_full _ rfl (.const (.int .i64 601)) (.const (.int .i64 601)) 22 rfl w1.heap.size 5 iB _ 1 Tryd.underlying22 hi hz0 hz1 .i64 .i64 601 601 601 rfl rfl rfl rfl (by rw [hz2]; omega) (by unfold maxLen; omega) (Nat.le_refl _) ?_)
  intro w2 hown hgr
  obtain ⟨Z, hZ, hZl⟩ : ∃ Z : List UInt8, (madeCells #[Value.int .u8 0] 601).toList = bv Z ∧ Z.length = 601 := ⟨List.replicate 601 0, made_zero 601, List.length_replicate⟩
  rw [hZ] at hown
  clear hZ
  have hb2 : Below w1.heap.size w1 w2 := (Below.refl _ _).grown hgr (Nat.le_refl _) (by intro k hk; cases hk)
  have hcv := convB w2 _ 601 601 _ (Rds.of_own (by rw [hZl]; exact hown) hZl)
  clear hown hgr hi hz0 hz1 hz2
  go_wp2_with fail
  refine (lex_long w2 Z (by omega)).mono ?_
  rintro e w' ⟨rfl, rfl⟩
  clear hcv
  go_wp2_with fail
  refine (lex_strong _ [] (by simp)).mono ?_
  rw [kn2]
  rintro e w3 ⟨hb3, v3, rfl, hr3⟩
  obtain ⟨a3, c3, rfl, _⟩ := ownsRow_slice hr3
  have b3 : Below w1.heap.size w1 w3 := hb2.trans (hb3.mono hb2.size)
  clear hr3 hb2 hb3
  go_wp2_with fail
  refine (lex_strong w3 [102, 105, 114, 115, 116, 40, 120, 44, 51, 41, 46, 46, 33, 121, 45, 122, 124, 119, 32, 109, 105, 110, 117, 115, 32, 110, 111, 116, 95] (by simp)).mono ?_
  rw [kn3]
  rintro e w4 ⟨hb4, v4, rfl, hr4⟩
  obtain ⟨a4, c4, rfl, _⟩ := ownsRow_slice hr4
  obtain ⟨g, rfl, _, _⟩ := own_head hr4 (by simp)
  have t6 := (tok_cell hr4 (i := 6) rfl).1
  have t13 := (tok_cell hr4 (i := 13) rfl).1
  have t14 := (tok_cell hr4 (i := 14) rfl).1
  have t14t := (tok_cell hr4 (i := 14) rfl).2.2
  simp only [Nat.reduceMul, Nat.reduceAdd] at t6 t13 t14 t14t
  have b4 : Below w1.heap.size w1 w4 := b3.trans (hb4.mono b3.size)
  have hgl : g < w4.heap.size := block_lt_of_cell t6
  clear hr4 hb4 b3
  go_upto_region 5 with (fail)
  refine wp_region_lit ?_
  refine wpList_tab 52 _ 29 9 tabN _ rfl rfl rfl rfl rfl rfl rfl rfl rfl (by kernel_rfl) ia rfl (by kernel_rfl) (by decide) (Nat.le_of_ble_eq_true rfl) (Nat.le_of_ble_eq_true rfl) ?_
  have hT : (w4.alloc (.cells tabN 52)).heap[w4.heap.size]? = some (.cells tabN 52 (0, 0)) := heap_alloc_new _ _
  have hb5 : Below w4.heap.size w4 (w4.alloc (.cells tabN 52)) := (Below.refl _ _).alloc (Nat.le_refl _) _
  have hs5 : (w4.alloc (.cells tabN 52)).heap.size = w4.heap.size + 1 := by simp
  generalize (w4.alloc (.cells tabN 52)) = w5 at hT hb5 hs5 ⊢
  have b5 : Below w.heap.size w w5 := hb1.trans ((b4.trans (hb5.mono b4.size)).mono hb1.size)
  have P5 : IsPl w5 pb 2 15 := by
    have h1 : IsPl w1 pb 2 15 := ⟨blk_cell HPB.out rfl, blk_cell HPB.out rfl⟩
    exact h1.keep (b4.trans (hb5.mono b4.size))
  have G5 : EType w5 := hg.keep b5
  have k6 := (hb5.cell (p := ⟨g, 18, none⟩) hgl).trans t6
  have k13 := (hb5.cell (p := ⟨g, 39, none⟩) hgl).trans t13
  have k14 := (hb5.cell (p := ⟨g, 42, none⟩) hgl).trans t14
  have k14t := (hb5.cell (p := ⟨g, 44, none⟩) hgl).trans t14t
  clear t6 t13 t14 t14t hb5 b4 g1 hpbl ia
  go_wp2
  go_loopw [10] (fun t wr => ∃ k : Nat, k ≤ 12 ∧ t = .int .i64 (k : Int) ∧ Below w5.heap.size w5 wr) (fun t _ => 12 - (intOf t).toNat)
  case atStart => exact ⟨0, Nat.zero_le _, rfl, Below.refl _ _⟩
  case round =>
    obtain ⟨k, hk, rfl, hbr⟩ := hrel
    by_cases hlt : k < 12
    · have d1 : decide ((k : Int) < 12) = true := decide_eq_true (by omega)
      have d2 : decide (k < 12) = true := decide_eq_true hlt
      have c1 := blk_cell ((hbr.block w4.heap.size (by omega)).trans hT) (tabN_get k hlt)
      have n1 : (k : Int) < 12 := by omega
      go_wp2_with fail
      go_region_with (go_at_call 22; refine (name_any _ k hlt).mono ?_; rintro e w6 ⟨rfl, hb6⟩; have c2 := (hb6.cell (p := ⟨w4.heap.size, k, none⟩) (by have := hbr.size; simp; omega)).trans c1)
      all_goals
        have hb7 : Below wr.heap.size wr w6 := ⟨hb6.os, hb6.tape, hb6.output, hb6.size, hb6.block⟩
        go_wp2
        go_roundw
        case rel => exact ⟨k + 1, by omega, by go_num, hbr.trans (hb7.mono hbr.size)⟩
        case measure => first | (simp [intOf]; done) | (simp [intOf]; omega)
    · obtain rfl : k = 12 := by omega
      go_wp2_with fail
      refine (known17 _).mono ?_
      rintro e w6 ⟨rfl, hb6⟩
      have c6 : Below w5.heap.size w5 w6 := hbr.trans (hb6.mono hbr.size)
      clear hbr hb6
      go_wp2_with fail
      refine (kind_place w6 pb 2 15 (P5.keep c6) (G5.keep c6)).mono ?_
      rintro e w7 ⟨rfl, hb7⟩
      have c7 : Below w5.heap.size w5 w7 := c6.trans (hb7.mono c6.size)
      clear c6 hb7
      go_wp2_with fail
      refine (at_place w7 pb 2 15 (P5.keep c7) (G5.keep c7)).mono ?_
      rintro e w8 ⟨rfl, hb8⟩
      have c8 : Below w5.heap.size w5 w8 := c7.trans (hb8.mono c7.size)
      clear c7 hb8
      go_wp2_with fail
      refine (kind_errno w8 5 (G5.keep c8)).mono ?_
      rintro e w9 ⟨rfl, hb9⟩
      have c9 : Below w5.heap.size w5 w9 := c8.trans (hb9.mono c8.size)
      have hgl5 : g < w5.heap.size := by omega
      have m6 := (c9.cell (p := ⟨g, 18, none⟩) hgl5).trans k6
      have m13 := (c9.cell (p := ⟨g, 39, none⟩) hgl5).trans k13
      have m14 := (c9.cell (p := ⟨g, 42, none⟩) hgl5).trans k14
      have m14t := (c9.cell (p := ⟨g, 44, none⟩) hgl5).trans k14t
      have bz : Below w.heap.size w w9 := b5.trans (c9.mono b5.size)
      have q0 : ((str [110, 111, 116, 95]).toList == [110, 111, 116, 95]) = true := by rw [str_is]; rfl
      clear c8 hb9 c9 k6 k13 k14 k14t
      go_wp2
      go_ret
      exact ⟨rfl, bz⟩
end Go.Proofs.YtcbddbclgepcmaaDoor
