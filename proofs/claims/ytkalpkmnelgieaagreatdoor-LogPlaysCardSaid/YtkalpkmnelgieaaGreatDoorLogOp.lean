/- Record, Open (where it goes well), Add. -/
import Derived.Test.YtkalpkmnelgieaaGreatDoorLogPlain
namespace Go.Proofs.YtkalpkmnelgieaaGreatDoor
open Go.RowKit Go.Tap Go.Maps
set_option linter.unusedVariables false
attribute [local go_sem ↓] Go.wp_at_zero Go.wp_at_succ

theorem grown_undrew {w w' : World} {r : Option Nat} (h : w.drew.grownBy w' r) : w.grownBy w' r := ⟨h.os, h.tape, h.output, h.size, h.block⟩
set_option maxHeartbeats 2000000 in
set_option maxRecDepth 100000 in
theorem record_any (w : World) (lo LB B : Nat) (nm : Dsk.Name) (l : List Rec) (h : LogIs w lo LB B nm l) (j : Nat) (x : Rec) (hj : l[j]? = some x) (hn : l.length ≤ 1048576) (hx : x.body.length ≤ 1048576) :
    Calls Tryz.prog 54 #[.pointer (some ⟨LB, 0, none⟩), .int .i64 (j : Int)] w fun e w' => ∃ a c, e = .returned (.tuple #[.int .i64 (x.kind : Int), .slice a x.body.length c, .bool true]) ∧
      w'.ownsRow w.heap.size 5 1 (.slice a x.body.length c) x.body.length (bv x.body) ∧ Below w.heap.size w w' := by
  obtain ⟨i0, hi, hz0, hz1, hz2'⟩ := info_parts Tryz.infoB
  obtain ⟨rv, h1, h2, h3⟩ := h
  have c2 : w.cell? ⟨LB, 2, none⟩ = some rv := blk_cell (i := 2) h1 rfl
  obtain ⟨g, cap, a, c, rfl, hk, e0, e1, e2⟩ := h3.elem hj
  have hlt : j < l.length := (List.getElem?_eq_some_iff.1 hj).1
  obtain ⟨n, hn'⟩ : ∃ n, n = l.length := ⟨_, rfl⟩
  rw [← hn'] at c2 hlt hn
  have d0 : decide ((j : Int) < 0) = false := decide_eq_false (by omega)
  have d1 : decide ((n : Int) ≤ (j : Int)) = false := decide_eq_false (by omega)
  have d1' : decide (n ≤ j) = false := decide_eq_false (by omega)
  have d2 : decide ((j : Int) < (n : Int)) = true := decide_eq_true (by omega)
  have d3 : (j : Int) < (n : Int) := by omega
  obtain ⟨W1, hW1⟩ : ∃ W1, W1 = w.alloc (.cells #[.int .i64 (x.kind : Int), .slice a x.body.length c, .int .i64 (x.fin : Int)] 104) := ⟨_, rfl⟩
  have hT1 : W1.heap[w.heap.size]? = some (.cells #[.int .i64 (x.kind : Int), .slice a x.body.length c, .int .i64 (x.fin : Int)] 104 (0, 0)) := by rw [hW1]; exact heap_alloc_new _ _
  have hB1 : Below w.heap.size w W1 := by rw [hW1]; exact (Below.refl _ _).alloc (Nat.le_refl _) _
  have hK1 := hk.stay (KeepU.below hB1 (Nat.le_refl _))
  have HT1 := Lib.hid hT1
  have HK1 := Lib.hid hK1
  have HB1 := Lib.hid hB1
  have hxz := hk.none
  clear h1 h3 hj hn' hT1 hK1 hB1 hk
  go_enter Tryz.func54, Tryz.ntmps54
  go_wp2_with fail
  rw [← hW1]
  clear hW1 e0 e1 e2
  have k0 : W1.cell? ⟨w.heap.size, 0, none⟩ = some (.int .i64 (x.kind : Int)) := blk_cell (i := 0) HT1.out rfl
  have k1 : W1.cell? ⟨w.heap.size, 1, none⟩ = some (.slice a x.body.length c) := blk_cell (i := 1) HT1.out rfl
  have hlt1 := blk_lt HT1.out
  have k0' : ∀ o, (W1.alloc o).cell? ⟨w.heap.size, 0, none⟩ = some (.int .i64 (x.kind : Int)) := fun o => (World.cell?_of_block ((MapKept.heap_alloc W1 o).2 _ hlt1)).trans k0
  have k1' : ∀ o, (W1.alloc o).cell? ⟨w.heap.size, 1, none⟩ = some (.slice a x.body.length c) := fun o => (World.cell?_of_block ((MapKept.heap_alloc W1 o).2 _ hlt1)).trans k1
  go_region_law ((refine step_append_rds (by rfl) (.tmp 28) (.tmp 30) 38 (by rfl) W1.heap.size 5 i0 Tryz.underlying38 hi hz0 hz1 hz2' _ 0 [] (by rfl) (own_empty W1 _) a x.body.length c (by rfl) hxz x.body ((HK1.out.stay (KeepU.alloc W1 _)).rds) (by omega) (by simp) ?_; intro a3 c3 w3 hown3 hg3; have k03 : w3.cell? ⟨w.heap.size, 0, none⟩ = some (.int .i64 (x.kind : Int)) := (World.cell?_of_block (hg3.block w.heap.size (by simp; omega) (by intro e; simp [Value.ownBlock] at e; omega))).trans (k0' _)))
  all_goals
    have b3 : Below w.heap.size w w3 := (HB1.out.alloc HB1.out.size _).grown (grown_undrew hg3) (by have := HB1.out.size; simp; omega) (by intro j hj; simp [Value.ownBlock] at hj; have := HB1.out.size; omega)
    have ho3 := ownsRow_base hown3 HB1.out.size
    have HO := Lib.hid ho3
    clear hown3 hg3 ho3 k0 k1 k0' k1'
    go_wp2
    go_ret3
    refine ⟨a3, c3, ?_, by simpa using HO.out, b3⟩
    first | rfl | (rw [Nat.zero_add]; done) | (rw [Nat.zero_add]; rfl) | trace_state
end Go.Proofs.YtkalpkmnelgieaaGreatDoor
