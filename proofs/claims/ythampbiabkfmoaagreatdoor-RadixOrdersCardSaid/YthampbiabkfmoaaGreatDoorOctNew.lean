/- Contracts of NewWriter, Bytes, NewReader, and of taprootlaw1's known. -/
import Derived.Test.YthampbiabkfmoaaGreatDoorWriter
import Derived.Test.YthampbiabkfmoaaGreatDoorReader
import Derived.Lib.SlBytesConst
namespace Go.Proofs.YthampbiabkfmoaaGreatDoor
open Go.RowKit Go.Tap
set_option linter.unusedVariables false

/-- A new object at block B. -/
theorem newWriter_any (w : World) : Calls Tryz.prog 64 #[] w fun e w' => ∃ B, e = .returned (.pointer (some ⟨B, 0, none⟩)) ∧ w.heap.size ≤ B ∧ IsW 175 w' B (.slice none 0 0) [] ∧ Below w.heap.size w w' := by
  go_enter Tryz.func64, Tryz.ntmps64
  go_wp2
  go_ret
  exact ⟨w.heap.size, rfl, Nat.le_refl _, ⟨heap_alloc_new _ _, World.ownsRow_nil _ _ _ _⟩, (Below.refl _ _).alloc (Nat.le_refl _) _⟩

set_option maxHeartbeats 400000 in
theorem bytes_any (w : World) (B : Nat) (v : Value) (l : List UInt8) (h : IsW 175 w B v l) (hl : l.length ≤ 140737488355328) :
    Calls Tryz.prog 67 #[.pointer (some ⟨B, 0, none⟩)] w (Fresh w l) := by
  obtain ⟨i0, hi, hz0, hz1, hz2⟩ := info_parts Tryz.infoB
  have hc0 := blk_cell (i := 0) h.blk rfl
  have hlt := blk_lt h.blk
  obtain ⟨a, c, rfl, h1, h2, h3, _⟩ := ownsRow_slice h.own
  have hr := Rds.of_own h.own rfl
  clear h1 h2
  go_enter Tryz.func67, Tryz.ntmps67
  go_wp2_with (at_builtin; refine wpList_append_rds _ rfl (.tmp 3) (.tmp 7) 66 rfl w.heap.size 5 i0 Tryz.underlying66 hi hz0 hz1 hz2 _ 0 [] rfl (own_empty _ _) _ _ _ rfl h3 l (hr.alloc _) (by omega) (by simp) ?_)
  intro v' w' hown hg
  go_wp2
  go_ret
  exact Fresh.mk' (by simpa using hown) (((Below.refl _ _).alloc (Nat.le_refl _) _).grown hg (by simp) (by intro j hj; simp [Value.ownBlock] at hj; omega))

set_option maxHeartbeats 400000 in
theorem newReader_any (w : World) (a : Option Addr) (n c : Nat) (l : List UInt8) (hr : Rds w a n l) (hz : a = none → c = 0) (hn : n ≤ 140737488355328) :
    Calls Tryz.prog 53 #[.slice a n c] w fun e w' => ∃ B a' c', e = .returned (.pointer (some ⟨B, 0, none⟩)) ∧ w.heap.size ≤ B ∧ IsR 156 w' B a' c' false l ∧ (∀ b o, a' = some ⟨b, o, none⟩ → w.heap.size ≤ b) ∧ Below w.heap.size w w' := by
  obtain ⟨i0, hi, hz0, hz1, hz2⟩ := info_parts Tryz.infoB
  go_enter Tryz.func53, Tryz.ntmps53
  go_wp2_with (at_builtin; refine wpList_append_rds _ rfl (.tmp 3) (.tmp 4) 66 rfl w.heap.size 5 i0 Tryz.underlying66 hi hz0 hz1 hz2 _ 0 [] rfl (own_empty _ _) _ _ _ rfl hz l (hr.alloc _) (by omega) (by simp) ?_)
  intro v' w' hown hg
  obtain ⟨a', c', rfl, h1, h2, h3, h4⟩ := ownsRow_slice hown
  have hl := hr.1
  clear h2
  have HL := Lib.hid hl
  have H1 := Lib.hid h1
  clear hl h1
  go_wp2
  go_ret
  have hsz := hg.size
  simp only [World.size_alloc] at hsz
  have hrd := Rds.of_own (n := n) (c := c') (a := a') (by rw [HL.out]; simpa using hown) HL.out
  have e : (w'.alloc (.cells #[.slice a' n c', .bool false] 156)).heap[w'.heap.size]? = _ := heap_alloc_new _ _
  refine ⟨w'.heap.size, a', c', by simp, by omega, ⟨by rw [HL.out]; simpa using e, ?_, by rw [HL.out]; simpa using H1.out, h3, by rw [HL.out]; omega⟩, ?_, (((Below.refl _ _).alloc (Nat.le_refl _) _).grown hg (by simp) (by intro j hj; simp [Value.ownBlock] at hj; omega)).alloc (by omega) _⟩
  · rw [HL.out]; exact hrd.alloc _
  · rintro b o rfl
    exact (hown.lt b (by simp [Value.ownBlock])).1
end Go.Proofs.YthampbiabkfmoaaGreatDoor
