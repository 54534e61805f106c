/- New, named, Append, Pending, Works, Read, Sync. -/
import Derived.Test.YtdlpehlgmfhheaaDoorDskPut
namespace Go.Proofs.YtdlpehlgmfhheaaDoor
open Go.RowKit Go.Tap Go.Maps
set_option linter.unusedVariables false
attribute [local go_sem ↓] Go.wp_at_zero Go.wp_at_succ

namespace Dsk
def newD (room : Nat) : Dk := ⟨room, [], [], [], -1, false, 0⟩
theorem newD_ok (room : Nat) (h : room ≤ 16777216) : Ok (newD room) :=
  ⟨rfl, h, ⟨Nat.zero_le _, Nat.zero_le _⟩, Nat.zero_le _, Nat.le_refl _, Nat.le_refl _, fun x hx => by simp [newD] at hx, Nat.zero_le _, ⟨Int.le_refl _, by show (-1 : Int) ≤ _; omega⟩⟩
def good (s : Name) : Prop := 0 < s.length ∧ s.length ≤ 20
end Dsk
def errv (k : Nat) : Value := if k = 0 then .nilIface else .iface 61 (.int .i64 (k : Int))
theorem new_is (w : World) (room : Nat) (hr : room ≤ 16777216) :
    IsDk (((w.alloc (.map #[] 0)).alloc (.map #[] 0)).alloc (.cells #[.int .i64 (room : Int), .map (some w.heap.size), .map (some (w.heap.size + 1)), .slice none 0 0, .int .i64 (-1), .bool false, .int .i64 0] 179)) w.heap.size (w.heap.size + 1 + 1) (Dsk.newD room) ∧
    Below w.heap.size w (((w.alloc (.map #[] 0)).alloc (.map #[] 0)).alloc (.cells #[.int .i64 (room : Int), .map (some w.heap.size), .map (some (w.heap.size + 1)), .slice none 0 0, .int .i64 (-1), .bool false, .int .i64 0] 179)) := by
  obtain ⟨w1, hw1⟩ : ∃ w1, w1 = w.alloc (.map #[] 0) := ⟨_, rfl⟩
  have e1 : w1.heap.size = w.heap.size + 1 := by rw [hw1]; simp
  obtain ⟨w2, hw2⟩ : ∃ w2, w2 = w1.alloc (.map #[] 0) := ⟨_, rfl⟩
  have e2 : w2.heap.size = w.heap.size + 1 + 1 := by rw [hw2]; simp; omega
  have a1 : FsIs w1 w.heap.size [] := by rw [hw1]; exact FsIs.new w
  have a2 : FsIs w2 w1.heap.size [] := by rw [hw2]; exact FsIs.new w1
  have a1' : FsIs w2 w.heap.size [] := by rw [hw2]; exact a1.stay ((MapKept.heap_alloc w1 _).2 _ (by omega)) (KeepU.alloc _ _)
  have b2 : Below w.heap.size w w2 := by rw [hw2, hw1]; exact ((Below.refl _ _).alloc (Nat.le_refl _) _).alloc (by simp) _
  rw [← hw1, ← hw2]
  generalize hcs : (.cells #[.int .i64 (room : Int), .map (some w.heap.size), .map (some (w.heap.size + 1)), .slice none 0 0, .int .i64 (-1), .bool false, .int .i64 0] 179 : Obj) = o
  refine ⟨⟨w.heap.size, w.heap.size + 1, .slice none 0 0, ⟨?_, by omega, by omega, ?_, ?_, Pends.nil _ _⟩, Dsk.newD_ok room hr⟩, b2.alloc (by omega) _⟩
  · rw [← e2, ← hcs]; exact heap_alloc_new w2 _
  · exact a1'.stay ((MapKept.heap_alloc w2 _).2 _ (by omega)) (KeepU.alloc _ _)
  · rw [← e1]; exact a2.stay ((MapKept.heap_alloc w2 _).2 _ (by omega)) (KeepU.alloc _ _)
set_option maxHeartbeats 1000000 in
set_option maxRecDepth 100000 in
theorem new_any (w : World) (room : Nat) (hr : room ≤ 16777216) :
    Calls Tryd.prog 40 #[.int .i64 (room : Int)] w fun e w' => ∃ B, e = .returned (.pointer (some ⟨B, 0, none⟩)) ∧ IsDk w' w.heap.size B (Dsk.newD room) ∧ Below w.heap.size w w' := by
  have hmm := @run_makeMap Tryd.prog
  have h1 : min (room : Int) 16777216 = room := by omega
  have HN := Lib.hid (new_is w room hr)
  rcases Nat.eq_zero_or_pos room with h0 | h0
  · subst h0
    go_enter Tryd.func40, Tryd.ntmps40
    go_wp2
    go_ret
    exact ⟨_, rfl, HN.out.1, HN.out.2⟩
  · go_enter Tryd.func40, Tryd.ntmps40
    go_wp2
    all_goals first | omega | skip
    go_ret
    exact ⟨_, rfl, HN.out.1, HN.out.2⟩
theorem named_any (w : World) (s : List UInt8) (h : Dsk.good s) : Calls Tryd.prog 141 #[.string (str s)] w fun e w' => e = .returned (.bool true) ∧ w' = w := by
  have h1 : ((str s).toList == ([] : List UInt8)) = false := by rw [str_toList]; cases s; exact absurd h.1 (by simp); rfl
  have h2 : decide (s.length ≤ 20) = true := decide_eq_true h.2
  have h3 : decide ((s.length : Int) ≤ 20) = true := decide_eq_true (by have := h.2; omega)
  have h4 : (str s).size = s.length := rfl
  clear h
  go_enter Tryd.func141, Tryd.ntmps141
  go_wp2
  go_ret
  exact ⟨rfl, rfl⟩
end Go.Proofs.YtdlpehlgmfhheaaDoor
