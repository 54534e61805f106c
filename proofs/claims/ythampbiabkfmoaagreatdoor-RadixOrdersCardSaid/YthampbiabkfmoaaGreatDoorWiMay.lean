/- wire's values built; mayItem, mayEntry: what they answer. -/
import Derived.Test.YthampbiabkfmoaaGreatDoorWiVal
namespace Go
namespace Tap
open Go.RowKit
section
variable {P : Program}
theorem built_struct {t : TypeId} {z : Value} {places : List (Nat × Nat)} (hi : (P.info? t).map (·.zero) = some (some z)) (hu : P.underlying t = some (.struct (P.fieldsOf t))) (hp : (P.fieldsOf t).toList.mapM (fun f => (P.info? f.type).map fun i => (f.offset, i.size)) = some places) (parts : List (Nat × Value)) :
    P.built t parts = Instr.fill (places.toArray[·]?) z.cells parts := by
  unfold Program.built
  cases hq : P.info? t with
  | none => simp [hq] at hi
  | some it =>
    have hz : it.zero = some z := by simpa [hq] using hi
    simp only [hu, hz, hp]
end
end Tap
end Go
namespace Go.Proofs.YthampbiabkfmoaaGreatDoor
open Go.RowKit Go.Tap
set_option linter.unusedVariables false
set_option linter.unusedSimpArgs false
theorem z32_len : Wi.z32.length = 32 := rfl
theorem sp_arr {L M : List Value} {C : Array Value} (h : splice L 0 M = C.toList) : (splice L 0 M).toArray = C := by rw [h]
theorem sp_item_path (i : Wi.It) (h : List UInt8) (s : Int) (hi : i.high.length = 32) (hl : h.length = 32) : (splice (itC i).toList 0 (pathC h s).toList).toArray = itC ⟨h, s, i.text⟩ := by
  apply Array.ext'
  unfold splice
  rw [show (0 + (pathC h s).toList.length) = 33 by simp [pathC, bv_length, hl]]
  show (bv h ++ [Value.int .i64 s]) ++ List.drop 33 (bv i.high ++ [Value.int .i64 i.steps, Value.string (str i.text)]) = _
  rw [show bv i.high ++ [Value.int .i64 i.steps, Value.string (str i.text)] = (bv i.high ++ [Value.int .i64 i.steps]) ++ [Value.string (str i.text)] by simp, List.drop_left' (by simp [bv_length, hi])]
  simp [itC]
theorem sp_item_text (i : Wi.It) (t : List UInt8) (hi : i.high.length = 32) : (splice (itC i).toList 33 [Value.string (str t)]).toArray = itC ⟨i.high, i.steps, t⟩ := by
  apply Array.ext'
  have hb : (bv i.high ++ [Value.int .i64 i.steps]).length = 33 := by simp [bv_length, hi]
  simp only [splice, itC, List.length_cons, List.length_nil]
  rw [show bv i.high ++ [Value.int .i64 i.steps, Value.string (str i.text)] = (bv i.high ++ [Value.int .i64 i.steps]) ++ [Value.string (str i.text)] by simp, List.take_left' hb, List.drop_of_length_le (by simp [bv_length, hi])]
  simp [itC]
theorem part_of {w : World} {g : Nat} {C D : Array Value} {t : TypeId} {fr : Nat × Nat} (h : w.heap[g]? = some (.cells C t fr)) {o n : Nat} (he : C.extract o (o + n) = D) : Part w g o D := fun j v hv => by
  rw [cell_of_row w g (o + j) C t fr h]
  rw [← he, Array.getElem?_extract] at hv
  split at hv
  · exact hv
  · cases hv
end Go.Proofs.YthampbiabkfmoaaGreatDoor
