/- taprootlaw6's known. -/
import Derived.Test.YtdlpehlgmfhheaaDoorDskCrashW
import Derived.Test.YtdlpehlgmfhheaaDoorConv
import Derived.Lib.SmallJoins
namespace Go.Proofs.YtdlpehlgmfhheaaDoor
open Go.RowKit Go.Tap Go.Maps
set_option linter.unusedVariables false

theorem OpAft.ok {w : World} {lo B : Nat} {d : Dsk.Dk} {e : Ending} {w' : World} (h : OpAft w lo B (d, 0) e w') : e = .returned .nilIface ∧ IsDk w' lo B d ∧ Below lo w w' ∧ KeepT w w' := h
theorem append_yes (w : World) (lo B : Nat) (d d' : Dsk.Dk) (h : IsDk w lo B d) (hw : d.works ≤ 99999) (s : List UInt8) (hs : Dsk.good s) (a : Option Addr) (n c : Nat) (l : List UInt8) (hr : Rds w a n l) (hz : a = none → c = 0) (hn : n ≤ 140737488355328) (hap : d.append s l = (d', 0)) :
    Calls Tryd.prog 136 #[.pointer (some ⟨B, 0, none⟩), .string (str s), .slice a n c] w fun e w' => e = .returned .nilIface ∧ IsDk w' lo B d' ∧ Below lo w w' ∧ KeepT w w' := by
  have := append_any w lo B d h hw s hs a n c l hr hz hn
  rw [hap] at this
  exact this
theorem sync_yes (w : World) (lo B : Nat) (d d' : Dsk.Dk) (h : IsDk w lo B d) (hw : d.works ≤ 99999) (hap : d.sync = (d', 0)) :
    Calls Tryd.prog 137 #[.pointer (some ⟨B, 0, none⟩)] w fun e w' => e = .returned .nilIface ∧ IsDk w' lo B d' ∧ Below lo w w' ∧ KeepT w w' := by
  have := sync_any w lo B d h hw
  rw [hap] at this
  exact this
theorem new100 (w : World) : Calls Tryd.prog 40 #[.int .i64 100] w fun e w' => ∃ B, e = .returned (.pointer (some ⟨B, 0, none⟩)) ∧ IsDk w' w.heap.size B (Dsk.newD 100) ∧ Below w.heap.size w w' := by
  have := new_any w 100 (by omega)
  rw [show ((100 : Nat) : Int) = 100 from rfl] at this
  exact this
theorem new10000 (w : World) : Calls Tryd.prog 40 #[.int .i64 10000] w fun e w' => ∃ B, e = .returned (.pointer (some ⟨B, 0, none⟩)) ∧ IsDk w' w.heap.size B (Dsk.newD 10000) ∧ Below w.heap.size w w' := by
  have := new_any w 10000 (by omega)
  rw [show ((10000 : Nat) : Int) = 10000 from rfl] at this
  exact this
theorem new100000 (w : World) : Calls Tryd.prog 40 #[.int .i64 100000] w fun e w' => ∃ B, e = .returned (.pointer (some ⟨B, 0, none⟩)) ∧ IsDk w' w.heap.size B (Dsk.newD 100000) ∧ Below w.heap.size w w' := by
  have := new_any w 100000 (by omega)
  rw [show ((100000 : Nat) : Int) = 100000 from rfl] at this
  exact this
theorem read_is (w : World) (lo B : Nat) (d : Dsk.Dk) (h : IsDk w lo B d) (hd : d.dead = false) (s : List UInt8) (hs : s.length ≤ 1048576) (l : List UInt8) (b : Bool) (n : Nat) (hl : Dsk.val d.now s = l) (hb : (Dsk.get d.now s).isSome = b) (hn : l.length = n) :
    Calls Tryd.prog 100 #[.pointer (some ⟨B, 0, none⟩), .string (str s)] w fun e w' => ∃ a c, e = .returned (.tuple #[.slice a n c, .bool b]) ∧ w'.ownsRow w.heap.size 5 1 (.slice a n c) n (bv l) ∧ Below w.heap.size w w' := by
  have := read_any w lo B d h hd s hs
  unfold ReadAft at this
  rw [hl, hb, hn] at this
  exact this
def kd1 : Dsk.Dk := ⟨100, [], [([102], [97, 98, 99])], [⟨0, [102], [], [97, 98, 99], 0⟩], -1, false, 1⟩
def kd2 : Dsk.Dk := ⟨100, [([102], [97, 98])], [([102], [97, 98])], [], -1, false, 1⟩
theorem kd1_is : (Dsk.newD 100).append [102] [97, 98, 99] = (kd1, 0) := by rfl
theorem kd2_is : kd1.crash 0 2 = kd2 := by rfl
theorem goodf : Dsk.good [102] := ⟨by decide, by decide⟩
end Go.Proofs.YtdlpehlgmfhheaaDoor
