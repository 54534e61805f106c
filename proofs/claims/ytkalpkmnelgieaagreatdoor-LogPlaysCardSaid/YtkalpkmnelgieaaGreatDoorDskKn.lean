/- taprootlaw6's known. -/
import Derived.Test.YtkalpkmnelgieaaGreatDoorDskCrashW
import Derived.Test.YtkalpkmnelgieaaGreatDoorAid
import Derived.Lib.SmallJoins
import Derived.Test.YtkalpkmnelgieaaGreatDoorDskOp3
namespace Go.Proofs.YtkalpkmnelgieaaGreatDoor
open Go.RowKit Go.Tap Go.Maps
set_option linter.unusedVariables false

theorem OpAft.ok {w : World} {lo B : Nat} {d : Dsk.Dk} {e : Ending} {w' : World} (h : OpAft w lo B (d, 0) e w') : e = .returned .nilIface ∧ IsDk w' lo B d ∧ Below lo w w' ∧ KeepT w w' := h
theorem append_yes (w : World) (lo B : Nat) (d d' : Dsk.Dk) (h : IsDk w lo B d) (hw : d.works ≤ 99999) (s : List UInt8) (hs : Dsk.good s) (a : Option Addr) (n c : Nat) (l : List UInt8) (hr : Rds w a n l) (hz : a = none → c = 0) (hn : n ≤ 140737488355328) (hap : d.append s l = (d', 0)) :
    Calls Tryz.prog 50 #[.pointer (some ⟨B, 0, none⟩), .string (str s), .slice a n c] w fun e w' => e = .returned .nilIface ∧ IsDk w' lo B d' ∧ Below lo w w' ∧ KeepT w w' := by
  have := append_any w lo B d h hw s hs a n c l hr hz hn
  rw [hap] at this
  exact this
theorem new100 (w : World) : Calls Tryz.prog 7 #[.int .i64 100] w fun e w' => ∃ B, e = .returned (.pointer (some ⟨B, 0, none⟩)) ∧ IsDk w' w.heap.size B (Dsk.newD 100) ∧ Below w.heap.size w w' := by
  have := new_any w 100 (by omega)
  rw [show ((100 : Nat) : Int) = 100 from rfl] at this
  exact this
theorem new10000 (w : World) : Calls Tryz.prog 7 #[.int .i64 10000] w fun e w' => ∃ B, e = .returned (.pointer (some ⟨B, 0, none⟩)) ∧ IsDk w' w.heap.size B (Dsk.newD 10000) ∧ Below w.heap.size w w' := by
  have := new_any w 10000 (by omega)
  rw [show ((10000 : Nat) : Int) = 10000 from rfl] at this
  exact this
theorem new100000 (w : World) : Calls Tryz.prog 7 #[.int .i64 100000] w fun e w' => ∃ B, e = .returned (.pointer (some ⟨B, 0, none⟩)) ∧ IsDk w' w.heap.size B (Dsk.newD 100000) ∧ Below w.heap.size w w' := by
  have := new_any w 100000 (by omega)
  rw [show ((100000 : Nat) : Int) = 100000 from rfl] at this
  exact this
theorem read_is (w : World) (lo B : Nat) (d : Dsk.Dk) (h : IsDk w lo B d) (hd : d.dead = false) (s : List UInt8) (hs : s.length ≤ 1048576) (l : List UInt8) (b : Bool) (n : Nat) (hl : Dsk.val d.now s = l) (hb : (Dsk.get d.now s).isSome = b) (hn : l.length = n) :
    Calls Tryz.prog 35 #[.pointer (some ⟨B, 0, none⟩), .string (str s)] w fun e w' => ∃ a c, e = .returned (.tuple #[.slice a n c, .bool b]) ∧ w'.ownsRow w.heap.size 5 1 (.slice a n c) n (bv l) ∧ Below w.heap.size w w' := by
  have := read_any w lo B d h hd s hs
  unfold ReadAft at this
  rw [hl, hb, hn] at this
  exact this
def kd1 : Dsk.Dk := ⟨100, [], [([102], [97, 98, 99])], [⟨0, [102], [], [97, 98, 99], 0⟩], -1, false, 1⟩
def kd2 : Dsk.Dk := ⟨100, [([102], [97, 98])], [([102], [97, 98])], [], -1, false, 1⟩
theorem kd1_is : (Dsk.newD 100).append [102] [97, 98, 99] = (kd1, 0) := by rfl
theorem kd2_is : kd1.crash 0 2 = kd2 := by rfl
theorem goodf : Dsk.good [102] := ⟨by decide, by decide⟩
end Go.Proofs.YtkalpkmnelgieaaGreatDoor
/- Fuse, Dead; an Append with no name; calls that are refused: said so that a chain of them can be walked. -/
namespace Go.Proofs.YtkalpkmnelgieaaGreatDoor
open Go.RowKit Go.Tap Go.Maps
set_option linter.unusedVariables false

theorem OpAft.no {w : World} {lo B k : Nat} {d : Dsk.Dk} {e : Ending} {w' : World} (h : OpAft w lo B (d, k) e w') (hk : k ≠ 0) : e = .returned (.iface 35 (.int .i64 (k : Int))) ∧ IsDk w' lo B d ∧ Below lo w w' ∧ KeepT w w' := by
  have h1 := h.1
  refine ⟨?_, h.2⟩
  rw [h1]
  show Ending.returned (errv k) = _
  rw [errv, if_neg hk]
theorem append_is (w : World) (lo B : Nat) (d d' : Dsk.Dk) (k : Nat) (h : IsDk w lo B d) (hw : d.works ≤ 99999) (s : List UInt8) (hs : Dsk.good s) (a : Option Addr) (n c : Nat) (l : List UInt8) (hr : Rds w a n l) (hz : a = none → c = 0) (hn : n ≤ 140737488355328) (hap : d.append s l = (d', k)) :
    Calls Tryz.prog 50 #[.pointer (some ⟨B, 0, none⟩), .string (str s), .slice a n c] w (OpAft w lo B (d', k)) := by
  have := append_any w lo B d h hw s hs a n c l hr hz hn
  rwa [hap] at this
theorem trunc_is (w : World) (lo B : Nat) (d d' : Dsk.Dk) (k : Nat) (h : IsDk w lo B d) (hw : d.works ≤ 99999) (s : List UInt8) (hs : Dsk.good s) (n : Int) (hap : d.trunc s n = (d', k)) :
    Calls Tryz.prog 38 #[.pointer (some ⟨B, 0, none⟩), .string (str s), .int .i64 n] w (OpAft w lo B (d', k)) := by
  have := trunc_any w lo B d h hw s hs n
  rwa [hap] at this
theorem crash_is (w : World) (lo B : Nat) (d d' : Dsk.Dk) (h : IsDk w lo B d) (done part : Int) (hap : d.crash done part = d') :
    Calls Tryz.prog 18 #[.pointer (some ⟨B, 0, none⟩), .int .i64 done, .int .i64 part] w fun e w' => e = .returned (.tuple #[]) ∧ IsDk w' lo B d' ∧ Below lo w w' ∧ KeepT w w' := by
  have := crash_any w lo B d h done part
  rwa [hap] at this
set_option maxHeartbeats 1000000 in
set_option maxRecDepth 100000 in
theorem append_unnamed (w : World) (p : Value) (v : Value) : Calls Tryz.prog 50 #[p, .string ⟨#[]⟩, v] w fun e w' => e = .returned (.iface 35 (.int .i64 1)) ∧ w' = w := by
  go_enter Tryz.func50, Tryz.ntmps50
  go_wp2
  go_ret
  exact ⟨rfl, rfl⟩
theorem dead_any (w : World) (lo B : Nat) (d : Dsk.Dk) (h : IsDk w lo B d) : Calls Tryz.prog 17 #[.pointer (some ⟨B, 0, none⟩)] w fun e w' => e = .returned (.bool d.dead) ∧ w' = w := by
  obtain ⟨bd, bn, pv, h1, hok⟩ := h
  have c5 : w.cell? ⟨B, 5, none⟩ = some (.bool d.dead) := blk_cell (i := 5) h1.blk rfl
  clear h1 hok
  go_enter Tryz.func17, Tryz.ntmps17
  go_wp2
  go_ret
  exact ⟨rfl, rfl⟩
set_option maxHeartbeats 1000000 in
set_option maxRecDepth 100000 in
theorem fuse_any (w : World) (lo B : Nat) (d : Dsk.Dk) (h : IsDk w lo B d) (n : Int) (hn : n ≤ 9223372036854775807) :
    Calls Tryz.prog 20 #[.pointer (some ⟨B, 0, none⟩), .int .i64 n] w fun e w' => e = .returned (.tuple #[]) ∧ IsDk w' lo B { d with fuse := if n < -1 then -1 else n } ∧ Below lo w w' ∧ KeepT w w' := by
  obtain ⟨bd, bn, pv, h1, hok⟩ := h
  obtain ⟨m, hm⟩ : ∃ m : Int, m = if n < -1 then -1 else n := ⟨_, rfl⟩
  have hmb : -1 ≤ m ∧ m ≤ 9223372036854775807 := by rw [hm]; split <;> omega
  rw [← hm]
  have hm1 : max n (-1) = m := by rw [hm]; split <;> omega
  have hmc : (-1 ≤ n ∧ n = m) ∨ (n < -1 ∧ m = -1) := by rw [hm]; split <;> omega
  have c4 : w.cell? ⟨B, 4, none⟩ = some (.int .i64 d.fuse) := blk_cell (i := 4) h1.blk rfl
  have f4 := blk_free h1.blk 4
  have hset := Lib.hid (h1.set (d' := { d with fuse := m }) 4 (.int .i64 m) rfl rfl rfl rfl)
  have hfr := Lib.hid (h1.frames ((TStay.refl (Mine B bd bn pv) w).setCell (p := ⟨B, 4, none⟩) (.inl (show Mine B bd bn pv B from .inl rfl)) (.int .i64 m)))
  have hok' : Dsk.Ok { d with fuse := m } := ⟨hok.run, hok.room, hok.small, hok.small', hok.len, hok.pl, hok.names, hok.works, hmb⟩
  have HOK := Lib.hid hok'
  clear h1 hok hok' hm hmb hm1
  rcases hmc with ⟨hge, rfl⟩ | ⟨hlt, rfl⟩
  · have q0 : max n (-1) = n := by omega
    have q1 : ¬ n < -1 := by omega
    go_enter Tryz.func20, Tryz.ntmps20
    go_wp2
    all_goals (first | omega | (go_end0; exact ⟨rfl, ⟨bd, bn, pv, hset.out, HOK.out⟩, hfr.out.1, hfr.out.2⟩))
  · have q0 : max n (-1) = -1 := by omega
    have q1 : ¬ -1 ≤ n := by omega
    go_enter Tryz.func20, Tryz.ntmps20
    go_wp2
    all_goals (first | omega | (go_end0; exact ⟨rfl, ⟨bd, bn, pv, hset.out, HOK.out⟩, hfr.out.1, hfr.out.2⟩))
end Go.Proofs.YtkalpkmnelgieaaGreatDoor
