/- DiskRenames: what it comes to. -/
import Derived.Test.YtkalpkmnelgieaaGreatDoorDskKn
import Derived.Test.YtkalpkmnelgieaaGreatDoorDskOp3
import Derived.Test.YtkalpkmnelgieaaGreatDoorOpen
namespace Go.Proofs.YtkalpkmnelgieaaGreatDoor
open Go.RowKit Go.Tap Go.Maps
set_option linter.unusedVariables false

namespace Dsk
theorem one_eq {d : Dk} (h1 : d.dead = false) (h2 : d.fuse = -1) : d.one = ({ d with works := d.works + 1 }, true) := by
  obtain ⟨room, done, now, pend, fuse, dead, works⟩ := d
  simp only at h1 h2
  subst h1 h2
  rfl
theorem append_eq {d : Dk} (h1 : d.dead = false) (h2 : d.fuse = -1) (s : Name) (l : List UInt8) (h3 : used d.now + l.length ≤ d.room) :
    d.append s l = ({ d with pend := d.pend ++ [⟨0, s, [], l, 0⟩], now := Dsk.put d.now s (Dsk.val d.now s ++ l), works := d.works + 1 }, 0) := by
  unfold Dk.append Dk.putr
  rw [if_neg (by rw [h1]; simp), if_neg (by omega), one_eq h1 h2, if_pos rfl]
theorem sync_eq {d : Dk} (h1 : d.dead = false) (h2 : d.fuse = -1) : d.sync = ({ d with done := d.now, pend := [], works := d.works + 1 }, 0) := by
  unfold Dk.sync
  rw [one_eq h1 h2, if_pos rfl]
theorem rename_eq {d : Dk} (h1 : d.dead = false) (h2 : d.fuse = -1) (s t : Name) (h3 : (get d.now s).isSome = true) :
    d.rename s t = ({ d with pend := d.pend ++ [⟨2, s, t, [], 0⟩], now := Dsk.put (Dsk.del d.now s) t (Dsk.val d.now s), works := d.works + 1 }, 0) := by
  have ht : d.there s = 0 := by unfold Dk.there; rw [if_neg (by rw [h1]; simp), if_pos h3]
  unfold Dk.rename Dk.putr
  rw [if_pos ht, one_eq h1 h2, if_pos rfl]
def r1 (A : List UInt8) : Dk := ⟨10000, [], [([102], A)], [⟨0, [102], [], A, 0⟩], -1, false, 1⟩
def r2 (A : List UInt8) : Dk := ⟨10000, [([102], A)], [([102], A)], [], -1, false, 2⟩
def r3 (A C : List UInt8) : Dk := ⟨10000, [([102], A)], [([103], C), ([102], A)], [⟨0, [103], [], C, 0⟩], -1, false, 3⟩
def r4 (A C : List UInt8) : Dk := ⟨10000, [([103], C), ([102], A)], [([103], C), ([102], A)], [], -1, false, 4⟩
def r5 (A C : List UInt8) : Dk := ⟨10000, [([103], C), ([102], A)], [([102], C)], [⟨2, [103], [102], [], 0⟩], -1, false, 5⟩
def r6 (A C : List UInt8) (done : Int) : Dk := if done % 2 = 0 then ⟨10000, [([103], C), ([102], A)], [([103], C), ([102], A)], [], -1, false, 5⟩ else ⟨10000, [([102], C)], [([102], C)], [], -1, false, 5⟩
theorem r1_is (A : List UInt8) (h : A.length ≤ 1000) : (newD 10000).append [102] A = (r1 A, 0) := (append_eq rfl rfl [102] A (by show 0 + A.length ≤ 10000; omega)).trans rfl
theorem r2_is (A : List UInt8) : (r1 A).sync = (r2 A, 0) := (sync_eq rfl rfl).trans rfl
theorem r3_is (A C : List UInt8) (h : A.length ≤ 1000) (h2 : C.length ≤ 1000) : (r2 A).append [103] C = (r3 A C, 0) := (append_eq rfl rfl [103] C (by show (A.length + 0) + C.length ≤ 10000; omega)).trans rfl
theorem r4_is (A C : List UInt8) : (r3 A C).sync = (r4 A C, 0) := (sync_eq rfl rfl).trans rfl
theorem r5_is (A C : List UInt8) : (r4 A C).rename [103] [102] = (r5 A C, 0) := (rename_eq rfl rfl [103] [102] rfl).trans rfl
theorem r6_is (A C : List UInt8) (done cut : Int) : (r5 A C).crash done cut = r6 A C done := by
  have h : done % 2 = 0 ∨ done % 2 = 1 := by omega
  unfold r6
  unfold Dk.crash
  have e : (((r5 A C).pend.length : Nat) : Int) + 1 = 2 := rfl
  rw [e]
  rcases h with h | h
  · rw [h]; rfl
  · rw [h]; rfl
end Dsk
theorem goodg : Dsk.good [103] := ⟨by decide, by decide⟩
theorem str_eq (a : List UInt8) : ((str a).toList == (str a).toList) = true := by simp
end Go.Proofs.YtkalpkmnelgieaaGreatDoor
