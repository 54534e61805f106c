/- A disk whose fuse is off and which is not dead, plainly: what its calls make of it. -/
import Derived.Test.YtgkbgponednfjaaDoorDskOp4
import Derived.Test.YtgkbgponednfjaaDoorDskNm
namespace Go.Proofs.YtgkbgponednfjaaDoor
open Go.RowKit Go.Tap Go.Maps
set_option linter.unusedVariables false

namespace Dsk
structure Calm (d : Dk) (room w : Nat) : Prop where
  room : d.room = room
  dead : d.dead = false
  fuse : d.fuse = -1
  works : d.works ≤ w
  names : ∀ p ∈ d.now, good p.1
theorem calm_new (room : Nat) : Calm (newD room) room 0 := ⟨rfl, rfl, rfl, Nat.le_refl _, fun p hp => by cases hp⟩
theorem Calm.up {d : Dk} {room w w' : Nat} (h : Calm d room w) (hw : w ≤ w') : Calm d room w' := ⟨h.room, h.dead, h.fuse, Nat.le_trans h.works hw, h.names⟩
theorem Calm.one {d : Dk} {room w : Nat} (h : Calm d room w) : d.one = ({ d with works := d.works + 1 }, true) := by
  obtain ⟨r, done, now, pend, fuse, dead, works⟩ := d
  have h1 := h.dead
  have h2 := h.fuse
  simp only at h1 h2
  subst h1 h2
  rfl
theorem Calm.append {d : Dk} {room w : Nat} (h : Calm d room w) (s : Name) (hs : good s) (l : List UInt8) :
    (room < used d.now + l.length → d.append s l = (d, 6)) ∧
    (used d.now + l.length ≤ room → d.append s l = ({ d with pend := d.pend ++ [⟨0, s, [], l, 0⟩], now := Dsk.put d.now s (Dsk.val d.now s ++ l), works := d.works + 1 }, 0) ∧
      Calm { d with pend := d.pend ++ [⟨0, s, [], l, 0⟩], now := Dsk.put d.now s (Dsk.val d.now s ++ l), works := d.works + 1 } room (w + 1)) := by
  have hr := h.room
  refine ⟨fun hu => ?_, fun hu => ⟨?_, ?_⟩⟩
  · unfold Dk.append
    rw [if_neg (by rw [h.dead]; simp), if_pos (by omega)]
  · unfold Dk.append Dk.putr
    rw [if_neg (by rw [h.dead]; simp), if_neg (by omega), h.one, if_pos rfl]
  · refine ⟨h.room, h.dead, h.fuse, by have := h.works; show d.works + 1 ≤ _; omega, fun p hp => ?_⟩
    rcases List.mem_cons.1 hp with rfl | hp
    · exact hs
    · exact h.names p (List.mem_filter.1 hp).1
theorem get_some {fs : Files} {s : Name} (h : s ∈ fs.map (·.1)) : (get fs s).isSome = true := by
  obtain ⟨p, hp, rfl⟩ := List.mem_map.1 h
  unfold get
  rw [Option.isSome_map]
  exact List.find?_isSome.2 ⟨p, hp, by simp⟩
theorem Calm.remove {d : Dk} {room w : Nat} (h : Calm d room w) (s : Name) (hs : s ∈ d.now.map (·.1)) :
    d.remove s = ({ d with pend := d.pend ++ [⟨3, s, [], [], 0⟩], now := Dsk.del d.now s, works := d.works + 1 }, 0) ∧
      Calm { d with pend := d.pend ++ [⟨3, s, [], [], 0⟩], now := Dsk.del d.now s, works := d.works + 1 } room (w + 1) := by
  have ht : d.there s = 0 := by unfold Dk.there; rw [if_neg (by rw [h.dead]; simp), if_pos (get_some hs)]
  refine ⟨?_, h.room, h.dead, h.fuse, by have := h.works; show d.works + 1 ≤ _; omega, fun p hp => h.names p (List.mem_filter.1 hp).1⟩
  unfold Dk.remove Dk.putr
  rw [if_pos ht, h.one, if_pos rfl]
end Dsk
end Go.Proofs.YtgkbgponednfjaaDoor
