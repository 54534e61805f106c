/- taprootlaw6's known. -/
import Derived.Test.YthampbiabkfmoaaGreatDoorDskCrash
import Derived.Test.YthampbiabkfmoaaGreatDoorAid
import Derived.Lib.SmallJoins
import Derived.Test.YthampbiabkfmoaaGreatDoorDskOp3
import Derived.Test.YthampbiabkfmoaaGreatDoorOpen
namespace Go.Proofs.YthampbiabkfmoaaGreatDoor
open Go.RowKit Go.Tap Go.Maps
set_option linter.unusedVariables false

theorem OpAft.ok {w : World} {lo B : Nat} {d : Dsk.Dk} {e : Ending} {w' : World} (h : OpAft w lo B (d, 0) e w') : e = .returned .nilIface ∧ IsDk w' lo B d ∧ Below lo w w' ∧ KeepT w w' := h
theorem append_yes (w : World) (lo B : Nat) (d d' : Dsk.Dk) (h : IsDk w lo B d) (hw : d.works ≤ 99999) (s : List UInt8) (hs : Dsk.good s) (a : Option Addr) (n c : Nat) (l : List UInt8) (hr : Rds w a n l) (hz : a = none → c = 0) (hn : n ≤ 140737488355328) (hap : d.append s l = (d', 0)) :
    Calls Tryz.prog 69 #[.pointer (some ⟨B, 0, none⟩), .string (str s), .slice a n c] w fun e w' => e = .returned .nilIface ∧ IsDk w' lo B d' ∧ Below lo w w' ∧ KeepT w w' := by
  have := append_any w lo B d h hw s hs a n c l hr hz hn
  rw [hap] at this
  exact this
theorem new100 (w : World) : Calls Tryz.prog 6 #[.int .i64 100] w fun e w' => ∃ B, e = .returned (.pointer (some ⟨B, 0, none⟩)) ∧ IsDk w' w.heap.size B (Dsk.newD 100) ∧ Below w.heap.size w w' := by
  have := new_any w 100 (by omega)
  rw [show ((100 : Nat) : Int) = 100 from rfl] at this
  exact this
theorem new10000 (w : World) : Calls Tryz.prog 6 #[.int .i64 10000] w fun e w' => ∃ B, e = .returned (.pointer (some ⟨B, 0, none⟩)) ∧ IsDk w' w.heap.size B (Dsk.newD 10000) ∧ Below w.heap.size w w' := by
  have := new_any w 10000 (by omega)
  rw [show ((10000 : Nat) : Int) = 10000 from rfl] at this
  exact this
theorem new100000 (w : World) : Calls Tryz.prog 6 #[.int .i64 100000] w fun e w' => ∃ B, e = .returned (.pointer (some ⟨B, 0, none⟩)) ∧ IsDk w' w.heap.size B (Dsk.newD 100000) ∧ Below w.heap.size w w' := by
  have := new_any w 100000 (by omega)
  rw [show ((100000 : Nat) : Int) = 100000 from rfl] at this
  exact this
theorem read_is (w : World) (lo B : Nat) (d : Dsk.Dk) (h : IsDk w lo B d) (hd : d.dead = false) (s : List UInt8) (hs : s.length ≤ 1048576) (l : List UInt8) (b : Bool) (n : Nat) (hl : Dsk.val d.now s = l) (hb : (Dsk.get d.now s).isSome = b) (hn : l.length = n) :
    Calls Tryz.prog 17 #[.pointer (some ⟨B, 0, none⟩), .string (str s)] w fun e w' => ∃ a c, e = .returned (.tuple #[.slice a n c, .bool b]) ∧ w'.ownsRow w.heap.size 5 1 (.slice a n c) n (bv l) ∧ Below w.heap.size w w' := by
  have := read_any w lo B d h hd s hs
  unfold ReadAft at this
  rw [hl, hb, hn] at this
  exact this
def kd1 : Dsk.Dk := ⟨100, [], [([102], [97, 98, 99])], [⟨0, [102], [], [97, 98, 99], 0⟩], -1, false, 1⟩
def kd2 : Dsk.Dk := ⟨100, [([102], [97, 98])], [([102], [97, 98])], [], -1, false, 1⟩
theorem kd1_is : (Dsk.newD 100).append [102] [97, 98, 99] = (kd1, 0) := by rfl
theorem kd2_is : kd1.crash 0 2 = kd2 := by rfl
theorem goodf : Dsk.good [102] := ⟨by decide, by decide⟩
end Go.Proofs.YthampbiabkfmoaaGreatDoor
/- Fuse, Dead; an Append with no name; calls that are refused: said so that a chain of them can be walked. -/
namespace Go.Proofs.YthampbiabkfmoaaGreatDoor
open Go.RowKit Go.Tap Go.Maps
set_option linter.unusedVariables false

theorem OpAft.no {w : World} {lo B k : Nat} {d : Dsk.Dk} {e : Ending} {w' : World} (h : OpAft w lo B (d, k) e w') (hk : k ≠ 0) : e = .returned (.iface 65 (.int .i64 (k : Int))) ∧ IsDk w' lo B d ∧ Below lo w w' ∧ KeepT w w' := by
  have h1 := h.1
  refine ⟨?_, h.2⟩
  rw [h1]
  show Ending.returned (errv k) = _
  rw [errv, if_neg hk]
theorem append_is (w : World) (lo B : Nat) (d d' : Dsk.Dk) (k : Nat) (h : IsDk w lo B d) (hw : d.works ≤ 99999) (s : List UInt8) (hs : Dsk.good s) (a : Option Addr) (n c : Nat) (l : List UInt8) (hr : Rds w a n l) (hz : a = none → c = 0) (hn : n ≤ 140737488355328) (hap : d.append s l = (d', k)) :
    Calls Tryz.prog 69 #[.pointer (some ⟨B, 0, none⟩), .string (str s), .slice a n c] w (OpAft w lo B (d', k)) := by
  have := append_any w lo B d h hw s hs a n c l hr hz hn
  rwa [hap] at this
theorem trunc_is (w : World) (lo B : Nat) (d d' : Dsk.Dk) (k : Nat) (h : IsDk w lo B d) (hw : d.works ≤ 99999) (s : List UInt8) (hs : Dsk.good s) (n : Int) (hap : d.trunc s n = (d', k)) :
    Calls Tryz.prog 20 #[.pointer (some ⟨B, 0, none⟩), .string (str s), .int .i64 n] w (OpAft w lo B (d', k)) := by
  have := trunc_any w lo B d h hw s hs n
  rwa [hap] at this
set_option maxHeartbeats 1000000 in
set_option maxRecDepth 100000 in
theorem append_unnamed (w : World) (p : Value) (v : Value) : Calls Tryz.prog 69 #[p, .string ⟨#[]⟩, v] w fun e w' => e = .returned (.iface 65 (.int .i64 1)) ∧ w' = w := by
  go_enter Tryz.func69, Tryz.ntmps69
  go_wp2
  go_ret
  exact ⟨rfl, rfl⟩
end Go.Proofs.YthampbiabkfmoaaGreatDoor
/- DiskRenames: what it comes to. -/
namespace Go.Proofs.YthampbiabkfmoaaGreatDoor
open Go.RowKit Go.Tap Go.Maps
set_option linter.unusedVariables false

namespace Dsk
theorem one_eq {d : Dk} (h1 : d.dead = false) (h2 : d.fuse = -1) : d.one = ({ d with works := d.works + 1 }, true) := by
  obtain ⟨room, done, now, pend, fuse, dead, works⟩ := d
  simp only at h1 h2
  subst h1 h2
  rfl
theorem append_eq {d : Dk} (h1 : d.dead = false) (h2 : d.fuse = -1) (s : Name) (l : List UInt8) (h3 : used d.now + l.length ≤ d.room) :
    d.append s l = ({ d with pend := d.pend ++ [⟨0, s, [], l, 0⟩], now := Dsk.put d.now s (Dsk.val d.now s ++ l), works := d.works + 1 }, 0) := by
  unfold Dk.append Dk.putr
  rw [if_neg (by rw [h1]; simp), if_neg (by omega), one_eq h1 h2, if_pos rfl]
theorem sync_eq {d : Dk} (h1 : d.dead = false) (h2 : d.fuse = -1) : d.sync = ({ d with done := d.now, pend := [], works := d.works + 1 }, 0) := by
  unfold Dk.sync
  rw [one_eq h1 h2, if_pos rfl]
theorem rename_eq {d : Dk} (h1 : d.dead = false) (h2 : d.fuse = -1) (s t : Name) (h3 : (get d.now s).isSome = true) :
    d.rename s t = ({ d with pend := d.pend ++ [⟨2, s, t, [], 0⟩], now := Dsk.put (Dsk.del d.now s) t (Dsk.val d.now s), works := d.works + 1 }, 0) := by
  have ht : d.there s = 0 := by unfold Dk.there; rw [if_neg (by rw [h1]; simp), if_pos h3]
  unfold Dk.rename Dk.putr
  rw [if_pos ht, one_eq h1 h2, if_pos rfl]
def r1 (A : List UInt8) : Dk := ⟨10000, [], [([102], A)], [⟨0, [102], [], A, 0⟩], -1, false, 1⟩
def r2 (A : List UInt8) : Dk := ⟨10000, [([102], A)], [([102], A)], [], -1, false, 2⟩
def r3 (A C : List UInt8) : Dk := ⟨10000, [([102], A)], [([103], C), ([102], A)], [⟨0, [103], [], C, 0⟩], -1, false, 3⟩
def r4 (A C : List UInt8) : Dk := ⟨10000, [([103], C), ([102], A)], [([103], C), ([102], A)], [], -1, false, 4⟩
def r5 (A C : List UInt8) : Dk := ⟨10000, [([103], C), ([102], A)], [([102], C)], [⟨2, [103], [102], [], 0⟩], -1, false, 5⟩
def r6 (A C : List UInt8) (done : Int) : Dk := if done % 2 = 0 then ⟨10000, [([103], C), ([102], A)], [([103], C), ([102], A)], [], -1, false, 5⟩ else ⟨10000, [([102], C)], [([102], C)], [], -1, false, 5⟩
theorem r1_is (A : List UInt8) (h : A.length ≤ 1000) : (newD 10000).append [102] A = (r1 A, 0) := (append_eq rfl rfl [102] A (by show 0 + A.length ≤ 10000; omega)).trans rfl
theorem r2_is (A : List UInt8) : (r1 A).sync = (r2 A, 0) := (sync_eq rfl rfl).trans rfl
theorem r3_is (A C : List UInt8) (h : A.length ≤ 1000) (h2 : C.length ≤ 1000) : (r2 A).append [103] C = (r3 A C, 0) := (append_eq rfl rfl [103] C (by show (A.length + 0) + C.length ≤ 10000; omega)).trans rfl
theorem r4_is (A C : List UInt8) : (r3 A C).sync = (r4 A C, 0) := (sync_eq rfl rfl).trans rfl
theorem r5_is (A C : List UInt8) : (r4 A C).rename [103] [102] = (r5 A C, 0) := (rename_eq rfl rfl [103] [102] rfl).trans rfl
theorem r6_is (A C : List UInt8) (done cut : Int) : (r5 A C).crash done cut = r6 A C done := by
  have h : done % 2 = 0 ∨ done % 2 = 1 := by omega
  unfold r6
  unfold Dk.crash
  have e : (((r5 A C).pend.length : Nat) : Int) + 1 = 2 := rfl
  rw [e]
  rcases h with h | h
  · rw [h]; rfl
  · rw [h]; rfl
end Dsk
theorem goodg : Dsk.good [103] := ⟨by decide, by decide⟩
theorem str_eq (a : List UInt8) : ((str a).toList == (str a).toList) = true := by simp
end Go.Proofs.YthampbiabkfmoaaGreatDoor
/- DiskOrder, said plainly: appends to one file, and what a crash leaves of them. -/
namespace Go.Proofs.YthampbiabkfmoaaGreatDoor
open Go.RowKit Go.Tap Go.Maps
set_option linter.unusedVariables false
namespace Dsk
def FF (s : Name) (c : List UInt8) : Files := if c = [] then [] else [(s, c)]
theorem val_FF (s : Name) (c : List UInt8) : val (FF s c) s = c := by
  unfold FF; split
  · rename_i h; subst h; rfl
  · simp [val, get]
theorem put_FF (s : Name) (c b : List UInt8) : Dsk.put (FF s c) s b = [(s, b)] := by
  unfold FF; split
  · rfl
  · simp [Dsk.put, Dsk.del]
theorem used_FF (s : Name) (c : List UInt8) : used (FF s c) = c.length := by
  unfold FF; split
  · rename_i h; subst h; rfl
  · simp [used]
theorem put_FF' (s : Name) (c b : List UInt8) (hb : b ≠ []) : Dsk.put (FF s c) s (Dsk.val (FF s c) s ++ b) = FF s (c ++ b) := by
  rw [put_FF, val_FF]; unfold FF; rw [if_neg (by simp [hb])]
def pends (s : Name) (L : List (List UInt8)) : List Wk := L.map fun b => ⟨0, s, [], b, 0⟩
/-- A disk with one file, to which these have been appended and pend. -/
def od (room works : Nat) (s : Name) (c0 : List UInt8) (L : List (List UInt8)) : Dk := ⟨room, FF s c0, FF s (c0 ++ L.flatten), pends s L, -1, false, works + L.length⟩
theorem od_append (room works : Nat) (s : Name) (c0 : List UInt8) (L : List (List UInt8)) (b : List UInt8) (hb : b ≠ []) (h : c0.length + L.flatten.length + b.length ≤ room) : (od room works s c0 L).append s b = (od room works s c0 (L ++ [b]), 0) := by
  rw [append_eq rfl rfl s b (by show used (FF s _) + _ ≤ room; rw [used_FF, List.length_append]; omega)]
  show (({ room := room, done := FF s c0, now := _, pend := pends s L ++ [_], fuse := -1, dead := false, works := works + L.length + 1 } : Dk), 0) = _
  unfold od
  show (({ room := room, done := FF s c0, now := Dsk.put (FF s (c0 ++ L.flatten)) s (Dsk.val (FF s (c0 ++ L.flatten)) s ++ b), pend := pends s L ++ [⟨0, s, [], b, 0⟩], fuse := -1, dead := false, works := works + L.length + 1 } : Dk), 0) = _
  rw [put_FF' s _ b hb]
  simp [pends, Nat.add_assoc]
def cont (c0 : List UInt8) (L : List (List UInt8)) (k p j : Nat) : List UInt8 := if j ≤ k then c0 ++ (L.take j).flatten else c0 ++ (L.take k).flatten ++ (L.getD k []).take p
theorem flat_succ {L : List (List UInt8)} {j : Nat} {b : List UInt8} (h : L[j]? = some b) : (L.take (j + 1)).flatten = (L.take j).flatten ++ b := by
  rw [List.take_add_one, h]; simp
theorem cr_FF (s : Name) (c0 : List UInt8) (L : List (List UInt8)) (hne : ∀ b ∈ L, b ≠ []) (k : Nat) (part : Int) : ∀ j, j ≤ L.length →
    cr k part (FF s c0) (pends s L) j = FF s (cont c0 L k (part % (((L.getD k []).length : Int) + 1)).toNat j)
  | 0, _ => by simp [cr, cont]
  | j + 1, hj => by
    have ih := cr_FF s c0 L hne k part j (by omega)
    have hb : L[j]? = some (L[j]'(by omega)) := List.getElem?_eq_getElem _
    have hbne : (L[j]'(by omega)) ≠ [] := hne _ (List.getElem_mem _)
    generalize (L[j]'(by omega)) = b at hb hbne
    have hx : (pends s L)[j]? = some ⟨0, s, [], b, 0⟩ := by unfold pends; rw [List.getElem?_map, hb]; rfl
    rw [cr_succ hx, ih, stp]
    by_cases h1 : j < k
    · rw [if_pos h1]
      show (some (Dsk.put _ s (Dsk.val _ s ++ b))).getD _ = _
      rw [Option.getD_some, put_FF' s _ b hbne]
      unfold cont
      rw [if_pos (by omega), if_pos (by omega), flat_succ hb, List.append_assoc]
    · rw [if_neg h1]
      by_cases h2 : j = k
      · subst h2
        have hg : L.getD j [] = b := by rw [List.getD_eq_getElem?_getD, hb]; rfl
        have hpl : pl part (⟨0, s, [], b, 0⟩ : Wk) = (part % (((L.getD j []).length : Int) + 1)).toNat := by unfold pl; rw [hg]
        rw [hpl]
        generalize (part % (((L.getD j []).length : Int) + 1)).toNat = p
        by_cases h3 : 0 < p
        · rw [if_pos ⟨rfl, rfl, h3⟩]
          show Dsk.put _ s (Dsk.val _ s ++ b.take p) = _
          rw [put_FF' s _ _ (by intro e; have := congrArg List.length e; rw [List.length_take] at this; cases b with | nil => exact hbne rfl | cons y r => simp at this; omega)]
          unfold cont
          rw [if_pos (Nat.le_refl _), if_neg (by omega), hg]
        · rw [if_neg (fun h => h3 h.2.2)]
          unfold cont
          rw [if_pos (Nat.le_refl _), if_neg (by omega), show p = 0 by omega]
          simp
      · rw [if_neg (fun h => h2 h.1)]
        unfold cont
        rw [if_neg (by omega), if_neg (by omega)]
def after (c0 : List UInt8) (L : List (List UInt8)) (k : Nat) (part : Int) : List UInt8 := cont c0 L k (part % (((L.getD k []).length : Int) + 1)).toNat L.length
theorem od_crash (room works : Nat) (s : Name) (c0 : List UInt8) (L : List (List UInt8)) (hne : ∀ b ∈ L, b ≠ []) (done part : Int) :
    (od room works s c0 L).crash done part = ⟨room, FF s (after c0 L (done % ((L.length : Int) + 1)).toNat part), FF s (after c0 L (done % ((L.length : Int) + 1)).toNat part), [], -1, false, works + L.length⟩ := by
  unfold Dk.crash
  have e : (od room works s c0 L).pend.length = L.length := by show (pends s L).length = _; simp [pends]
  rw [e]
  show (({ room := room, done := cr _ part (FF s c0) (pends s L) L.length, now := cr _ part (FF s c0) (pends s L) L.length, pend := [], fuse := -1, dead := false, works := works + L.length } : Dk)) = _
  rw [cr_FF s c0 L hne _ part L.length (Nat.le_refl _)]
  rfl
theorem after_pre (c0 : List UInt8) (L : List (List UInt8)) (k : Nat) (hk : k ≤ L.length) (part : Int) :
    (∃ r, c0 ++ L.flatten = after c0 L k part ++ r) ∧ (c0 ++ (L.take k).flatten).length ≤ (after c0 L k part).length ∧ (k < L.length → (after c0 L k part).length ≤ (c0 ++ (L.take (k + 1)).flatten).length) := by
  unfold after
  generalize (part % (((L.getD k []).length : Int) + 1)).toNat = p
  unfold cont
  by_cases h : L.length ≤ k
  · have e : k = L.length := by omega
    subst e
    rw [if_pos (Nat.le_refl _)]
    refine ⟨⟨[], by simp⟩, Nat.le_refl _, fun h => by omega⟩
  · rw [if_neg h]
    have hb : L[k]? = some (L[k]'(by omega)) := List.getElem?_eq_getElem _
    generalize (L[k]'(by omega)) = b at hb
    have hg : L.getD k [] = b := by rw [List.getD_eq_getElem?_getD, hb]; rfl
    rw [hg]
    refine ⟨⟨b.drop p ++ (L.drop (k + 1)).flatten, ?_⟩, by simp only [List.length_append]; omega, fun _ => ?_⟩
    · have h1 : L = L.take (k + 1) ++ L.drop (k + 1) := (List.take_append_drop _ _).symm
      conv => lhs; rw [h1]
      rw [List.flatten_append, flat_succ hb]
      simp only [List.append_assoc]
      congr 2
      rw [← List.append_assoc, List.take_append_drop]
    · rw [flat_succ hb]
      simp only [List.length_append, List.length_take]
      omega
end Dsk
end Go.Proofs.YthampbiabkfmoaaGreatDoor
