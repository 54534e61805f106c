/- DiskOrder, said plainly: appends to one file, and what a crash leaves of them. -/
import Derived.Test.YtkalpkmnelgieaaGreatDoorDskRen
namespace Go.Proofs.YtkalpkmnelgieaaGreatDoor
open Go.RowKit Go.Tap Go.Maps
set_option linter.unusedVariables false
namespace Dsk
def FF (s : Name) (c : List UInt8) : Files := if c = [] then [] else [(s, c)]
theorem val_FF (s : Name) (c : List UInt8) : val (FF s c) s = c := by
  unfold FF; split
  · rename_i h; subst h; rfl
  · simp [val, get]
theorem put_FF (s : Name) (c b : List UInt8) : Dsk.put (FF s c) s b = [(s, b)] := by
  unfold FF; split
  · rfl
  · simp [Dsk.put, Dsk.del]
theorem used_FF (s : Name) (c : List UInt8) : used (FF s c) = c.length := by
  unfold FF; split
  · rename_i h; subst h; rfl
  · simp [used]
theorem put_FF' (s : Name) (c b : List UInt8) (hb : b ≠ []) : Dsk.put (FF s c) s (Dsk.val (FF s c) s ++ b) = FF s (c ++ b) := by
  rw [put_FF, val_FF]; unfold FF; rw [if_neg (by simp [hb])]
def pends (s : Name) (L : List (List UInt8)) : List Wk := L.map fun b => ⟨0, s, [], b, 0⟩
/-- A disk with one file, to which these have been appended and pend. -/
def od (room works : Nat) (s : Name) (c0 : List UInt8) (L : List (List UInt8)) : Dk := ⟨room, FF s c0, FF s (c0 ++ L.flatten), pends s L, -1, false, works + L.length⟩
theorem od_append (room works : Nat) (s : Name) (c0 : List UInt8) (L : List (List UInt8)) (b : List UInt8) (hb : b ≠ []) (h : c0.length + L.flatten.length + b.length ≤ room) : (od room works s c0 L).append s b = (od room works s c0 (L ++ [b]), 0) := by
  rw [append_eq rfl rfl s b (by show used (FF s _) + _ ≤ room; rw [used_FF, List.length_append]; omega)]
  show (({ room := room, done := FF s c0, now := _, pend := pends s L ++ [_], fuse := -1, dead := false, works := works + L.length + 1 } : Dk), 0) = _
  unfold od
  show (({ room := room, done := FF s c0, now := Dsk.put (FF s (c0 ++ L.flatten)) s (Dsk.val (FF s (c0 ++ L.flatten)) s ++ b), pend := pends s L ++ [⟨0, s, [], b, 0⟩], fuse := -1, dead := false, works := works + L.length + 1 } : Dk), 0) = _
  rw [put_FF' s _ b hb]
  simp [pends, Nat.add_assoc]
def cont (c0 : List UInt8) (L : List (List UInt8)) (k p j : Nat) : List UInt8 := if j ≤ k then c0 ++ (L.take j).flatten else c0 ++ (L.take k).flatten ++ (L.getD k []).take p
theorem flat_succ {L : List (List UInt8)} {j : Nat} {b : List UInt8} (h : L[j]? = some b) : (L.take (j + 1)).flatten = (L.take j).flatten ++ b := by
  rw [List.take_add_one, h]; simp
theorem cr_FF (s : Name) (c0 : List UInt8) (L : List (List UInt8)) (hne : ∀ b ∈ L, b ≠ []) (k : Nat) (part : Int) : ∀ j, j ≤ L.length →
    cr k part (FF s c0) (pends s L) j = FF s (cont c0 L k (part % (((L.getD k []).length : Int) + 1)).toNat j)
  | 0, _ => by simp [cr, cont]
  | j + 1, hj => by
    have ih := cr_FF s c0 L hne k part j (by omega)
    have hb : L[j]? = some (L[j]'(by omega)) := List.getElem?_eq_getElem _
    have hbne : (L[j]'(by omega)) ≠ [] := hne _ (List.getElem_mem _)
    generalize (L[j]'(by omega)) = b at hb hbne
    have hx : (pends s L)[j]? = some ⟨0, s, [], b, 0⟩ := by unfold pends; rw [List.getElem?_map, hb]; rfl
    rw [cr_succ hx, ih, stp]
    by_cases h1 : j < k
    · rw [if_pos h1]
      show (some (Dsk.put _ s (Dsk.val _ s ++ b))).getD _ = _
      rw [Option.getD_some, put_FF' s _ b hbne]
      unfold cont
      rw [if_pos (by omega), if_pos (by omega), flat_succ hb, List.append_assoc]
    · rw [if_neg h1]
      by_cases h2 : j = k
      · subst h2
        have hg : L.getD j [] = b := by rw [List.getD_eq_getElem?_getD, hb]; rfl
        have hpl : pl part (⟨0, s, [], b, 0⟩ : Wk) = (part % (((L.getD j []).length : Int) + 1)).toNat := by unfold pl; rw [hg]
        rw [hpl]
        generalize (part % (((L.getD j []).length : Int) + 1)).toNat = p
        by_cases h3 : 0 < p
        · rw [if_pos ⟨rfl, rfl, h3⟩]
          show Dsk.put _ s (Dsk.val _ s ++ b.take p) = _
          rw [put_FF' s _ _ (by intro e; have := congrArg List.length e; rw [List.length_take] at this; cases b with | nil => exact hbne rfl | cons y r => simp at this; omega)]
          unfold cont
          rw [if_pos (Nat.le_refl _), if_neg (by omega), hg]
        · rw [if_neg (fun h => h3 h.2.2)]
          unfold cont
          rw [if_pos (Nat.le_refl _), if_neg (by omega), show p = 0 by omega]
          simp
      · rw [if_neg (fun h => h2 h.1)]
        unfold cont
        rw [if_neg (by omega), if_neg (by omega)]
def after (c0 : List UInt8) (L : List (List UInt8)) (k : Nat) (part : Int) : List UInt8 := cont c0 L k (part % (((L.getD k []).length : Int) + 1)).toNat L.length
theorem od_crash (room works : Nat) (s : Name) (c0 : List UInt8) (L : List (List UInt8)) (hne : ∀ b ∈ L, b ≠ []) (done part : Int) :
    (od room works s c0 L).crash done part = ⟨room, FF s (after c0 L (done % ((L.length : Int) + 1)).toNat part), FF s (after c0 L (done % ((L.length : Int) + 1)).toNat part), [], -1, false, works + L.length⟩ := by
  unfold Dk.crash
  have e : (od room works s c0 L).pend.length = L.length := by show (pends s L).length = _; simp [pends]
  rw [e]
  show (({ room := room, done := cr _ part (FF s c0) (pends s L) L.length, now := cr _ part (FF s c0) (pends s L) L.length, pend := [], fuse := -1, dead := false, works := works + L.length } : Dk)) = _
  rw [cr_FF s c0 L hne _ part L.length (Nat.le_refl _)]
  rfl
theorem after_pre (c0 : List UInt8) (L : List (List UInt8)) (k : Nat) (hk : k ≤ L.length) (part : Int) :
    (∃ r, c0 ++ L.flatten = after c0 L k part ++ r) ∧ (c0 ++ (L.take k).flatten).length ≤ (after c0 L k part).length ∧ (k < L.length → (after c0 L k part).length ≤ (c0 ++ (L.take (k + 1)).flatten).length) := by
  unfold after
  generalize (part % (((L.getD k []).length : Int) + 1)).toNat = p
  unfold cont
  by_cases h : L.length ≤ k
  · have e : k = L.length := by omega
    subst e
    rw [if_pos (Nat.le_refl _)]
    refine ⟨⟨[], by simp⟩, Nat.le_refl _, fun h => by omega⟩
  · rw [if_neg h]
    have hb : L[k]? = some (L[k]'(by omega)) := List.getElem?_eq_getElem _
    generalize (L[k]'(by omega)) = b at hb
    have hg : L.getD k [] = b := by rw [List.getD_eq_getElem?_getD, hb]; rfl
    rw [hg]
    refine ⟨⟨b.drop p ++ (L.drop (k + 1)).flatten, ?_⟩, by simp only [List.length_append]; omega, fun _ => ?_⟩
    · have h1 : L = L.take (k + 1) ++ L.drop (k + 1) := (List.take_append_drop _ _).symm
      conv => lhs; rw [h1]
      rw [List.flatten_append, flat_succ hb]
      simp only [List.append_assoc]
      congr 2
      rw [← List.append_assoc, List.take_append_drop]
    · rw [flat_succ hb]
      simp only [List.length_append, List.length_take]
      omega
end Dsk
end Go.Proofs.YtkalpkmnelgieaaGreatDoor
