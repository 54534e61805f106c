/- RootLeft, plainly: a save with something left aside; without a fuse a save goes well. -/
import Derived.Test.YtdlpehlgmfhheaaGreatDoorRtWhPl
namespace Go.Proofs.YtdlpehlgmfhheaaGreatDoor
open Go.RowKit Go.Tap Go.Maps
set_option linter.unusedVariables false

namespace Rt
open Dsk
/-- No fuse is laid. -/
def Off (d : Dk) : Prop := d.fuse = -1 ∧ d.dead = false
theorem Off.one {d : Dk} (h : Off d) : ∃ w, d.one = ({ d with works := w }, true) := by
  obtain ⟨room, done, now, pend, fuse, dead, works⟩ := d
  obtain ⟨h1, h2⟩ := h
  simp only at h1 h2
  subst h1 h2
  exact ⟨_, rfl⟩
theorem Off.putr {d : Dk} (h : Off d) (x : Wk) (g : Files) : Off (d.putr x g).1 ∧ (d.putr x g).2 = 0 := by
  obtain ⟨w, e⟩ := h.one
  unfold Dk.putr
  rw [e, if_pos rfl]
  exact ⟨h, rfl⟩
theorem Off.sync {d : Dk} (h : Off d) : Off d.sync.1 := by
  obtain ⟨w, e⟩ := h.one
  unfold Dk.sync
  rw [e, if_pos rfl]
  exact h
theorem Off.append {d : Dk} (h : Off d) (s : Name) (l : List UInt8) : Off (d.append s l).1 := by
  unfold Dk.append
  split
  · exact h
  · split
    · exact h
    · exact (h.putr _ _).1
theorem Off.remove {d : Dk} (h : Off d) (s : Name) : Off (d.remove s).1 := by
  unfold Dk.remove
  split
  · exact (h.putr _ _).1
  · exact h
theorem Off.rename {d : Dk} (h : Off d) (s t : Name) : Off (d.rename s t).1 := by
  unfold Dk.rename
  split
  · exact (h.putr _ _).1
  · exact h
theorem Off.clear {d : Dk} (h : Off d) : Off (clear d).1 := by
  unfold Rt.clear
  split
  · exact h.remove _
  · exact h
theorem Off.bind {r : Dk × Nat} {f : Dk → Dk × Nat} (h : Off r.1) (hf : ∀ d, Off d → Off (f d).1) : Off (bind r f).1 := by
  unfold Rt.bind
  split
  · exact hf _ h
  · exact h
theorem Off.save {d : Dk} (h : Off d) (x : List UInt8) : Off (saveB d x).1 := by
  unfold saveB
  exact Off.bind h.clear fun d h => Off.bind (h.append _ _) fun d h => Off.bind h.sync fun d h => Off.bind (h.rename _ _) fun d h => h.sync
theorem off_new (n : Nat) : Off (newD n) := ⟨rfl, rfl⟩
theorem off_crash (d : Dk) (x y : Int) : Off (d.crash x y) := ⟨rfl, rfl⟩
/-- A save without a fuse. -/
theorem save_off {d : Dk} {a : Option (List UInt8)} (h : Inv d a) (ha : ol a ≤ 200) (hf : Off d) (x : List UInt8) (hx : x.length ≤ 200) :
    (saveB d x).2 = 0 ∧ Inv (saveB d x).1 (some x) ∧ get (saveB d x).1.now nmA = none ∧ Off (saveB d x).1 := by
  rcases saveB_is h ha x hx with ⟨h1, h2, h3⟩ | ⟨_, h2, _⟩
  · exact ⟨h1, h2, h3, hf.save x⟩
  · have := (hf.save x).2
    rw [this] at h2; cases h2
/-- The rest of a save, behind the clearing. -/
theorem save_tail {a : Option (List UInt8)} (ha : ol a ≤ 200) (x : List UInt8) (hx : x.length ≤ 200) (done now : Files) (pend : List Wk) (fuse : Int) (works : Nat) (hn : Fs now a none)
    (fall1 : ∀ (fu : Int) (wk : Nat), Falls ⟨100000, done, now, pend, fu, true, wk⟩ a x) (fall2 : ∀ (fu : Int) (wk : Nat), Falls ⟨100000, done, put now nmA x, pend ++ [wA x], fu, true, wk⟩ a x) :
    ∀ q, q = (bind ((⟨100000, done, now, pend, fuse, false, works⟩ : Dk).append nmA x) fun d => bind d.sync fun d => bind (d.rename nmA nmR) fun d => d.sync) → (q.2 = 0 ∧ Inv q.1 (some x) ∧ get q.1.now nmA = none) ∨ (q.2 = 7 ∧ Falls q.1 a x) := by
  rintro q rfl
  have hv : val now nmA = [] := by unfold val; rw [hn.n]; rfl
  have hu := hn.used
  have ho0 : ol none = 0 := rfl
  have e0 : (⟨100000, done, now, pend, fuse, false, works⟩ : Dk).append nmA x = (⟨100000, done, now, pend, fuse, false, works⟩ : Dk).putr (wA x) (put now nmA x) := by
    unfold Dk.append
    rw [if_neg (by simp), if_neg (by show ¬ 100000 < Dsk.used now + x.length; omega)]
    show Dk.putr _ ⟨0, nmA, [], x, 0⟩ (put now nmA (val now nmA ++ x)) = _
    rw [hv]; rfl
  have hnow2 : Fs (put now nmA x) a (some x) := hn.putA x
  rw [e0]
  unfold Dk.putr
  rcases one_cases ⟨100000, done, now, pend, fuse, false, works⟩ rfl with e1 | ⟨f1, e1⟩
  · rw [e1, if_neg (by simp), bind_no (by simp)]
    exact .inr ⟨rfl, fall1 _ _⟩
  · rw [e1, if_pos rfl, bind_ok rfl]
    simp only
    unfold Dk.sync
    rcases one_cases ⟨100000, done, put now nmA x, pend ++ [wA x], f1, false, works + 1⟩ rfl with e2 | ⟨f2, e2⟩
    · rw [e2, if_neg (by simp), bind_no (by simp)]
      exact .inr ⟨rfl, fall2 _ _⟩
    · rw [e2, if_pos rfl, bind_ok rfl]
      simp only
      have e3 : (⟨100000, put now nmA x, put now nmA x, [], f2, false, works + 1 + 1⟩ : Dk).rename nmA nmR = (⟨100000, put now nmA x, put now nmA x, [], f2, false, works + 1 + 1⟩ : Dk).putr wN (put (del (put now nmA x) nmA) nmR (val (put now nmA x) nmA)) := by
        unfold Dk.rename
        rw [if_pos (by unfold Dk.there; rw [if_neg (by simp), if_pos (by show (get (put now nmA x) nmA).isSome = true; rw [get_put_same]; rfl)])]
        rfl
      have hnow3 := hnow2.ren
      rw [e3]
      unfold Dk.putr
      rcases one_cases ⟨100000, put now nmA x, put now nmA x, [], f2, false, works + 1 + 1⟩ rfl with e4 | ⟨f3, e4⟩
      · rw [e4, if_neg (by simp), bind_no (by simp)]
        exact .inr ⟨rfl, rfl, fun dn pt => .inl (inv_crash_of (b := some x) rfl (by rw [crash_nil rfl]; exact hnow2) hx)⟩
      · rw [e4, if_pos rfl, bind_ok rfl]
        simp only
        rcases one_cases ⟨100000, put now nmA x, put (del (put now nmA x) nmA) nmR (val (put now nmA x) nmA), [] ++ [wN], f3, false, works + 1 + 1 + 1⟩ rfl with e5 | ⟨f4, e5⟩
        · rw [e5, if_neg (by simp)]
          refine .inr ⟨rfl, rfl, fun dn pt => ?_⟩
          have q := stp_ren hnow2 (dn % ((1 : Nat) + 1 : Int)).toNat 0 pt
          by_cases hk : 0 < (dn % ((1 : Nat) + 1 : Int)).toNat
          · rw [if_pos hk, if_pos hk] at q
            exact .inr (inv_crash_of (b := none) rfl q (Nat.zero_le _))
          · rw [if_neg hk, if_neg hk] at q
            exact .inl (inv_crash_of (b := some x) rfl q hx)
        · rw [e5, if_pos rfl]
          exact .inl ⟨rfl, ⟨rfl, rfl, rfl, rfl, none, hnow3, Nat.zero_le _⟩, hnow3.n⟩
/-- A save behind something that was left aside, and a crash: the old root is there or the new one. -/
theorem save_left {d : Dk} {a : Option (List UInt8)} (h : Inv d a) (ha : ol a ≤ 200) (hf : Off d) (hnone : get d.now nmA = none) (left x : List UInt8) (hl : left.length ≤ 200) (hx : x.length ≤ 200) (n : Int) (p q : Int) :
    Inv ((saveB { (d.append nmA left).1 with fuse := n } x).1.crash p q) a ∨ Inv ((saveB { (d.append nmA left).1 with fuse := n } x).1.crash p q) (some x) := by
  obtain ⟨b, hb, hbl⟩ := h.fs
  obtain rfl : b = none := hb.n.symm.trans hnone
  obtain ⟨room, done, now, pend, fuse, dead, works⟩ := d
  obtain ⟨h1, h2, h3, h4, _⟩ := h
  obtain ⟨h5, _⟩ := hf
  simp only at h1 h2 h3 h4 h5 hb hnone
  subst h1 h2 h3 h4 h5
  have hu := hb.used
  have ho0 : ol none = 0 := rfl
  have hv : val done nmA = [] := by unfold val; rw [hb.n]; rfl
  have e0 : ((⟨100000, done, done, [], -1, false, works⟩ : Dk).append nmA left).1 = ⟨100000, done, put done nmA left, [wA left], -1, false, works + 1⟩ := by
    unfold Dk.append
    rw [if_neg (by simp), if_neg (by show ¬ 100000 < Dsk.used done + left.length; omega)]
    show (Dk.putr _ ⟨0, nmA, [], left, 0⟩ (put done nmA (val done nmA ++ left))).1 = _
    rw [hv]; rfl
  rw [e0]
  have hn1 : Fs (put done nmA left) a (some left) := hb.putA left
  have hn2 : Fs (del (put done nmA left) nmA) a none := hn1.delA
  have fall0 : ∀ (fu : Int) (wk : Nat), Falls ⟨100000, done, put done nmA left, [wA left], fu, true, wk⟩ a x := fun fu wk => ⟨rfl, fun dn pt => by
    left
    obtain ⟨b', q1, q2⟩ := stp_add hb rfl (dn % ((1 : Nat) + 1 : Int)).toNat 0 pt left hl
    exact inv_crash_of (b := b') rfl q1 q2⟩
  have fall1 : ∀ (fu : Int) (wk : Nat), Falls ⟨100000, done, del (put done nmA left) nmA, [wA left, wD], fu, true, wk⟩ a x := fun fu wk => ⟨rfl, fun dn pt => by
    left
    obtain ⟨b', q1, q2⟩ := stp_add hb rfl (dn % ((2 : Nat) + 1 : Int)).toNat 0 pt left hl
    have q3 := stp_del q1 (dn % ((2 : Nat) + 1 : Int)).toNat 1 pt
    exact inv_crash_of (b := if 1 < (dn % ((2 : Nat) + 1 : Int)).toNat then none else b') rfl q3 (by split; exact Nat.zero_le _; exact q2)⟩
  have fall2 : ∀ (fu : Int) (wk : Nat), Falls ⟨100000, done, put (del (put done nmA left) nmA) nmA x, [wA left, wD] ++ [wA x], fu, true, wk⟩ a x := fun fu wk => ⟨rfl, fun dn pt => by
    left
    obtain ⟨b', q1, q2⟩ := stp_add hb rfl (dn % ((3 : Nat) + 1 : Int)).toNat 0 pt left hl
    have q3 := stp_del q1 (dn % ((3 : Nat) + 1 : Int)).toNat 1 pt
    by_cases hk : 1 < (dn % ((3 : Nat) + 1 : Int)).toNat
    · rw [if_pos hk] at q3
      obtain ⟨b2, q4, q5⟩ := stp_add q3 rfl (dn % ((3 : Nat) + 1 : Int)).toNat 2 pt x hx
      exact inv_crash_of (b := b2) rfl q4 q5
    · rw [if_neg hk] at q3
      refine inv_crash_of (b := b') rfl ?_ q2
      show Fs (stp (dn % ((3 : Nat) + 1 : Int)).toNat pt (stp (dn % ((3 : Nat) + 1 : Int)).toNat pt (stp (dn % ((3 : Nat) + 1 : Int)).toNat pt done 0 (wA left)) 1 wD) 2 (wA x)) a b'
      rw [stp_late (i := 2) _ (by omega)]
      exact q3⟩
  have key : ∀ r, r = saveB (⟨100000, done, put done nmA left, [wA left], n, false, works + 1⟩ : Dk) x → (r.2 = 0 ∧ Inv r.1 (some x) ∧ get r.1.now nmA = none) ∨ (r.2 = 7 ∧ Falls r.1 a x) := by
    rintro r rfl
    unfold saveB clear
    rw [if_pos ⟨rfl, by show (get (put done nmA left) nmA).isSome = true; rw [get_put_same]; rfl⟩]
    have e1 : (⟨100000, done, put done nmA left, [wA left], n, false, works + 1⟩ : Dk).remove nmA = (⟨100000, done, put done nmA left, [wA left], n, false, works + 1⟩ : Dk).putr wD (del (put done nmA left) nmA) := by
      unfold Dk.remove
      rw [if_pos (by unfold Dk.there; rw [if_neg (by simp), if_pos (by show (get (put done nmA left) nmA).isSome = true; rw [get_put_same]; rfl)])]
      rfl
    rw [e1]
    unfold Dk.putr
    rcases one_cases ⟨100000, done, put done nmA left, [wA left], n, false, works + 1⟩ rfl with e2 | ⟨f1, e2⟩
    · rw [e2, if_neg (by simp), bind_no (by simp)]
      exact .inr ⟨rfl, fall0 _ _⟩
    · rw [e2, if_pos rfl, bind_ok rfl]
      exact save_tail ha x hx done (del (put done nmA left) nmA) [wA left, wD] f1 (works + 1 + 1) hn2 fall1 fall2 _ rfl
  rcases key _ rfl with ⟨_, h, _⟩ | ⟨_, _, h⟩
  · exact .inr (h.crash p q)
  · exact h p q
end Rt
end Go.Proofs.YtdlpehlgmfhheaaGreatDoor
