/- What a save makes of a disk, plainly; behind a fall the old bytes or the new ones are there. -/
import Derived.Test.YtggdbdjaobgeeaaGreatDoorDskOp3
import Derived.Test.YtggdbdjaobgeeaaGreatDoorDskCrash
namespace Go.Proofs.YtggdbdjaobgeeaaGreatDoor
open Go.RowKit Go.Tap Go.Maps
set_option linter.unusedVariables false

namespace Rt
open Dsk
def nmR : Name := [114, 111, 111, 116]
def nmA : Name := [114, 111, 111, 116, 46, 110, 101, 119]
theorem goodR : good nmR := ⟨by decide, by decide⟩
theorem goodA : good nmA := ⟨by decide, by decide⟩
theorem neAR : nmA ≠ nmR := by decide
def bind (r : Dk × Nat) (f : Dk → Dk × Nat) : Dk × Nat := if r.2 = 0 then f r.1 else r
theorem bind_ok {r : Dk × Nat} {f : Dk → Dk × Nat} (h : r.2 = 0) : bind r f = f r.1 := if_pos h
theorem bind_no {r : Dk × Nat} {f : Dk → Dk × Nat} (h : r.2 ≠ 0) : bind r f = r := if_neg h
def clear (d : Dk) : Dk × Nat := if d.dead = false ∧ (get d.now nmA).isSome = true then d.remove nmA else (d, 0)
def saveB (d : Dk) (x : List UInt8) : Dk × Nat :=
  bind (clear d) fun d => bind (d.append nmA x) fun d => bind d.sync fun d => bind (d.rename nmA nmR) fun d => d.sync

/-- Two files, or fewer. -/
structure Fs (fs : Files) (a b : Option (List UInt8)) : Prop where
  ap : Apart fs
  r : get fs nmR = a
  n : get fs nmA = b
  only : ∀ p ∈ fs, p.1 = nmR ∨ p.1 = nmA
def ol (a : Option (List UInt8)) : Nat := (a.getD []).length
theorem Fs.used {fs : Files} {a b : Option (List UInt8)} (h : Fs fs a b) : used fs = ol a + ol b := by
  have h1 := used_del h.ap nmR
  have h2 := used_del (apart_del h.ap nmR) nmA
  have h3 : del (del fs nmR) nmA = [] := by
    refine List.filter_eq_nil_iff.2 fun p hp => ?_
    obtain ⟨q1, q2⟩ := List.mem_filter.1 hp
    rcases h.only p q1 with e | e
    · simp [e] at q2
    · simp [e]
  have h4 : val (del fs nmR) nmA = val fs nmA := by unfold val; rw [get_del_other neAR]
  have e1 : val fs nmR = a.getD [] := by unfold val; rw [h.r]
  have e2 : val fs nmA = b.getD [] := by unfold val; rw [h.n]
  rw [h3, h4, e2] at h2
  rw [e1] at h1
  have : Dsk.used ([] : Files) = 0 := rfl
  unfold ol
  omega
theorem Fs.putA {fs : Files} {a b : Option (List UInt8)} (h : Fs fs a b) (x : List UInt8) : Fs (put fs nmA x) a (some x) :=
  ⟨apart_put h.ap _ _, by rw [get_put_other x neAR.symm]; exact h.r, get_put_same _ _ _, fun p hp => by
    rcases List.mem_cons.1 hp with rfl | hp
    · exact .inr rfl
    · exact h.only p (List.mem_filter.1 hp).1⟩
theorem Fs.delA {fs : Files} {a b : Option (List UInt8)} (h : Fs fs a b) : Fs (del fs nmA) a none :=
  ⟨apart_del h.ap _, by rw [get_del_other neAR.symm]; exact h.r, get_del_same _ _, fun p hp => h.only p (List.mem_filter.1 hp).1⟩
theorem Fs.ren {fs : Files} {a : Option (List UInt8)} {x : List UInt8} (h : Fs fs a (some x)) : Fs (put (del fs nmA) nmR (val fs nmA)) (some x) none := by
  have e : val fs nmA = x := by unfold val; rw [h.n]; rfl
  rw [e]
  refine ⟨apart_put (apart_del h.ap _) _ _, get_put_same _ _ _, by rw [get_put_other x neAR]; exact get_del_same _ _, fun p hp => ?_⟩
  rcases List.mem_cons.1 hp with rfl | hp
  · exact .inl rfl
  · exact h.only p (List.mem_filter.1 (List.mem_filter.1 hp).1).1
/-- Between two saves: nothing pends; the root's bytes are a. -/
structure Inv (d : Dk) (a : Option (List UInt8)) : Prop where
  room : d.room = 100000
  dead : d.dead = false
  pend : d.pend = []
  same : d.done = d.now
  fs : ∃ b, Fs d.now a b ∧ ol b ≤ 200
theorem inv_new : Inv (newD 100000) none := ⟨rfl, rfl, rfl, rfl, none, ⟨apart_nil, rfl, rfl, fun p hp => by cases hp⟩, Nat.zero_le _⟩
theorem Inv.fuse {d : Dk} {a : Option (List UInt8)} (h : Inv d a) (n : Int) : Inv { d with fuse := n } a := ⟨h.room, h.dead, h.pend, h.same, h.fs⟩
/-- What may be behind a fall. -/
def Falls (d : Dk) (a : Option (List UInt8)) (x : List UInt8) : Prop := d.dead = true ∧ ∀ done part, Inv (d.crash done part) a ∨ Inv (d.crash done part) (some x)
theorem one_cases (d : Dk) (hd : d.dead = false) : (d.one = ({ d with dead := true }, false)) ∨ ∃ f, d.one = ({ d with fuse := f, works := d.works + 1 }, true) := by
  unfold Dk.one
  by_cases h0 : d.fuse = 0
  · rw [if_pos h0]; exact .inl rfl
  · rw [if_neg h0, if_neg (by rw [hd]; simp)]; exact .inr ⟨_, rfl⟩
theorem inv_crash_of {d : Dk} {a : Option (List UInt8)} {done part : Int} (hr : d.room = 100000) {b : Option (List UInt8)} (h : Fs (d.crash done part).now a b) (hb : ol b ≤ 200) : Inv (d.crash done part) a :=
  ⟨hr, rfl, rfl, rfl, b, h, hb⟩
theorem crash_nil {d : Dk} (hp : d.pend = []) (done part : Int) : (d.crash done part).now = d.done := by
  unfold Dk.crash
  rw [hp]; rfl
theorem Inv.crash {d : Dk} {a : Option (List UInt8)} (h : Inv d a) (done part : Int) : Inv (d.crash done part) a := by
  obtain ⟨b, hb, hl⟩ := h.fs
  exact inv_crash_of (b := b) h.room (by rw [crash_nil h.pend, h.same]; exact hb) hl
def wA (x : List UInt8) : Wk := ⟨0, nmA, [], x, 0⟩
def wD : Wk := ⟨3, nmA, [], [], 0⟩
def wN : Wk := ⟨2, nmA, nmR, [], 0⟩
theorem stp_add {fs : Files} {a b : Option (List UInt8)} (h : Fs fs a b) (hb : b = none) (k i : Nat) (part : Int) (x : List UInt8) (hx : x.length ≤ 200) : ∃ b', Fs (stp k part fs i (wA x)) a b' ∧ ol b' ≤ 200 := by
  have hv : val fs nmA = [] := by unfold val; rw [h.n, hb]; rfl
  unfold stp
  split
  · refine ⟨some x, ?_, hx⟩
    show Fs (put fs nmA (val fs nmA ++ x)) a (some x)
    rw [hv]; exact h.putA _
  · split
    · refine ⟨some (x.take (pl part (wA x))), ?_, ?_⟩
      · show Fs (put fs nmA (val fs nmA ++ x.take _)) a _
        rw [hv]; exact h.putA _
      · show (x.take _).length ≤ 200
        rw [List.length_take]; omega
    · exact ⟨b, h, by rw [hb]; exact Nat.zero_le _⟩
theorem stp_del {fs : Files} {a b : Option (List UInt8)} (h : Fs fs a b) (k i : Nat) (part : Int) : Fs (stp k part fs i wD) a (if i < k then none else b) := by
  unfold stp
  split
  · exact h.delA
  · rw [if_neg (by rintro ⟨_, e, _⟩; cases e)]; exact h
theorem stp_ren {fs : Files} {a : Option (List UInt8)} {x : List UInt8} (h : Fs fs a (some x)) (k i : Nat) (part : Int) : Fs (stp k part fs i wN) (if i < k then some x else a) (if i < k then none else some x) := by
  unfold stp
  split
  · exact h.ren
  · rw [if_neg (by rintro ⟨_, e, _⟩; cases e)]; exact h
theorem stp_late {fs : Files} {k i : Nat} {part : Int} (x : Wk) (h : k < i) : stp k part fs i x = fs := by
  unfold stp
  rw [if_neg (by omega), if_neg (fun e => by omega)]
/-- What a save comes to. -/
theorem saveB_is {d : Dk} {a : Option (List UInt8)} (h : Inv d a) (ha : ol a ≤ 200) (x : List UInt8) (hx : x.length ≤ 200) :
    ((saveB d x).2 = 0 ∧ Inv (saveB d x).1 (some x) ∧ get (saveB d x).1.now nmA = none) ∨ ((saveB d x).2 = 7 ∧ Falls (saveB d x).1 a x) := by
  obtain ⟨b, hb, hbl⟩ := h.fs
  obtain ⟨room, done, now, pend, fuse, dead, works⟩ := d
  obtain ⟨h1, h2, h3, h4, _⟩ := h
  simp only at h1 h2 h3 h4 hb
  subst h1 h2 h3 h4
  -- behind the append
  have step2 : ∀ (pend : List Wk) (now : Files) (fuse : Int) (works : Nat), Fs now a none → (pend = [] ∧ b = none ∧ now = done ∨ pend = [wD] ∧ now = del done nmA) →
      ((bind ((⟨100000, done, now, pend, fuse, false, works⟩ : Dk).append nmA x) fun d => bind d.sync fun d => bind (d.rename nmA nmR) fun d => d.sync).2 = 0 ∧
        Inv (bind ((⟨100000, done, now, pend, fuse, false, works⟩ : Dk).append nmA x) fun d => bind d.sync fun d => bind (d.rename nmA nmR) fun d => d.sync).1 (some x) ∧
        get (bind ((⟨100000, done, now, pend, fuse, false, works⟩ : Dk).append nmA x) fun d => bind d.sync fun d => bind (d.rename nmA nmR) fun d => d.sync).1.now nmA = none) ∨
      ((bind ((⟨100000, done, now, pend, fuse, false, works⟩ : Dk).append nmA x) fun d => bind d.sync fun d => bind (d.rename nmA nmR) fun d => d.sync).2 = 7 ∧
        Falls (bind ((⟨100000, done, now, pend, fuse, false, works⟩ : Dk).append nmA x) fun d => bind d.sync fun d => bind (d.rename nmA nmR) fun d => d.sync).1 a x) := by
    intro pend now fuse works hn hp
    have hv : val now nmA = [] := by unfold val; rw [hn.n]; rfl
    have hu := hn.used
    have ho0 : ol none = 0 := rfl
    have e0 : (⟨100000, done, now, pend, fuse, false, works⟩ : Dk).append nmA x = (⟨100000, done, now, pend, fuse, false, works⟩ : Dk).putr (wA x) (put now nmA x) := by
      unfold Dk.append
      rw [if_neg (by simp), if_neg (by show ¬ 100000 < Dsk.used now + x.length; omega)]
      show Dk.putr _ ⟨0, nmA, [], x, 0⟩ (put now nmA (val now nmA ++ x)) = _
      rw [hv]; rfl
    -- a fall behind which only the first works pend
    have fall1 : ∀ (fu : Int) (wk : Nat), Falls ⟨100000, done, now, pend, fu, true, wk⟩ a x := fun fu wk => ⟨rfl, fun dn pt => by
      left
      rcases hp with ⟨rfl, _, rfl⟩ | ⟨rfl, rfl⟩
      · exact inv_crash_of (b := none) rfl (by rw [crash_nil rfl]; exact hn) (Nat.zero_le _)
      · refine inv_crash_of (b := if 0 < (dn % ((1 : Nat) + 1 : Int)).toNat then none else b) rfl ?_ (by split; exact Nat.zero_le _; exact hbl)
        exact stp_del hb _ 0 pt⟩
    have hnow2 : Fs (put now nmA x) a (some x) := hn.putA x
    have fall2 : ∀ (fu : Int) (wk : Nat), Falls ⟨100000, done, put now nmA x, pend ++ [wA x], fu, true, wk⟩ a x := fun fu wk => ⟨rfl, fun dn pt => by
      left
      rcases hp with ⟨rfl, hb0, rfl⟩ | ⟨rfl, rfl⟩
      · obtain ⟨b', q1, q2⟩ := stp_add hn rfl (dn % ((1 : Nat) + 1 : Int)).toNat 0 pt x hx
        exact inv_crash_of (b := b') rfl q1 q2
      · by_cases hk : 0 < (dn % ((2 : Nat) + 1 : Int)).toNat
        · have q0 := stp_del hb (dn % ((2 : Nat) + 1 : Int)).toNat 0 pt
          rw [if_pos hk] at q0
          obtain ⟨b', q1, q2⟩ := stp_add q0 rfl (dn % ((2 : Nat) + 1 : Int)).toNat 1 pt x hx
          exact inv_crash_of (b := b') rfl q1 q2
        · have q0 := stp_del hb (dn % ((2 : Nat) + 1 : Int)).toNat 0 pt
          rw [if_neg hk] at q0
          refine inv_crash_of (b := b) rfl ?_ hbl
          show Fs (stp (dn % ((2 : Nat) + 1 : Int)).toNat pt (stp (dn % ((2 : Nat) + 1 : Int)).toNat pt done 0 wD) 1 (wA x)) a b
          rw [stp_late (i := 1) _ (by omega)]
          exact q0⟩
    rw [e0]
    unfold Dk.putr
    rcases one_cases ⟨100000, done, now, pend, fuse, false, works⟩ rfl with e1 | ⟨f1, e1⟩
    · rw [e1, if_neg (by simp), bind_no (by simp)]
      exact .inr ⟨rfl, fall1 _ _⟩
    · rw [e1, if_pos rfl, bind_ok rfl]
      simp only
      unfold Dk.sync
      rcases one_cases ⟨100000, done, put now nmA x, pend ++ [wA x], f1, false, works + 1⟩ rfl with e2 | ⟨f2, e2⟩
      · rw [e2, if_neg (by simp), bind_no (by simp)]
        exact .inr ⟨rfl, fall2 _ _⟩
      · rw [e2, if_pos rfl, bind_ok rfl]
        simp only
        have e3 : (⟨100000, put now nmA x, put now nmA x, [], f2, false, works + 1 + 1⟩ : Dk).rename nmA nmR = (⟨100000, put now nmA x, put now nmA x, [], f2, false, works + 1 + 1⟩ : Dk).putr wN (put (del (put now nmA x) nmA) nmR (val (put now nmA x) nmA)) := by
          unfold Dk.rename
          rw [if_pos (by unfold Dk.there; rw [if_neg (by simp), if_pos (by show (get (put now nmA x) nmA).isSome = true; rw [get_put_same]; rfl)])]
          rfl
        have hnow3 := hnow2.ren
        rw [e3]
        unfold Dk.putr
        rcases one_cases ⟨100000, put now nmA x, put now nmA x, [], f2, false, works + 1 + 1⟩ rfl with e4 | ⟨f3, e4⟩
        · rw [e4, if_neg (by simp), bind_no (by simp)]
          exact .inr ⟨rfl, rfl, fun dn pt => .inl (inv_crash_of (b := some x) rfl (by rw [crash_nil rfl]; exact hnow2) hx)⟩
        · rw [e4, if_pos rfl, bind_ok rfl]
          simp only
          rcases one_cases ⟨100000, put now nmA x, put (del (put now nmA x) nmA) nmR (val (put now nmA x) nmA), [] ++ [wN], f3, false, works + 1 + 1 + 1⟩ rfl with e5 | ⟨f4, e5⟩
          · rw [e5, if_neg (by simp)]
            refine .inr ⟨rfl, rfl, fun dn pt => ?_⟩
            have q := stp_ren hnow2 (dn % ((1 : Nat) + 1 : Int)).toNat 0 pt
            by_cases hk : 0 < (dn % ((1 : Nat) + 1 : Int)).toNat
            · rw [if_pos hk, if_pos hk] at q
              exact .inr (inv_crash_of (b := none) rfl q (Nat.zero_le _))
            · rw [if_neg hk, if_neg hk] at q
              exact .inl (inv_crash_of (b := some x) rfl q hx)
          · rw [e5, if_pos rfl]
            exact .inl ⟨rfl, ⟨rfl, rfl, rfl, rfl, none, hnow3, Nat.zero_le _⟩, hnow3.n⟩
  unfold saveB clear
  by_cases hg : (get done nmA).isSome = true
  · rw [if_pos ⟨rfl, hg⟩]
    have e0 : (⟨100000, done, done, [], fuse, false, works⟩ : Dk).remove nmA = (⟨100000, done, done, [], fuse, false, works⟩ : Dk).putr wD (del done nmA) := by
      unfold Dk.remove
      rw [if_pos (by unfold Dk.there; rw [if_neg (by simp), if_pos hg])]
      rfl
    rw [e0]
    unfold Dk.putr
    rcases one_cases ⟨100000, done, done, [], fuse, false, works⟩ rfl with e1 | ⟨f1, e1⟩
    · rw [e1, if_neg (by simp), bind_no (by simp)]
      exact .inr ⟨rfl, rfl, fun dn pt => .inl (inv_crash_of (b := b) rfl (by rw [crash_nil rfl]; exact hb) hbl)⟩
    · rw [e1, if_pos rfl, bind_ok rfl]
      simp only
      exact step2 [wD] (del done nmA) f1 (works + 1) hb.delA (.inr ⟨rfl, rfl⟩)
  · rw [if_neg (fun h => hg h.2), bind_ok rfl]
    have hb0 : b = none := by rw [← hb.n]; cases e : get done nmA with | none => rfl | some y => rw [e] at hg; exact absurd rfl hg
    subst hb0
    exact step2 [] done fuse works hb (.inl ⟨rfl, rfl, rfl⟩)
end Rt
end Go.Proofs.YtggdbdjaobgeeaaGreatDoor
