/- The reference's disk, said plainly: a sorted list of files, what pends; it is the program's, seen so. -/
import Derived.Test.YtkalpkmnelgieaaGreatDoorDskOp3
import Derived.Test.YtkalpkmnelgieaaGreatDoorDskCrash
namespace Go.Proofs.YtkalpkmnelgieaaGreatDoor
open Go.RowKit Go.Tap Go.Maps
set_option linter.unusedVariables false

namespace Ref
open Dsk
instance (s : Name) : Decidable (good s) := inferInstanceAs (Decidable (_ ∧ _))
def lowTo (l : Files) (s : Name) : Nat := (l.takeWhile fun p => decide (p.1 < s)).length
def putAt (l : Files) (s : Name) (b : List UInt8) : Files := l.take (lowTo l s) ++ (s, b) :: l.drop (lowTo l s)
def put (l : Files) (s : Name) (b : List UInt8) : Files := putAt (del l s) s b
def turn (l : Files) (x : Wk) : Files :=
  match x.kind with
  | 0 => put l x.name (val l x.name ++ x.b)
  | 1 => put l x.name ((val l x.name).take x.n)
  | 2 => put (del l x.name) x.dst (val l x.name)
  | _ => del l x.name
def now (l : Files) (p : List Wk) : Files := p.foldl turn l
/-- The same files, in order. -/
structure Like (fs l : Files) : Prop where
  perm : l.Perm fs
  sort : l.Pairwise (fun p q => p.1 < q.1)
theorem Like.nil : Like [] [] := ⟨List.Perm.refl _, List.Pairwise.nil⟩
theorem apart_of_sort {l : Files} (h : l.Pairwise (fun p q => p.1 < q.1)) : Apart l := h.imp (fun {a b} hab e => by rw [e] at hab; exact absurd hab (List.lt_irrefl _))
theorem get_mem {l : Files} (h : Apart l) (s : Name) (b : List UInt8) : Dsk.get l s = some b ↔ (s, b) ∈ l := by
  unfold Dsk.get
  induction l with
  | nil => simp
  | cons p r ih =>
    obtain ⟨h1, h2⟩ := List.pairwise_cons.1 h
    rw [List.find?_cons]
    by_cases e : p.1 = s
    · rw [show (p.1 == s) = true by simpa using e]
      simp only [Option.map_some, Option.some.injEq, List.mem_cons]
      constructor
      · intro hb; left; rw [← hb, ← e]
      · rintro (hp | hp)
        · rw [← hp]
        · exact absurd e (h1 _ hp)
    · rw [show (p.1 == s) = false by simpa using e]
      simp only [List.mem_cons]
      rw [ih h2]
      constructor
      · exact .inr
      · rintro (hp | hp)
        · exact absurd (by rw [← hp]) e
        · exact hp
theorem Like.get {fs l : Files} (h : Like fs l) (ha : Apart fs) (s : Name) : Dsk.get l s = Dsk.get fs s := by
  cases h1 : Dsk.get fs s with
  | some b => exact (get_mem (apart_of_sort h.sort) s b).2 (h.perm.mem_iff.2 ((get_mem ha s b).1 h1))
  | none =>
    cases h2 : Dsk.get l s with
    | none => rfl
    | some b =>
      have := (get_mem ha s b).2 (h.perm.mem_iff.1 ((get_mem (apart_of_sort h.sort) s b).1 h2))
      rw [h1] at this; cases this
theorem Like.val {fs l : Files} (h : Like fs l) (ha : Apart fs) (s : Name) : Dsk.val l s = Dsk.val fs s := by unfold Dsk.val; rw [h.get ha]
theorem Like.used {fs l : Files} (h : Like fs l) : Dsk.used l = Dsk.used fs := (h.perm.map _).sum_nat
theorem Like.length {fs l : Files} (h : Like fs l) : l.length = fs.length := h.perm.length_eq
theorem Like.del {fs l : Files} (h : Like fs l) (s : Name) : Like (Dsk.del fs s) (Dsk.del l s) := ⟨h.perm.filter _, h.sort.filter _⟩
theorem name_lt_of {a b : Name} (h1 : ¬ a < b) (h2 : a ≠ b) : b < a := by
  rcases List.le_iff_lt_or_eq.1 (show b ≤ a from List.not_lt.1 h1) with h | h
  · exact h
  · exact absurd h.symm h2
theorem lowTo_le (l : Files) (s : Name) : lowTo l s ≤ l.length := (List.takeWhile_sublist _).length_le
theorem take_low (l : Files) (s : Name) : l.take (lowTo l s) = l.takeWhile fun p => decide (p.1 < s) := by
  unfold lowTo
  have : ∀ l : Files, l.take (l.takeWhile fun p => decide (p.1 < s)).length = l.takeWhile fun p => decide (p.1 < s) := by
    intro l
    induction l with
    | nil => rfl
    | cons p r ih =>
      rw [List.takeWhile_cons]
      split
      · rw [List.length_cons, List.take_succ_cons, ih]
      · rfl
  exact this l
theorem drop_low (l : Files) (s : Name) : l.drop (lowTo l s) = l.dropWhile fun p => decide (p.1 < s) := by
  unfold lowTo
  have : ∀ l : Files, l.drop (l.takeWhile fun p => decide (p.1 < s)).length = l.dropWhile fun p => decide (p.1 < s) := by
    intro l
    induction l with
    | nil => rfl
    | cons p r ih =>
      rw [List.takeWhile_cons, List.dropWhile_cons]
      split
      · rw [List.length_cons, List.drop_succ_cons, ih]
      · rfl
  exact this l
theorem putAt_sort {l : Files} (h : l.Pairwise (fun p q => p.1 < q.1)) (s : Name) (b : List UInt8) (hs : ∀ p ∈ l, p.1 ≠ s) : (putAt l s b).Pairwise (fun p q => p.1 < q.1) := by
  unfold putAt
  rw [take_low, drop_low]
  have hall : ∀ p ∈ l.takeWhile fun p => decide (p.1 < s), p.1 < s := fun p hp => by
    have key : ∀ l : Files, p ∈ l.takeWhile (fun p => decide (p.1 < s)) → p.1 < s := by
      intro l
      induction l with
      | nil => intro h; simp at h
      | cons q r ih =>
        intro h
        rw [List.takeWhile_cons] at h
        split at h
        · rename_i hc
          rcases List.mem_cons.1 h with rfl | h
          · simpa using hc
          · exact ih h
        · simp at h
    exact key l hp
  have hdrop : ∀ q ∈ l.dropWhile (fun p => decide (p.1 < s)), s < q.1 := by
    have key : ∀ l : Files, l.Pairwise (fun p q => p.1 < q.1) → (∀ p ∈ l, p.1 ≠ s) → ∀ q ∈ l.dropWhile (fun p => decide (p.1 < s)), s < q.1 := by
      intro l
      induction l with
      | nil => intro _ _ q hq; simp at hq
      | cons p r ih =>
        intro hp hn q hq
        obtain ⟨h1, h2⟩ := List.pairwise_cons.1 hp
        rw [List.dropWhile_cons] at hq
        split at hq
        · exact ih h2 (fun p hp => hn p (List.mem_cons_of_mem _ hp)) q hq
        · rename_i hc
          have hps : s < p.1 := name_lt_of (by simpa using hc) (hn p (List.mem_cons_self ..))
          rcases List.mem_cons.1 hq with rfl | hq
          · exact hps
          · exact List.lt_trans hps (h1 q hq)
    exact key l h hs
  have hl : (l.takeWhile (fun p => decide (p.1 < s)) ++ l.dropWhile (fun p => decide (p.1 < s))).Pairwise (fun p q => p.1 < q.1) := by rw [List.takeWhile_append_dropWhile]; exact h
  obtain ⟨q1, q2, q3⟩ := List.pairwise_append.1 hl
  refine List.pairwise_append.2 ⟨q1, List.pairwise_cons.2 ⟨hdrop, q2⟩, fun p hp q hq => ?_⟩
  rcases List.mem_cons.1 hq with rfl | hq
  · exact hall p hp
  · exact q3 p hp q hq
theorem putAt_perm (l : Files) (s : Name) (b : List UInt8) : (putAt l s b).Perm ((s, b) :: l) := by
  unfold putAt
  refine List.perm_middle.trans ?_
  rw [List.take_append_drop]
theorem Like.put {fs l : Files} (h : Like fs l) (s : Name) (b : List UInt8) : Like (Dsk.put fs s b) (Ref.put l s b) :=
  ⟨(putAt_perm _ _ _).trans ((h.del s).perm.cons _), putAt_sort (h.del s).sort s b (fun p hp => by have := (List.mem_filter.1 hp).2; simpa using this)⟩
theorem Like.turn {fs l g : Files} (h : Like fs l) (ha : Apart fs) {x : Wk} (hd : do1 fs x = some g) : Like g (Ref.turn l x) := by
  have hv := h.val ha x.name
  obtain ⟨kind, name, dst, b, n⟩ := x
  simp only at hv
  match kind with
  | 0 =>
    simp only [do1, Option.some.injEq] at hd; subst hd
    show Like _ (Ref.put l name (Dsk.val l name ++ b))
    rw [hv]; exact h.put _ _
  | 1 =>
    simp only [do1] at hd
    split at hd
    · simp only [Option.some.injEq] at hd; subst hd
      show Like _ (Ref.put l name ((Dsk.val l name).take n))
      rw [hv]; exact h.put _ _
    · cases hd
  | 2 =>
    simp only [do1, Option.some.injEq] at hd; subst hd
    show Like _ (Ref.put (Dsk.del l name) dst (Dsk.val l name))
    rw [hv]; exact (h.del _).put _ _
  | k + 3 =>
    simp only [do1, Option.some.injEq] at hd; subst hd
    exact h.del _
theorem Like.now {room : Nat} : ∀ {p : List Wk} {fs l g : Files}, Like fs l → Apart fs → run room fs p = some g → Like g (Ref.now l p) ∧ Apart g
  | [], fs, l, g, h, ha, hr => by
    simp only [run, Option.some.injEq] at hr; subst hr; exact ⟨h, ha⟩
  | x :: p, fs, l, g, h, ha, hr => by
    unfold run at hr
    cases hx : do2 room fs x with
    | none => rw [hx] at hr; cases hr
    | some g' =>
      rw [hx] at hr
      simp only at hr
      have h1 := (do2_some hx).1
      exact Like.now (p := p) (h.turn ha h1) (apart_do1 ha h1) hr
/-- The reference's disk. -/
structure Rd where
  room : Nat
  kept : Files
  pend : List Wk
  fuse : Int
  dead : Bool
  works : Nat
def Rd.now (r : Rd) : Files := Ref.now r.kept r.pend
def Rd.wk (r : Rd) : Rd × Bool := if r.fuse = 0 then ({ r with dead := true }, false) else ({ r with fuse := if 0 < r.fuse then r.fuse - 1 else r.fuse, works := r.works + 1 }, true)
def Rd.pnd (r : Rd) (x : Wk) : Rd × Nat := if r.wk.2 = true then ({ r.wk.1 with pend := r.pend ++ [x] }, 0) else (r.wk.1, 7)
def Rd.append (r : Rd) (s : Name) (l : List UInt8) : Rd × Nat :=
  if ¬ good s then (r, 1) else if r.dead = true then (r, 7) else if r.room < used r.now + l.length then (r, 6) else r.pnd ⟨0, s, [], l, 0⟩
def Rd.trunc (r : Rd) (s : Name) (n : Int) : Rd × Nat :=
  if ¬ good s then (r, 1) else if r.dead = true then (r, 7) else if (get r.now s).isSome = false then (r, 11) else if n < 0 ∨ ((val r.now s).length : Int) < n then (r, 1) else r.pnd ⟨1, s, [], [], n.toNat⟩
def Rd.rename (r : Rd) (s t : Name) : Rd × Nat :=
  if ¬ good s ∨ ¬ good t then (r, 1) else if r.dead = true then (r, 7) else if (get r.now s).isSome = false then (r, 11) else r.pnd ⟨2, s, t, [], 0⟩
def Rd.remove (r : Rd) (s : Name) : Rd × Nat :=
  if ¬ good s then (r, 1) else if r.dead = true then (r, 7) else if (get r.now s).isSome = false then (r, 11) else r.pnd ⟨3, s, [], [], 0⟩
def Rd.sync (r : Rd) : Rd × Nat := if r.dead = true then (r, 7) else if r.wk.2 = true then ({ r.wk.1 with kept := r.now, pend := [] }, 0) else (r.wk.1, 7)
def cut1 (part : Int) (x : Wk) : Wk := { x with b := x.b.take (pl part x) }
def Rd.crashed (r : Rd) (done part : Int) : Files :=
  let k := (done % ((r.pend.length : Int) + 1)).toNat
  let l := Ref.now r.kept (r.pend.take k)
  match r.pend[k]? with
  | some x => if x.kind = 0 ∧ 0 < pl part x then Ref.turn l (cut1 part x) else l
  | none => l
def Rd.crash (r : Rd) (done part : Int) : Rd := { r with kept := r.crashed done part, pend := [], dead := false, fuse := -1 }
/-- It is the program's disk. -/
structure Eq (d : Dk) (r : Rd) : Prop where
  room : r.room = d.room
  kept : Like d.done r.kept
  pend : r.pend = d.pend
  fuse : r.fuse = d.fuse
  dead : r.dead = d.dead
  works : r.works = d.works
  apart : Apart d.done
theorem Eq.now {d : Dk} {r : Rd} (h : Eq d r) (ho : Ok d) : Like d.now r.now ∧ Apart d.now := by
  unfold Rd.now
  rw [h.pend]
  exact h.kept.now h.apart ho.run
theorem Eq.one {d : Dk} {r : Rd} (h : Eq d r) (hd : d.dead = false) : Eq d.one.1 r.wk.1 ∧ r.wk.2 = d.one.2 := by
  obtain ⟨r1, r2, r3, r4, r5, r6⟩ := r
  obtain ⟨d1, d2, d3, d4, d5, d6, d7⟩ := d
  obtain ⟨h1, h2, h3, h4, h5, h6, h7⟩ := h
  simp only at h1 h2 h3 h4 h5 h6 h7 hd
  subst h1 h3 h4 h5 h6 hd
  unfold Dk.one Rd.wk
  by_cases h0 : r4 = 0
  · rw [if_pos h0, if_pos h0]; exact ⟨⟨rfl, h2, rfl, rfl, rfl, rfl, h7⟩, rfl⟩
  · rw [if_neg h0, if_neg h0, if_neg (by simp)]
    exact ⟨⟨rfl, h2, rfl, rfl, rfl, rfl, h7⟩, rfl⟩
theorem Eq.putr {d : Dk} {r : Rd} (h : Eq d r) (hd : d.dead = false) (x : Wk) (g : Files) : Eq (d.putr x g).1 (r.pnd x).1 ∧ (r.pnd x).2 = (d.putr x g).2 := by
  obtain ⟨h1, h2⟩ := h.one hd
  unfold Dk.putr Rd.pnd
  rw [h2]
  split
  · exact ⟨⟨h1.room, h1.kept, by show r.pend ++ [x] = d.pend ++ [x]; rw [h.pend], h1.fuse, h1.dead, h1.works, h1.apart⟩, rfl⟩
  · exact ⟨h1, rfl⟩
theorem Eq.append {d : Dk} {r : Rd} (h : Eq d r) (ho : Ok d) (s : Name) (hs : good s) (l : List UInt8) : Eq (d.append s l).1 (r.append s l).1 ∧ (r.append s l).2 = (d.append s l).2 := by
  unfold Dk.append Rd.append
  rw [if_neg (c := ¬ good s) (fun h => h hs), h.dead, h.room, (h.now ho).1.used]
  by_cases hd : d.dead = true
  · rw [if_pos hd, if_pos hd]; exact ⟨h, rfl⟩
  · rw [if_neg hd, if_neg hd]
    by_cases hu : d.room < used d.now + l.length
    · rw [if_pos hu, if_pos hu]; exact ⟨h, rfl⟩
    · rw [if_neg hu, if_neg hu]; exact h.putr (by simpa using hd) _ _
theorem Eq.there {d : Dk} {r : Rd} (h : Eq d r) (ho : Ok d) (s : Name) : d.there s = if r.dead = true then 7 else if (get r.now s).isSome = false then 11 else 0 := by
  unfold Dk.there
  rw [h.dead, (h.now ho).1.get (h.now ho).2]
  split
  · rfl
  · cases (get d.now s).isSome <;> rfl
theorem Eq.trunc {d : Dk} {r : Rd} (h : Eq d r) (ho : Ok d) (s : Name) (hs : good s) (n : Int) : Eq (d.trunc s n).1 (r.trunc s n).1 ∧ (r.trunc s n).2 = (d.trunc s n).2 := by
  unfold Dk.trunc Rd.trunc
  rw [if_neg (c := ¬ good s) (fun h => h hs), h.there ho s]
  by_cases hd : r.dead = true
  · rw [if_pos hd, if_pos hd, if_neg (by omega)]; exact ⟨h, rfl⟩
  · rw [if_neg hd, if_neg hd]
    by_cases hg : (get r.now s).isSome = false
    · rw [if_pos hg, if_pos hg, if_neg (by omega)]; exact ⟨h, rfl⟩
    · rw [if_neg hg, if_neg hg, if_pos rfl, (h.now ho).1.val (h.now ho).2]
      split
      · exact ⟨h, rfl⟩
      · exact h.putr (by rw [← h.dead]; simpa using hd) _ _
theorem Eq.rename {d : Dk} {r : Rd} (h : Eq d r) (ho : Ok d) (s t : Name) (hs : good s) (ht : good t) : Eq (d.rename s t).1 (r.rename s t).1 ∧ (r.rename s t).2 = (d.rename s t).2 := by
  unfold Dk.rename Rd.rename
  rw [if_neg (c := ¬ good s ∨ ¬ good t) (by rintro (h | h); exact h hs; exact h ht), h.there ho s]
  by_cases hd : r.dead = true
  · rw [if_pos hd, if_pos hd, if_neg (by omega)]; exact ⟨h, rfl⟩
  · rw [if_neg hd, if_neg hd]
    by_cases hg : (get r.now s).isSome = false
    · rw [if_pos hg, if_pos hg, if_neg (by omega)]; exact ⟨h, rfl⟩
    · rw [if_neg hg, if_neg hg, if_pos rfl]
      exact h.putr (by rw [← h.dead]; simpa using hd) _ _
theorem Eq.remove {d : Dk} {r : Rd} (h : Eq d r) (ho : Ok d) (s : Name) (hs : good s) : Eq (d.remove s).1 (r.remove s).1 ∧ (r.remove s).2 = (d.remove s).2 := by
  unfold Dk.remove Rd.remove
  rw [if_neg (c := ¬ good s) (fun h => h hs), h.there ho s]
  by_cases hd : r.dead = true
  · rw [if_pos hd, if_pos hd, if_neg (by omega)]; exact ⟨h, rfl⟩
  · rw [if_neg hd, if_neg hd]
    by_cases hg : (get r.now s).isSome = false
    · rw [if_pos hg, if_pos hg, if_neg (by omega)]; exact ⟨h, rfl⟩
    · rw [if_neg hg, if_neg hg, if_pos rfl]
      exact h.putr (by rw [← h.dead]; simpa using hd) _ _
theorem one_dead {d : Dk} (hd : d.dead = true) : d.one = (d, false) := by
  unfold Dk.one
  split
  · cases d; simp only at hd; subst hd; rfl
  · rfl
theorem Eq.sync {d : Dk} {r : Rd} (h : Eq d r) (ho : Ok d) : Eq d.sync.1 r.sync.1 ∧ r.sync.2 = d.sync.2 := by
  by_cases hd : d.dead = true
  · have e1 : d.sync = (d, 7) := by
      unfold Dk.sync
      rw [one_dead hd, if_neg (by simp)]
    have e2 : r.sync = (r, 7) := by
      unfold Rd.sync
      rw [if_pos (by rw [h.dead]; exact hd)]
    rw [e1, e2]; exact ⟨h, rfl⟩
  · have hd' : d.dead = false := by simpa using hd
    unfold Rd.sync
    rw [if_neg (c := r.dead = true) (by rw [h.dead]; exact hd)]
    obtain ⟨h1, h2⟩ := h.one hd'
    unfold Dk.sync
    rw [h2]
    split
    · exact ⟨⟨h1.room, (h.now ho).1, rfl, h1.fuse, h1.dead, h1.works, (h.now ho).2⟩, rfl⟩
    · exact ⟨h1, rfl⟩
theorem Eq.crash {d : Dk} {r : Rd} (h : Eq d r) (ho : Ok d) (done part : Int) : Eq (d.crash done part) (r.crash done part) := by
  obtain ⟨k, hk⟩ : ∃ k, k = (done % ((d.pend.length : Int) + 1)).toNat := ⟨_, rfl⟩
  have hkl : k ≤ d.pend.length := by
    have h1 := Int.emod_lt_of_pos done (show (0 : Int) < (d.pend.length : Int) + 1 by omega)
    have h2 := Int.emod_nonneg done (show ((d.pend.length : Int) + 1) ≠ 0 by omega)
    rw [hk]; omega
  have key : ∀ j, j ≤ d.pend.length → (j ≤ k → Like (cr k part d.done d.pend j) (Ref.now r.kept (d.pend.take j))) ∧ (k < j → Like (cr k part d.done d.pend j) (r.crashed done part)) := by
    intro j
    induction j with
    | zero => intro _; exact ⟨fun _ => by simpa [cr, Ref.now] using h.kept, fun h => by omega⟩
    | succ j ih =>
      intro hj
      obtain ⟨i1, i2⟩ := ih (by omega)
      have hx : d.pend[j]? = some (d.pend[j]'(by omega)) := List.getElem?_eq_getElem _
      generalize d.pend[j]'(by omega) = x at hx
      have hc := cr_ok (k := k) (part := part) ho.run ho.small.1 ho.small.2 h.apart j (by omega)
      have e := cr_succ (k := k) (part := part) (fs := d.done) hx
      refine ⟨fun hjk => ?_, fun hkj => ?_⟩
      · obtain ⟨h', hd, hrun⟩ := run_step ho.run hx (hc.run (by omega))
        have d1 := (do2_some hd).1
        rw [e, stp, if_pos (by omega), d1, Option.getD_some, List.take_add_one, hx]
        show Like h' (Ref.now r.kept (d.pend.take j ++ [x]))
        unfold Ref.now
        rw [List.foldl_append]
        exact (i1 (by omega)).turn hc.ap d1
      · rw [e, stp, if_neg (by omega)]
        by_cases hjk : j = k
        · have hl := i1 (by omega)
          unfold Rd.crashed
          simp only
          rw [h.pend, ← hk, ← hjk, hx]
          simp only
          subst hjk
          by_cases hc2 : x.kind = 0 ∧ 0 < pl part x
          · rw [if_pos ⟨trivial, hc2⟩, if_pos hc2]
            refine hl.turn hc.ap ?_
            unfold do1 cut1
            simp only [hc2.1]
          · rw [if_neg (fun h => hc2 h.2), if_neg hc2]
            exact hl
        · rw [if_neg (fun h => hjk h.1)]
          exact i2 (by omega)
  have hfin : Like (cr k part d.done d.pend d.pend.length) (r.crashed done part) := by
    obtain ⟨i1, i2⟩ := key d.pend.length (Nat.le_refl _)
    by_cases hlt : k < d.pend.length
    · exact i2 hlt
    · have he : k = d.pend.length := by omega
      have := i1 (by omega)
      unfold Rd.crashed
      simp only
      rw [h.pend, ← hk, he, List.getElem?_eq_none (Nat.le_refl _)]
      rw [← he] at this ⊢
      exact this
  have hc := cr_ok (k := k) (part := part) ho.run ho.small.1 ho.small.2 h.apart d.pend.length (Nat.le_refl _)
  unfold Dk.crash Rd.crash
  rw [← hk]
  exact ⟨h.room, hfin, rfl, rfl, rfl, h.works, hc.ap⟩
end Ref
end Go.Proofs.YtkalpkmnelgieaaGreatDoor
