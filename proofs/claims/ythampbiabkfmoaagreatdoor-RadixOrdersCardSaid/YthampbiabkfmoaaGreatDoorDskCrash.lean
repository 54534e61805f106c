/- Crash: what it leaves. -/
import Derived.Test.YthampbiabkfmoaaGreatDoorDskOp3
namespace Go.Proofs.YthampbiabkfmoaaGreatDoor
open Go.RowKit Go.Tap Go.Maps
set_option linter.unusedVariables false
attribute [local go_sem ↓] Go.wp_at_zero Go.wp_at_succ

namespace Dsk
def pl (part : Int) (x : Wk) : Nat := (part % ((x.b.length : Int) + 1)).toNat
def stp (k : Nat) (part : Int) (fs : Files) (i : Nat) (x : Wk) : Files :=
  if i < k then (do1 fs x).getD fs
  else if i = k ∧ x.kind = 0 ∧ 0 < pl part x then put fs x.name (val fs x.name ++ x.b.take (pl part x)) else fs
def cr (k : Nat) (part : Int) (fs : Files) (l : List Wk) : Nat → Files
  | 0 => fs
  | j + 1 => match l[j]? with | some x => stp k part (cr k part fs l j) j x | none => cr k part fs l j
def Dk.crash (d : Dk) (done part : Int) : Dk :=
  { d with done := cr (done % ((d.pend.length : Int) + 1)).toNat part d.done d.pend d.pend.length, now := cr (done % ((d.pend.length : Int) + 1)).toNat part d.done d.pend d.pend.length, pend := [], dead := false, fuse := -1 }
theorem do2_some {room : Nat} {fs g : Files} {x : Wk} (h : do2 room fs x = some g) : do1 fs x = some g ∧ used g ≤ room ∧ g.length ≤ 1000000 := by
  unfold do2 at h
  split at h
  · rename_i g' hg'
    split at h
    · rename_i hc
      simp only [Option.some.injEq] at h; subst h; exact ⟨hg', hc⟩
    · cases h
  · cases h
theorem run_take {room : Nat} : ∀ {l : List Wk} {fs g : Files}, run room fs l = some g → ∀ j, ∃ h, run room fs (l.take j) = some h
  | _, fs, _, _, 0 => ⟨fs, by simp [run]⟩
  | [], fs, g, h, j + 1 => ⟨fs, by simp [run]⟩
  | x :: l, fs, g, h, j + 1 => by
    rw [List.take_succ_cons]
    unfold run at h ⊢
    cases hx : do2 room fs x with
    | none => rw [hx] at h; cases h
    | some g' => rw [hx] at h; exact run_take h j
theorem run_step {room : Nat} {l : List Wk} {fs g h : Files} {x : Wk} (hr : run room fs l = some g) {j : Nat} (hj : l[j]? = some x) (ht : run room fs (l.take j) = some h) : ∃ h', do2 room h x = some h' ∧ run room fs (l.take (j + 1)) = some h' := by
  obtain ⟨h', hh⟩ := run_take hr (j + 1)
  have hlt : j < l.length := (List.getElem?_eq_some_iff.1 hj).1
  have e : l.take (j + 1) = l.take j ++ [x] := by
    rw [List.take_add_one, hj]; rfl
  have := hh
  rw [e, run_snoc, ht] at this
  exact ⟨h', this, hh⟩
theorem apart_do1 {fs g : Files} {x : Wk} (h : Apart fs) (hd : do1 fs x = some g) : Apart g := by
  unfold do1 at hd
  split at hd
  · simp only [Option.some.injEq] at hd; subst hd; exact apart_put h _ _
  · split at hd
    · simp only [Option.some.injEq] at hd; subst hd; exact apart_put h _ _
    · cases hd
  · simp only [Option.some.injEq] at hd; subst hd; exact apart_put (apart_del h _) _ _
  · simp only [Option.some.injEq] at hd; subst hd; exact apart_del h _
theorem cr_succ {k : Nat} {part : Int} {fs : Files} {l : List Wk} {j : Nat} {x : Wk} (hj : l[j]? = some x) : cr k part fs l (j + 1) = stp k part (cr k part fs l j) j x := by
  rw [cr, hj]
structure CrOk (room k : Nat) (part : Int) (fs : Files) (l : List Wk) (j : Nat) : Prop where
  run : j ≤ k → run room fs (l.take j) = some (cr k part fs l j)
  used : used (cr k part fs l j) ≤ room
  len : (cr k part fs l j).length ≤ 1000000
  len' : (cr k part fs l j).length ≤ fs.length + j
  ap : Apart (cr k part fs l j)
theorem cr_ok {room k : Nat} {part : Int} {fs g : Files} {l : List Wk} (hr : Dsk.run room fs l = some g) (hu : Dsk.used fs ≤ room) (hl : fs.length ≤ 1000000) (ha : Apart fs) : ∀ j, j ≤ l.length → CrOk room k part fs l j
  | 0, _ => ⟨fun _ => by simp [Dsk.run, cr], hu, hl, Nat.le_refl _, ha⟩
  | j + 1, hj => by
    have ih := cr_ok (k := k) (part := part) hr hu hl ha j (by omega)
    have hx : l[j]? = some (l[j]'(by omega)) := List.getElem?_eq_getElem _
    generalize l[j]'(by omega) = x at hx
    have e := cr_succ (k := k) (part := part) (fs := fs) hx
    by_cases h1 : j < k
    · obtain ⟨h', hd, hrun⟩ := run_step hr hx (ih.run (by omega))
      obtain ⟨d1, d2, d3⟩ := do2_some hd
      have e2 : cr k part fs l (j + 1) = h' := by rw [e, stp, if_pos h1, d1]; rfl
      have h4 := do1_len _ _ _ d1
      have h5 := ih.len'
      exact ⟨fun _ => by rw [e2]; exact hrun, by rw [e2]; exact d2, by rw [e2]; exact d3, by rw [e2]; omega, by rw [e2]; exact apart_do1 ih.ap d1⟩
    · by_cases h2 : j = k ∧ x.kind = 0 ∧ 0 < pl part x
      · have e2 : cr k part fs l (j + 1) = put (cr k part fs l j) x.name (val (cr k part fs l j) x.name ++ x.b.take (pl part x)) := by rw [e, stp, if_neg h1, if_pos h2]
        obtain ⟨h', hd, hrun⟩ := run_step hr hx (ih.run (by omega))
        obtain ⟨d1, d2, d3⟩ := do2_some hd
        have hg : h' = put (cr k part fs l j) x.name (val (cr k part fs l j) x.name ++ x.b) := by
          unfold do1 at d1; rw [h2.2.1] at d1; simpa using d1.symm
        have u1 := used_put ih.ap x.name (val (cr k part fs l j) x.name ++ x.b)
        have u2 := used_put ih.ap x.name (val (cr k part fs l j) x.name ++ x.b.take (pl part x))
        rw [List.length_append] at u1 u2
        have u3 : (x.b.take (pl part x)).length ≤ x.b.length := by rw [List.length_take]; omega
        have l1 := len_put (cr k part fs l j) x.name (val (cr k part fs l j) x.name ++ x.b.take (pl part x))
        have l2 : (put (cr k part fs l j) x.name (val (cr k part fs l j) x.name ++ x.b.take (pl part x))).length = h'.length := by rw [hg]; rfl
        have h5 := ih.len'
        rw [hg] at d2
        refine ⟨fun hk => by omega, by rw [e2]; omega, by rw [e2, l2]; exact d3, by rw [e2]; omega, by rw [e2]; exact apart_put ih.ap _ _⟩
      · have e2 : cr k part fs l (j + 1) = cr k part fs l j := by rw [e, stp, if_neg h1, if_neg h2]
        have h5 := ih.len'
        exact ⟨fun hk => by omega, by rw [e2]; exact ih.used, by rw [e2]; exact ih.len, by rw [e2]; omega, by rw [e2]; exact ih.ap⟩
theorem Ok.crash {d : Dk} (h : Ok d) (ha : Apart d.done) (done part : Int) : Ok (d.crash done part) := by
  have hc := cr_ok (k := (done % ((d.pend.length : Int) + 1)).toNat) (part := part) h.run h.small.1 h.small.2 ha d.pend.length (Nat.le_refl _)
  have hp := h.pl
  have h5 := hc.len'
  exact ⟨rfl, h.room, ⟨hc.used, hc.len⟩, hc.used, by show (cr _ _ _ _ _).length ≤ d.works; omega, by show (cr _ _ _ _ _).length + 0 ≤ d.works; omega, fun x hx => by simp [Dk.crash] at hx, h.works, ⟨Int.le_refl _, by show (-1 : Int) ≤ _; omega⟩⟩
end Dsk
theorem flat5 : ∀ (ps : List Pd) (j i : Nat) (p : Pd), ps[j]? = some p → i < 5 → (ps.flatMap Pd.cells)[j * 5 + i]? = p.cells[i]?
  | [], j, i, p, h, _ => by simp at h
  | u :: r, 0, i, p, h, hi => by
    simp at h; subst h
    rw [List.flatMap_cons, Nat.zero_mul, Nat.zero_add, List.getElem?_append_left (by simpa [Pd.cells] using hi)]
  | u :: r, j + 1, i, p, h, hi => by
    have := flat5 r j i p (by simpa using h) hi
    rw [List.flatMap_cons, List.getElem?_append_right (by simp [Pd.cells]; omega), ← this]
    congr 1
    simp [Pd.cells]; omega
theorem Pends.elem {w : World} {lo : Nat} {v : Value} {l : List Dsk.Wk} (h : Pends w lo v l) {j : Nat} {x : Dsk.Wk} (hj : l[j]? = some x) :
    ∃ g cap a c, v = .slice (some ⟨g, 0, none⟩) l.length cap ∧ Keeps w a x.b.length c x.b ∧
      w.cell? ⟨g, j * 5, none⟩ = some (.int .i64 (x.kind : Int)) ∧ w.cell? ⟨g, j * 5 + 1, none⟩ = some (.string (str x.name)) ∧ w.cell? ⟨g, j * 5 + 2, none⟩ = some (.string (str x.dst)) ∧ w.cell? ⟨g, j * 5 + 3, none⟩ = some (.slice a x.b.length c) ∧ w.cell? ⟨g, j * 5 + 4, none⟩ = some (.int .i64 (x.n : Int)) := by
  obtain ⟨ps, rfl, h2, h3⟩ := h
  rw [List.getElem?_map, Option.map_eq_some_iff] at hj
  obtain ⟨p, hp, rfl⟩ := hj
  have hlt : j < ps.length := (List.getElem?_eq_some_iff.1 hp).1
  rcases h3.2 with ⟨_, hx⟩ | ⟨g, cap, cur, rfl, _, hg, _⟩
  · omega
  · refine ⟨g, cap, p.a, p.c, by rw [List.length_map], h2 p (List.mem_of_getElem? hp), ?_⟩
    have key : ∀ i, i < 5 → w.cell? ⟨g, j * 5 + i, none⟩ = p.cells[i]? := fun i hi => by
      have hc : p.cells[i]? = some (p.cells[i]'(by simpa [Pd.cells] using hi)) := List.getElem?_eq_getElem _
      rw [hc]
      have := h3.cells (g := g) rfl (j * 5 + i) _ ((flat5 ps j i p hp hi).trans hc)
      rw [Addr.add_lit, Nat.zero_add] at this
      exact this
    exact ⟨key 0 (by omega), key 1 (by omega), key 2 (by omega), key 3 (by omega), key 4 (by omega)⟩
end Go.Proofs.YthampbiabkfmoaaGreatDoor
/- Crash walked. -/
namespace Go.Proofs.YthampbiabkfmoaaGreatDoor
open Go.RowKit Go.Tap Go.Maps
set_option linter.unusedVariables false
attribute [local go_sem ↓] Go.wp_at_zero Go.wp_at_succ

theorem wkS1 {w' : World} {T B bd bn : Nat} {pv : Value} {d : Dsk.Dk} {v0 v1 v2 v3 v4 : Value} (h1 : w'.heap[T]? = some (.cells #[v0, v1, v2, v3, v4] 110 (0, 0))) (h2 : w'.heap[B]? = some (.cells (Dcells d bd bn pv) 64 (0, 0))) :
    w'.cell? ⟨B, 1, none⟩ = some (.map (some bd)) ∧ w'.cell? ⟨T, 0, none⟩ = some v0 ∧ w'.cell? ⟨T, 1, none⟩ = some v1 ∧ w'.cell? ⟨T, 2, none⟩ = some v2 ∧ w'.cell? ⟨T, 3, none⟩ = some v3 ∧ w'.cell? ⟨T, 4, none⟩ = some v4 :=
  ⟨blk_cell (i := 1) h2 rfl, blk_cell (i := 0) h1 rfl, blk_cell (i := 1) h1 rfl, blk_cell (i := 2) h1 rfl, blk_cell (i := 3) h1 rfl, blk_cell (i := 4) h1 rfl⟩
theorem Keeps.take {w : World} {a : Option Addr} {n c : Nat} {b : List UInt8} (h : Keeps w a n c b) {p : Nat} (hp : p ≤ n) : Keeps w a p c (b.take p) :=
  ⟨h.rds.take hp, fun h0 k o e => h.u8 (by omega) k o e, by have := h.le; omega, h.none⟩
/-- A block that is new since w turns. -/
theorem stay_setLate {S : Nat → Prop} {w w1 w2 : World} {T : Nat} (h : TStay S w w1) (k : TStay (fun i => i = T) w1 w2) (hT : w.heap.size ≤ T) : TStay S w w2 :=
  h.trans k (fun i hi e => by omega)
end Go.Proofs.YthampbiabkfmoaaGreatDoor
