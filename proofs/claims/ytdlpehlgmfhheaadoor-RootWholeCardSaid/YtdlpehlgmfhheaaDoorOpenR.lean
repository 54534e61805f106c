/- Arguments that came in, opened: a struct of three ints and a slice of ints; slices of structs of three ints and one of those. -/
import Derived.Test.YtdlpehlgmfhheaaDoorOpen
namespace Go
namespace Tap
open Go.ChangeShapes Go.WideShapes Go.Deep
set_option linter.unusedVariables false

structure SlI where
  a : Option Addr
  n : Nat
  c : Nat
  l : List Int
  deriving Inhabited
def SlI.val (s : SlI) : Value := .slice s.a s.n s.c
/-- A struct of three ints and a slice of ints. -/
structure RawD where
  gen : Int
  idx : Int
  how : Int
  s : SlI
  deriving Inhabited
def RawD.ok (r : RawD) : Prop := In64 r.gen ∧ In64 r.idx ∧ In64 r.how
def RawD.cells (r : RawD) : List Value := [.int .i64 r.gen, .int .i64 r.idx, .int .i64 r.how, r.s.val]
def ArgR (N : Nat) (w : World) (r : RawD) : Prop := r.ok ∧ ArgI N w r.s.a r.s.n r.s.c r.s.l
/-- A step of taprootlaw8. -/
structure StepR where
  what : Int
  n : Int
  cut : Int
  r : RawD
  deriving Inhabited
def StepR.ok (s : StepR) : Prop := In64 s.what ∧ In64 s.n ∧ In64 s.cut
def StepR.cells (s : StepR) : List Value := [.int .i64 s.what, .int .i64 s.n, .int .i64 s.cut] ++ s.r.cells
def ArgS7 (N : Nat) (w : World) (a : Option Addr) (n c : Nat) (xs : List StepR) : Prop :=
  ArgL N 7 72 (fun b o s => s.ok ∧ (∀ j, j < 7 → w.cell? ⟨b, o + j, none⟩ = s.cells[j]?) ∧ ArgR N w s.r) a n c xs
section
variable {H : Type} {enc : TypeId × Value → H} {P : Program} {w : World} {base : Nat} {held : Bool} {N : Nat} {Ok : TypeId → DataW H → Prop}
theorem open_raw {e i64 sl : TypeId} {f0 f1 f2 f3 : Field} {fuel : Nat} {cs : List Value} {x : DataW H × List MemPlace} (hs : Sized P N Ok) (hc : P.cellsOf e = 4)
    (he : P.underlying e = some (.struct #[f0, f1, f2, f3])) (hf0 : f0.type = i64 ∧ f0.offset = 0) (hf1 : f1.type = i64 ∧ f1.offset = 1) (hf2 : f2.type = i64 ∧ f2.offset = 2) (hf3 : f3.type = sl ∧ f3.offset = 3)
    (hi : P.underlying i64 = some (.int .i64)) (hci : P.cellsOf i64 = 1) (hbi : P.bytesOf i64 = 8) (hsl : P.underlying sl = some (.slice i64)) (hcs : P.cellsOf sl = 1)
    (h : DataW.trod enc P w base (fun _ => true) held fuel e cs = some x) (hok : Ok e x.1) : ∃ r : RawD, cs = r.cells ∧ ArgR N w r := by
  obtain ⟨xs, n, _, hx, hlen, hxl, hf⟩ := DataW.trod_struct he h
  subst hx
  rw [hc] at hlen
  match xs, hxl with
  | [y0, y1, y2, y3], _ =>
    have g0 := hf 0 f0 rfl
    have g1 := hf 1 f1 rfl
    have g2 := hf 2 f2 rfl
    have g3 := hf 3 f3 rfl
    match cs, hlen with
    | [c0, c1, c2, c3], _ =>
      rw [hf0.1, hf0.2, hci] at g0
      rw [hf1.1, hf1.2, hci] at g1
      rw [hf2.1, hf2.2, hci] at g2
      rw [hf3.1, hf3.2, hcs] at g3
      simp at g0 g1 g2 g3
      obtain ⟨z0, e0, _, w0⟩ := DataW.trod_int hi g0
      obtain ⟨z1, e1, _, w1⟩ := DataW.trod_int hi g1
      obtain ⟨z2, e2, _, w2⟩ := DataW.trod_int hi g2
      have ho2 : Ok sl y3.1 := by have := hs.part e _ _ he hok 3 f3 y3.1 rfl rfl; rwa [hf3.1] at this
      obtain ⟨a, n, c, l, e3, hl⟩ := open_ints64 hs hsl hi hci hbi g3 ho2
      simp at e0 e1 e2
      subst e0; subst e1; subst e2; subst e3
      exact ⟨⟨z0, z1, z2, ⟨a, n, c, l⟩⟩, rfl, ⟨wf_i64 w0, wf_i64 w1, wf_i64 w2⟩, hl⟩
theorem open_steps7 {t e i64 rw_ sl : TypeId} {f0 f1 f2 f3 g0 g1 g2 g3 : Field} {fuel : Nat} {v : Value} {x : DataW H × List MemPlace} (hs : Sized P N Ok) (ht : P.underlying t = some (.slice e)) (hc : P.cellsOf e = 7) (hby : P.bytesOf e = 72)
    (he : P.underlying e = some (.struct #[f0, f1, f2, f3])) (hf0 : f0.type = i64 ∧ f0.offset = 0) (hf1 : f1.type = i64 ∧ f1.offset = 1) (hf2 : f2.type = i64 ∧ f2.offset = 2) (hf3 : f3.type = rw_ ∧ f3.offset = 3)
    (hcr : P.cellsOf rw_ = 4) (hr : P.underlying rw_ = some (.struct #[g0, g1, g2, g3])) (hg0 : g0.type = i64 ∧ g0.offset = 0) (hg1 : g1.type = i64 ∧ g1.offset = 1) (hg2 : g2.type = i64 ∧ g2.offset = 2) (hg3 : g3.type = sl ∧ g3.offset = 3)
    (hi : P.underlying i64 = some (.int .i64)) (hci : P.cellsOf i64 = 1) (hbi : P.bytesOf i64 = 8) (hsl : P.underlying sl = some (.slice i64)) (hcs : P.cellsOf sl = 1)
    (h : DataW.trod enc P w base (fun _ => true) held fuel t [v] = some x) (hok : Ok t x.1) : ∃ a n c xs, v = .slice a n c ∧ ArgS7 N w a n c xs := by
  obtain ⟨a, n, c, xs, rfl, h1, h2, h3, h4, h5, h6⟩ := open_list (α := StepR) hs ht hc (by omega) hby (by omega) (by omega) (fun cs s => cs = s.cells ∧ s.ok ∧ ArgR N w s.r) (fun cs d pl m hd ho => by
    obtain ⟨xs, n, _, hx, hlen, hxl, hf⟩ := DataW.trod_struct he hd
    simp only [Prod.mk.injEq] at hx
    obtain ⟨rfl, _⟩ := hx
    rw [hc] at hlen
    match xs, hxl with
    | [y0, y1, y2, y3], _ =>
      have g0' := hf 0 f0 rfl
      have g1' := hf 1 f1 rfl
      have g2' := hf 2 f2 rfl
      have g3' := hf 3 f3 rfl
      match cs, hlen with
      | [c0, c1, c2, c3, c4, c5, c6], _ =>
        rw [hf0.1, hf0.2, hci] at g0'
        rw [hf1.1, hf1.2, hci] at g1'
        rw [hf2.1, hf2.2, hci] at g2'
        rw [hf3.1, hf3.2, hcr] at g3'
        simp at g0' g1' g2' g3'
        obtain ⟨z0, e0, _, w0⟩ := DataW.trod_int hi g0'
        obtain ⟨z1, e1, _, w1⟩ := DataW.trod_int hi g1'
        obtain ⟨z2, e2, _, w2⟩ := DataW.trod_int hi g2'
        have ho2 : Ok rw_ y3.1 := by have := hs.part e _ _ he ho 3 f3 y3.1 rfl rfl; rwa [hf3.1] at this
        obtain ⟨r, e3, hl⟩ := open_raw hs hcr hr hg0 hg1 hg2 hg3 hi hci hbi hsl hcs g3' ho2
        simp at e0 e1 e2
        simp only [RawD.cells, List.cons.injEq, and_true] at e3
        obtain ⟨rfl, rfl, rfl, rfl⟩ := e3
        subst e0; subst e1; subst e2
        exact ⟨⟨z0, z1, z2, r⟩, rfl, ⟨wf_i64 w0, wf_i64 w1, wf_i64 w2⟩, hl⟩) h hok
  refine ⟨a, n, c, xs, rfl, h1, fun hn => ?_, h3, h4, h5, h6⟩
  obtain ⟨b, o, e, hx⟩ := h2 hn
  refine ⟨b, o, e, fun i y hy => ?_⟩
  obtain ⟨cs, _, ⟨rfl, hy1, hy2⟩, hcell⟩ := hx i y hy
  exact ⟨hy1, hcell, hy2⟩
end
end Tap
end Go
