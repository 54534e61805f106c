/- Arguments that came in, opened: slices of structs of five ints and a slice of bytes. -/
import Derived.Test.YtdlpehlgmfhheaaDoorOpen
namespace Go
namespace Tap
open Go.ChangeShapes Go.WideShapes Go.Deep
set_option linter.unusedVariables false

/-- A struct of five ints and a slice of bytes. -/
structure StepE where
  what : Int
  nm : Int
  tt : Int
  n : Int
  cut : Int
  b : SlD
  deriving Inhabited
def In64 (z : Int) : Prop := -9223372036854775808 ≤ z ∧ z ≤ 9223372036854775807
def StepE.ok (s : StepE) : Prop := In64 s.what ∧ In64 s.nm ∧ In64 s.tt ∧ In64 s.n ∧ In64 s.cut
def StepE.cells (s : StepE) : List Value := [.int .i64 s.what, .int .i64 s.nm, .int .i64 s.tt, .int .i64 s.n, .int .i64 s.cut, s.b.val]
def ArgS6 (N : Nat) (w : World) (a : Option Addr) (n c : Nat) (xs : List StepE) : Prop :=
  ArgL N 6 64 (fun b o s => s.ok ∧ (∀ j, j < 6 → w.cell? ⟨b, o + j, none⟩ = s.cells[j]?) ∧ ArgB N w s.b.a s.b.n s.b.c s.b.l) a n c xs
section
variable {H : Type} {enc : TypeId × Value → H} {P : Program} {w : World} {base : Nat} {held : Bool} {N : Nat} {Ok : TypeId → DataW H → Prop}
theorem open_steps6 {t e i64 u8 sl : TypeId} {f0 f1 f2 f3 f4 f5 : Field} {fuel : Nat} {v : Value} {x : DataW H × List MemPlace} (hs : Sized P N Ok) (ht : P.underlying t = some (.slice e)) (hc : P.cellsOf e = 6) (hby : P.bytesOf e = 64)
    (he : P.underlying e = some (.struct #[f0, f1, f2, f3, f4, f5])) (hf0 : f0.type = i64 ∧ f0.offset = 0) (hf1 : f1.type = i64 ∧ f1.offset = 1) (hf2 : f2.type = i64 ∧ f2.offset = 2) (hf3 : f3.type = i64 ∧ f3.offset = 3) (hf4 : f4.type = i64 ∧ f4.offset = 4) (hf5 : f5.type = sl ∧ f5.offset = 5)
    (hi : P.underlying i64 = some (.int .i64)) (hci : P.cellsOf i64 = 1) (hsl : P.underlying sl = some (.slice u8)) (hcs : P.cellsOf sl = 1) (hu : P.underlying u8 = some (.int .u8)) (hc' : P.cellsOf u8 = 1) (hby' : P.bytesOf u8 = 1)
    (h : DataW.trod enc P w base (fun _ => true) held fuel t [v] = some x) (hok : Ok t x.1) : ∃ a n c xs, v = .slice a n c ∧ ArgS6 N w a n c xs := by
  obtain ⟨a, n, c, xs, rfl, h1, h2, h3, h4, h5, h6⟩ := open_list (α := StepE) hs ht hc (by omega) hby (by omega) (by omega) (fun cs s => cs = s.cells ∧ s.ok ∧ ArgB N w s.b.a s.b.n s.b.c s.b.l) (fun cs d pl m hd ho => by
    obtain ⟨xs, n, _, hx, hlen, hxl, hf⟩ := DataW.trod_struct he hd
    simp only [Prod.mk.injEq] at hx
    obtain ⟨rfl, _⟩ := hx
    rw [hc] at hlen
    match xs, hxl with
    | [y0, y1, y2, y3, y4, y5], _ =>
      have g0 := hf 0 f0 rfl
      have g1 := hf 1 f1 rfl
      have g2 := hf 2 f2 rfl
      have g3 := hf 3 f3 rfl
      have g4 := hf 4 f4 rfl
      have g5 := hf 5 f5 rfl
      match cs, hlen with
      | [c0, c1, c2, c3, c4, c5], _ =>
        rw [hf0.1, hf0.2, hci] at g0
        rw [hf1.1, hf1.2, hci] at g1
        rw [hf2.1, hf2.2, hci] at g2
        rw [hf3.1, hf3.2, hci] at g3
        rw [hf4.1, hf4.2, hci] at g4
        rw [hf5.1, hf5.2, hcs] at g5
        simp at g0 g1 g2 g3 g4 g5
        obtain ⟨z0, e0, _, w0⟩ := DataW.trod_int hi g0
        obtain ⟨z1, e1, _, w1⟩ := DataW.trod_int hi g1
        obtain ⟨z2, e2, _, w2⟩ := DataW.trod_int hi g2
        obtain ⟨z3, e3, _, w3⟩ := DataW.trod_int hi g3
        obtain ⟨z4, e4, _, w4⟩ := DataW.trod_int hi g4
        have ho2 : Ok sl y5.1 := by have := hs.part e _ _ he ho 5 f5 y5.1 rfl rfl; rwa [hf5.1] at this
        obtain ⟨a, n, c, l, e5, hl⟩ := open_bytes hs hsl hu hc' hby' g5 ho2
        simp at e0 e1 e2 e3 e4
        subst e0; subst e1; subst e2; subst e3; subst e4; subst e5
        exact ⟨⟨z0, z1, z2, z3, z4, ⟨a, n, c, l⟩⟩, rfl, ⟨wf_i64 w0, wf_i64 w1, wf_i64 w2, wf_i64 w3, wf_i64 w4⟩, hl⟩) h hok
  refine ⟨a, n, c, xs, rfl, h1, fun hn => ?_, h3, h4, h5, h6⟩
  obtain ⟨b, o, e, hx⟩ := h2 hn
  refine ⟨b, o, e, fun i y hy => ?_⟩
  obtain ⟨cs, _, ⟨rfl, hy1, hy2⟩, hcell⟩ := hx i y hy
  exact ⟨hy1, hcell, hy2⟩
end
end Tap
end Go
