/- Arguments that came in, opened: slices of bytes, of ints, of structs, of slices. -/
import Derived.ProofKit
import Derived.OpenShut
import Derived.SizedLaws
import Derived.Deep.Slices
import Derived.Deep.Strs
import Derived.Test.YthampbiabkfmoaaGreatDoorAid
namespace Go
namespace Tap
open Go.ChangeShapes Go.WideShapes Go.Deep
set_option linter.unusedVariables false

/-- What bounds the sizes in a reading. -/
structure Sized {H : Type} (P : Program) (N : Nat) (Ok : TypeId → DataW H → Prop) : Prop where
  slice : ∀ t e es sp, P.underlying t = some (.slice e) → 1 ≤ P.bytesOf e → P.bytesOf e ≤ 1048576 → Ok t (.slice es sp) → es.length + sp.length ≤ N ∧ (es.length + sp.length) * P.bytesOf e ≤ reachBytes
  elem : ∀ t e es sp, P.underlying t = some (.slice e) → Ok t (.slice es sp) → ∀ d, d ∈ es ∨ d ∈ sp → Ok e d
  part : ∀ t (fs : Array Field) ds, P.underlying t = some (.struct fs) → Ok t (.agg ds) → ∀ (i : Nat) (f : Field) (d : DataW H), fs[i]? = some f → ds[i]? = some d → Ok f.type d

theorem weightsAll_mem {H : Type} {P : Program} {e : TypeId} : ∀ {l : List (DataW H)} {d : DataW H}, d ∈ l → ∀ n ∈ d.weights P e, n ∈ DataW.weightsAll P e l
  | [], _, h, _, _ => by cases h
  | x :: r, d, h, n, hn => by
    rcases List.mem_cons.1 h with rfl | h
    · simp [DataW.weightsAll, hn]
    · simp [DataW.weightsAll, weightsAll_mem h n hn]

/-- The form's own reach. -/
theorem sized_reach {H : Type} (P : Program) : Sized (H := H) P reachBytes (fun t d => ∀ n ∈ d.weights P t, n ≤ reachBytes) := by
  refine ⟨fun t e es sp ht h1 _ h => ?_, fun t e es sp ht h d hd n hn => ?_, fun t fs ds ht h i f d hf hd n hn => ?_⟩
  · have := h ((es.length + sp.length) * P.bytesOf e) (by simp [DataW.weights, ht])
    exact ⟨Nat.le_trans (Nat.le_mul_of_pos_right _ h1) this, this⟩
  · refine h n ?_
    simp only [DataW.weights, ht, List.mem_cons, List.mem_append]
    rcases hd with hd | hd
    · exact .inr (.inl (weightsAll_mem hd n hn))
    · exact .inr (.inr (weightsAll_mem hd n hn))
  · refine h n ?_
    simp only [DataW.weights, ht]
    exact DataW.weights_mem_each (by simp [hf]) hd n hn

/-- A slice of bytes that came in. -/
structure ArgB (N : Nat) (w : World) (a : Option Addr) (n c : Nat) (l : List UInt8) : Prop where
  rds : Rds w a n l
  le : n ≤ c
  none : a = none → c = 0
  cap : c ≤ N
  reach : c ≤ 140737488351232
/-- A slice of whatever that came in: element i lies 'size' cells further; R says what stands there. -/
structure ArgL {α : Type} (N size bytes : Nat) (R : Nat → Nat → α → Prop) (a : Option Addr) (n c : Nat) (xs : List α) : Prop where
  len : xs.length = n
  at_ : 0 < n → ∃ b o, a = some ⟨b, o, none⟩ ∧ ∀ i x, xs[i]? = some x → R b (o + i * size) x
  le : n ≤ c
  none : a = none → c = 0
  cap : c ≤ N
  reach : c * bytes ≤ 140737488351232

section
variable {H : Type} {enc : TypeId × Value → H} {P : Program} {w : World} {base : Nat} {held : Bool} {N : Nat} {Ok : TypeId → DataW H → Prop}

theorem open_list {α : Type} [Inhabited α] {t e : TypeId} {fuel size bytes : Nat} {v : Value} {x : DataW H × List MemPlace} (hs : Sized P N Ok) (ht : P.underlying t = some (.slice e)) (hc : P.cellsOf e = size) (h0 : 0 < size)
    (hby : P.bytesOf e = bytes) (hb1 : 1 ≤ bytes) (hb2 : bytes ≤ 1048576)
    (S : List Value → α → Prop) (hS : ∀ cs d pl m, DataW.trod enc P w base (fun _ => true) held m e cs = some (d, pl) → Ok e d → ∃ y, S cs y)
    (h : DataW.trod enc P w base (fun _ => true) held fuel t [v] = some x) (hok : Ok t x.1) :
    ∃ a n c xs, v = .slice a n c ∧ ArgL N size bytes (fun b o y => ∃ cs, cs.length = size ∧ S cs y ∧ ∀ j, j < size → w.cell? ⟨b, o + j, none⟩ = cs[j]?) a n c xs := by
  rcases open_slice ht h with ⟨hv, rfl⟩ | ⟨a, len, cap, m, n, D, Pl, hv, hb, hl, hm, hmm, rfl, hx⟩
  · simp at hv; subst hv
    exact ⟨_, _, _, [], rfl, rfl, fun h => absurd h (by omega), Nat.le_refl _, fun _ => rfl, Nat.zero_le _, by omega⟩
  · simp at hv; subst hv
    simp only [if_true] at hmm
    subst hmm
    have hsz := hs.slice t e _ _ ht (by omega) (by omega) hok
    simp only [List.length_map, List.length_range, hby] at hsz
    have helem := hs.elem t e _ _ ht hok
    have hD : ∀ i, i < len → ∃ y, ∃ cs, cs.length = size ∧ S cs y ∧ w.cells? base (a.add (i * size)) size = some cs := by
      intro i hi
      obtain ⟨cs, h1, h2⟩ := hx i (by omega)
      have hd : Ok e (D i) := helem (D i) (.inl (List.mem_map.2 ⟨i, by simpa using hi, rfl⟩))
      obtain ⟨y, hy⟩ := hS cs _ _ _ h2 hd
      rw [hc] at h1
      exact ⟨y, cs, (World.cells?_some h1).2.1, hy, h1⟩
    obtain ⟨f, hf⟩ := choose_lt hD
    refine ⟨some a, len, m, (List.range len).map f, rfl, by simp, fun hp => ?_, hl, (fun h => by cases h), by omega, ?_⟩
    · obtain ⟨cs, hcl, _, hcs⟩ := hf 0 hp
      obtain ⟨_, _, hcells⟩ := World.cells?_some hcs
      have hc0 := hcells 0 h0
      rw [Nat.zero_mul] at hc0
      have hsp : a.spot = none := by
        have h1 : cs[0]? = some (cs[0]'(by omega)) := List.getElem?_eq_getElem _
        rw [h1] at hc0
        have := World.cell?_spot hc0
        simpa [Addr.add] using this
      obtain ⟨b, o, sp⟩ := a
      simp only at hsp; subst hsp
      refine ⟨b, o, rfl, fun i y hy => ?_⟩
      have hi : i < len := by have := (List.getElem?_eq_some_iff.1 hy).1; simpa using this
      obtain ⟨cs, hcl, hsy, hcs⟩ := hf i hi
      obtain ⟨_, _, hcells⟩ := World.cells?_some hcs
      have hy' : y = f i := by simp [hi] at hy; exact hy.symm
      subst hy'
      refine ⟨cs, hcl, hsy, fun j hj => ?_⟩
      have := hcells j hj
      rw [Addr.add_lit, Addr.add_lit] at this
      exact this
    · have h2 := hsz.2
      unfold reachBytes at h2
      rw [show len + (m - len) = m by omega] at h2
      exact h2

theorem open_bytes {t e : TypeId} {fuel : Nat} {v : Value} {x : DataW H × List MemPlace} (hs : Sized P N Ok) (ht : P.underlying t = some (.slice e)) (he : P.underlying e = some (.int .u8)) (hc : P.cellsOf e = 1) (hby : P.bytesOf e = 1)
    (h : DataW.trod enc P w base (fun _ => true) held fuel t [v] = some x) (hok : Ok t x.1) : ∃ a n c l, v = .slice a n c ∧ ArgB N w a n c l := by
  obtain ⟨a, n, c, xs, rfl, h1, h2, h3, h4, h5, h6⟩ := open_list (α := UInt8) hs ht hc (by omega) hby (by omega) (by omega) (fun cs y => cs = [.int .u8 (y.toNat : Int)]) (fun cs d pl m hd _ => by
    obtain ⟨z, rfl, hz, hw⟩ := DataW.trod_int he hd
    refine ⟨UInt8.ofNat z.toNat, ?_⟩
    have : 0 ≤ z ∧ z < 256 := by simp [Lit.wf, IntKind.min, IntKind.max, IntKind.bits, IntKind.signed] at hw; omega
    have e : ((UInt8.ofNat z.toNat).toNat : Int) = z := by simp; omega
    rw [e]) h hok
  refine ⟨a, n, c, xs, rfl, ⟨h1, fun hn => ?_⟩, h3, h4, h5, by omega⟩
  obtain ⟨b, o, e, hx⟩ := h2 hn
  refine ⟨b, o, e, fun i y hy => ?_⟩
  obtain ⟨cs, _, rfl, hcell⟩ := hx i y hy
  have := hcell 0 (by omega)
  simpa using this

/-- A slice of ints that came in. -/
def ArgI (N : Nat) (w : World) (a : Option Addr) (n c : Nat) (zs : List Int) : Prop :=
  ArgL N 1 8 (fun b o z => w.cell? ⟨b, o, none⟩ = some (.int .i64 z) ∧ -9223372036854775808 ≤ z ∧ z ≤ 9223372036854775807) a n c zs
theorem wf_i64 {z : Int} (h : (Lit.int .i64 z).wf = true) : -9223372036854775808 ≤ z ∧ z ≤ 9223372036854775807 := by
  simp [Lit.wf, IntKind.min, IntKind.max, IntKind.bits, IntKind.signed] at h; omega
theorem wf_u8 {z : Int} (h : (Lit.int .u8 z).wf = true) : 0 ≤ z ∧ z ≤ 255 := by
  simp [Lit.wf, IntKind.min, IntKind.max, IntKind.bits, IntKind.signed] at h; omega
theorem open_ints64 {t e : TypeId} {fuel : Nat} {v : Value} {x : DataW H × List MemPlace} (hs : Sized P N Ok) (ht : P.underlying t = some (.slice e)) (he : P.underlying e = some (.int .i64)) (hc : P.cellsOf e = 1) (hby : P.bytesOf e = 8)
    (h : DataW.trod enc P w base (fun _ => true) held fuel t [v] = some x) (hok : Ok t x.1) : ∃ a n c zs, v = .slice a n c ∧ ArgI N w a n c zs := by
  obtain ⟨a, n, c, xs, rfl, h1, h2, h3, h4, h5, h6⟩ := open_list (α := Int) hs ht hc (by omega) hby (by omega) (by omega) (fun cs y => cs = [.int .i64 y] ∧ -9223372036854775808 ≤ y ∧ y ≤ 9223372036854775807) (fun cs d pl m hd _ => by
    obtain ⟨z, rfl, hz, hw⟩ := DataW.trod_int he hd
    exact ⟨z, rfl, wf_i64 hw⟩) h hok
  refine ⟨a, n, c, xs, rfl, h1, fun hn => ?_, h3, h4, h5, h6⟩
  obtain ⟨b, o, e, hx⟩ := h2 hn
  refine ⟨b, o, e, fun i y hy => ?_⟩
  obtain ⟨cs, _, ⟨rfl, hy1⟩, hcell⟩ := hx i y hy
  have := hcell 0 (by omega)
  exact ⟨by simpa using this, hy1⟩

/-- A slice in a cell, with its bytes. -/
structure SlD where
  a : Option Addr
  n : Nat
  c : Nat
  l : List UInt8
  deriving Inhabited
def SlD.val (s : SlD) : Value := .slice s.a s.n s.c
/-- A slice of slices of bytes that came in. -/
def ArgBB (N : Nat) (w : World) (a : Option Addr) (n c : Nat) (xs : List SlD) : Prop :=
  ArgL N 1 24 (fun b o s => w.cell? ⟨b, o, none⟩ = some s.val ∧ ArgB N w s.a s.n s.c s.l) a n c xs
theorem trod_cells_slice {t e : TypeId} {fuel : Nat} {cs : List Value} {x : DataW H × List MemPlace} (ht : P.underlying t = some (.slice e)) (h : DataW.trod enc P w base (fun _ => true) held fuel t cs = some x) : ∃ v, cs = [v] := by
  rcases open_slice ht h with ⟨rfl, _⟩ | ⟨a, len, cap, m, n, D, Pl, rfl, _⟩
  · exact ⟨_, rfl⟩
  · exact ⟨_, rfl⟩
theorem open_bytess {t e u : TypeId} {fuel : Nat} {v : Value} {x : DataW H × List MemPlace} (hs : Sized P N Ok) (ht : P.underlying t = some (.slice e)) (hc : P.cellsOf e = 1) (hby : P.bytesOf e = 24)
    (he : P.underlying e = some (.slice u)) (hu : P.underlying u = some (.int .u8)) (hc' : P.cellsOf u = 1) (hby' : P.bytesOf u = 1)
    (h : DataW.trod enc P w base (fun _ => true) held fuel t [v] = some x) (hok : Ok t x.1) : ∃ a n c xs, v = .slice a n c ∧ ArgBB N w a n c xs := by
  obtain ⟨a, n, c, xs, rfl, h1, h2, h3, h4, h5, h6⟩ := open_list (α := SlD) hs ht hc (by omega) hby (by omega) (by omega) (fun cs s => cs = [s.val] ∧ ArgB N w s.a s.n s.c s.l) (fun cs d pl m hd ho => by
    obtain ⟨v, rfl⟩ := trod_cells_slice he hd
    obtain ⟨a, n, c, l, rfl, hl⟩ := open_bytes hs he hu hc' hby' hd ho
    exact ⟨⟨a, n, c, l⟩, rfl, hl⟩) h hok
  refine ⟨a, n, c, xs, rfl, h1, fun hn => ?_, h3, h4, h5, h6⟩
  obtain ⟨b, o, e, hx⟩ := h2 hn
  refine ⟨b, o, e, fun i y hy => ?_⟩
  obtain ⟨cs, _, ⟨rfl, hy1⟩, hcell⟩ := hx i y hy
  have := hcell 0 (by omega)
  exact ⟨by simpa using this, hy1⟩

/-- A struct of two ints and a slice of bytes. -/
structure StepD where
  what : Int
  n : Int
  b : SlD
  deriving Inhabited
def StepD.ok (s : StepD) : Prop := (-9223372036854775808 ≤ s.what ∧ s.what ≤ 9223372036854775807) ∧ -9223372036854775808 ≤ s.n ∧ s.n ≤ 9223372036854775807
def ArgSt (N : Nat) (w : World) (a : Option Addr) (n c : Nat) (xs : List StepD) : Prop :=
  ArgL N 3 40 (fun b o s => s.ok ∧ w.cell? ⟨b, o, none⟩ = some (.int .i64 s.what) ∧ w.cell? ⟨b, o + 1, none⟩ = some (.int .i64 s.n) ∧ w.cell? ⟨b, o + 2, none⟩ = some s.b.val ∧ ArgB N w s.b.a s.b.n s.b.c s.b.l) a n c xs
theorem open_steps {t e i64 u8 sl : TypeId} {f0 f1 f2 : Field} {fuel : Nat} {v : Value} {x : DataW H × List MemPlace} (hs : Sized P N Ok) (ht : P.underlying t = some (.slice e)) (hc : P.cellsOf e = 3) (hby : P.bytesOf e = 40)
    (he : P.underlying e = some (.struct #[f0, f1, f2])) (hf0 : f0.type = i64 ∧ f0.offset = 0) (hf1 : f1.type = i64 ∧ f1.offset = 1) (hf2 : f2.type = sl ∧ f2.offset = 2)
    (hi : P.underlying i64 = some (.int .i64)) (hci : P.cellsOf i64 = 1) (hsl : P.underlying sl = some (.slice u8)) (hcs : P.cellsOf sl = 1) (hu : P.underlying u8 = some (.int .u8)) (hc' : P.cellsOf u8 = 1) (hby' : P.bytesOf u8 = 1)
    (h : DataW.trod enc P w base (fun _ => true) held fuel t [v] = some x) (hok : Ok t x.1) : ∃ a n c xs, v = .slice a n c ∧ ArgSt N w a n c xs := by
  obtain ⟨a, n, c, xs, rfl, h1, h2, h3, h4, h5, h6⟩ := open_list (α := StepD) hs ht hc (by omega) hby (by omega) (by omega) (fun cs s => cs = [.int .i64 s.what, .int .i64 s.n, s.b.val] ∧ s.ok ∧ ArgB N w s.b.a s.b.n s.b.c s.b.l) (fun cs d pl m hd ho => by
    obtain ⟨y0, y1, y2, n, hx, hlen, g0, g1, g2⟩ := trod_struct3 he hd
    simp only [Prod.mk.injEq] at hx
    obtain ⟨rfl, _⟩ := hx
    rw [hc] at hlen
    match cs, hlen with
    | [c0, c1, c2], _ =>
      rw [hf0.1, hf0.2, hci] at g0
      rw [hf1.1, hf1.2, hci] at g1
      rw [hf2.1, hf2.2, hcs] at g2
      simp at g0 g1 g2
      obtain ⟨z0, e0, _, w0⟩ := DataW.trod_int hi g0
      obtain ⟨z1, e1, _, w1⟩ := DataW.trod_int hi g1
      have ho2 : Ok sl y2.1 := by have := hs.part e _ _ he ho 2 f2 y2.1 rfl rfl; rwa [hf2.1] at this
      obtain ⟨a, n, c, l, e2, hl⟩ := open_bytes hs hsl hu hc' hby' g2 ho2
      simp at e0 e1
      subst e0; subst e1; subst e2
      exact ⟨⟨z0, z1, ⟨a, n, c, l⟩⟩, rfl, ⟨wf_i64 w0, wf_i64 w1⟩, hl⟩) h hok
  refine ⟨a, n, c, xs, rfl, h1, fun hn => ?_, h3, h4, h5, h6⟩
  obtain ⟨b, o, e, hx⟩ := h2 hn
  refine ⟨b, o, e, fun i y hy => ?_⟩
  obtain ⟨cs, _, ⟨rfl, hy1, hy2⟩, hcell⟩ := hx i y hy
  exact ⟨hy1, by have := hcell 0 (by omega); simpa using this, by have := hcell 1 (by omega); simpa using this, by have := hcell 2 (by omega); simpa using this, hy2⟩
end
end Tap
end Go
/- Arguments that came in, opened: slices of structs of five ints and a slice of bytes. -/
namespace Go
namespace Tap
open Go.ChangeShapes Go.WideShapes Go.Deep
set_option linter.unusedVariables false

/-- A struct of five ints and a slice of bytes. -/
structure StepE where
  what : Int
  nm : Int
  tt : Int
  n : Int
  cut : Int
  b : SlD
  deriving Inhabited
def In64 (z : Int) : Prop := -9223372036854775808 ≤ z ∧ z ≤ 9223372036854775807
def StepE.ok (s : StepE) : Prop := In64 s.what ∧ In64 s.nm ∧ In64 s.tt ∧ In64 s.n ∧ In64 s.cut
def StepE.cells (s : StepE) : List Value := [.int .i64 s.what, .int .i64 s.nm, .int .i64 s.tt, .int .i64 s.n, .int .i64 s.cut, s.b.val]
def ArgS6 (N : Nat) (w : World) (a : Option Addr) (n c : Nat) (xs : List StepE) : Prop :=
  ArgL N 6 64 (fun b o s => s.ok ∧ (∀ j, j < 6 → w.cell? ⟨b, o + j, none⟩ = s.cells[j]?) ∧ ArgB N w s.b.a s.b.n s.b.c s.b.l) a n c xs
section
variable {H : Type} {enc : TypeId × Value → H} {P : Program} {w : World} {base : Nat} {held : Bool} {N : Nat} {Ok : TypeId → DataW H → Prop}
theorem open_steps6 {t e i64 u8 sl : TypeId} {f0 f1 f2 f3 f4 f5 : Field} {fuel : Nat} {v : Value} {x : DataW H × List MemPlace} (hs : Sized P N Ok) (ht : P.underlying t = some (.slice e)) (hc : P.cellsOf e = 6) (hby : P.bytesOf e = 64)
    (he : P.underlying e = some (.struct #[f0, f1, f2, f3, f4, f5])) (hf0 : f0.type = i64 ∧ f0.offset = 0) (hf1 : f1.type = i64 ∧ f1.offset = 1) (hf2 : f2.type = i64 ∧ f2.offset = 2) (hf3 : f3.type = i64 ∧ f3.offset = 3) (hf4 : f4.type = i64 ∧ f4.offset = 4) (hf5 : f5.type = sl ∧ f5.offset = 5)
    (hi : P.underlying i64 = some (.int .i64)) (hci : P.cellsOf i64 = 1) (hsl : P.underlying sl = some (.slice u8)) (hcs : P.cellsOf sl = 1) (hu : P.underlying u8 = some (.int .u8)) (hc' : P.cellsOf u8 = 1) (hby' : P.bytesOf u8 = 1)
    (h : DataW.trod enc P w base (fun _ => true) held fuel t [v] = some x) (hok : Ok t x.1) : ∃ a n c xs, v = .slice a n c ∧ ArgS6 N w a n c xs := by
  obtain ⟨a, n, c, xs, rfl, h1, h2, h3, h4, h5, h6⟩ := open_list (α := StepE) hs ht hc (by omega) hby (by omega) (by omega) (fun cs s => cs = s.cells ∧ s.ok ∧ ArgB N w s.b.a s.b.n s.b.c s.b.l) (fun cs d pl m hd ho => by
    obtain ⟨xs, n, _, hx, hlen, hxl, hf⟩ := DataW.trod_struct he hd
    simp only [Prod.mk.injEq] at hx
    obtain ⟨rfl, _⟩ := hx
    rw [hc] at hlen
    match xs, hxl with
    | [y0, y1, y2, y3, y4, y5], _ =>
      have g0 := hf 0 f0 rfl
      have g1 := hf 1 f1 rfl
      have g2 := hf 2 f2 rfl
      have g3 := hf 3 f3 rfl
      have g4 := hf 4 f4 rfl
      have g5 := hf 5 f5 rfl
      match cs, hlen with
      | [c0, c1, c2, c3, c4, c5], _ =>
        rw [hf0.1, hf0.2, hci] at g0
        rw [hf1.1, hf1.2, hci] at g1
        rw [hf2.1, hf2.2, hci] at g2
        rw [hf3.1, hf3.2, hci] at g3
        rw [hf4.1, hf4.2, hci] at g4
        rw [hf5.1, hf5.2, hcs] at g5
        simp at g0 g1 g2 g3 g4 g5
        obtain ⟨z0, e0, _, w0⟩ := DataW.trod_int hi g0
        obtain ⟨z1, e1, _, w1⟩ := DataW.trod_int hi g1
        obtain ⟨z2, e2, _, w2⟩ := DataW.trod_int hi g2
        obtain ⟨z3, e3, _, w3⟩ := DataW.trod_int hi g3
        obtain ⟨z4, e4, _, w4⟩ := DataW.trod_int hi g4
        have ho2 : Ok sl y5.1 := by have := hs.part e _ _ he ho 5 f5 y5.1 rfl rfl; rwa [hf5.1] at this
        obtain ⟨a, n, c, l, e5, hl⟩ := open_bytes hs hsl hu hc' hby' g5 ho2
        simp at e0 e1 e2 e3 e4
        subst e0; subst e1; subst e2; subst e3; subst e4; subst e5
        exact ⟨⟨z0, z1, z2, z3, z4, ⟨a, n, c, l⟩⟩, rfl, ⟨wf_i64 w0, wf_i64 w1, wf_i64 w2, wf_i64 w3, wf_i64 w4⟩, hl⟩) h hok
  refine ⟨a, n, c, xs, rfl, h1, fun hn => ?_, h3, h4, h5, h6⟩
  obtain ⟨b, o, e, hx⟩ := h2 hn
  refine ⟨b, o, e, fun i y hy => ?_⟩
  obtain ⟨cs, _, ⟨rfl, hy1, hy2⟩, hcell⟩ := hx i y hy
  exact ⟨hy1, hcell, hy2⟩
end
end Tap
end Go
/- Arguments that came in, opened: a struct of three ints and a slice of ints; slices of structs of three ints and one of those. -/
namespace Go
namespace Tap
open Go.ChangeShapes Go.WideShapes Go.Deep
set_option linter.unusedVariables false

structure SlI where
  a : Option Addr
  n : Nat
  c : Nat
  l : List Int
  deriving Inhabited
def SlI.val (s : SlI) : Value := .slice s.a s.n s.c
/-- A struct of three ints and a slice of ints. -/
structure RawD where
  gen : Int
  idx : Int
  how : Int
  s : SlI
  deriving Inhabited
def RawD.ok (r : RawD) : Prop := In64 r.gen ∧ In64 r.idx ∧ In64 r.how
def RawD.cells (r : RawD) : List Value := [.int .i64 r.gen, .int .i64 r.idx, .int .i64 r.how, r.s.val]
def ArgR (N : Nat) (w : World) (r : RawD) : Prop := r.ok ∧ ArgI N w r.s.a r.s.n r.s.c r.s.l
/-- A step of taprootlaw8. -/
structure StepR where
  what : Int
  n : Int
  cut : Int
  r : RawD
  deriving Inhabited
def StepR.ok (s : StepR) : Prop := In64 s.what ∧ In64 s.n ∧ In64 s.cut
def StepR.cells (s : StepR) : List Value := [.int .i64 s.what, .int .i64 s.n, .int .i64 s.cut] ++ s.r.cells
def ArgS7 (N : Nat) (w : World) (a : Option Addr) (n c : Nat) (xs : List StepR) : Prop :=
  ArgL N 7 72 (fun b o s => s.ok ∧ (∀ j, j < 7 → w.cell? ⟨b, o + j, none⟩ = s.cells[j]?) ∧ ArgR N w s.r) a n c xs
section
variable {H : Type} {enc : TypeId × Value → H} {P : Program} {w : World} {base : Nat} {held : Bool} {N : Nat} {Ok : TypeId → DataW H → Prop}
theorem open_raw {e i64 sl : TypeId} {f0 f1 f2 f3 : Field} {fuel : Nat} {cs : List Value} {x : DataW H × List MemPlace} (hs : Sized P N Ok) (hc : P.cellsOf e = 4)
    (he : P.underlying e = some (.struct #[f0, f1, f2, f3])) (hf0 : f0.type = i64 ∧ f0.offset = 0) (hf1 : f1.type = i64 ∧ f1.offset = 1) (hf2 : f2.type = i64 ∧ f2.offset = 2) (hf3 : f3.type = sl ∧ f3.offset = 3)
    (hi : P.underlying i64 = some (.int .i64)) (hci : P.cellsOf i64 = 1) (hbi : P.bytesOf i64 = 8) (hsl : P.underlying sl = some (.slice i64)) (hcs : P.cellsOf sl = 1)
    (h : DataW.trod enc P w base (fun _ => true) held fuel e cs = some x) (hok : Ok e x.1) : ∃ r : RawD, cs = r.cells ∧ ArgR N w r := by
  obtain ⟨xs, n, _, hx, hlen, hxl, hf⟩ := DataW.trod_struct he h
  subst hx
  rw [hc] at hlen
  match xs, hxl with
  | [y0, y1, y2, y3], _ =>
    have g0 := hf 0 f0 rfl
    have g1 := hf 1 f1 rfl
    have g2 := hf 2 f2 rfl
    have g3 := hf 3 f3 rfl
    match cs, hlen with
    | [c0, c1, c2, c3], _ =>
      rw [hf0.1, hf0.2, hci] at g0
      rw [hf1.1, hf1.2, hci] at g1
      rw [hf2.1, hf2.2, hci] at g2
      rw [hf3.1, hf3.2, hcs] at g3
      simp at g0 g1 g2 g3
      obtain ⟨z0, e0, _, w0⟩ := DataW.trod_int hi g0
      obtain ⟨z1, e1, _, w1⟩ := DataW.trod_int hi g1
      obtain ⟨z2, e2, _, w2⟩ := DataW.trod_int hi g2
      have ho2 : Ok sl y3.1 := by have := hs.part e _ _ he hok 3 f3 y3.1 rfl rfl; rwa [hf3.1] at this
      obtain ⟨a, n, c, l, e3, hl⟩ := open_ints64 hs hsl hi hci hbi g3 ho2
      simp at e0 e1 e2
      subst e0; subst e1; subst e2; subst e3
      exact ⟨⟨z0, z1, z2, ⟨a, n, c, l⟩⟩, rfl, ⟨wf_i64 w0, wf_i64 w1, wf_i64 w2⟩, hl⟩
theorem open_steps7 {t e i64 rw_ sl : TypeId} {f0 f1 f2 f3 g0 g1 g2 g3 : Field} {fuel : Nat} {v : Value} {x : DataW H × List MemPlace} (hs : Sized P N Ok) (ht : P.underlying t = some (.slice e)) (hc : P.cellsOf e = 7) (hby : P.bytesOf e = 72)
    (he : P.underlying e = some (.struct #[f0, f1, f2, f3])) (hf0 : f0.type = i64 ∧ f0.offset = 0) (hf1 : f1.type = i64 ∧ f1.offset = 1) (hf2 : f2.type = i64 ∧ f2.offset = 2) (hf3 : f3.type = rw_ ∧ f3.offset = 3)
    (hcr : P.cellsOf rw_ = 4) (hr : P.underlying rw_ = some (.struct #[g0, g1, g2, g3])) (hg0 : g0.type = i64 ∧ g0.offset = 0) (hg1 : g1.type = i64 ∧ g1.offset = 1) (hg2 : g2.type = i64 ∧ g2.offset = 2) (hg3 : g3.type = sl ∧ g3.offset = 3)
    (hi : P.underlying i64 = some (.int .i64)) (hci : P.cellsOf i64 = 1) (hbi : P.bytesOf i64 = 8) (hsl : P.underlying sl = some (.slice i64)) (hcs : P.cellsOf sl = 1)
    (h : DataW.trod enc P w base (fun _ => true) held fuel t [v] = some x) (hok : Ok t x.1) : ∃ a n c xs, v = .slice a n c ∧ ArgS7 N w a n c xs := by
  obtain ⟨a, n, c, xs, rfl, h1, h2, h3, h4, h5, h6⟩ := open_list (α := StepR) hs ht hc (by omega) hby (by omega) (by omega) (fun cs s => cs = s.cells ∧ s.ok ∧ ArgR N w s.r) (fun cs d pl m hd ho => by
    obtain ⟨xs, n, _, hx, hlen, hxl, hf⟩ := DataW.trod_struct he hd
    simp only [Prod.mk.injEq] at hx
    obtain ⟨rfl, _⟩ := hx
    rw [hc] at hlen
    match xs, hxl with
    | [y0, y1, y2, y3], _ =>
      have g0' := hf 0 f0 rfl
      have g1' := hf 1 f1 rfl
      have g2' := hf 2 f2 rfl
      have g3' := hf 3 f3 rfl
      match cs, hlen with
      | [c0, c1, c2, c3, c4, c5, c6], _ =>
        rw [hf0.1, hf0.2, hci] at g0'
        rw [hf1.1, hf1.2, hci] at g1'
        rw [hf2.1, hf2.2, hci] at g2'
        rw [hf3.1, hf3.2, hcr] at g3'
        simp at g0' g1' g2' g3'
        obtain ⟨z0, e0, _, w0⟩ := DataW.trod_int hi g0'
        obtain ⟨z1, e1, _, w1⟩ := DataW.trod_int hi g1'
        obtain ⟨z2, e2, _, w2⟩ := DataW.trod_int hi g2'
        have ho2 : Ok rw_ y3.1 := by have := hs.part e _ _ he ho 3 f3 y3.1 rfl rfl; rwa [hf3.1] at this
        obtain ⟨r, e3, hl⟩ := open_raw hs hcr hr hg0 hg1 hg2 hg3 hi hci hbi hsl hcs g3' ho2
        simp at e0 e1 e2
        simp only [RawD.cells, List.cons.injEq, and_true] at e3
        obtain ⟨rfl, rfl, rfl, rfl⟩ := e3
        subst e0; subst e1; subst e2
        exact ⟨⟨z0, z1, z2, r⟩, rfl, ⟨wf_i64 w0, wf_i64 w1, wf_i64 w2⟩, hl⟩) h hok
  refine ⟨a, n, c, xs, rfl, h1, fun hn => ?_, h3, h4, h5, h6⟩
  obtain ⟨b, o, e, hx⟩ := h2 hn
  refine ⟨b, o, e, fun i y hy => ?_⟩
  obtain ⟨cs, _, ⟨rfl, hy1, hy2⟩, hcell⟩ := hx i y hy
  exact ⟨hy1, hcell, hy2⟩
end
end Tap
end Go
/- Arguments that came in, opened: a struct of three ints and two slices of ints. -/
namespace Go
namespace Tap
open Go.ChangeShapes Go.WideShapes Go.Deep
set_option linter.unusedVariables false
structure RawW where
  seq : Int
  kind : Int
  how : Int
  l : SlI
  e : SlI
  deriving Inhabited
def RawW.ok (r : RawW) : Prop := In64 r.seq ∧ In64 r.kind ∧ In64 r.how
def RawW.cells (r : RawW) : List Value := [.int .i64 r.seq, .int .i64 r.kind, .int .i64 r.how, r.l.val, r.e.val]
def ArgRW (N : Nat) (w : World) (r : RawW) : Prop := r.ok ∧ ArgI N w r.l.a r.l.n r.l.c r.l.l ∧ ArgI N w r.e.a r.e.n r.e.c r.e.l
section
variable {H : Type} {enc : TypeId × Value → H} {P : Program} {w : World} {base : Nat} {held : Bool} {N : Nat} {Ok : TypeId → DataW H → Prop}
theorem open_raw5 {e i64 sl : TypeId} {f0 f1 f2 f3 f4 : Field} {fuel : Nat} {cs : List Value} {x : DataW H × List MemPlace} (hs : Sized P N Ok) (hc : P.cellsOf e = 5)
    (he : P.underlying e = some (.struct #[f0, f1, f2, f3, f4])) (hf0 : f0.type = i64 ∧ f0.offset = 0) (hf1 : f1.type = i64 ∧ f1.offset = 1) (hf2 : f2.type = i64 ∧ f2.offset = 2) (hf3 : f3.type = sl ∧ f3.offset = 3) (hf4 : f4.type = sl ∧ f4.offset = 4)
    (hi : P.underlying i64 = some (.int .i64)) (hci : P.cellsOf i64 = 1) (hbi : P.bytesOf i64 = 8) (hsl : P.underlying sl = some (.slice i64)) (hcs : P.cellsOf sl = 1)
    (h : DataW.trod enc P w base (fun _ => true) held fuel e cs = some x) (hok : Ok e x.1) : ∃ r : RawW, cs = r.cells ∧ ArgRW N w r := by
  obtain ⟨xs, n, _, hx, hlen, hxl, hf⟩ := DataW.trod_struct he h
  subst hx
  rw [hc] at hlen
  match xs, hxl with
  | [y0, y1, y2, y3, y4], _ =>
    have g0 := hf 0 f0 rfl
    have g1 := hf 1 f1 rfl
    have g2 := hf 2 f2 rfl
    have g3 := hf 3 f3 rfl
    have g4 := hf 4 f4 rfl
    match cs, hlen with
    | [c0, c1, c2, c3, c4], _ =>
      rw [hf0.1, hf0.2, hci] at g0
      rw [hf1.1, hf1.2, hci] at g1
      rw [hf2.1, hf2.2, hci] at g2
      rw [hf3.1, hf3.2, hcs] at g3
      rw [hf4.1, hf4.2, hcs] at g4
      simp at g0 g1 g2 g3 g4
      obtain ⟨z0, e0, _, w0⟩ := DataW.trod_int hi g0
      obtain ⟨z1, e1, _, w1⟩ := DataW.trod_int hi g1
      obtain ⟨z2, e2, _, w2⟩ := DataW.trod_int hi g2
      have ho2 : Ok sl y3.1 := by have := hs.part e _ _ he hok 3 f3 y3.1 rfl rfl; rwa [hf3.1] at this
      have ho3 : Ok sl y4.1 := by have := hs.part e _ _ he hok 4 f4 y4.1 rfl rfl; rwa [hf4.1] at this
      obtain ⟨a, n, c, l, e3, hl⟩ := open_ints64 hs hsl hi hci hbi g3 ho2
      obtain ⟨a', n', c', l', e4, hl'⟩ := open_ints64 hs hsl hi hci hbi g4 ho3
      simp at e0 e1 e2
      subst e0; subst e1; subst e2; subst e3; subst e4
      exact ⟨⟨z0, z1, z2, ⟨a, n, c, l⟩, ⟨a', n', c', l'⟩⟩, rfl, ⟨wf_i64 w0, wf_i64 w1, wf_i64 w2⟩, hl, hl'⟩
end
end Tap
end Go
/- Arguments that came in, opened: slices of structs of three ints and a slice of bytes. -/
namespace Go
namespace Tap
open Go.ChangeShapes Go.WideShapes Go.Deep
set_option linter.unusedVariables false
structure StepF where
  what : Int
  n : Int
  cut : Int
  b : SlD
  deriving Inhabited
def StepF.ok (s : StepF) : Prop := In64 s.what ∧ In64 s.n ∧ In64 s.cut
def StepF.cells (s : StepF) : List Value := [.int .i64 s.what, .int .i64 s.n, .int .i64 s.cut, s.b.val]
def ArgS4 (N : Nat) (w : World) (a : Option Addr) (n c : Nat) (xs : List StepF) : Prop :=
  ArgL N 4 48 (fun b o s => s.ok ∧ (∀ j, j < 4 → w.cell? ⟨b, o + j, none⟩ = s.cells[j]?) ∧ ArgB N w s.b.a s.b.n s.b.c s.b.l) a n c xs
section
variable {H : Type} {enc : TypeId × Value → H} {P : Program} {w : World} {base : Nat} {held : Bool} {N : Nat} {Ok : TypeId → DataW H → Prop}
theorem open_steps4 {t e i64 u8 sl : TypeId} {f0 f1 f2 f3 : Field} {fuel : Nat} {v : Value} {x : DataW H × List MemPlace} (hs : Sized P N Ok) (ht : P.underlying t = some (.slice e)) (hc : P.cellsOf e = 4) (hby : P.bytesOf e = 48)
    (he : P.underlying e = some (.struct #[f0, f1, f2, f3])) (hf0 : f0.type = i64 ∧ f0.offset = 0) (hf1 : f1.type = i64 ∧ f1.offset = 1) (hf2 : f2.type = i64 ∧ f2.offset = 2) (hf3 : f3.type = sl ∧ f3.offset = 3)
    (hi : P.underlying i64 = some (.int .i64)) (hci : P.cellsOf i64 = 1) (hsl : P.underlying sl = some (.slice u8)) (hcs : P.cellsOf sl = 1) (hu : P.underlying u8 = some (.int .u8)) (hc' : P.cellsOf u8 = 1) (hby' : P.bytesOf u8 = 1)
    (h : DataW.trod enc P w base (fun _ => true) held fuel t [v] = some x) (hok : Ok t x.1) : ∃ a n c xs, v = .slice a n c ∧ ArgS4 N w a n c xs := by
  obtain ⟨a, n, c, xs, rfl, h1, h2, h3, h4, h5, h6⟩ := open_list (α := StepF) hs ht hc (by omega) hby (by omega) (by omega) (fun cs s => cs = s.cells ∧ s.ok ∧ ArgB N w s.b.a s.b.n s.b.c s.b.l) (fun cs d pl m hd ho => by
    obtain ⟨xs, n, _, hx, hlen, hxl, hf⟩ := DataW.trod_struct he hd
    simp only [Prod.mk.injEq] at hx
    obtain ⟨rfl, _⟩ := hx
    rw [hc] at hlen
    match xs, hxl with
    | [y0, y1, y2, y3], _ =>
      have g0 := hf 0 f0 rfl
      have g1 := hf 1 f1 rfl
      have g2 := hf 2 f2 rfl
      have g3 := hf 3 f3 rfl
      match cs, hlen with
      | [c0, c1, c2, c3], _ =>
        rw [hf0.1, hf0.2, hci] at g0
        rw [hf1.1, hf1.2, hci] at g1
        rw [hf2.1, hf2.2, hci] at g2
        rw [hf3.1, hf3.2, hcs] at g3
        simp at g0 g1 g2 g3
        obtain ⟨z0, e0, _, w0⟩ := DataW.trod_int hi g0
        obtain ⟨z1, e1, _, w1⟩ := DataW.trod_int hi g1
        obtain ⟨z2, e2, _, w2⟩ := DataW.trod_int hi g2
        have ho2 : Ok sl y3.1 := by have := hs.part e _ _ he ho 3 f3 y3.1 rfl rfl; rwa [hf3.1] at this
        obtain ⟨a, n, c, l, e3, hl⟩ := open_bytes hs hsl hu hc' hby' g3 ho2
        simp at e0 e1 e2
        subst e0; subst e1; subst e2; subst e3
        exact ⟨⟨z0, z1, z2, ⟨a, n, c, l⟩⟩, rfl, ⟨wf_i64 w0, wf_i64 w1, wf_i64 w2⟩, hl⟩) h hok
  refine ⟨a, n, c, xs, rfl, h1, fun hn => ?_, h3, h4, h5, h6⟩
  obtain ⟨b, o, e, hx⟩ := h2 hn
  refine ⟨b, o, e, fun i y hy => ?_⟩
  obtain ⟨cs, _, ⟨rfl, hy1, hy2⟩, hcell⟩ := hx i y hy
  exact ⟨hy1, hcell, hy2⟩
end
end Tap
end Go
