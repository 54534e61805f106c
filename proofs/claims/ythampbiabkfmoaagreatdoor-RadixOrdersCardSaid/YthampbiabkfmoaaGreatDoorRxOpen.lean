/- An argument that came in, opened: a slice of pairs (two ints, an array of 32 bytes, a bool). -/
import Derived.Test.YthampbiabkfmoaaGreatDoorRxKept
import Derived.Test.YthampbiabkfmoaaGreatDoorOpen
import Derived.OpenShut
namespace Go
namespace Tap
open Go.ChangeShapes Go.WideShapes Go.Deep
set_option linter.unusedVariables false
section
variable {H : Type} {enc : TypeId × Value → H} {P : Program} {w : World} {base : Nat} {held : Bool} {N : Nat} {Ok : TypeId → DataW H → Prop}
def byteOf : Value → UInt8
  | .int _ z => UInt8.ofNat z.toNat
  | _ => 0
theorem open_barr {t u8 : TypeId} {n fuel : Nat} {cs : List Value} {x : DataW H × List MemPlace} (ht : P.underlying t = some (.array n u8)) (hu : P.underlying u8 = some (.int .u8)) (hc : P.cellsOf u8 = 1) (hct : P.cellsOf t = n)
    (h : DataW.trod enc P w base (fun _ => true) held fuel t cs = some x) : ∃ l : List UInt8, l.length = n ∧ cs = bv l := by
  obtain ⟨xs, m, _, _, hl, hxl, hf⟩ := DataW.trod_array ht h
  rw [hct] at hl
  refine ⟨cs.map byteOf, by simpa using hl, ?_⟩
  have key : ∀ v ∈ cs, v = .int .u8 ((byteOf v).toNat : Int) := by
    intro v hv
    obtain ⟨i, hi⟩ := List.mem_iff_getElem?.1 hv
    have hin : i < n := by have := (List.getElem?_eq_some_iff.1 hi).1; omega
    have h1 := hf i hin
    rw [hc, Nat.mul_one] at h1
    have h2 : (cs.drop i).take 1 = [v] := by
      have := List.getElem?_eq_some_iff.1 hi
      rw [List.drop_eq_getElem_cons this.1, this.2]; rfl
    rw [h2] at h1
    obtain ⟨y, hy⟩ : ∃ y, xs[i]? = some y := ⟨_, List.getElem?_eq_getElem (by omega)⟩
    rw [hy] at h1
    obtain ⟨z, e0, _, w0⟩ := DataW.trod_int hu h1
    simp at e0
    subst e0
    obtain ⟨b, rfl⟩ := byte_of (wf_u8 w0)
    simp [byteOf]
  unfold bv
  rw [List.map_map]
  conv => lhs; rw [← List.map_id cs]
  apply List.map_congr_left
  intro v hv
  exact key v hv
end
end Tap
end Go
namespace Go.Proofs.YthampbiabkfmoaaGreatDoor
open Go.RowKit Go.Tap Go.ChangeShapes Go.WideShapes Go.Deep
set_option linter.unusedVariables false
def Rx.prOk (p : Rx.Pr) : Prop := p.h.length = 32 ∧ In64 p.n ∧ In64 p.v
def ArgP (N : Nat) (w : World) (a : Option Addr) (n c : Nat) (xs : List Rx.Pr) : Prop :=
  ArgL N 35 56 (fun b o p => Rx.prOk p ∧ ∀ j, j < 35 → w.cell? ⟨b, o + j, none⟩ = (prC p)[j]?) a n c xs
section
variable {H : Type} {enc : TypeId × Value → H} {P : Program} {w : World} {base : Nat} {held : Bool} {N : Nat} {Ok : TypeId → DataW H → Prop}
theorem open_pairs {t e i64 ha u8 bo : TypeId} {f0 f1 f2 f3 : Field} {fuel : Nat} {v : Value} {x : DataW H × List MemPlace} (hs : Sized P N Ok) (ht : P.underlying t = some (.slice e)) (hc : P.cellsOf e = 35) (hby : P.bytesOf e = 56)
    (he : P.underlying e = some (.struct #[f0, f1, f2, f3])) (hf0 : f0.type = i64 ∧ f0.offset = 0) (hf1 : f1.type = i64 ∧ f1.offset = 1) (hf2 : f2.type = ha ∧ f2.offset = 2) (hf3 : f3.type = bo ∧ f3.offset = 34)
    (hi : P.underlying i64 = some (.int .i64)) (hci : P.cellsOf i64 = 1) (hh : P.underlying ha = some (.array 32 u8)) (hch : P.cellsOf ha = 32) (hu : P.underlying u8 = some (.int .u8)) (hcu : P.cellsOf u8 = 1) (hb : P.underlying bo = some .bool) (hcb : P.cellsOf bo = 1)
    (h : DataW.trod enc P w base (fun _ => true) held fuel t [v] = some x) (hok : Ok t x.1) : ∃ a n c xs, v = .slice a n c ∧ ArgP N w a n c xs := by
  obtain ⟨a, n, c, xs, rfl, h1, h2, h3, h4, h5, h6⟩ := open_list (α := Rx.Pr) hs ht hc (by omega) hby (by omega) (by omega) (fun cs p => cs = (prC p).toList ∧ Rx.prOk p) (fun cs d pl m hd ho => by
    obtain ⟨ys, n, _, hx, hlen, hxl, hf⟩ := DataW.trod_struct he hd
    match ys, hxl with
    | [y0, y1, y2, y3], _ =>
      have g0 := hf 0 f0 rfl
      have g1 := hf 1 f1 rfl
      have g2 := hf 2 f2 rfl
      have g3 := hf 3 f3 rfl
      rw [hc] at hlen
      rw [hf0.1, hf0.2, hci] at g0
      rw [hf1.1, hf1.2, hci] at g1
      rw [hf2.1, hf2.2, hch] at g2
      rw [hf3.1, hf3.2, hcb] at g3
      simp only [List.getElem?_cons_zero, List.getElem?_cons_succ] at g0 g1 g2 g3
      obtain ⟨z0, e0, _, w0⟩ := DataW.trod_int hi g0
      obtain ⟨z1, e1, _, w1⟩ := DataW.trod_int hi g1
      obtain ⟨l, hl, e2⟩ := open_barr hh hu hcu hch g2
      obtain ⟨b, e3, _⟩ := DataW.trod_bool hb g3
      refine ⟨⟨z0, z1, l, b⟩, ?_, hl, wf_i64 w0, wf_i64 w1⟩
      show cs = [Value.int .i64 z0, Value.int .i64 z1] ++ bv l ++ [Value.bool b]
      have s1 : cs = (cs.drop 0).take 1 ++ ((cs.drop 1).take 1 ++ ((cs.drop 2).take 32 ++ (cs.drop 34).take 1)) := by
        have k3 : (cs.drop 34).take 1 = cs.drop 34 := List.take_of_length_le (by rw [List.length_drop]; omega)
        have k2 : (cs.drop 2).take 32 ++ cs.drop 34 = cs.drop 2 := by
          have := List.take_append_drop 32 (cs.drop 2)
          rw [List.drop_drop] at this
          exact this
        have k1 : (cs.drop 1).take 1 ++ cs.drop 2 = cs.drop 1 := by
          have := List.take_append_drop 1 (cs.drop 1)
          rw [List.drop_drop] at this
          exact this
        rw [k3, k2, k1, List.drop_zero]
        exact (List.take_append_drop 1 cs).symm
      rw [s1, e0, e1, e2, e3]
      simp) h hok
  refine ⟨a, n, c, xs, rfl, h1, fun hn => ?_, h3, h4, h5, h6⟩
  obtain ⟨b, o, e, hx⟩ := h2 hn
  refine ⟨b, o, e, fun i y hy => ?_⟩
  obtain ⟨cs, _, ⟨rfl, hy1⟩, hcell⟩ := hx i y hy
  exact ⟨hy1, fun j hj => by rw [hcell j hj]; simp⟩
theorem argP_rd {a : Option Addr} {n c : Nat} {xs : List Rx.Pr} (g : ArgP N w a n c xs) : RdA prC 35 w a n xs ∧ ∀ p ∈ xs, Rx.prOk p := by
  have hpos : ∀ p ∈ xs, 0 < n := fun p hp => by have := List.length_pos_of_mem hp; have := g.len; omega
  refine ⟨⟨g.len, fun h0 => ?_⟩, fun p hp => ?_⟩
  · obtain ⟨b, o, e, hx⟩ := g.at_ h0
    obtain ⟨x0, hx0⟩ : ∃ x0, xs[0]? = some x0 := ⟨_, List.getElem?_eq_getElem (by have := g.len; omega)⟩
    refine ⟨b, o, e, ?_, fun j x hx' i v hv => ?_⟩
    · have h1 := (hx 0 x0 hx0).2 0 (by omega)
      rw [prC_n] at h1
      exact block_lt_of_cell h1
    · have hi : i < 35 := by
        have := (Array.getElem?_eq_some_iff.1 hv).1
        rwa [prC_size x (hx j x hx').1.1] at this
      rw [(hx j x hx').2 i hi]
      exact hv
  · obtain ⟨b, o, e, hx⟩ := g.at_ (hpos p hp)
    obtain ⟨j, hj⟩ := List.mem_iff_getElem?.1 hp
    exact (hx j p hj).1
end
/-- A slice in a cell, with its pairs. -/
structure SlP where
  a : Option Addr
  n : Nat
  c : Nat
  l : List Rx.Pr
  deriving Inhabited
def SlP.val (s : SlP) : Value := .slice s.a s.n s.c
def ArgPP (N : Nat) (w : World) (a : Option Addr) (n c : Nat) (xs : List SlP) : Prop :=
  ArgL N 1 24 (fun b o s => w.cell? ⟨b, o, none⟩ = some s.val ∧ ArgP N w s.a s.n s.c s.l) a n c xs
def ArgBo (N : Nat) (w : World) (a : Option Addr) (n c : Nat) (zs : List Bool) : Prop :=
  ArgL N 1 1 (fun b o z => w.cell? ⟨b, o, none⟩ = some (.bool z)) a n c zs
section
variable {H : Type} {enc : TypeId × Value → H} {P : Program} {w : World} {base : Nat} {held : Bool} {N : Nat} {Ok : TypeId → DataW H → Prop}
theorem open_pairss {t s e i64 ha u8 bo : TypeId} {f0 f1 f2 f3 : Field} {fuel : Nat} {v : Value} {x : DataW H × List MemPlace} (hs : Sized P N Ok) (htt : P.underlying t = some (.slice s)) (hcs : P.cellsOf s = 1) (hbs : P.bytesOf s = 24) (ht : P.underlying s = some (.slice e)) (hc : P.cellsOf e = 35) (hby : P.bytesOf e = 56)
    (he : P.underlying e = some (.struct #[f0, f1, f2, f3])) (hf0 : f0.type = i64 ∧ f0.offset = 0) (hf1 : f1.type = i64 ∧ f1.offset = 1) (hf2 : f2.type = ha ∧ f2.offset = 2) (hf3 : f3.type = bo ∧ f3.offset = 34)
    (hi : P.underlying i64 = some (.int .i64)) (hci : P.cellsOf i64 = 1) (hh : P.underlying ha = some (.array 32 u8)) (hch : P.cellsOf ha = 32) (hu : P.underlying u8 = some (.int .u8)) (hcu : P.cellsOf u8 = 1) (hb : P.underlying bo = some .bool) (hcb : P.cellsOf bo = 1)
    (h : DataW.trod enc P w base (fun _ => true) held fuel t [v] = some x) (hok : Ok t x.1) : ∃ a n c xs, v = .slice a n c ∧ ArgPP N w a n c xs := by
  obtain ⟨a, n, c, xs, rfl, h1, h2, h3, h4, h5, h6⟩ := open_list (α := SlP) hs htt hcs (by omega) hbs (by omega) (by omega) (fun cs s => cs = [s.val] ∧ ArgP N w s.a s.n s.c s.l) (fun cs d pl m hd ho => by
    obtain ⟨v, rfl⟩ := trod_cells_slice ht hd
    obtain ⟨a, n, c, l, rfl, hl⟩ := open_pairs hs ht hc hby he hf0 hf1 hf2 hf3 hi hci hh hch hu hcu hb hcb hd ho
    exact ⟨⟨a, n, c, l⟩, rfl, hl⟩) h hok
  refine ⟨a, n, c, xs, rfl, h1, fun hn => ?_, h3, h4, h5, h6⟩
  obtain ⟨b, o, e, hx⟩ := h2 hn
  refine ⟨b, o, e, fun i y hy => ?_⟩
  obtain ⟨cs, _, ⟨rfl, hy1⟩, hcell⟩ := hx i y hy
  have := hcell 0 (by omega)
  exact ⟨by simpa using this, hy1⟩
theorem open_bools {t e : TypeId} {fuel : Nat} {v : Value} {x : DataW H × List MemPlace} (hs : Sized P N Ok) (ht : P.underlying t = some (.slice e)) (he : P.underlying e = some .bool) (hc : P.cellsOf e = 1) (hby : P.bytesOf e = 1)
    (h : DataW.trod enc P w base (fun _ => true) held fuel t [v] = some x) (hok : Ok t x.1) : ∃ a n c zs, v = .slice a n c ∧ ArgBo N w a n c zs := by
  obtain ⟨a, n, c, xs, rfl, h1, h2, h3, h4, h5, h6⟩ := open_list (α := Bool) hs ht hc (by omega) hby (by omega) (by omega) (fun cs y => cs = [.bool y]) (fun cs d pl m hd _ => by
    obtain ⟨z, rfl, hz⟩ := DataW.trod_bool he hd
    exact ⟨z, rfl⟩) h hok
  refine ⟨a, n, c, xs, rfl, h1, fun hn => ?_, h3, h4, h5, h6⟩
  obtain ⟨b, o, e, hx⟩ := h2 hn
  refine ⟨b, o, e, fun i y hy => ?_⟩
  obtain ⟨cs, _, rfl, hcell⟩ := hx i y hy
  have := hcell 0 (by omega)
  simpa using this
/-- Rows of pairs, and of booleans, as read. -/
def RdPP (w : World) (a : Option Addr) (n : Nat) (ll : List SlP) : Prop :=
  ll.length = n ∧ ∀ i x, ll[i]? = some x → ∃ b o, a = some ⟨b, o, none⟩ ∧ b < w.heap.size ∧ w.cell? ⟨b, o + i, none⟩ = some (.slice x.a x.n x.c) ∧ RdA prC 35 w x.a x.n x.l ∧ (∀ p ∈ x.l, Rx.prOk p) ∧ x.n ≤ 140737488351232
def RdBo (w : World) (a : Option Addr) (n : Nat) (ll : List Bool) : Prop :=
  ll.length = n ∧ ∀ i x, ll[i]? = some x → ∃ b o, a = some ⟨b, o, none⟩ ∧ b < w.heap.size ∧ w.cell? ⟨b, o + i, none⟩ = some (.bool x)
theorem argPP_rd {a : Option Addr} {n c : Nat} {xs : List SlP} (g : ArgPP N w a n c xs) : RdPP w a n xs := by
  refine ⟨g.len, fun i x hx => ?_⟩
  have h0 : 0 < n := by have := (List.getElem?_eq_some_iff.1 hx).1; have := g.len; omega
  obtain ⟨b, o, e, hat⟩ := g.at_ h0
  obtain ⟨h1, h2⟩ := hat i x hx
  rw [Nat.mul_one] at h1
  obtain ⟨k1, k2⟩ := argP_rd h2
  exact ⟨b, o, e, block_lt_of_cell h1, h1, k1, k2, by have := h2.le; have := h2.reach; omega⟩
theorem argBo_rd {a : Option Addr} {n c : Nat} {xs : List Bool} (g : ArgBo N w a n c xs) : RdBo w a n xs := by
  refine ⟨g.len, fun i x hx => ?_⟩
  have h0 : 0 < n := by have := (List.getElem?_eq_some_iff.1 hx).1; have := g.len; omega
  obtain ⟨b, o, e, hat⟩ := g.at_ h0
  have h1 := hat i x hx
  rw [Nat.mul_one] at h1
  exact ⟨b, o, e, block_lt_of_cell h1, h1⟩
end
end Go.Proofs.YthampbiabkfmoaaGreatDoor
