/- ReadReply's state. -/
import Derived.Test.YthampbiabkfmoaaDoorWiRdRq
namespace Go
namespace Tap
open Go.RowKit
theorem wpL_mk {P : Program} {ops : Array Oper} {rest : List Oper} {o : Oper} {a : Act} {w : World} {Q : Exit → Act → World → Prop} (hw : Region.wanted o (yielded ops a.tmps) = true) (t : TypeId) (parts : Array (Nat × Operand)) (ho : o.op = .build t parts) (vals : List (Nat × Value)) (hv : parts.toList.map (fun p => (p.1, a.eval p.2)) = vals)
    (cells : Array Value) (hb : P.built t vals = some cells) (h : wpList P ops Q rest (a.put o.dst (.agg cells)) w) : wpList P ops Q (o :: rest) a w :=
  wpL_built hw t parts ho vals (by rw [Array.toList_map, ← hv]) cells hb h
end Tap
end Go
namespace Go.Proofs.YthampbiabkfmoaaDoor
open Go.RowKit Go.Tap
set_option linter.unusedVariables false
set_option linter.unusedSimpArgs false
theorem sp_en_hash (x : Wi.En) (h : List UInt8) (h1 : x.high.length = 32) (h2 : x.hash.length = 32) (hl : h.length = 32) : (splice (enC x).toList 34 (hashC h).toList).toArray = enC ⟨x.status, x.high, x.steps, h⟩ := by
  apply Array.ext'
  have hb : ([Value.int IntKind.i64 x.status] ++ bv x.high ++ [Value.int IntKind.i64 x.steps]).length = 34 := by simp [bv_length, h1]
  have hc : (hashC h).toList = bv h := by simp [hashC]
  rw [hc]
  have he : (enC x).toList = ([Value.int IntKind.i64 x.status] ++ bv x.high ++ [Value.int IntKind.i64 x.steps]) ++ bv x.hash := rfl
  rw [he]
  unfold splice
  rw [List.take_left' hb, List.drop_of_length_le (by rw [List.length_append, hb, bv_length, bv_length, h2, hl]; exact Nat.le_refl _), List.append_nil]
  rfl
theorem sp_en_path (x : Wi.En) (h : List UInt8) (s : Int) (h1 : x.high.length = 32) (hl : h.length = 32) : (splice (enC x).toList 1 (pathC h s).toList).toArray = enC ⟨x.status, h, s, x.hash⟩ := by
  apply Array.ext'
  have hb : ([Value.int IntKind.i64 x.status] ++ bv x.high ++ [Value.int IntKind.i64 x.steps]).length = 34 := by simp [bv_length, h1]
  have hc : (pathC h s).toList = bv h ++ [Value.int IntKind.i64 s] := by simp [pathC]
  rw [hc]
  have he : (enC x).toList = ([Value.int IntKind.i64 x.status] ++ bv x.high ++ [Value.int IntKind.i64 x.steps]) ++ bv x.hash := rfl
  rw [he]
  unfold splice
  rw [show 1 + (bv h ++ [Value.int IntKind.i64 s]).length = 34 by simp [bv_length, hl], List.drop_left' hb]
  simp [enC]
/-- ReadReply's state: the head in block b6, the reply so far in block b7. -/
structure RpSt (T : TypeId) (w : World) (B D b6 b7 : Nat) (sq kd : Int) (a : Option Addr) (n c : Nat) (wr : World) (li : List Wi.En) (q : List UInt8 × Bool) (v : Value) : Prop where
  t6 : wr.heap[b6]? = some (.cells #[.int .i64 sq, .int .i64 kd, .slice a n c] 28 (0, 0))
  t7 : wr.heap[b7]? = some (.cells #[.int .i64 sq, .int .i64 kd, .slice a n c, v] 88 (0, 0))
  own : OwnE wr w.heap.size v li
  rd : Rd T wr B D q.1 q.2
  st : TStay (fun k => k = B) w wr
  ok : ∀ i ∈ li, i.ok
  lt : B < w.heap.size ∧ D < w.heap.size ∧ w.heap.size ≤ b6 ∧ w.heap.size ≤ b7 ∧ b6 ≠ b7
theorem RpSt.step {T : TypeId} {w wr wr' : World} {B D b6 b7 : Nat} {sq kd : Int} {a : Option Addr} {n c : Nat} {li : List Wi.En} {q q' : List UInt8 × Bool} {v : Value} (h : RpSt T w B D b6 b7 sq kd a n c wr li q v) (h1 : Rd T wr' B D q'.1 q'.2) (h2 : TStay (fun k => k = B) wr wr') : RpSt T w B D b6 b7 sq kd a n c wr' li q' v := by
  have hl := h.lt
  exact ⟨(h2.block _ (blk_lt h.t6) (by omega)).trans h.t6, (h2.block _ (blk_lt h.t7) (by omega)).trans h.t7, ownsRow_stay h.own h2 (fun k hk => by have := (h.own.lt k hk).1; omega), h1, h.st.trans h2 (fun _ _ h => h), h.ok, h.lt⟩
theorem RpSt.below {T : TypeId} {w wr wr' : World} {B D b6 b7 : Nat} {sq kd : Int} {a : Option Addr} {n c : Nat} {li : List Wi.En} {q : List UInt8 × Bool} {v : Value} (h : RpSt T w B D b6 b7 sq kd a n c wr li q v) (h2 : Below wr.heap.size wr wr') : RpSt T w B D b6 b7 sq kd a n c wr' li q v := by
  have hs := TStay.of_below h2 (fun k => k = B)
  exact ⟨(h2.block _ (blk_lt h.t6)).trans h.t6, (h2.block _ (blk_lt h.t7)).trans h.t7, ownsRow_stay h.own (TStay.of_below h2 (fun _ => False)) (fun _ _ h => h), h.rd.below h2, h.st.trans hs (fun _ _ h => h), h.ok, h.lt⟩
theorem RpSt.turn {T : TypeId} {w wr wr' : World} {B D b6 b7 g : Nat} {sq kd : Int} {a : Option Addr} {n c : Nat} {li : List Wi.En} {q : List UInt8 × Bool} {v : Value} (h : RpSt T w B D b6 b7 sq kd a n c wr li q v) (h2 : TStay (fun k => k = g) wr wr') (hg : w.heap.size ≤ g) (h3 : g ≠ b6) (h4 : g ≠ b7) (h5 : ∀ k, v.ownBlock = some k → k ≠ g) : RpSt T w B D b6 b7 sq kd a n c wr' li q v := by
  have hl := h.lt
  refine ⟨(h2.block _ (blk_lt h.t6) (by omega)).trans h.t6, (h2.block _ (blk_lt h.t7) (by omega)).trans h.t7, ownsRow_stay h.own h2 (fun k hk => h5 k hk), h.rd.stay h2 (by omega) (by omega), h.st.trans h2 (fun i hi h => by exfalso; omega), h.ok, h.lt⟩
theorem RpSt.app {T : TypeId} {w wr wr' : World} {B D b6 b7 : Nat} {sq kd : Int} {a : Option Addr} {n c : Nat} {li : List Wi.En} {q : List UInt8 × Bool} {v v' : Value} {x : Wi.En} (h : RpSt T w B D b6 b7 sq kd a n c wr li q v) (ho : OwnE wr' w.heap.size v' (li ++ [x])) (hg : wr.grownBy wr' v.ownBlock) (hx : x.ok) :
    wr'.heap[b7]? = some (.cells #[.int .i64 sq, .int .i64 kd, .slice a n c, v] 88 (0, 0)) ∧ RpSt T w B D b6 b7 sq kd a n c (wr'.setCell ⟨b7, 3, none⟩ v') (li ++ [x]) q v' := by
  have hl := h.lt
  have n3 : v.ownBlock ≠ some b7 := own_ne' h.own h.t7 (by decide)
  have n2 : v.ownBlock ≠ some b6 := own_ne' h.own h.t6 (by decide)
  have e3 : wr'.heap[b7]? = some (.cells #[.int .i64 sq, .int .i64 kd, .slice a n c, v] 88 (0, 0)) := (hg.block _ (blk_lt h.t7) (fun e => n3 e.symm)).trans h.t7
  have e2 : wr'.heap[b6]? = some (.cells #[.int .i64 sq, .int .i64 kd, .slice a n c] 28 (0, 0)) := (hg.block _ (blk_lt h.t6) (fun e => n2 e.symm)).trans h.t6
  have hs : TStay (fun k => w.heap.size ≤ k) wr wr' := (TStay.refl (fun k => w.heap.size ≤ k) wr).grown hg (fun k hk => .inl (h.own.lt k hk).1)
  have hs2 : TStay (fun k => k = b7) wr' (wr'.setCell ⟨b7, 3, none⟩ v') := (TStay.refl (fun k => k = b7) _).setCell (p := ⟨b7, 3, none⟩) (.inl rfl) _
  have nn : v'.ownBlock ≠ some b7 := own_ne' ho e3 (by decide)
  refine ⟨e3, (hs2.block _ (blk_lt e2) hl.2.2.2.2).trans e2, heap_setCell_same _ b7 3 _ _ _ e3, ownsRow_stay ho hs2 (fun k hk e => nn (by rw [← e]; exact hk)), (h.rd.stay hs (by omega) (by omega)).stay hs2 (by omega) (by omega), (h.st.trans hs (fun i hi h => by exfalso; omega)).trans hs2 (fun i hi h => by exfalso; omega), ?_, h.lt⟩
  intro i hi
  rw [List.mem_append, List.mem_singleton] at hi
  rcases hi with hi | rfl
  · exact h.ok i hi
  · exact hx
/-- What ReadReply answers. -/
def RpAft (w : World) (r : Except Nat Wi.Rp) (e : Ending) (w' : World) : Prop :=
  Below w.heap.size w w' ∧ match r with
  | .error k => e = .returned (.tuple #[.agg #[.int .i64 0, .int .i64 0, .slice none 0 0, .slice none 0 0], .iface 45 (.int .i64 (k : Int))])
  | .ok p => ∃ a c a2 c2, e = .returned (.tuple #[.agg #[.int .i64 p.q.seq, .int .i64 p.q.kind, .slice a p.q.items.length c, .slice a2 p.ents.length c2], .nilIface]) ∧ RdI w' a p.q.items.length p.q.items ∧ RdE w' a2 p.ents.length p.ents
theorem one4 (s k : Int) (a : Option Addr) (n c : Nat) (a2 : Option Addr) (n2 c2 : Nat) : ∀ u ∈ (#[.int .i64 s, .int .i64 k, .slice a n c, .slice a2 n2 c2] : Array Value).toList, u.oneCell' = true := by
  intro u hu
  simp only [List.mem_cons, List.not_mem_nil, or_false] at hu
  rcases hu with rfl | rfl | rfl | rfl <;> rfl
end Go.Proofs.YthampbiabkfmoaaDoor
