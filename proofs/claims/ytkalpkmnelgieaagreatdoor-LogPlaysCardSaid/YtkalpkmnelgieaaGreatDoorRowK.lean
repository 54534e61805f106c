/- Rows of elements of several cells: read, cut, appended. -/
import Derived.Test.YtkalpkmnelgieaaGreatDoorAid
import Derived.Deep.AppendLies
import Derived.Laws.AppendOwnNone
namespace Go
namespace Tap
open Go.RowKit
set_option linter.unusedVariables false

theorem flatK {α : Type} (f : α → List Value) (k : Nat) (hk : ∀ x, (f x).length = k) : ∀ (ps : List α) (j i : Nat) (p : α), ps[j]? = some p → i < k → (ps.flatMap f)[j * k + i]? = (f p)[i]?
  | [], j, i, p, h, _ => by simp at h
  | u :: r, 0, i, p, h, hi => by
    simp at h; subst h
    rw [List.flatMap_cons, Nat.zero_mul, Nat.zero_add, List.getElem?_append_left (by rw [hk]; exact hi)]
  | u :: r, j + 1, i, p, h, hi => by
    have := flatK f k hk r j i p (by simpa using h) hi
    rw [List.flatMap_cons, List.getElem?_append_right (by rw [hk, Nat.succ_mul]; omega), ← this, hk]
    congr 1
    rw [Nat.succ_mul]; omega
theorem flatK_length {α : Type} (f : α → List Value) (k : Nat) (hk : ∀ x, (f x).length = k) : ∀ ps : List α, (ps.flatMap f).length = ps.length * k
  | [] => by simp
  | u :: r => by rw [List.flatMap_cons, List.length_append, hk, flatK_length f k hk r, List.length_cons, Nat.succ_mul]; omega
theorem flatK_take {α : Type} (f : α → List Value) (k : Nat) (hk : ∀ x, (f x).length = k) : ∀ (ps : List α) (m : Nat), (ps.take m).flatMap f = (ps.flatMap f).take (m * k)
  | [], m => by simp
  | u :: r, 0 => by simp
  | u :: r, m + 1 => by
    rw [List.take_succ_cons, List.flatMap_cons, List.flatMap_cons, flatK_take f k hk r m, List.take_append, List.take_of_length_le (l := f u) (by rw [hk, Nat.succ_mul]; omega), hk, show (m + 1) * k - k = m * k by rw [Nat.succ_mul]; omega]
theorem flatK_drop {α : Type} (f : α → List Value) (k : Nat) (hk : ∀ x, (f x).length = k) : ∀ (ps : List α) (m : Nat), (ps.drop m).flatMap f = (ps.flatMap f).drop (m * k)
  | [], m => by simp
  | u :: r, 0 => by simp
  | u :: r, m + 1 => by
    rw [List.drop_succ_cons, List.flatMap_cons, flatK_drop f k hk r m, List.drop_append, List.drop_eq_nil_of_le («as» := f u) (by rw [hk, Nat.succ_mul]; omega), hk, show (m + 1) * k - k = m * k by rw [Nat.succ_mul]; omega]
    rfl

/-- m elements of 'size' cells that are only read. -/
def Src (w : World) (a : Option Addr) (m size : Nat) (cs : List Value) : Prop :=
  cs.length = m * size ∧ (0 < m → ∃ b o, a = some ⟨b, o, none⟩ ∧ ∀ j u, cs[j]? = some u → w.cell? ⟨b, o + j, none⟩ = some u)
theorem Src.keep {w w' : World} {a : Option Addr} {m size : Nat} {cs : List Value} (h : Src w a m size cs) (hk : 0 < m → ∀ b o, a = some ⟨b, o, none⟩ → w'.heap[b]? = w.heap[b]?) : Src w' a m size cs := by
  refine ⟨h.1, fun hm => ?_⟩
  obtain ⟨b, o, e, hc⟩ := h.2 hm
  exact ⟨b, o, e, fun j u hu => (World.cell?_of_block (w := w) (hk hm b o e)).trans (hc j u hu)⟩
theorem Src.of_own {w : World} {base e size : Nat} {a : Option Addr} {n c : Nat} {xs : List Value} (h : w.ownsRow base e size (.slice a n c) n xs) : Src w a n size xs := by
  refine ⟨h.1, fun h0 => ?_⟩
  rcases h.2 with ⟨e1, e2⟩ | ⟨g, cap, cur, e1, _⟩
  · omega
  · simp only [Value.slice.injEq] at e1
    obtain ⟨rfl, _, _⟩ := e1
    refine ⟨g, 0, rfl, fun j u hu => ?_⟩
    have := h.cells (g := g) rfl j u hu
    rwa [Addr.add_lit] at this
theorem Src.take {w : World} {a : Option Addr} {m size : Nat} {cs : List Value} (h : Src w a m size cs) {k : Nat} (hk : k ≤ m) : Src w a k size (cs.take (k * size)) := by
  refine ⟨by rw [List.length_take, h.1]; have := Nat.mul_le_mul_right size hk; omega, fun h0 => ?_⟩
  obtain ⟨b, o, e, hc⟩ := h.2 (by omega)
  refine ⟨b, o, e, fun j u hu => hc j u ?_⟩
  rw [List.getElem?_take] at hu
  split at hu
  · exact hu
  · cases hu
theorem Src.drop {w : World} {a : Option Addr} {m size : Nat} {cs : List Value} (h : Src w a m size cs) {k : Nat} (hk : k ≤ m) : Src w (a.map (·.add (k * size))) (m - k) size (cs.drop (k * size)) := by
  refine ⟨by rw [List.length_drop, h.1, Nat.sub_mul], fun h0 => ?_⟩
  obtain ⟨b, o, e, hc⟩ := h.2 (by omega)
  subst e
  refine ⟨b, o + k * size, by simp [Addr.add_lit], fun j u hu => ?_⟩
  rw [List.getElem?_drop] at hu
  have := hc _ _ hu
  rwa [Nat.add_assoc]
theorem Src.nil (w : World) (a : Option Addr) (size : Nat) : Src w a 0 size [] := ⟨by simp, fun h => absurd h (by omega)⟩
theorem Src.alloc {w : World} {a : Option Addr} {m size : Nat} {cs : List Value} (h : Src w a m size cs) (hsz : 0 < size) (o : Obj) : Src (w.alloc o) a m size cs :=
  h.keep fun hm b p e => by
    subst e
    obtain ⟨b', o', e', hc⟩ := h.2 hm
    simp only [Option.some.injEq, Addr.mk.injEq] at e'
    obtain ⟨rfl, rfl, _⟩ := e'
    have h0 : 0 < cs.length := by rw [h.1]; exact Nat.mul_pos hm hsz
    exact Below.heap_alloc _ _ _ (block_lt_of_cell (hc 0 cs[0] (by simp)))
theorem Src.lt {w : World} {b o : Nat} {m size : Nat} {cs : List Value} (h : Src w (some ⟨b, o, none⟩) m size cs) (hm : 0 < m) (hsz : 0 < size) : b < w.heap.size := by
  obtain ⟨b', o', e', hc⟩ := h.2 hm
  simp only [Option.some.injEq, Addr.mk.injEq] at e'
  obtain ⟨rfl, rfl, _⟩ := e'
  have h0 : 0 < cs.length := by rw [h.1]; exact Nat.mul_pos hm hsz
  exact block_lt_of_cell (hc 0 cs[0] (by simp))
theorem Src.below {B : Nat} {w w' : World} {a : Option Addr} {m size : Nat} {cs : List Value} (h : Src w a m size cs) (hsz : 0 < size) (ht : Below B w w') (hB : w.heap.size ≤ B) : Src w' a m size cs :=
  h.keep fun hm b o e => by subst e; exact ht.block b (Nat.lt_of_lt_of_le (h.lt hm hsz) hB)
section
variable {P : Program}
/-- The run of 'append(s, x...)' where s is owned and x is read. -/
theorem run_append_src (w : World) (t : TypeId) (ty : TypeId) (base : Nat) (e : TypeId) (i : TypeInfo) (z : Value) (size bytes : Nat) (ht : P.underlying t = some (.slice e)) (hi : P.info? e = some i) (hz : i.zero = some z)
    (hsize : i.size = size) (hby : i.bytes = bytes) (hzs : z.cells.size = size) (hsz : 0 < size)
    (v : Value) (n : Nat) (xs : List Value) (hown : w.ownsRow base e size v n xs)
    (ao : Option Addr) (m c : Nat) (hnone : ao = none → c = 0) (cs : List Value) (hr : Src w ao m size cs) (h1 : ∀ u ∈ cs, u.oneCell' = true)
    (hb : n + m ≤ 140737488355328) (hbytes : (n + m) * bytes ≤ 140737488355328) (hbase : base ≤ w.heap.size) :
    ∃ a' c' w', (Builtin.append_ #[t, t] ty #[v, .slice ao m c]).run P w = .ok (.slice a' (n + m) c') w' ∧ w'.ownsRow base e size (.slice a' (n + m) c') (n + m) (xs ++ cs) ∧ w.grownBy w' v.ownBlock := by
  have hl := hr.1
  have fin : ∀ (v' : Value) (w' : World), w'.ownsRow base e size v' (n + m) (xs ++ cs) → ∃ a' c', v' = .slice a' (n + m) c' := fun v' w' h => by
    obtain ⟨a', c', e, _⟩ := ownsRow_slice h
    exact ⟨a', c', e⟩
  cases ao with
  | none =>
    obtain rfl := hnone rfl
    have hm : m = 0 := by
      rcases Nat.eq_zero_or_pos m with h0 | h0
      · exact h0
      · obtain ⟨_, _, e, _⟩ := hr.2 h0; cases e
    subst hm
    have : cs = [] := List.eq_nil_of_length_eq_zero (by rw [hl, Nat.zero_mul])
    subst this
    have hrun := run_append_owned_none (P := P) (w := w) base t ty e i size ht hi v n xs hown
    obtain ⟨a', c', rfl, _⟩ := ownsRow_slice hown
    exact ⟨a', c', w, hrun, by simpa using hown, World.grownBy.refl _ _⟩
  | some ad =>
    obtain ⟨v', w', hrun, h2, h3, _⟩ := run_append_own (P := P) (w := w) base t ty e i z size bytes ht hi hz hsize hby hzs hsz v n xs hown ad m c cs hl (by
      intro j u hu
      have hj : j < cs.length := (List.getElem?_eq_some_iff.1 hu).1
      obtain ⟨b, o', e1, hc⟩ := hr.2 (by
        rcases Nat.eq_zero_or_pos m with h0 | h0
        · rw [hl, h0, Nat.zero_mul] at hj; omega
        · exact h0)
      simp at e1; subst e1
      rw [Addr.add_lit]; exact hc j u hu) h1 (by unfold maxLen; omega) hbytes hbase
    obtain ⟨a', c', rfl⟩ := fin v' w' h2
    exact ⟨a', c', w', hrun, h2, h3⟩
theorem wpList_append_src (w : World) {ops : Array Oper} {rest : List Oper} {o : Oper} {a : Act} {Q : Exit → Act → World → Prop} (hgd : o.guard = none) (s x : Operand) (t : TypeId)
    (ho : o.op = .call { callee := .builtin .append, args := #[s, x], argTypes := #[t, t] })
    (base : Nat) (e : TypeId) (i : TypeInfo) (z : Value) (size bytes : Nat) (ht : P.underlying t = some (.slice e)) (hi : P.info? e = some i) (hz : i.zero = some z)
    (hsize : i.size = size) (hby : i.bytes = bytes) (hzs : z.cells.size = size) (hsz : 0 < size)
    (v : Value) (n : Nat) (xs : List Value) (hs : a.eval s = v) (hown : w.ownsRow base e size v n xs)
    (ao : Option Addr) (m c : Nat) (hx : a.eval x = .slice ao m c) (hnone : ao = none → c = 0) (cs : List Value) (hr : Src w ao m size cs) (h1 : ∀ u ∈ cs, u.oneCell' = true)
    (hb : n + m ≤ 140737488355328) (hbytes : (n + m) * bytes ≤ 140737488355328) (hbase : base ≤ w.heap.size)
    (h : ∀ a' c' w', w'.ownsRow base e size (.slice a' (n + m) c') (n + m) (xs ++ cs) → w.grownBy w' v.ownBlock → wpList P ops Q rest (a.put o.dst (.slice a' (n + m) c')) w') : wpList P ops Q (o :: rest) a w := by
  obtain ⟨a', c', w', hrun, h2, h3⟩ := run_append_src (P := P) w t o.type base e i z size bytes ht hi hz hsize hby hzs hsz v n xs hown ao m c hnone cs hr h1 hb hbytes hbase
  refine wpList_plain hgd fun K hK => ?_
  unfold Oper.wp
  simp [execOp, ho, resolve, invoke, builtin, hs, hx, hrun, Result.andThen]
  exact hK _ _ (h a' c' w' h2 h3)
/-- At a step of a region that draws its order. -/
theorem step_append_src {w : World} {ops : Array Oper} {o : Oper} {a : Act} {K : Act → World → Prop} {Q : Exit → Act → World → Prop} {E : Prop} (hgd : o.guard = none) (s x : Operand) (t : TypeId)
    (ho : o.op = .call { callee := .builtin .append, args := #[s, x], argTypes := #[t, t] })
    (base : Nat) (e : TypeId) (i : TypeInfo) (z : Value) (size bytes : Nat) (ht : P.underlying t = some (.slice e)) (hi : P.info? e = some i) (hz : i.zero = some z)
    (hsize : i.size = size) (hby : i.bytes = bytes) (hzs : z.cells.size = size) (hsz : 0 < size)
    (v : Value) (n : Nat) (xs : List Value) (hs : a.eval s = v) (hown : w.ownsRow base e size v n xs)
    (ao : Option Addr) (m c : Nat) (hx : a.eval x = .slice ao m c) (hnone : ao = none → c = 0) (cs : List Value) (hr : Src w ao m size cs) (h1 : ∀ u ∈ cs, u.oneCell' = true)
    (hb : n + m ≤ 140737488355328) (hbytes : (n + m) * bytes ≤ 140737488355328) (hbase : base ≤ w.heap.size)
    (h : ∀ a' c' w', w'.ownsRow base e size (.slice a' (n + m) c') (n + m) (xs ++ cs) → w.grownBy w' v.ownBlock → K (a.put o.dst (.slice a' (n + m) c')) w') :
    if Region.wanted o (yielded ops a.tmps) = true then Oper.wp P o a w K Q else E := by
  have hw : Region.wanted o (yielded ops a.tmps) = true := by simp [Region.wanted, hgd]
  rw [if_pos hw]
  obtain ⟨a', c', w', hrun, h2, h3⟩ := run_append_src (P := P) w t o.type base e i z size bytes ht hi hz hsize hby hzs hsz v n xs hown ao m c hnone cs hr h1 hb hbytes hbase
  unfold Oper.wp
  simp [execOp, ho, resolve, invoke, builtin, hs, hx, hrun, Result.andThen]
  exact h a' c' w' h2 h3
end
theorem own_blw {w : World} {base e size : Nat} {v : Value} {n : Nat} {xs : List Value} (h : w.ownsRow base e size v n xs) {w' : World} (hb : Below w.heap.size w w') : w'.ownsRow base e size v n xs :=
  ownsRow_stay h (TStay.of_below hb (fun _ => False)) (fun _ _ h => h)
end Tap
end Go
