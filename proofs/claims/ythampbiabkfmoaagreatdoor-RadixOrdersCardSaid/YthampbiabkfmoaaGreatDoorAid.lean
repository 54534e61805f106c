import Derived.WalkKit
import Derived.Laws.AppendOwnNone
import Derived.Deep.AppendLies
import Derived.Maps.AppendAt
import Derived.Laws.BytesArg
import Derived.Test.YthampbiabkfmoaaGreatDoorProg
import Derived.Deep.Draws
namespace Go
namespace Tap
open Go.RowKit

/-- Bytes as the values of cells. -/
def bv (l : List UInt8) : List Value := l.map fun b => .int .u8 (b.toNat : Int)
theorem bv_length (l : List UInt8) : (bv l).length = l.length := by simp [bv]
theorem bv_append (a b : List UInt8) : bv a ++ bv b = bv (a ++ b) := by simp [bv]
theorem bv_getElem? (l : List UInt8) (i : Nat) : (bv l)[i]? = (l[i]?).map fun b => .int .u8 (b.toNat : Int) := by simp [bv]
theorem bv_one (l : List UInt8) : ∀ u ∈ bv l, u.oneCell' = true := by
  intro u hu
  obtain ⟨_, _, rfl⟩ := List.mem_map.1 hu
  rfl

/-- Only the blocks of S may have turned, of those that were there. -/
structure TStay (S : Nat → Prop) (w w' : World) : Prop where
  os : w'.os = w.os
  tape : w'.tape = w.tape
  output : w'.output = w.output
  size : w.heap.size ≤ w'.heap.size
  block : ∀ k, k < w.heap.size → ¬ S k → w'.heap[k]? = w.heap[k]?

theorem TStay.refl (S : Nat → Prop) (w : World) : TStay S w w := ⟨rfl, rfl, rfl, Nat.le_refl _, fun _ _ _ => rfl⟩
theorem TStay.trans {S S' : Nat → Prop} {a b c : World} (h : TStay S a b) (k : TStay S' b c) (hs : ∀ i, i < a.heap.size → S' i → S i) : TStay S a c :=
  ⟨k.os.trans h.os, k.tape.trans h.tape, k.output.trans h.output, Nat.le_trans h.size k.size, fun i hi hn =>
    (k.block i (Nat.lt_of_lt_of_le hi h.size) (fun x => hn (hs i hi x))).trans (h.block i hi hn)⟩
theorem TStay.mono {S S' : Nat → Prop} {w w' : World} (h : TStay S w w') (hs : ∀ i, i < w.heap.size → S i → S' i) : TStay S' w w' :=
  ⟨h.os, h.tape, h.output, h.size, fun k hk hn => h.block k hk (fun x => hn (hs k hk x))⟩
theorem TStay.alloc (S : Nat → Prop) {a w : World} (h : TStay S a w) (o : Obj) : TStay S a (w.alloc o) :=
  ⟨h.os, h.tape, h.output, by have := h.size; simp; omega, fun k hk hn => (Below.heap_alloc _ _ _ (Nat.lt_of_lt_of_le hk h.size)).trans (h.block k hk hn)⟩
theorem TStay.drew (S : Nat → Prop) {a w : World} (h : TStay S a w) : TStay S a w.drew := ⟨h.os, h.tape, h.output, h.size, h.block⟩
theorem TStay.setCell {S : Nat → Prop} {a w : World} (h : TStay S a w) {p : Addr} (hp : S p.block ∨ a.heap.size ≤ p.block) (u : Value) : TStay S a (w.setCell p u) :=
  ⟨h.os, h.tape, h.output, by have := h.size; simp; omega, fun k hk hn => by
    rw [heap_setCell_other _ _ _ _ (by rintro rfl; rcases hp with hp | hp; exact hn hp; omega)]; exact h.block k hk hn⟩
theorem TStay.grown {S : Nat → Prop} {a w w' : World} {row : Option Nat} (h : TStay S a w) (hg : w.grownBy w' row) (hr : ∀ k, row = some k → S k ∨ a.heap.size ≤ k) : TStay S a w' :=
  ⟨hg.os.trans h.os, hg.tape.trans h.tape, hg.output.trans h.output, Nat.le_trans h.size hg.size, fun k hk hn => by
    rw [hg.block k (Nat.lt_of_lt_of_le hk h.size) (fun e => by rcases hr k e.symm with x | x; exact hn x; omega)]; exact h.block k hk hn⟩
theorem TStay.below {S : Nat → Prop} {w w' : World} (h : TStay S w w') {B : Nat} (hB : B ≤ w.heap.size) (hs : ∀ k, k < B → ¬ S k) : Below B w w' :=
  ⟨h.os, h.tape, h.output, h.size, fun k hk => h.block k (by omega) (hs k hk)⟩
theorem TStay.of_below {w w' : World} (h : Below w.heap.size w w') (S : Nat → Prop) : TStay S w w' := ⟨h.os, h.tape, h.output, h.size, fun k hk _ => h.block k hk⟩
theorem Below.trans_stay {B : Nat} {S : Nat → Prop} {a b c : World} (h : Below B a b) (k : TStay S b c) (hB : B ≤ a.heap.size) (hs : ∀ k, k < B → ¬ S k) : Below B a c :=
  h.trans (k.below (Nat.le_trans hB h.size) hs)

/-- A slice of bytes that is only read: its bytes are l. -/
def Rds (w : World) (a : Option Addr) (n : Nat) (l : List UInt8) : Prop :=
  l.length = n ∧ (0 < n → ∃ b o, a = some ⟨b, o, none⟩ ∧ ∀ i x, l[i]? = some x → w.cell? ⟨b, o + i, none⟩ = some (.int .u8 (x.toNat : Int)))
theorem Rds.length {w : World} {a : Option Addr} {n : Nat} {l : List UInt8} (h : Rds w a n l) : l.length = n := h.1
theorem Rds.nil (w : World) (a : Option Addr) : Rds w a 0 [] := ⟨rfl, fun h => absurd h (by omega)⟩
theorem Rds.take {w : World} {a : Option Addr} {n : Nat} {l : List UInt8} (h : Rds w a n l) {k : Nat} (hk : k ≤ n) : Rds w a k (l.take k) := by
  refine ⟨by rw [List.length_take, h.1]; omega, fun h0 => ?_⟩
  obtain ⟨b, o, e, hc⟩ := h.2 (by omega)
  refine ⟨b, o, e, fun i x hx => hc i x ?_⟩
  rw [List.getElem?_take] at hx
  split at hx
  · exact hx
  · cases hx
theorem Rds.drop {w : World} {a : Option Addr} {n c : Nat} {l : List UInt8} (h : Rds w a n l) {k : Nat} (hk : k ≤ n) (hnc : n ≤ c) : Rds w (if c = k then a else a.map (·.add k)) (n - k) (l.drop k) := by
  refine ⟨by rw [List.length_drop, h.1], fun h0 => ?_⟩
  obtain ⟨b, o, e, hc⟩ := h.2 (by omega)
  subst e
  refine ⟨b, o + k, ?_, fun i x hx => ?_⟩
  · rw [if_neg (by omega)]; simp [Addr.add_lit]
  · rw [List.getElem?_drop] at hx
    have := hc _ _ hx
    rwa [Nat.add_assoc]
/-- It stays while its block stays. -/
theorem Rds.keep {w w' : World} {a : Option Addr} {n : Nat} {l : List UInt8} (h : Rds w a n l) (hk : 0 < n → ∀ b o, a = some ⟨b, o, none⟩ → w'.heap[b]? = w.heap[b]?) : Rds w' a n l := by
  refine ⟨h.1, fun hn => ?_⟩
  obtain ⟨b, o, e, hc⟩ := h.2 hn
  exact ⟨b, o, e, fun i x hx => (World.cell?_of_block (w := w) (hk hn b o e)).trans (hc i x hx)⟩
theorem Rds.lt {w : World} {b o : Nat} {n : Nat} {l : List UInt8} (h : Rds w (some ⟨b, o, none⟩) n l) (hn : 0 < n) : b < w.heap.size := by
  obtain ⟨b', o', e, hc⟩ := h.2 hn
  simp at e
  obtain ⟨rfl, rfl⟩ := e
  have h0 : 0 < l.length := by rw [h.1]; exact hn
  exact block_lt_of_cell (hc 0 l[0] (by simp))
theorem Rds.stay {S : Nat → Prop} {w w' : World} {a : Option Addr} {n : Nat} {l : List UInt8} (h : Rds w a n l) (ht : TStay S w w') (hs : 0 < n → ∀ b o, a = some ⟨b, o, none⟩ → ¬ S b) : Rds w' a n l :=
  h.keep fun hn b o e => ht.block b (by subst e; exact h.lt hn) (hs hn b o e)
theorem Rds.below {B : Nat} {w w' : World} {a : Option Addr} {n : Nat} {l : List UInt8} (h : Rds w a n l) (ht : Below B w w') (hs : 0 < n → ∀ b o, a = some ⟨b, o, none⟩ → b < B) : Rds w' a n l :=
  h.keep fun hn b o e => ht.block b (hs hn b o e)
theorem Rds.alloc {w : World} {a : Option Addr} {n : Nat} {l : List UInt8} (h : Rds w a n l) (o : Obj) : Rds (w.alloc o) a n l :=
  h.keep fun hn b p e => by subst e; exact Below.heap_alloc _ _ _ (h.lt hn)
theorem Rds.drew {w : World} {a : Option Addr} {n : Nat} {l : List UInt8} (h : Rds w a n l) : Rds w.drew a n l := h
/-- What is owned is read. -/
theorem Rds.of_own {w : World} {base e : Nat} {a : Option Addr} {n c : Nat} {l : List UInt8} (h : w.ownsRow base e 1 (.slice a n c) l.length (bv l)) (hn : l.length = n) : Rds w a n l := by
  refine ⟨hn, fun h0 => ?_⟩
  rcases h.2 with ⟨h', hx⟩ | ⟨g, cap, cur, h', _, hg, _⟩
  · have : l = [] := by simpa [bv] using hx
    subst this; simp at hn; omega
  · simp only [Value.slice.injEq] at h'
    obtain ⟨rfl, _, _⟩ := h'
    refine ⟨g, 0, rfl, fun i x hx => ?_⟩
    have := h.cells (g := g) rfl i (.int .u8 (x.toNat : Int)) (by rw [bv_getElem?, hx]; rfl)
    simpa [Addr.add_lit] using this

/-- Two rows that are owned share no block. -/
theorem ownBlock_slice (a : Option Addr) (n c : Nat) (g : Nat) : (Value.slice a n c).ownBlock = some g ↔ ∃ x, a = some x ∧ x.block = g := by
  cases a <;> simp [Value.ownBlock]

section
variable {P : Program}
/-- 'append(s, x...)' where s is owned and x is a slice of bytes that is read. -/
theorem wpList_append_rds (w : World) {ops : Array Oper} {rest : List Oper} {o : Oper} {a : Act} {Q : Exit → Act → World → Prop} (hgd : o.guard = none) (s x : Operand) (t : TypeId)
    (ho : o.op = .call { callee := .builtin .append, args := #[s, x], argTypes := #[t, t] })
    (base : Nat) (e : TypeId) (i : TypeInfo) (ht : P.underlying t = some (.slice e)) (hi : P.info? e = some i) (hz : i.zero = some (.int .u8 0))
    (hsize : i.size = 1) (hby : i.bytes = 1)
    (v : Value) (n : Nat) (xs : List UInt8) (hs : a.eval s = v) (hown : w.ownsRow base e 1 v n (bv xs))
    (ao : Option Addr) (m c : Nat) (hx : a.eval x = .slice ao m c) (hnone : ao = none → c = 0) (l : List UInt8) (hr : Rds w ao m l)
    (hb : n + m ≤ 140737488355328) (hbase : base ≤ w.heap.size)
    (h : ∀ v' w', w'.ownsRow base e 1 v' (n + m) (bv (xs ++ l)) → w.grownBy w' v.ownBlock → wpList P ops Q rest (a.put o.dst v') w') : wpList P ops Q (o :: rest) a w := by
  have hl := hr.1
  cases ao with
  | none =>
    obtain rfl := hnone rfl
    have hm : m = 0 := by
      rcases Nat.eq_zero_or_pos m with h0 | h0
      · exact h0
      · obtain ⟨_, _, e, _⟩ := hr.2 h0; cases e
    subst hm
    have : l = [] := List.eq_nil_of_length_eq_zero hl
    subst this
    refine wpList_append_own_none hgd s x t ho base e i 1 ht hi v n (bv xs) hs hown hx ?_
    exact h v w (by simpa using hown) (World.grownBy.refl _ _)
  | some ad =>
    refine wpList_append_own w hgd s x t ho base e i (.int .u8 0) 1 1 ht hi hz hsize hby rfl (by decide) v n (bv xs) hs hown ad m c (bv l) hx (by rw [bv_length, hl, Nat.mul_one]) ?_ (bv_one l) (by unfold maxLen; omega) (by omega) hbase ?_
    · intro j u hu
      rw [bv_getElem?] at hu
      obtain ⟨y, hy, rfl⟩ := Option.map_eq_some_iff.1 hu
      have hj : j < l.length := (List.getElem?_eq_some_iff.1 hy).1
      obtain ⟨b, o', e1, hc⟩ := hr.2 (by omega)
      simp at e1; subst e1
      rw [Addr.add_lit]; exact hc j y hy
    · intro v' w' h1 h2 _
      exact h v' w' (by rw [← bv_append]; exact h1) h2
/-- 'append(s, x)', one byte. -/
theorem wpList_append_byte (w : World) {ops : Array Oper} {rest : List Oper} {o : Oper} {a : Act} {Q : Exit → Act → World → Prop} (hgd : o.guard = none) (s x : Operand) (t : TypeId)
    (ho : o.op = .call { callee := .builtin .append, args := #[s, x], argTypes := #[t, t] })
    (base : Nat) (e : TypeId) (i : TypeInfo) (ht : P.underlying t = some (.slice e)) (hi : P.info? e = some i) (hz : i.zero = some (.int .u8 0))
    (hsize : i.size = 1) (hby : i.bytes = 1)
    (v : Value) (n : Nat) (xs : List UInt8) (hs : a.eval s = v) (hown : w.ownsRow base e 1 v n (bv xs))
    (ad : Addr) (c : Nat) (hx : a.eval x = .slice (some ad) 1 c) (y : UInt8) (hy : w.cell? ad = some (.int .u8 (y.toNat : Int)))
    (hb : n + 1 ≤ 140737488355328) (hbase : base ≤ w.heap.size)
    (h : ∀ v' w', w'.ownsRow base e 1 v' (n + 1) (bv (xs ++ [y])) → w.grownBy w' v.ownBlock → wpList P ops Q rest (a.put o.dst v') w') : wpList P ops Q (o :: rest) a w := by
  refine wpList_append_own w hgd s x t ho base e i (.int .u8 0) 1 1 ht hi hz hsize hby rfl (by decide) v n (bv xs) hs hown ad 1 c (bv [y]) hx rfl ?_ (bv_one _) (by unfold maxLen; omega) (by omega) hbase ?_
  · intro j u hu
    cases j with
    | zero => simp [bv] at hu; subst hu; simpa [Addr.add] using hy
    | succ j => simp [bv] at hu
  · intro v' w' h1 h2 _
    exact h v' w' (by rw [← bv_append]; exact h1) h2
end

section
variable {P : Program}
/-- One byte appended, at a step of a region that draws its order. -/
theorem step_append_byte {w : World} {ops : Array Oper} {o : Oper} {a : Act} {K : Act → World → Prop} {Q : Exit → Act → World → Prop} {E : Prop} (hgd : o.guard = none) (s x : Operand) (t : TypeId)
    (ho : o.op = .call { callee := .builtin .append, args := #[s, x], argTypes := #[t, t] })
    (e : TypeId) (i : TypeInfo) (ht : P.underlying t = some (.slice e)) (hi : P.info? e = some i) (hz : i.zero = some (.int .u8 0)) (hsize : i.size = 1) (hby : i.bytes = 1)
    (v : Value) (n : Nat) (xs : List UInt8) (hs : a.eval s = v) (hown : w.ownsRow 0 e 1 v n (bv xs))
    (b c : Nat) (hx : a.eval x = .slice (some ⟨b, 0, none⟩) 1 c) (y : UInt8) (hy : w.cell? ⟨b, 0, none⟩ = some (.int .u8 (y.toNat : Int))) (hb : n + 1 ≤ 140737488355328)
    (h : ∀ g cap w', w'.ownsRow 0 e 1 (.slice (some ⟨g, 0, none⟩) (n + 1) cap) (n + 1) (bv (xs ++ [y])) → w.grownBy w' v.ownBlock → (v.ownBlock = some g ∨ g = w.heap.size) → K (a.put o.dst (.slice (some ⟨g, 0, none⟩) (n + 1) cap)) w') :
    if Region.wanted o (yielded ops a.tmps) = true then Oper.wp P o a w K Q else E :=
  step_append_lies w hgd s x t ho 0 e i (.int .u8 0) 1 1 ht hi hz hsize hby rfl (by decide) v n (bv xs) hs hown ⟨b, 0, none⟩ 1 c (bv [y]) hx rfl
    (fun j u hu => by
      cases j with
      | zero => simp [bv] at hu; subst hu; simpa [Addr.add] using hy
      | succ j => simp [bv] at hu) (bv_one _) (by omega) (by unfold maxLen; omega) (by omega) (by omega) _ rfl
    (fun g cap w' h1 h2 h3 _ => h g cap w' (by rw [← bv_append]; exact h1) h2 h3)
/-- The same at a plain region's list. -/
theorem wpList_append_byte_lies {w : World} {ops : Array Oper} {rest : List Oper} {o : Oper} {a : Act} {Q : Exit → Act → World → Prop} (hgd : o.guard = none) (s x : Operand) (t : TypeId)
    (ho : o.op = .call { callee := .builtin .append, args := #[s, x], argTypes := #[t, t] })
    (e : TypeId) (i : TypeInfo) (ht : P.underlying t = some (.slice e)) (hi : P.info? e = some i) (hz : i.zero = some (.int .u8 0)) (hsize : i.size = 1) (hby : i.bytes = 1)
    (v : Value) (n : Nat) (xs : List UInt8) (hs : a.eval s = v) (hown : w.ownsRow 0 e 1 v n (bv xs))
    (b c : Nat) (hx : a.eval x = .slice (some ⟨b, 0, none⟩) 1 c) (y : UInt8) (hy : w.cell? ⟨b, 0, none⟩ = some (.int .u8 (y.toNat : Int))) (hb : n + 1 ≤ 140737488355328)
    (h : ∀ g cap w', w'.ownsRow 0 e 1 (.slice (some ⟨g, 0, none⟩) (n + 1) cap) (n + 1) (bv (xs ++ [y])) → w.grownBy w' v.ownBlock → (v.ownBlock = some g ∨ g = w.heap.size) → wpList P ops Q rest (a.put o.dst (.slice (some ⟨g, 0, none⟩) (n + 1) cap)) w') :
    wpList P ops Q (o :: rest) a w :=
  wpList_append_lies w hgd s x t ho 0 e i (.int .u8 0) 1 1 ht hi hz hsize hby rfl (by decide) v n (bv xs) hs hown ⟨b, 0, none⟩ 1 c (bv [y]) hx rfl
    (fun j u hu => by
      cases j with
      | zero => simp [bv] at hu; subst hu; simpa [Addr.add] using hy
      | succ j => simp [bv] at hu) (bv_one _) (by omega) (by unfold maxLen; omega) (by omega) (by omega) _ rfl
    (fun g cap w' h1 h2 h3 _ => h g cap w' (by rw [← bv_append]; exact h1) h2 h3)
/-- 'append(s, x...)': where the new slice lies, too. -/
theorem wpList_append_rds_at {w : World} {ops : Array Oper} {rest : List Oper} {o : Oper} {a : Act} {Q : Exit → Act → World → Prop} (hgd : o.guard = none) (s x : Operand) (t : TypeId)
    (ho : o.op = .call { callee := .builtin .append, args := #[s, x], argTypes := #[t, t] })
    (e : TypeId) (i : TypeInfo) (ht : P.underlying t = some (.slice e)) (hi : P.info? e = some i) (hz : i.zero = some (.int .u8 0)) (hsize : i.size = 1) (hby : i.bytes = 1)
    (v : Value) (n : Nat) (xs : List UInt8) (hs : a.eval s = v) (hown : w.ownsRow 0 e 1 v n (bv xs))
    (ao : Option Addr) (m c : Nat) (hx : a.eval x = .slice ao m c) (hnone : ao = none → c = 0) (l : List UInt8) (hr : Rds w ao m l) (hb : n + m ≤ 140737488355328)
    (h : ∀ v' w', w'.ownsRow 0 e 1 v' (n + m) (bv (xs ++ l)) → w.grownBy w' v.ownBlock → (v'.ownBlock = v.ownBlock ∨ v'.ownBlock = some w.heap.size) → wpList P ops Q rest (a.put o.dst v') w') : wpList P ops Q (o :: rest) a w := by
  have hl := hr.1
  cases ao with
  | none =>
    obtain rfl := hnone rfl
    have hm : m = 0 := by
      rcases Nat.eq_zero_or_pos m with h0 | h0
      · exact h0
      · obtain ⟨_, _, e, _⟩ := hr.2 h0; cases e
    subst hm
    have : l = [] := List.eq_nil_of_length_eq_zero hl
    subst this
    refine wpList_append_own_none hgd s x t ho 0 e i 1 ht hi v n (bv xs) hs hown hx ?_
    exact h v w (by simpa using hown) (World.grownBy.refl _ _) (.inl rfl)
  | some ad =>
    refine wpList_plain hgd fun K hK => ?_
    obtain ⟨v', w', hrun, h1, h2, _, h3⟩ := run_append_own_at (P := P) w 0 t o.type e i (.int .u8 0) 1 1 ht hi hz hsize hby rfl (by decide) v n (bv xs) hown ad m c (bv l) (by rw [bv_length, hl, Nat.mul_one]) (by
      intro j u hu
      rw [bv_getElem?] at hu
      obtain ⟨y, hy, rfl⟩ := Option.map_eq_some_iff.1 hu
      have hj : j < l.length := (List.getElem?_eq_some_iff.1 hy).1
      obtain ⟨b, o', e1, hc⟩ := hr.2 (by omega)
      simp at e1; subst e1
      rw [Addr.add_lit]; exact hc j y hy) (bv_one l) (by unfold maxLen; omega) (by omega) (Nat.zero_le _)
    unfold Oper.wp execOp
    simp only [ho, resolve, invoke, builtin, Sem.run_bind, Sem.run_pure, Result.andThen_ok, List.map_toArray, List.map_cons, List.map_nil, hs, hx, hrun]
    exact hK _ _ (h v' w' (by rw [← bv_append]; exact h1) h2 h3)
end

/-- A block known whole. -/
theorem blk_cell {w : World} {b i : Nat} {cs : Array Value} {t : TypeId} {v : Value} (h : w.heap[b]? = some (.cells cs t (0, 0))) (hv : cs[i]? = some v) : w.cell? ⟨b, i, none⟩ = some v := by
  rw [cell_of_row w b i cs t (0, 0) h]; exact hv
theorem blk_free {w : World} {b : Nat} {cs : Array Value} {t : TypeId} (h : w.heap[b]? = some (.cells cs t (0, 0))) (i : Nat) : w.frozen? ⟨b, i, none⟩ = false := frozen_of_row w b i cs t h
theorem blk_lt {w : World} {b : Nat} {o : Obj} (h : w.heap[b]? = some o) : b < w.heap.size := lt_of_block h
theorem own_ne {w : World} {base e e' : Nat} {v : Value} {n b : Nat} {xs : List Value} {cs : Array Value} {fr : Nat × Nat} (h : w.ownsRow base e 1 v n xs) (hb : w.heap[b]? = some (.cells cs e' fr)) (hne : e' ≠ e) : v.ownBlock ≠ some b := by
  intro ho
  rcases h.2 with ⟨rfl, _⟩ | ⟨g, cap, cur, rfl, _, hg, _⟩
  · simp [Value.ownBlock] at ho
  · simp [Value.ownBlock] at ho
    subst ho
    rw [hb] at hg
    simp at hg
    exact hne hg.2.1
theorem ownsRow_stay {S : Nat → Prop} {w w' : World} {base e size : Nat} {v : Value} {n : Nat} {xs : List Value} (h : w.ownsRow base e size v n xs) (ht : TStay S w w') (hs : ∀ k, v.ownBlock = some k → ¬ S k) : w'.ownsRow base e size v n xs := by
  refine ⟨h.1, ?_⟩
  rcases h.2 with hn | ⟨g, cap, cur, rfl, hb, hg, r⟩
  · exact .inl hn
  · exact .inr ⟨g, cap, cur, rfl, hb, (ht.block g (lt_of_block hg) (hs g rfl)).trans hg, r⟩
theorem ownsRow_base {w : World} {base base' e size : Nat} {v : Value} {n : Nat} {xs : List Value} (h : w.ownsRow base e size v n xs) (hb : base' ≤ base) : w.ownsRow base' e size v n xs := by
  refine ⟨h.1, ?_⟩
  rcases h.2 with hn | ⟨g, cap, cur, rfl, hb', r⟩
  · exact .inl hn
  · exact .inr ⟨g, cap, cur, rfl, Nat.le_trans hb hb', r⟩
theorem ownsRow_rebase {w : World} {base base' e size : Nat} {v : Value} {n : Nat} {xs : List Value} (h : w.ownsRow base e size v n xs) (hb : ∀ k, v.ownBlock = some k → base' ≤ k) : w.ownsRow base' e size v n xs := by
  refine ⟨h.1, ?_⟩
  rcases h.2 with hn | ⟨g, cap, cur, rfl, hb', r⟩
  · exact .inl hn
  · exact .inr ⟨g, cap, cur, rfl, hb g rfl, r⟩
theorem ownsRow_slice {w : World} {base e size : Nat} {v : Value} {n : Nat} {xs : List Value} (h : w.ownsRow base e size v n xs) :
    ∃ a c, v = .slice a n c ∧ n ≤ c ∧ c ≤ maxLen ∧ (a = none → c = 0) ∧ (∀ b, v.ownBlock = some b → a = some ⟨b, 0, none⟩) := by
  rcases h.2 with ⟨rfl, rfl⟩ | ⟨g, cap, cur, rfl, _, _, h1, h2, _⟩
  · exact ⟨none, 0, rfl, Nat.le_refl _, Nat.zero_le _, fun _ => rfl, fun b hb => by simp [Value.ownBlock] at hb⟩
  · exact ⟨_, _, rfl, h1, h2, fun h => (by cases h), fun b hb => by simp [Value.ownBlock] at hb; subst hb; rfl⟩
theorem ret_int {k : IntKind} {a b : Int} (h : a = b) : Ending.returned (.int k a) = .returned (.int k b) := by rw [h]
theorem ret_bool {a b : Bool} (h : a = b) : Ending.returned (.bool a) = .returned (.bool b) := by rw [h]
/-- The empty slice that a literal makes. -/
theorem own_empty (w : World) (e : TypeId) : (w.alloc (.cells #[] e)).ownsRow w.heap.size e 1 (.slice (some ⟨w.heap.size, 0, none⟩) 0 0) 0 (bv []) :=
  World.ownsRow_lit w #[] 0 (Nat.le_refl _) (Nat.zero_le _) rfl
/-- A new block of bytes that a literal makes. -/
theorem cell_new (w : World) (c : Array Value) (t : TypeId) (fr : Nat × Nat) (i : Nat) : (w.alloc (.cells c t fr)).cell? ⟨w.heap.size, i, none⟩ = c[i]? := by
  unfold World.cell?
  rw [heap_alloc_new]; rfl
theorem rds_lit (w : World) (e : TypeId) (l : List UInt8) (fr : Nat × Nat := (0, 0)) : Rds (w.alloc (.cells (bv l).toArray e fr)) (some ⟨w.heap.size, 0, none⟩) l.length l := by
  refine ⟨rfl, fun _ => ⟨_, _, rfl, fun i x hx => ?_⟩⟩
  rw [cell_new, Nat.zero_add]
  rw [List.getElem?_toArray, bv_getElem?, hx]; rfl
theorem own_lit (w : World) (e : TypeId) (l : List UInt8) (h : l.length ≤ maxLen) : (w.alloc (.cells (bv l).toArray e)).ownsRow w.heap.size e 1 (.slice (some ⟨w.heap.size, 0, none⟩) l.length l.length) l.length (bv l) := by
  have := World.ownsRow_lit (e := e) (size := 1) w (bv l).toArray l.length (Nat.le_refl _) h (by simp [bv_length])
  simpa using this
theorem own_head {w : World} {base e size : Nat} {a : Option Addr} {n c : Nat} {xs : List Value} (h : w.ownsRow base e size (.slice a n c) n xs) (hn : 0 < n) : ∃ g, a = some ⟨g, 0, none⟩ ∧ base ≤ g ∧ g < w.heap.size := by
  rcases h.2 with ⟨h1, h2⟩ | ⟨g, cap, cur, h1, hb, hg, _⟩
  · omega
  · simp only [Value.slice.injEq] at h1
    exact ⟨g, h1.1, hb, lt_of_block hg⟩
theorem bv_set (l : List UInt8) (k : Nat) (x : UInt8) : (bv l).set k (.int .u8 (x.toNat : Int)) = bv (l.set k x) := by simp [bv, List.map_set]
theorem byte_of {y : Int} (h : 0 ≤ y ∧ y ≤ 255) : ∃ b : UInt8, y = (b.toNat : Int) := ⟨UInt8.ofNat y.toNat, by simp; omega⟩
/-- A string of bytes. -/
def str (l : List UInt8) : ByteArray := ⟨l.toArray⟩
theorem str_toList (l : List UInt8) : (str l).toList = l := ByteArray.toList_mk l
theorem run_str {P : Program} (w : World) (a : Option Addr) (n c : Nat) (l : List UInt8) (src dst e : TypeId) (hs : P.underlying src = some (.slice e)) (he : P.underlying e = some (.int .u8)) (hd : P.underlying dst = some .string)
    (h : Rds w a n l) : (convert src dst (.slice a n c)).run P w = .ok (.string (str l)) w := by
  have hl := h.1
  rcases Nat.eq_zero_or_pos n with h0 | h0
  · subst h0
    have : l = [] := List.eq_nil_of_length_eq_zero hl
    subst this
    cases a with
    | none => exact run_convert_bytes_nil w src e hs he 0 c dst hd
    | some x =>
      rw [run_convert_bytes_string w src dst e _ 0 c hs he hd]
      have := run_bytesToString (P := P) w x 0 c [] (by have := run_loadCells_list (P := P) w x [] (fun j v hj => by simp at hj); simpa using this)
      exact this
  · obtain ⟨b, o, rfl, hc⟩ := h.2 h0
    have := run_convert_bytes_arg (P := P) w src e hs he b o n c (l.map fun x => (x.toNat : Int)) (by simpa using hl) (fun i hi => by
      have hi' : i < l.length := by omega
      rw [hc i (l[i]'hi') (List.getElem?_eq_getElem _)]
      simp [List.getD, hi']) dst hd
    rw [this]
    congr 2
    simp [strOfNums, str, Function.comp_def]
end Tap
end Go
/- One element of several cells appended to a row of one's own. -/
namespace Go
open Go.RowKit
namespace Tap
/-- 'append(s, x)' of one element that lies whole in the block B. -/
theorem wpList_append_one {P : Program} (w : World) {ops : Array Oper} {rest : List Oper} {o : Oper} {a : Act} {Q : Exit → Act → World → Prop} (hgd : o.guard = none) (s x : Operand) (t : TypeId)
    (ho : o.op = .call { callee := .builtin .append, args := #[s, x], argTypes := #[t, t] })
    (base : Nat) (e : TypeId) (i : TypeInfo) (z : Value) (size bytes : Nat) (ht : P.underlying t = some (.slice e)) (hi : P.info? e = some i) (hz : i.zero = some z)
    (hsize : i.size = size) (hby : i.bytes = bytes) (hzs : z.cells.size = size) (hsz : 0 < size)
    (v : Value) (n : Nat) (xs : List Value) (hs : a.eval s = v) (hown : w.ownsRow base e size v n xs)
    (B c : Nat) (cs : Array Value) (T : TypeId) (hx : a.eval x = .slice (some ⟨B, 0, none⟩) 1 c) (hb : w.heap[B]? = some (.cells cs T (0, 0))) (hcs : cs.toList.length = size) (h1 : ∀ u ∈ cs.toList, u.oneCell' = true)
    (hbytes : (n + 1) * bytes ≤ 140737488355328) (hbn : n + 1 ≤ 140737488355328) (hbase : base ≤ w.heap.size)
    (h : ∀ v' w', w'.ownsRow base e size v' (n + 1) (xs ++ cs.toList) → w.grownBy w' v.ownBlock → wpList P ops Q rest (a.put o.dst v') w') : wpList P ops Q (o :: rest) a w :=
  wpList_append_own w hgd s x t ho base e i z size bytes ht hi hz hsize hby hzs hsz v n xs hs hown ⟨B, 0, none⟩ 1 c cs.toList hx (by rw [hcs, Nat.one_mul])
    (World.news_of_block hb) h1 (by unfold maxLen; omega) hbytes hbase fun v' w' h2 h3 _ => h v' w' h2 h3
end Tap
end Go
/- string(bytes) as the walk meets it; draws. -/
namespace Go.Proofs.YthampbiabkfmoaaGreatDoor
open Go.RowKit Go.Tap

theorem convB (w : World) (a : Option Addr) (n c : Nat) (l : List UInt8) (h : Rds w a n l) : (convert 66 9 (.slice a n c)).run Tryz.prog w = .ok (.string (str l)) w :=
  run_str (P := Tryz.prog) w a n c l 66 9 5 Tryz.underlying66 Tryz.underlying5 Tryz.underlying9 h
theorem rds_drew {w : World} {a : Option Addr} {n : Nat} {l : List UInt8} (h : Rds w a n l) : Rds w.drew a n l := h
theorem bel_drewN {B : Nat} {a w : World} (h : Below B a w) (n : Nat) : Below B a (w.drewN n) := ⟨h.os, h.tape, h.output, h.size, h.block⟩
end Go.Proofs.YthampbiabkfmoaaGreatDoor
