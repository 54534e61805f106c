/- taprootlaw9: a pair's hash; kept.put. -/
import Derived.Test.YthampbiabkfmoaaDoorRxRef
import Derived.Test.YthampbiabkfmoaaDoorHand
import Derived.Deep.AppendLies
import Derived.Test.YthampbiabkfmoaaDoorRxGet
import Derived.Test.YthampbiabkfmoaaDoorRxPlain
namespace Rx
/-- A pair, raw. -/
structure Pr where
  n : Int
  v : Int
  h : List UInt8
  any : Bool
  deriving Inhabited
abbrev K := List (List UInt8 × Int)
def kput : K → List UInt8 → Int → K
  | [], h, n => [(h, n)]
  | (x, m) :: r, h, n => if x = h then (x, n) :: r else (x, m) :: kput r h n
theorem kput_set : ∀ (k : K) (i : Nat) (x : List UInt8 × Int) (n : Int), (∀ j, j < i → ∀ y, k[j]? = some y → y.1 ≠ x.1) → k[i]? = some x → kput k x.1 n = k.set i (x.1, n)
  | [], i, x, n, _, h => by simp at h
  | (y, m) :: r, 0, x, n, _, h => by
    simp at h; subst h
    simp [kput]
  | (y, m) :: r, i + 1, x, n, hn, h => by
    have h0 := hn 0 (by omega) (y, m) rfl
    rw [kput, if_neg h0, List.set_cons_succ]
    rw [kput_set r i x n (fun j hj z hz => hn (j + 1) (by omega) z (by simpa using hz)) (by simpa using h)]
theorem kput_snoc : ∀ (k : K) (h : List UInt8) (n : Int), (∀ y ∈ k, y.1 ≠ h) → kput k h n = k ++ [(h, n)]
  | [], h, n, _ => rfl
  | (y, m) :: r, h, n, hn => by
    rw [kput, if_neg (hn (y, m) (List.mem_cons_self ..)), kput_snoc r h n (fun z hz => hn z (List.mem_cons_of_mem _ hz))]
    rfl
end Rx
namespace Go.Proofs.YthampbiabkfmoaaDoor
open Go.RowKit Go.Tap
set_option linter.unusedVariables false
set_option linter.unusedSimpArgs false
def prC (p : Rx.Pr) : Array Value := ([Value.int .i64 p.n, Value.int .i64 p.v] ++ bv p.h ++ [Value.bool p.any]).toArray
theorem prC_n (p : Rx.Pr) : (prC p)[0]? = some (.int .i64 p.n) := by simp [prC]
theorem prC_v (p : Rx.Pr) : (prC p)[1]? = some (.int .i64 p.v) := by simp [prC]
theorem prC_any (p : Rx.Pr) (h : p.h.length = 32) : (prC p)[34]? = some (.bool p.any) := by
  simp only [prC, List.getElem?_toArray]
  rw [List.getElem?_append_right (by simp [bv_length, h])]
  simp [bv_length, h]
theorem prC_h (p : Rx.Pr) (h : p.h.length = 32) : (prC p).extract 2 (2 + 32) = hashC p.h := by
  apply Array.ext'
  simp only [prC, hashC, List.extract_toArray, List.extract_eq_take_drop]
  rw [List.append_assoc, List.drop_left' (by simp), List.take_left' (by rw [bv_length, h])]
theorem prC_size (p : Rx.Pr) (h : p.h.length = 32) : (prC p).size = 35 := by simp [prC, bv_length, h]
def Rx.hashOf (p : Rx.Pr) : List UInt8 := if p.any = true then p.h else Hs.of (p.n % 60).toNat
theorem hashOf_len (p : Rx.Pr) (h : p.h.length = 32) : (Rx.hashOf p).length = 32 := by unfold Rx.hashOf; split; exact h; rfl
theorem in_int : (Tryd.prog.info? 3).map (fun i => (i.zero, i.size, i.bytes)) = some (some (.int .i64 0), 1, 8) := by kernel_rfl
/-- What was put, in memory. -/
abbrev OwnZ (w : World) (base : Nat) (v : Value) (l : List Int) : Prop := w.ownsRow base 3 1 v l.length (l.map (Value.int .i64))
theorem TreeAt.stay {S : Nat → Prop} {w w' : World} {lo TB : Nat} {t : Rx.T} (h : TreeAt w lo TB t) (hs : TStay S w w') (hd : ∀ x, x = TB ∨ Rx.mem t x → ¬ S x) : TreeAt w' lo TB t :=
  ⟨(hs.block _ (blk_lt h.top) (hd _ (.inl rfl))).trans h.top, h.at_.stay hs (fun x hx => hd x (.inr hx)), h.sep, h.ok, h.lo_, h.mem⟩
theorem own_ty {w : World} {base e size n : Nat} {v : Value} {xs : List Value} (h : w.ownsRow base e size v n xs) {j : Nat} (hj : v.ownBlock = some j) : base ≤ j ∧ ∃ cs, w.heap[j]? = some (.cells cs e (0, 0)) := by
  rcases h.2 with ⟨rfl, _⟩ | ⟨g, cap, cur, rfl, h1, hg, _⟩
  · cases hj
  · simp [Value.ownBlock] at hj; subst hj; exact ⟨h1, _, hg⟩
theorem map_set_fst (k : Rx.K) (i : Nat) (x : List UInt8 × Int) (n : Int) (h : k[i]? = some x) : (k.set i (x.1, n)).map (·.1) = k.map (·.1) := by
  rw [List.map_set]
  apply List.ext_getElem?
  intro j
  rw [List.getElem?_set]
  split
  · next e => subst e; simp [h]; have := (List.getElem?_eq_some_iff.1 h).1; omega
  · rfl
theorem map_get {α β : Type} (l : List α) (f : α → β) (j : Nat) (x : α) (h : l[j]? = some x) : (l.map f)[j]? = some (f x) := by simp [h]
end Go.Proofs.YthampbiabkfmoaaDoor
/- Plain: a tree's leaves against what was put. -/
set_option linter.unusedVariables false
set_option linter.unusedSimpArgs false
namespace Rx
/-- The tree holds what was put. -/
structure Mt (t : T) (k : K) : Prop where
  mem : ∀ x n, x.length = 32 → (Rx.has t x 0 = some n ↔ (x, n) ∈ k)
  nd : (k.map (·.1)).Nodup
  h32 : ∀ x ∈ k, x.1.length = 32
theorem Mt.nil : Mt .nil [] := ⟨fun x n _ => by simp [has], by simp, fun x h => by simp at h⟩
theorem Mt.leaf {t : T} {k : K} (h : Mt t k) (ho : ok t []) (x : List UInt8 × Int) : x ∈ leaves t ↔ x ∈ k := by
  constructor
  · intro hx
    have h1 := (leaves_ok t [] ho x hx).1
    exact (h.mem x.1 x.2 h1).1 ((has_leaves t [] ho x.1 x.2 h1 (pre_nil _)).2 hx)
  · intro hx
    have h1 := h.h32 x hx
    exact (has_leaves t [] ho x.1 x.2 h1 (pre_nil _)).1 ((h.mem x.1 x.2 h1).2 hx)
theorem Mt.get {t : T} {k : K} (h : Mt t k) {x : List UInt8 × Int} (hx : x ∈ k) : has t x.1 0 = some x.2 := (h.mem x.1 x.2 (h.h32 x hx)).2 hx
theorem Mt.hashes {t : T} {k : K} (h : Mt t k) (ho : ok t []) : hashes t = sortH (k.map (·.1)) := by
  refine hashes_sort ho _ (fun x hx => ?_) (fun x => ?_)
  · obtain ⟨y, hy, rfl⟩ := List.mem_map.1 hx
    exact h.h32 y hy
  · simp only [Rx.hashes, List.mem_map]
    constructor
    · rintro ⟨y, hy, rfl⟩; exact ⟨y, (h.leaf ho y).2 hy, rfl⟩
    · rintro ⟨y, hy, rfl⟩; exact ⟨y, (h.leaf ho y).1 hy, rfl⟩
theorem nodup_len {α : Type} [DecidableEq α] : ∀ (l m : List α), l.Nodup → (∀ x ∈ l, x ∈ m) → l.length ≤ m.length
  | [], m, _, _ => Nat.zero_le _
  | a :: l, m, hn, hs => by
    have ha : a ∈ m := hs a (List.mem_cons_self ..)
    have h1 := nodup_len l (m.erase a) (List.nodup_cons.1 hn).2 (fun x hx => (List.mem_erase_of_ne (fun e => (List.nodup_cons.1 hn).1 (by rw [← e]; exact hx))).2 (hs x (List.mem_cons_of_mem _ hx)))
    rw [List.length_erase_of_mem ha] at h1
    have := List.length_pos_of_mem ha
    simp only [List.length_cons]; omega
theorem nodup_of_lt : ∀ (l : List (List UInt8)), l.Pairwise lt → l.Nodup := fun l h => List.Pairwise.imp (S := fun a b => a ≠ b) (fun {a b} h e => by subst e; exact lt_irrefl _ h) h
theorem Mt.cnt {t : T} {k : K} (h : Mt t k) (ho : ok t []) : cnt t = k.length := by
  rw [← cnt_leaves, show (leaves t).length = ((leaves t).map (·.1)).length by simp, show k.length = (k.map (·.1)).length by simp]
  have e1 : ∀ x, x ∈ (leaves t).map (·.1) ↔ x ∈ k.map (·.1) := fun x => by
    simp only [List.mem_map]
    constructor
    · rintro ⟨y, hy, rfl⟩; exact ⟨y, (h.leaf ho y).1 hy, rfl⟩
    · rintro ⟨y, hy, rfl⟩; exact ⟨y, (h.leaf ho y).2 hy, rfl⟩
  exact Nat.le_antisymm (nodup_len _ _ (nodup_of_lt _ (leaves_distinct ho)) (fun x hx => (e1 x).1 hx)) (nodup_len _ _ h.nd (fun x hx => (e1 x).2 hx))
theorem kput_mem : ∀ (k : K) (h : List UInt8) (n : Int), (k.map (·.1)).Nodup → ∀ x m, (x, m) ∈ kput k h n ↔ if x = h then m = n else (x, m) ∈ k
  | [], h, n, _, x, m => by
    simp only [kput, List.mem_singleton, Prod.mk.injEq, List.not_mem_nil]
    split <;> simp_all
  | (y, j) :: r, h, n, hn, x, m => by
    simp only [List.map_cons, List.nodup_cons] at hn
    by_cases e : y = h
    · subst e
      rw [kput, if_pos rfl]
      simp only [List.mem_cons, Prod.mk.injEq]
      by_cases e2 : x = y
      · subst e2
        simp only [true_and, if_true]
        constructor
        · rintro (h1 | h1)
          · exact h1
          · exact absurd (List.mem_map.2 ⟨_, h1, rfl⟩) hn.1
        · exact .inl
      · simp [e2]
    · rw [kput, if_neg e]
      simp only [List.mem_cons, Prod.mk.injEq, kput_mem r h n hn.2 x m]
      by_cases e2 : x = h
      · subst e2
        rw [if_pos rfl, if_pos rfl]
        constructor
        · rintro (h1 | h1)
          · exact absurd h1.1.symm e
          · exact h1
        · exact .inr
      · rw [if_neg e2, if_neg e2]
theorem kput_keys : ∀ (k : K) (h : List UInt8) (n : Int) (x : List UInt8), x ∈ (kput k h n).map (·.1) ↔ x = h ∨ x ∈ k.map (·.1)
  | [], h, n, x => by simp [kput]
  | (y, j) :: r, h, n, x => by
    by_cases e : y = h
    · subst e; rw [kput, if_pos rfl]; simp
    · rw [kput, if_neg e]
      simp only [List.map_cons, List.mem_cons, kput_keys r h n x]
      constructor
      · rintro (h1 | h1 | h1); exact .inr (.inl h1); exact .inl h1; exact .inr (.inr h1)
      · rintro (h1 | h1 | h1); exact .inr (.inl h1); exact .inl h1; exact .inr (.inr h1)
theorem kput_nd : ∀ (k : K) (h : List UInt8) (n : Int), (k.map (·.1)).Nodup → ((kput k h n).map (·.1)).Nodup
  | [], h, n, _ => by simp [kput]
  | (y, j) :: r, h, n, hn => by
    by_cases e : y = h
    · subst e; rw [kput, if_pos rfl]; exact hn
    · rw [kput, if_neg e]
      simp only [List.map_cons, List.nodup_cons] at hn ⊢
      refine ⟨fun hm => ?_, kput_nd r h n hn.2⟩
      rcases (kput_keys r h n y).1 hm with h1 | h1
      · exact e h1
      · exact hn.1 h1
theorem kput_len : ∀ (k : K) (h : List UInt8) (n : Int), (kput k h n).length ≤ k.length + 1
  | [], h, n => by simp [kput]
  | (y, j) :: r, h, n => by
    by_cases e : y = h
    · rw [kput, if_pos e]; simp
    · rw [kput, if_neg e]
      have := kput_len r h n
      simp only [List.length_cons]; omega
theorem Mt.put {t t' : T} {k : K} {h : List UInt8} {n : Int} {f : Bool} (hm : Mt t k) (hp : Puts [] h n t t' f) (hl : h.length = 32) : Mt t' (kput k h n) where
  mem := fun x m hx => by
    rw [kput_mem k h n hm.nd x m]
    have h1 := hp.has x hx (pre_nil _)
    simp only [List.length_nil] at h1
    rw [h1]
    split
    · constructor
      · intro e; simpa using e.symm
      · intro e; rw [e]
    · exact hm.mem x m hx
  nd := kput_nd k h n hm.nd
  h32 := fun x hx => by
    have h1 := (kput_mem k h n hm.nd x.1 x.2).1 hx
    split at h1
    · next e => rw [e]; exact hl
    · exact hm.h32 _ h1
end Rx
namespace Go.Proofs.YthampbiabkfmoaaDoor
/-- What Prefix shall answer. -/
def Rx.want (s : List UInt8) (l : List (List UInt8)) : Nat := if Wi.isPre s = true then (if l.length = 0 then 11 else if 1 < l.length then 14 else 0) else 1
/-- A start of a hash's text, or one that starts none. -/
def Rx.startOk (s : List UInt8) : Prop := Rx.isP s = true ∨ ∀ h : List UInt8, h.length = 32 → Wi.beg h s = false
theorem Rx.allS_some {t : Rx.T} {s : List UInt8} {m : Nat} (hs : Rx.startOk s) (h32 : ∀ x ∈ Rx.hashes t, x.length = 32) : Rx.allS t s m = ((Rx.hashes t).filter fun h => Wi.beg h s).take m := by
  unfold Rx.allS
  split
  · rfl
  · rcases hs with h | h
    · contradiction
    · have : (Rx.hashes t).filter (fun h => Wi.beg h s) = [] := by
        rw [List.filter_eq_nil_iff]
        intro x hx
        rw [h x (h32 x hx)]; simp
      rw [this]; simp
theorem Rx.pfx_want {t : Rx.T} {s : List UInt8} (hs : Rx.startOk s) (h32 : ∀ x ∈ Rx.hashes t, x.length = 32) (l : List (List UInt8)) (hl : l = (Rx.hashes t).filter fun h => Wi.beg h s) :
    Rx.pfx t s = (if Rx.want s l = 0 then l.headD [] else Wi.z32, Rx.want s l) := by
  unfold Rx.pfx Rx.want
  rw [Rx.allS_some hs h32, ← hl]
  split
  · rcases l with _ | ⟨a, _ | ⟨b, r⟩⟩
    · rfl
    · rfl
    · simp
  · rfl
end Go.Proofs.YthampbiabkfmoaaDoor
/- Plain: starts of a hash's text. -/
set_option linter.unusedVariables false
namespace Go.Proofs.YthampbiabkfmoaaDoor
open Go.RowKit Go.Tap
theorem dig_hexc (n : Nat) (h : n < 16) : Wi.dig (Wi.hexc n) = true := by
  have : ∀ k : Fin 16, Wi.dig (Wi.hexc k.val) = true := by decide
  exact this ⟨n, h⟩
theorem hexT_dig (h : List UInt8) (hl : h.length = 32) (j : Nat) (x : UInt8) (hx : (Wi.hexT h)[j]? = some x) : Wi.dig x = true := by
  have hj : j < 2 * h.length := by
    have := (List.getElem?_eq_some_iff.1 hx).1
    rwa [Wi.hexT_len] at this
  rw [hexT_get h j hj] at hx
  cases hx
  exact dig_hexc _ (Rx.dig_lt h j)
theorem startOk_text (h : List UInt8) (hl : h.length = 32) (r : Nat) (hr : r ≤ 64) : Rx.startOk ((Wi.hexT h).take r) := by
  refine .inl ?_
  simp only [Rx.isP, Wi.isPre, Bool.or_eq_true, Bool.and_eq_true, decide_eq_true_eq]
  by_cases he : (Wi.hexT h).take r = []
  · exact .inl he
  · refine .inr ⟨⟨?_, he⟩, by rw [List.length_take]; omega⟩
    rw [List.all_eq_true]
    intro x hx
    obtain ⟨j, hj⟩ := List.mem_iff_getElem?.1 (List.mem_of_mem_take hx)
    exact hexT_dig h hl j x hj
theorem startOk_xyz : Rx.startOk [120, 121, 122] := by
  refine .inr fun h hl => ?_
  unfold Wi.beg
  rw [Bool.and_eq_false_iff]
  refine .inr (decide_eq_false fun e => ?_)
  have h0 : ((Wi.hexT h).take 3)[0]? = some (120 : UInt8) := by
    have e' : (Wi.hexT h).take 3 = [120, 121, 122] := e
    rw [e']; rfl
  rw [List.getElem?_take_of_lt (by omega)] at h0
  have := hexT_dig h hl 0 120 h0
  revert this
  decide
end Go.Proofs.YthampbiabkfmoaaDoor
