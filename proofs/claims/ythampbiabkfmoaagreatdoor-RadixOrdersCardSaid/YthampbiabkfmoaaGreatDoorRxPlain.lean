/- Chapter 9, plainly: trees of hashes by their digits. -/
import Derived.Test.YthampbiabkfmoaaGreatDoorOctPlain
set_option linter.unusedVariables false
set_option linter.unusedSimpArgs false
namespace Rx
def dig (h : List UInt8) (k : Nat) : Nat := if k % 2 = 0 then (h.getD (k / 2) 0).toNat / 16 else (h.getD (k / 2) 0).toNat % 16
theorem dig_lt (h : List UInt8) (k : Nat) : dig h k < 16 := by
  have := (h.getD (k / 2) 0).toNat_lt
  unfold dig; split <;> omega
theorem eq_of_dig (a b : List UInt8) (ha : a.length = 32) (hb : b.length = 32) (h : ∀ k, k < 64 → dig a k = dig b k) : a = b := by
  apply List.ext_getElem (by omega)
  intro i h1 h2
  have e1 := h (2 * i) (by omega)
  have e2 := h (2 * i + 1) (by omega)
  unfold dig at e1 e2
  rw [if_pos (by omega), if_pos (by omega), show 2 * i / 2 = i by omega] at e1
  rw [if_neg (by omega), if_neg (by omega), show (2 * i + 1) / 2 = i by omega] at e2
  simp only [List.getD_eq_getElem?_getD, List.getElem?_eq_getElem h1, List.getElem?_eq_getElem h2, Option.getD_some] at e1 e2
  apply UInt8.toNat_inj.1
  omega
def lt (a b : List UInt8) : Prop := ∃ k, (∀ j, j < k → dig a j = dig b j) ∧ dig a k < dig b k
theorem lt_irrefl (a : List UInt8) : ¬ lt a a := by rintro ⟨k, _, h⟩; omega
theorem lt_trans {a b c : List UInt8} (h1 : lt a b) (h2 : lt b c) : lt a c := by
  obtain ⟨k, e1, l1⟩ := h1
  obtain ⟨m, e2, l2⟩ := h2
  rcases Nat.lt_trichotomy k m with h | h | h
  · exact ⟨k, fun j hj => (e1 j hj).trans (e2 j (by omega)), by rw [← e2 k h]; exact l1⟩
  · subst h; exact ⟨k, fun j hj => (e1 j hj).trans (e2 j hj), by omega⟩
  · exact ⟨m, fun j hj => (e1 j (by omega)).trans (e2 j hj), by rw [e1 m h]; exact l2⟩
theorem lt_asymm {a b : List UInt8} (h1 : lt a b) (h2 : lt b a) : False := lt_irrefl a (lt_trans h1 h2)
def pre (h : List UInt8) (p : List Nat) : Prop := ∀ j v, p[j]? = some v → dig h j = v
theorem pre_nil (h : List UInt8) : pre h [] := fun j v e => by simp at e
theorem pre_snoc {h : List UInt8} {p : List Nat} {i : Nat} : pre h (p ++ [i]) ↔ pre h p ∧ dig h p.length = i := by
  constructor
  · intro hp
    refine ⟨fun j v e => hp j v ?_, hp p.length i (by simp)⟩
    rw [List.getElem?_append_left (List.getElem?_eq_some_iff.1 e).1]; exact e
  · rintro ⟨hp, hi⟩ j v e
    by_cases hj : j < p.length
    · rw [List.getElem?_append_left hj] at e; exact hp j v e
    · rw [List.getElem?_append_right (by omega)] at e
      have : j - p.length = 0 := by have := (List.getElem?_eq_some_iff.1 e).1; simp at this; omega
      rw [this] at e
      simp at e
      rw [show j = p.length by omega, hi, e]
theorem pre_same {a b : List UInt8} {p : List Nat} (ha : pre a p) (hb : pre b p) (j : Nat) (hj : j < p.length) : dig a j = dig b j := by
  have e : p[j]? = some p[j] := List.getElem?_eq_getElem hj
  rw [ha j _ e, hb j _ e]
theorem pre_eq {a b : List UInt8} {p : List Nat} (ha : pre a p) (hb : pre b p) (h1 : a.length = 32) (h2 : b.length = 32) (hp : 64 ≤ p.length) : a = b :=
  eq_of_dig a b h1 h2 fun k hk => pre_same ha hb k (by omega)
/-- A tree, with the blocks in which its nodes lie. -/
inductive T where
  | nil
  | leaf (b : Nat) (h : List UInt8) (n s : Int)
  | inner (b : Nat) (kids : Nat → T) (s : Int)
def T.ptr : T → Option Nat
  | .nil => none
  | .leaf b _ _ _ => some b
  | .inner b _ _ => some b
def T.saved : T → Int
  | .nil => 0
  | .leaf _ _ _ s => s
  | .inner _ _ s => s
def has : T → List UInt8 → Nat → Option Int
  | .nil, _, _ => none
  | .leaf _ h' n _, h, _ => if h' = h then some n else none
  | .inner _ kids _, h, k => has (kids (dig h k)) h (k + 1)
def ok : T → List Nat → Prop
  | .nil, _ => True
  | .leaf _ h n _, p => h.length = 32 ∧ pre h p ∧ 0 ≤ n ∧ n ≤ 9223372036854775807
  | .inner _ kids _, p => p.length < 64 ∧ ∀ i, i < 16 → ok (kids i) (p ++ [i])
def leaves : T → List (List UInt8 × Int)
  | .nil => []
  | .leaf _ h n _ => [(h, n)]
  | .inner _ kids _ => (List.range 16).flatMap fun i => leaves (kids i)
def upd (kids : Nat → T) (k : Nat) (t : T) : Nat → T := fun j => if j = k then t else kids j
theorem upd_same (kids : Nat → T) (k : Nat) (t : T) : upd kids k t k = t := by simp [upd]
theorem upd_ne (kids : Nat → T) {k j : Nat} (t : T) (h : j ≠ k) : upd kids k t j = kids j := by simp [upd, h]
theorem upd_id (kids : Nat → T) (k : Nat) : upd kids k (kids k) = kids := by
  funext j; unfold upd; split
  · rename_i h; rw [h]
  · rfl
theorem leaves_ok : ∀ (t : T) (p : List Nat), ok t p → ∀ x ∈ leaves t, x.1.length = 32 ∧ pre x.1 p ∧ 0 ≤ x.2 ∧ x.2 ≤ 9223372036854775807
  | .nil, p, _, x, hx => by cases hx
  | .leaf b h n s, p, ho, x, hx => by
    simp only [leaves, List.mem_singleton] at hx
    subst hx
    exact ho
  | .inner b kids s, p, ho, x, hx => by
    simp only [leaves, List.mem_flatMap, List.mem_range] at hx
    obtain ⟨i, hi, hx⟩ := hx
    obtain ⟨h1, h2, h3⟩ := leaves_ok (kids i) _ (ho.2 i hi) x hx
    exact ⟨h1, (pre_snoc.1 h2).1, h3⟩
theorem has_leaves : ∀ (t : T) (p : List Nat), ok t p → ∀ h n, h.length = 32 → pre h p → (has t h p.length = some n ↔ (h, n) ∈ leaves t)
  | .nil, p, _, h, n, _, _ => by simp [has, leaves]
  | .leaf b h' n' s, p, ho, h, n, _, _ => by
    simp only [has, leaves, List.mem_singleton, Prod.mk.injEq]
    constructor
    · intro e
      split at e
      · rename_i e'; simp at e; exact ⟨e'.symm, e.symm⟩
      · cases e
    · rintro ⟨rfl, rfl⟩; simp
  | .inner b kids s, p, ho, h, n, hl, hp => by
    have hd := dig_lt h p.length
    have ih := has_leaves (kids (dig h p.length)) _ (ho.2 _ hd) h n hl (pre_snoc.2 ⟨hp, rfl⟩)
    rw [List.length_append, List.length_singleton] at ih
    simp only [has, leaves, List.mem_flatMap, List.mem_range]
    rw [ih]
    constructor
    · intro e; exact ⟨_, hd, e⟩
    · rintro ⟨i, hi, e⟩
      have := (leaves_ok (kids i) _ (ho.2 i hi) _ e).2.1
      rw [(pre_snoc.1 this).2]; exact e
theorem leaves_sorted : ∀ (t : T) (p : List Nat), ok t p → (leaves t).Pairwise (fun a b => lt a.1 b.1)
  | .nil, p, _ => List.Pairwise.nil
  | .leaf b h n s, p, _ => by simp [leaves]
  | .inner b kids s, p, ho => by
    simp only [leaves]
    rw [List.pairwise_flatMap]
    refine ⟨fun i hi => leaves_sorted (kids i) _ (ho.2 i (List.mem_range.1 hi)), ?_⟩
    refine List.Pairwise.imp_of_mem ?_ (List.pairwise_lt_range (n := 16))
    intro i j hi hj hij x hx y hy
    have h1 := (leaves_ok (kids i) _ (ho.2 i (List.mem_range.1 hi)) x hx).2.1
    have h2 := (leaves_ok (kids j) _ (ho.2 j (List.mem_range.1 hj)) y hy).2.1
    rw [pre_snoc] at h1 h2
    exact ⟨p.length, fun k hk => pre_same h1.1 h2.1 k hk, by omega⟩
/-- Sorted lists with the same members are one. -/
theorem sorted_unique {α : Type} {R : α → α → Prop} (irr : ∀ a, ¬ R a a) (tr : ∀ a b c, R a b → R b c → R a c) : ∀ (l m : List α), l.Pairwise R → m.Pairwise R → (∀ x, x ∈ l ↔ x ∈ m) → l = m
  | [], m, _, _, h => by
    cases m with
    | nil => rfl
    | cons y r => exact absurd ((h y).2 (List.mem_cons_self ..)) (by simp)
  | x :: l, m, hl, hm, h => by
    cases m with
    | nil => exact absurd ((h x).1 (List.mem_cons_self ..)) (by simp)
    | cons y r =>
      rw [List.pairwise_cons] at hl hm
      have hxy : x = y := by
        rcases List.mem_cons.1 ((h x).1 (List.mem_cons_self ..)) with e | e
        · exact e
        · rcases List.mem_cons.1 ((h y).2 (List.mem_cons_self ..)) with e2 | e2
          · exact e2.symm
          · exact absurd (tr _ _ _ (hl.1 y e2) (hm.1 x e)) (irr x)
      subst hxy
      congr 1
      refine sorted_unique irr tr l r hl.2 hm.2 fun z => ?_
      constructor
      · intro hz
        rcases List.mem_cons.1 ((h z).1 (List.mem_cons_of_mem _ hz)) with e | e
        · subst e; exact absurd (hl.1 z hz) (irr z)
        · exact e
      · intro hz
        rcases List.mem_cons.1 ((h z).2 (List.mem_cons_of_mem _ hz)) with e | e
        · subst e; exact absurd (hm.1 z hz) (irr z)
        · exact e
/- Which blocks a tree has. -/
def mem : T → Nat → Prop
  | .nil, _ => False
  | .leaf b _ _ _, x => x = b
  | .inner b kids _, x => x = b ∨ ∃ i, i < 16 ∧ mem (kids i) x
def sep : T → Prop
  | .nil => True
  | .leaf _ _ _ _ => True
  | .inner b kids _ => (∀ i, i < 16 → ¬ mem (kids i) b ∧ sep (kids i)) ∧ ∀ i j, i < 16 → j < 16 → i ≠ j → ∀ x, mem (kids i) x → ¬ mem (kids j) x
/- How many nodes are not saved; how many leaves. -/
def sum16 (f : Nat → Nat) : Nat := ((List.range 16).map f).sum
theorem sum_upd (g : T → Nat) (kids : Nat → T) (k : Nat) (t : T) : ∀ n, k < n → ((List.range n).map fun j => g (upd kids k t j)).sum + g (kids k) = ((List.range n).map fun j => g (kids j)).sum + g t
  | 0, h => by omega
  | n + 1, h => by
    rw [List.range_succ, List.map_append, List.map_append, List.sum_append, List.sum_append]
    simp only [List.map_cons, List.map_nil, List.sum_cons, List.sum_nil, Nat.add_zero]
    by_cases hk : k = n
    · subst hk
      rw [upd_same]
      have : (List.range k).map (fun j => g (upd kids k t j)) = (List.range k).map (fun j => g (kids j)) := by
        apply List.map_congr_left
        intro j hj
        rw [upd_ne _ _ (by have := List.mem_range.1 hj; omega)]
      rw [this]; omega
    · have ih := sum_upd g kids k t n (by omega)
      rw [upd_ne _ _ (by omega : n ≠ k)]; omega
theorem sum16_upd (g : T → Nat) (kids : Nat → T) (k : Nat) (t : T) (h : k < 16) : sum16 (fun j => g (upd kids k t j)) + g (kids k) = sum16 (fun j => g (kids j)) + g t := sum_upd g kids k t 16 h
def uns : T → Nat
  | .nil => 0
  | .leaf _ _ _ s => if s = 0 then 1 else 0
  | .inner _ kids s => (if s = 0 then 1 else 0) + sum16 fun i => uns (kids i)
def cnt : T → Nat
  | .nil => 0
  | .leaf _ _ _ _ => 1
  | .inner _ kids _ => sum16 fun i => cnt (kids i)
theorem cnt_leaves : ∀ t, (leaves t).length = cnt t
  | .nil => rfl
  | .leaf _ _ _ _ => rfl
  | .inner _ kids _ => by
    simp only [leaves, cnt, sum16, List.length_flatMap]
    congr 1
    apply List.map_congr_left
    intro i _
    exact cnt_leaves (kids i)
/-- Each inner node has two leaves or more. -/
def big : T → Prop
  | .nil => True
  | .leaf _ _ _ _ => True
  | .inner _ kids _ => 2 ≤ sum16 (fun i => cnt (kids i)) ∧ ∀ i, i < 16 → big (kids i)
/-- What a record holds. -/
inductive Rc where
  | leaf (h : List UInt8) (n : Int)
  | inner (l : List Int)
def places (kids : Nat → T) : List Int := (List.range 16).map fun i => (kids i).saved
/-- What is saved lies in a log. -/
def sv (R : Int → Rc → Prop) : T → Prop
  | .nil => True
  | .leaf _ h n s => 0 ≤ s ∧ (s ≠ 0 → R s (.leaf h n))
  | .inner _ kids s => (0 ≤ s ∧ (s ≠ 0 → (∀ i, i < 16 → (kids i).ptr ≠ none → (kids i).saved ≠ 0) ∧ R s (.inner (places kids)))) ∧ ∀ i, i < 16 → sv R (kids i)
theorem sv_saved {R : Int → Rc → Prop} {t : T} (h : sv R t) : 0 ≤ t.saved := by
  cases t
  · exact Int.le_refl _
  · exact h.1
  · exact h.1.1
/-- One hash more, plainly. -/
structure Puts (p : List Nat) (h : List UInt8) (n : Int) (t t' : T) (fresh : Bool) : Prop where
  ok : Rx.ok t' p
  has : ∀ h', h'.length = 32 → pre h' p → Rx.has t' h' p.length = if h' = h then some n else Rx.has t h' p.length
  new : fresh = (Rx.has t h p.length).isNone
  nn : t'.ptr ≠ none
  uns : Rx.uns t' ≤ Rx.uns t + (65 - p.length)
  same : t'.ptr = t.ptr → t'.saved ≠ 0 → t' = t
  cnt : Rx.cnt t' = Rx.cnt t + if fresh = true then 1 else 0
  big : Rx.big t → Rx.big t'
  sv : ∀ R, Rx.sv R t → Rx.sv R t'
theorem puts_nil (p : List Nat) (h : List UInt8) (n : Int) (b : Nat) (hl : h.length = 32) (hp : pre h p) (hn : 0 ≤ n ∧ n ≤ 9223372036854775807) (h64 : p.length ≤ 64) : Puts p h n .nil (.leaf b h n 0) true where
  ok := ⟨hl, hp, hn.1, hn.2⟩
  has := fun h' _ _ => by simp only [Rx.has]; by_cases e : h = h' <;> simp [e, eq_comm]
  new := rfl
  nn := by simp [T.ptr]
  uns := by simp [Rx.uns]; omega
  same := fun e => by simp [T.ptr] at e
  cnt := rfl
  big := fun _ => trivial
  sv := fun R _ => ⟨Int.le_refl _, fun e => absurd rfl e⟩
theorem puts_leaf_same (p : List Nat) (h : List UInt8) (n s : Int) (b : Nat) (hl : h.length = 32) (hp : pre h p) (hn : 0 ≤ n ∧ n ≤ 9223372036854775807) : Puts p h n (.leaf b h n s) (.leaf b h n s) false where
  ok := ⟨hl, hp, hn.1, hn.2⟩
  has := fun h' _ _ => by simp only [Rx.has]; by_cases e : h = h' <;> simp [e, eq_comm]
  new := by simp [Rx.has]
  nn := by simp [T.ptr]
  uns := by simp [Rx.uns]
  same := fun _ _ => rfl
  cnt := rfl
  big := id
  sv := fun R h => h
theorem puts_leaf_turn (p : List Nat) (h : List UInt8) (n n' s : Int) (b b' : Nat) (hl : h.length = 32) (hp : pre h p) (hn : 0 ≤ n ∧ n ≤ 9223372036854775807) (hb : b' ≠ b) (h64 : p.length ≤ 64) : Puts p h n (.leaf b h n' s) (.leaf b' h n 0) false where
  ok := ⟨hl, hp, hn.1, hn.2⟩
  has := fun h' _ _ => by simp only [Rx.has]; by_cases e : h = h' <;> simp [e, eq_comm]
  new := by simp [Rx.has]
  nn := by simp [T.ptr]
  uns := by simp only [Rx.uns, if_true]; split <;> omega
  same := fun e => by simp [T.ptr] at e; exact absurd e hb
  cnt := rfl
  big := fun _ => trivial
  sv := fun R h => ⟨Int.le_refl _, fun e => absurd rfl e⟩
theorem ptr_none {t : T} (h : t.ptr = none) : t = .nil := by cases t <;> simp_all [T.ptr]
theorem sv_upd {R : Int → Rc → Prop} {kids : Nat → T} {k : Nat} {t : T} (h : ∀ i, i < 16 → sv R (kids i)) (ht : sv R t) : ∀ i, i < 16 → sv R (upd kids k t i) := by
  intro i hi
  unfold upd; split
  · exact ht
  · exact h i hi
/-- In an inner node: the kid was put, the node's place in the log was taken away or not. -/
theorem puts_inner (p : List Nat) (h : List UInt8) (n s s' : Int) (b : Nat) (kids : Nat → T) (t' : T) (fresh : Bool) (hl : h.length = 32) (hp : pre h p) (ho : ok (.inner b kids s) p)
    (hk : Puts (p ++ [dig h p.length]) h n (kids (dig h p.length)) t' fresh) (hs : s' = if t'.ptr ≠ (kids (dig h p.length)).ptr ∨ t'.saved = 0 then 0 else s) :
    Puts p h n (.inner b kids s) (.inner b (upd kids (dig h p.length) t') s') fresh := by
  have hd := dig_lt h p.length
  generalize hkk : dig h p.length = k at hk hs hd ⊢
  have hlen : (p ++ [k]).length = p.length + 1 := by simp
  have su := sum16_upd uns kids k t' hd
  have sc := sum16_upd cnt kids k t' hd
  have hsame : s' ≠ 0 → t' = kids k := fun e => by
    rw [hs] at e
    split at e
    · exact absurd rfl e
    · rename_i hh
      rw [not_or, Decidable.not_not] at hh
      exact hk.same hh.1 hh.2
  refine ⟨⟨ho.1, fun i hi => ?_⟩, ?_, ?_, by simp [T.ptr], ?_, ?_, ?_, ?_, ?_⟩
  · by_cases e : i = k
    · subst e; rw [upd_same]; exact hk.ok
    · rw [upd_ne _ _ e]; exact ho.2 i hi
  · intro h' hl' hp'
    simp only [Rx.has]
    by_cases e : dig h' p.length = k
    · rw [e, upd_same]
      have := hk.has h' hl' (pre_snoc.2 ⟨hp', e⟩)
      rw [hlen] at this
      exact this
    · rw [upd_ne _ _ e, if_neg]
      rintro rfl; exact e hkk
  · have := hk.new
    rw [hlen] at this
    simp only [Rx.has, hkk]
    exact this
  · have hu := hk.uns
    rw [hlen] at hu
    have h1 := ho.1
    simp only [Rx.uns]
    by_cases e : s' = 0
    · rw [if_pos e]; omega
    · have hst := hsame e
      have hss : s' = s := by
        rw [hs] at e ⊢
        split at e
        · exact absurd rfl e
        · rename_i hh; rw [if_neg hh]
      rw [if_neg e, if_neg (by rw [← hss]; exact e), hst, upd_id]; omega
  · intro _ e
    have hst := hsame e
    have hss : s' = s := by
      simp only [T.saved] at e
      rw [hs] at e ⊢
      split at e
      · exact absurd rfl e
      · rename_i hh; rw [if_neg hh]
    rw [hst, upd_id, hss]
  · have hc := hk.cnt
    simp only [Rx.cnt]
    omega
  · rintro ⟨h2, hb⟩
    refine ⟨?_, fun i hi => ?_⟩
    · have hc := hk.cnt
      omega
    · by_cases e : i = k
      · subst e; rw [upd_same]; exact hk.big (hb i hi)
      · rw [upd_ne _ _ e]; exact hb i hi
  · rintro R ⟨⟨h0, h1⟩, h2⟩
    refine ⟨⟨?_, ?_⟩, sv_upd h2 (hk.sv R (h2 k hd))⟩
    · rw [hs]; split
      · exact Int.le_refl _
      · exact h0
    · intro e
      have hst := hsame e
      have hss : s' = s := by
        rw [hs] at e ⊢
        split at e
        · exact absurd rfl e
        · rename_i hh; rw [if_neg hh]
      rw [hst, upd_id, hss]
      exact h1 (by rw [← hss]; exact e)
def noKids : Nat → T := fun _ => .nil
theorem sum16_zero : sum16 (fun _ => 0) = 0 := by decide
theorem sum16_no (g : T → Nat) (hg : g .nil = 0) : sum16 (fun i => g (noKids i)) = 0 := by simp only [noKids, hg, sum16_zero]
/-- A leaf's place is taken by an inner node that has the leaf, and the other hash. -/
theorem puts_up (p : List Nat) (h : List UInt8) (n : Int) (b u : Nat) (hx : List UInt8) (nx sx : Int) (t' : T) (fresh : Bool) (hl : h.length = 32) (hp : pre h p) (ho : ok (.leaf b hx nx sx) p) (hne : hx ≠ h) (hub : u ≠ b)
    (hk : Puts (p ++ [dig h p.length]) h n (upd noKids (dig hx p.length) (.leaf b hx nx sx) (dig h p.length)) t' fresh) (h64 : p.length < 64) :
    Puts p h n (.leaf b hx nx sx) (.inner u (upd (upd noKids (dig hx p.length) (.leaf b hx nx sx)) (dig h p.length) t') 0) fresh ∧ fresh = true := by
  have hd := dig_lt h p.length
  have hdx := dig_lt hx p.length
  generalize hK : upd noKids (dig hx p.length) (.leaf b hx nx sx) = kids at hk ⊢
  generalize hkk : dig h p.length = k at hk hd ⊢
  have hlen : (p ++ [k]).length = p.length + 1 := by simp
  have su := sum16_upd uns kids k t' hd
  have sc := sum16_upd cnt kids k t' hd
  have su0 := sum16_upd uns noKids (dig hx p.length) (.leaf b hx nx sx) hdx
  have sc0 := sum16_upd cnt noKids (dig hx p.length) (.leaf b hx nx sx) hdx
  rw [hK, sum16_no _ rfl] at su0 sc0
  simp only [noKids] at su0 sc0
  have hhas : ∀ h', h'.length = 32 → pre h' p → Rx.has (kids (dig h' p.length)) h' (p.length + 1) = if hx = h' then some nx else none := by
    intro h' hl' hp'
    rw [← hK]
    by_cases e : dig h' p.length = dig hx p.length
    · rw [e, upd_same]; rfl
    · rw [upd_ne _ _ e, if_neg]
      · rfl
      · rintro rfl; exact e rfl
  have hf : fresh = true := by
    have := hk.new
    rw [hlen] at this
    rw [this]
    have := hhas h hl hp
    rw [hkk] at this
    rw [this, if_neg hne]; rfl
  have hokk : ∀ i, i < 16 → Rx.ok (kids i) (p ++ [i]) := by
    intro i hi
    rw [← hK]
    by_cases e : i = dig hx p.length
    · subst e; rw [upd_same]; exact ⟨ho.1, pre_snoc.2 ⟨ho.2.1, rfl⟩, ho.2.2⟩
    · rw [upd_ne _ _ e]; trivial
  refine ⟨⟨⟨h64, fun i hi => ?_⟩, ?_, ?_, by simp [T.ptr], ?_, ?_, ?_, ?_, ?_⟩, hf⟩
  · by_cases e : i = k
    · subst e; rw [upd_same]; exact hk.ok
    · rw [upd_ne _ _ e]; exact hokk i hi
  · intro h' hl' hp'
    have hh := hhas h' hl' hp'
    simp only [Rx.has]
    by_cases e : dig h' p.length = k
    · rw [e, upd_same]
      have := hk.has h' hl' (pre_snoc.2 ⟨hp', e⟩)
      rw [hlen] at this
      rw [this]
      rw [e] at hh
      rw [hh]
    · rw [upd_ne _ _ e, if_neg, hh]
      rintro rfl; exact e hkk
  · rw [hf]; simp [Rx.has, if_neg hne]
  · have hu := hk.uns
    rw [hlen] at hu
    simp only [Rx.uns, if_true] at su0 ⊢
    omega
  · intro e; simp only [T.ptr, Option.some.injEq] at e; exact absurd e hub
  · have hc := hk.cnt
    simp only [Rx.cnt] at sc0 ⊢
    omega
  · intro _
    refine ⟨?_, fun i hi => ?_⟩
    · have hc := hk.cnt
      rw [hf, if_pos rfl] at hc
      simp only [Rx.cnt] at sc0
      omega
    · by_cases e : i = k
      · subst e; rw [upd_same]
        refine hk.big ?_
        rw [← hK]; unfold upd; split <;> trivial
      · rw [upd_ne _ _ e, ← hK]; unfold upd; split <;> trivial
  · intro R hR
    have h1 : ∀ i, i < 16 → Rx.sv R (kids i) := by
      intro i hi; rw [← hK]; unfold upd; split
      · exact hR
      · trivial
    exact ⟨⟨Int.le_refl _, fun e => absurd rfl e⟩, sv_upd h1 (hk.sv R (h1 k hd))⟩
theorem ok_up (p : List Nat) (u b : Nat) (hx : List UInt8) (nx sx : Int) (ho : ok (.leaf b hx nx sx) p) (h64 : p.length < 64) : ok (.inner u (upd noKids (dig hx p.length) (.leaf b hx nx sx)) 0) p := by
  refine ⟨h64, fun i hi => ?_⟩
  by_cases e : i = dig hx p.length
  · subst e; rw [upd_same]; exact ⟨ho.1, pre_snoc.2 ⟨ho.2.1, rfl⟩, ho.2.2⟩
  · rw [upd_ne _ _ e]; trivial
theorem sep_up (u b d : Nat) (hx : List UInt8) (nx sx : Int) (hub : u ≠ b) : sep (.inner u (upd noKids d (.leaf b hx nx sx)) 0) := by
  have h1 : ∀ i x, mem (upd noKids d (.leaf b hx nx sx) i) x → i = d ∧ x = b := by
    intro i x hm
    unfold upd at hm
    split at hm
    · exact ⟨‹_›, hm⟩
    · exact hm.elim
  refine ⟨fun i hi => ⟨fun hm => hub (h1 i u hm).2, ?_⟩, fun i j hi hj hij x hm hm2 => hij ((h1 i x hm).1.trans (h1 j x hm2).1.symm)⟩
  unfold upd; split <;> trivial
theorem mem_up (u b d : Nat) (hx : List UInt8) (nx sx : Int) (x : Nat) (hm : mem (.inner u (upd noKids d (.leaf b hx nx sx)) 0) x) : x = u ∨ x = b := by
  rcases hm with rfl | ⟨i, hi, hm⟩
  · exact .inl rfl
  · unfold upd at hm
    split at hm
    · exact .inr hm
    · exact hm.elim
/-- A kid's place taken by a tree of its own blocks and new ones. -/
theorem sep_upd (b : Nat) (kids : Nat → T) (s s' : Int) (k : Nat) (t : T) (N : Nat) (hs : sep (.inner b kids s)) (hk : k < 16) (ht : sep t) (hm : ∀ x, mem t x → mem (kids k) x ∨ N ≤ x) (hN : ∀ x, mem (.inner b kids s) x → x < N) : sep (.inner b (upd kids k t) s') := by
  have hmk : ∀ i, i < 16 → ∀ x, mem (kids i) x → x < N := fun i hi x hx => hN x (.inr ⟨i, hi, hx⟩)
  have hb := hN b (.inl rfl)
  refine ⟨fun i hi => ?_, fun i j hi hj hij x h1 h2 => ?_⟩
  · by_cases e : i = k
    · subst e; rw [upd_same]
      refine ⟨fun h => ?_, ht⟩
      rcases hm b h with h | h
      · exact (hs.1 i hi).1 h
      · omega
    · rw [upd_ne _ _ e]; exact hs.1 i hi
  · by_cases e : i = k
    · subst e
      rw [upd_same] at h1
      rw [upd_ne _ _ (Ne.symm hij)] at h2
      rcases hm x h1 with h | h
      · exact hs.2 i j hi hj hij x h h2
      · have := hmk j hj x h2; omega
    · rw [upd_ne _ _ e] at h1
      by_cases e2 : j = k
      · subst e2
        rw [upd_same] at h2
        rcases hm x h2 with h | h
        · exact hs.2 i j hi hj hij x h1 h
        · have := hmk i hi x h1; omega
      · rw [upd_ne _ _ e2] at h2; exact hs.2 i j hi hj hij x h1 h2
theorem mem_upd (b : Nat) (kids : Nat → T) (s s' : Int) (k : Nat) (t : T) (hk : k < 16) (N : Nat) (hm : ∀ x, mem t x → mem (kids k) x ∨ N ≤ x) (x : Nat) (hx : mem (.inner b (upd kids k t) s') x) : mem (.inner b kids s) x ∨ N ≤ x := by
  rcases hx with rfl | ⟨i, hi, hx⟩
  · exact .inl (.inl rfl)
  · by_cases e : i = k
    · subst e; rw [upd_same] at hx
      rcases hm x hx with h | h
      · exact .inl (.inr ⟨i, hi, h⟩)
      · exact .inr h
    · rw [upd_ne _ _ e] at hx; exact .inl (.inr ⟨i, hi, hx⟩)
/- The list of the hashes below a node. -/
def lst (B : List UInt8 → Bool) : T → Nat → List (List UInt8) → List (List UInt8)
  | .nil, m, l => l
  | .leaf _ h _ _, m, l => if m ≤ l.length then l else if B h = true then l ++ [h] else l
  | .inner _ kids _, m, l => if m ≤ l.length then l else (List.range 16).foldl (fun l i => lst B (kids i) m l) l
def lstK (B : List UInt8 → Bool) (kids : Nat → T) (m : Nat) (l : List (List UInt8)) (k : Nat) : List (List UInt8) := (List.range k).foldl (fun l i => lst B (kids i) m l) l
theorem lstK_succ (B : List UInt8 → Bool) (kids : Nat → T) (m : Nat) (l : List (List UInt8)) (k : Nat) : lstK B kids m l (k + 1) = lst B (kids k) m (lstK B kids m l k) := by
  unfold lstK; rw [List.range_succ, List.foldl_append]; rfl
def hashes (t : T) : List (List UInt8) := (leaves t).map (·.1)
theorem lst_eq (B : List UInt8 → Bool) : ∀ (t : T) (m : Nat) (l : List (List UInt8)), lst B t m l = l ++ ((hashes t).filter B).take (m - l.length)
  | .nil, m, l => by simp [lst, hashes, leaves]
  | .leaf b h n s, m, l => by
    unfold lst
    simp only [hashes, leaves, List.map_cons, List.map_nil]
    by_cases hm : m ≤ l.length
    · rw [if_pos hm, show m - l.length = 0 by omega]; simp
    · rw [if_neg hm]
      obtain ⟨j, hj⟩ : ∃ j, m - l.length = j + 1 := ⟨m - l.length - 1, by omega⟩
      rw [hj]
      by_cases hb : B h = true
      · rw [if_pos hb]; simp [hb]
      · rw [if_neg hb]; simp [hb]
  | .inner b kids s, m, l => by
    have hK : ∀ k, lstK B kids m l k = l ++ (((List.range k).flatMap fun i => hashes (kids i)).filter B).take (m - l.length) := by
      intro k
      induction k with
      | zero => simp [lstK]
      | succ k ih =>
        rw [lstK_succ, ih, lst_eq B (kids k) m]
        rw [List.range_succ, List.flatMap_append, List.filter_append, List.take_append]
        simp only [List.flatMap_cons, List.flatMap_nil, List.append_nil, List.length_append, List.length_take, List.append_assoc]
        congr 2
        congr 1
        omega
    have hh : hashes (.inner b kids s) = (List.range 16).flatMap fun i => hashes (kids i) := by
      simp only [hashes, leaves, List.map_flatMap]
    unfold lst
    by_cases hm : m ≤ l.length
    · rw [if_pos hm, show m - l.length = 0 by omega]; simp
    · rw [if_neg hm, hh]
      exact hK 16
theorem lst_len (B : List UInt8 → Bool) (t : T) (m N : Nat) (l : List (List UInt8)) (hm : m ≤ N) (hl : l.length ≤ N) : (lst B t m l).length ≤ N := by
  rw [lst_eq, List.length_append, List.length_take]; omega
theorem lstK_len (B : List UInt8 → Bool) (kids : Nat → T) (m N : Nat) (l : List (List UInt8)) (hm : m ≤ N) (hl : l.length ≤ N) : ∀ k, (lstK B kids m l k).length ≤ N
  | 0 => hl
  | k + 1 => by rw [lstK_succ]; exact lst_len B _ m N _ hm (lstK_len B kids m N l hm hl k)
theorem lstK_no (B : List UInt8 → Bool) (m : Nat) (l : List (List UInt8)) : ∀ k, lstK B noKids m l k = l
  | 0 => rfl
  | k + 1 => by rw [lstK_succ, lstK_no B m l k]; rfl
end Rx
/- Chapter 9, plainly: trees that are saved in a log. -/
set_option linter.unusedVariables false
set_option linter.unusedSimpArgs false
namespace Rx
abbrev Its := List (Nat × List UInt8)
def vb (l : List Int) : List UInt8 := l.flatMap fun p => Oct.var (Oct.u64 p)
def body : Rc → Nat × List UInt8
  | .leaf h n => (1, h ++ Oct.var (Oct.u64 n))
  | .inner l => (2, vb l)
/-- The record at a place (counted from 1); an inner node's kids stand before it. -/
def Rof (I : Its) (s : Int) (rc : Rc) : Prop := 1 ≤ s ∧ I[(s - 1).toNat]? = some (body rc) ∧ ∀ l, rc = .inner l → ∀ p ∈ l, p < s
def Small (I : Its) : Prop := ∀ p ∈ I, (p.1 = 1 ∨ p.1 = 2) ∧ p.2.length ≤ 160
theorem varF_le (f : Nat) : ∀ v, (Oct.varF f v).length ≤ f + 1 := by
  induction f with
  | zero => intro v; simp [Oct.varF]
  | succ f ih =>
    intro v
    simp only [Oct.varF]
    split
    · simp
    · simp only [List.length_cons]; have := ih (v / 128); omega
theorem var_le (v : Nat) : (Oct.var v).length ≤ 10 := varF_le 9 v
theorem vb_le : ∀ l : List Int, (vb l).length ≤ 10 * l.length
  | [] => by simp [vb]
  | p :: r => by
    have h1 := vb_le r
    have h2 := var_le (Oct.u64 p)
    have e : vb (p :: r) = Oct.var (Oct.u64 p) ++ vb r := rfl
    rw [e, List.length_append, List.length_cons]; omega
theorem vb_cons (p : Int) (r : List Int) : vb (p :: r) = Oct.var (Oct.u64 p) ++ vb r := rfl
theorem vb_snoc (l : List Int) (p : Int) : vb (l ++ [p]) = vb l ++ Oct.var (Oct.u64 p) := by simp [vb]
theorem places_length (kids : Nat → T) : (places kids).length = 16 := by simp [places]
theorem places_get (kids : Nat → T) (k : Nat) (h : k < 16) : (places kids)[k]? = some (kids k).saved := by simp [places, h]
theorem places_drop (kids : Nat → T) (k : Nat) (h : k < 16) : (places kids).drop k = (kids k).saved :: (places kids).drop (k + 1) := by
  have h1 := places_get kids k h
  obtain ⟨h2, h3⟩ := List.getElem?_eq_some_iff.1 h1
  rw [List.drop_eq_getElem_cons h2, h3]
theorem places_take (kids : Nat → T) (k : Nat) (h : k < 16) : (places kids).take (k + 1) = (places kids).take k ++ [(kids k).saved] := by
  rw [List.take_add_one, places_get kids k h]; rfl
def rcOf : T → Rc
  | .nil => .inner []
  | .leaf _ h n _ => .leaf h n
  | .inner _ kids _ => .inner (places kids)
theorem sv_mono {R R' : Int → Rc → Prop} (h : ∀ s rc, R s rc → R' s rc) : ∀ {t : T}, sv R t → sv R' t
  | .nil, _ => trivial
  | .leaf b hh n s, hs => ⟨hs.1, fun e => h _ _ (hs.2 e)⟩
  | .inner b kids s, hs => ⟨⟨hs.1.1, fun e => ⟨(hs.1.2 e).1, h _ _ (hs.1.2 e).2⟩⟩, fun i hi => sv_mono h (hs.2 i hi)⟩
theorem Rof.ext {I : Its} (E : Its) {s : Int} {rc : Rc} (h : Rof I s rc) : Rof (I ++ E) s rc := by
  refine ⟨h.1, ?_, h.2.2⟩
  have := (List.getElem?_eq_some_iff.1 h.2.1).1
  rw [List.getElem?_append_left this]; exact h.2.1
theorem sv_ext {I : Its} (E : Its) {t : T} (h : sv (Rof I) t) : sv (Rof (I ++ E)) t := sv_mono (fun _ _ h => h.ext E) h
theorem Rof.le {I : Its} {s : Int} {rc : Rc} (h : Rof I s rc) : s ≤ I.length := by
  have := (List.getElem?_eq_some_iff.1 h.2.1).1
  have := h.1
  omega
theorem sv_rof {R : Int → Rc → Prop} {t : T} (h : sv R t) (hs : t.saved ≠ 0) : R t.saved (rcOf t) := by
  cases t with
  | nil => exact absurd rfl hs
  | leaf b hh n s => exact h.2 hs
  | inner b kids s => exact (h.1.2 hs).2
theorem sv_le {I : Its} {t : T} (h : sv (Rof I) t) : t.saved ≤ I.length := by
  by_cases hs : t.saved = 0
  · rw [hs]; omega
  · exact (sv_rof h hs).le
theorem sum16_all0 (f : Nat → Nat) (h : ∀ i, i < 16 → f i = 0) : sum16 f = 0 := by
  have : (List.range 16).map f = (List.range 16).map (fun _ => 0) := List.map_congr_left (fun i hi => h i (List.mem_range.1 hi))
  unfold sum16
  rw [this]; decide
theorem sum16_congr (f g : Nat → Nat) (h : ∀ i, i < 16 → f i = g i) : sum16 f = sum16 g := by
  unfold sum16
  rw [List.map_congr_left (fun i hi => h i (List.mem_range.1 hi))]
theorem sv_uns {R : Int → Rc → Prop} : ∀ {t : T}, sv R t → (t.ptr ≠ none → t.saved ≠ 0) → uns t = 0
  | .nil, _, _ => rfl
  | .leaf b h n s, hs, e => by have := e (by simp [T.ptr]); simp [T.saved] at this; simp [uns, this]
  | .inner b kids s, hs, e => by
    have e1 := e (by simp [T.ptr])
    simp [T.saved] at e1
    rw [uns, if_neg e1, sum16_all0 _ (fun i hi => sv_uns (hs.2 i hi) ((hs.1.2 e1).1 i hi))]
/-- A tree without its blocks (and, z, without its places in the log). -/
def er (z : Bool) : T → T
  | .nil => .nil
  | .leaf _ h n s => .leaf 0 h n (if z = true then 0 else s)
  | .inner _ kids s => .inner 0 (fun i => if i < 16 then er z (kids i) else .nil) (if z = true then 0 else s)
theorem has_er (z : Bool) : ∀ (t : T) (h : List UInt8) (k : Nat), has (er z t) h k = has t h k
  | .nil, _, _ => rfl
  | .leaf _ _ _ _, _, _ => rfl
  | .inner _ kids _, h, k => by simp only [er, has]; rw [if_pos (dig_lt h k), has_er]
theorem ok_er (z : Bool) : ∀ (t : T) (p : List Nat), ok (er z t) p ↔ ok t p
  | .nil, _ => Iff.rfl
  | .leaf _ _ _ _, _ => Iff.rfl
  | .inner _ kids _, p => by
    simp only [er, ok]
    constructor
    · rintro ⟨h1, h2⟩; exact ⟨h1, fun i hi => by have := h2 i hi; rw [if_pos hi] at this; exact (ok_er z _ _).1 this⟩
    · rintro ⟨h1, h2⟩; exact ⟨h1, fun i hi => by rw [if_pos hi]; exact (ok_er z _ _).2 (h2 i hi)⟩
theorem cnt_er (z : Bool) : ∀ t : T, cnt (er z t) = cnt t
  | .nil => rfl
  | .leaf _ _ _ _ => rfl
  | .inner _ kids _ => by simp only [er, cnt]; exact sum16_congr _ _ (fun i hi => by show cnt (if i < 16 then er z (kids i) else .nil) = _; rw [if_pos hi, cnt_er])
theorem leaves_er (z : Bool) : ∀ t : T, leaves (er z t) = leaves t
  | .nil => rfl
  | .leaf _ _ _ _ => rfl
  | .inner _ kids _ => by
    simp only [er, leaves]
    rw [List.flatMap_def, List.flatMap_def]
    congr 1
    exact List.map_congr_left (fun i hi => by rw [if_pos (List.mem_range.1 hi), leaves_er])
theorem big_er (z : Bool) : ∀ t : T, big (er z t) ↔ big t
  | .nil => Iff.rfl
  | .leaf _ _ _ _ => Iff.rfl
  | .inner _ kids _ => by
    have e : sum16 (fun i => cnt (if i < 16 then er z (kids i) else .nil)) = sum16 (fun i => cnt (kids i)) := sum16_congr _ _ (fun i hi => by show cnt (if i < 16 then er z (kids i) else .nil) = _; rw [if_pos hi, cnt_er])
    simp only [er, big, e]
    constructor
    · rintro ⟨h1, h2⟩; exact ⟨h1, fun i hi => by have := h2 i hi; rw [if_pos hi] at this; exact (big_er z _).1 this⟩
    · rintro ⟨h1, h2⟩; exact ⟨h1, fun i hi => by rw [if_pos hi]; exact (big_er z _).2 (h2 i hi)⟩
theorem saved_er (t : T) : (er false t).saved = t.saved := by cases t <;> rfl
theorem ptr_er (z : Bool) (t : T) : (er z t).ptr = none ↔ t.ptr = none := by cases t <;> simp [er, T.ptr]
theorem places_er (kids : Nat → T) : places (fun i => if i < 16 then er false (kids i) else .nil) = places kids := by
  unfold places
  exact List.map_congr_left (fun i hi => by show (if i < 16 then er false (kids i) else T.nil).saved = _; rw [if_pos (List.mem_range.1 hi), saved_er])
theorem sv_er {R : Int → Rc → Prop} : ∀ t : T, sv R (er false t) ↔ sv R t
  | .nil => Iff.rfl
  | .leaf _ _ _ _ => Iff.rfl
  | .inner _ kids s => by
    simp only [er, sv, places_er, Bool.false_eq_true, if_false]
    constructor
    · rintro ⟨⟨h1, h2⟩, h3⟩
      refine ⟨⟨h1, fun e => ⟨fun i hi hp => ?_, (h2 e).2⟩⟩, fun i hi => ?_⟩
      · have := (h2 e).1 i hi
        rw [if_pos hi, saved_er] at this
        exact this (fun he => hp ((ptr_er false _).1 he))
      · have := h3 i hi; rw [if_pos hi] at this; exact (sv_er _).1 this
    · rintro ⟨⟨h1, h2⟩, h3⟩
      refine ⟨⟨h1, fun e => ⟨fun i hi hp => ?_, (h2 e).2⟩⟩, fun i hi => ?_⟩
      · rw [if_pos hi] at hp ⊢
        rw [saved_er]
        exact (h2 e).1 i hi (fun he => hp ((ptr_er false _).2 he))
      · rw [if_pos hi]; exact (sv_er _).2 (h3 i hi)
theorem er_er : ∀ t : T, er true (er false t) = er true t
  | .nil => rfl
  | .leaf _ _ _ _ => rfl
  | .inner _ kids _ => by
    simp only [er, if_true, Bool.false_eq_true, if_false]
    congr 1
    funext i
    by_cases hi : i < 16
    · simp only [if_pos hi]; rw [er_er]
    · simp only [if_neg hi]
theorem er_inner (z : Bool) (b b' : Nat) (kids kids' : Nat → T) (s s' : Int) (h : ∀ i, i < 16 → er z (kids' i) = er z (kids i)) (hs : (if z = true then 0 else s') = (if z = true then 0 else s)) : er z (.inner b' kids' s') = er z (.inner b kids s) := by
  simp only [er, hs]
  congr 1
  funext i
  by_cases hi : i < 16
  · simp only [if_pos hi, h i hi]
  · simp only [if_neg hi]
/-- Trees of one shape. -/
theorem er_has {z : Bool} {t t' : T} (h : er z t' = er z t) (x : List UInt8) (k : Nat) : has t' x k = has t x k := by rw [← has_er z t', h, has_er]
theorem er_ok {z : Bool} {t t' : T} (h : er z t' = er z t) {p : List Nat} (ho : ok t p) : ok t' p := (ok_er z t' p).1 (by rw [h]; exact (ok_er z t p).2 ho)
theorem er_cnt {z : Bool} {t t' : T} (h : er z t' = er z t) : cnt t' = cnt t := by rw [← cnt_er z t', h, cnt_er]
theorem er_big {z : Bool} {t t' : T} (h : er z t' = er z t) (ho : big t) : big t' := (big_er z t').1 (by rw [h]; exact (big_er z t).2 ho)
theorem er_leaves {z : Bool} {t t' : T} (h : er z t' = er z t) : leaves t' = leaves t := by rw [← leaves_er z t', h, leaves_er]
theorem er_sv {R : Int → Rc → Prop} {t t' : T} (h : er false t' = er false t) (ho : sv R t) : sv R t' := (sv_er t').1 (by rw [h]; exact (sv_er t).2 ho)
theorem er_saved {t t' : T} (h : er false t' = er false t) : t'.saved = t.saved := by rw [← saved_er t', h, saved_er]
theorem er_ptr {z : Bool} {t t' : T} (h : er z t' = er z t) : t'.ptr = none ↔ t.ptr = none := by rw [← ptr_er z t', h, ptr_er]
/-- What saving does. -/
structure Saves (t : T) (I : Its) (t' : T) (I' : Its) : Prop where
  sm : er true t' = er true t
  ptr : t'.ptr = t.ptr
  mem : ∀ x, mem t' x ↔ mem t x
  sep : Rx.sep t → Rx.sep t'
  ext : ∃ E, I' = I ++ E ∧ E.length ≤ uns t
  small : Small I → Small I'
  sv : Rx.sv (Rof I') t'
  all : t'.ptr ≠ none → t'.saved ≠ 0
  old : (t.ptr ≠ none → t.saved ≠ 0) → t' = t
theorem Saves.uns {t t' : T} {I I' : Its} (h : Saves t I t' I') : Rx.uns t' = 0 := sv_uns h.sv h.all
theorem saves_none (I : Its) : Saves .nil I .nil I := ⟨rfl, rfl, fun _ => Iff.rfl, id, ⟨[], by simp, by simp⟩, id, trivial, fun h => absurd rfl h, fun _ => rfl⟩
theorem saves_old {t : T} {I : Its} (h : Rx.sv (Rof I) t) (hs : t.saved ≠ 0) : Saves t I t I := ⟨rfl, rfl, fun _ => Iff.rfl, id, ⟨[], by simp, by simp⟩, id, h, fun _ => hs, fun _ => rfl⟩
theorem get_snoc (I : Its) (p : Nat × List UInt8) : (I ++ [p])[(((I.length : Int) + 1) - 1).toNat]? = some p := by
  rw [show (((I.length : Int) + 1) - 1).toNat = I.length by omega]; simp
theorem saves_leaf (b : Nat) (h : List UInt8) (n : Int) (I : Its) (hl : h.length = 32) : Saves (.leaf b h n 0) I (.leaf b h n ((I.length : Int) + 1)) (I ++ [body (.leaf h n)]) where
  sm := by simp [er]
  ptr := rfl
  mem := fun _ => Iff.rfl
  sep := id
  ext := ⟨_, rfl, by simp [Rx.uns]⟩
  small := fun hs p hp => by
    rcases List.mem_append.1 hp with h1 | h1
    · exact hs p h1
    · simp only [List.mem_singleton] at h1
      subst h1
      refine ⟨.inl rfl, ?_⟩
      have := var_le (Oct.u64 n)
      simp only [body, List.length_append, hl]; omega
  sv := ⟨by omega, fun _ => ⟨by omega, get_snoc I _, fun l e => by cases e⟩⟩
  all := fun _ e => by simp only [T.saved] at e; omega
  old := fun e => absurd rfl (e (by simp [T.ptr]))
/-- Some kids have been saved. -/
structure Mid (kids K : Nat → T) (I J : Its) (k : Nat) : Prop where
  lt : ∀ i, i < k → i < 16 → er true (K i) = er true (kids i) ∧ (K i).ptr = (kids i).ptr ∧ (∀ x, mem (K i) x ↔ mem (kids i) x) ∧ (Rx.sep (kids i) → Rx.sep (K i)) ∧ ((K i).ptr ≠ none → (K i).saved ≠ 0)
  ge : ∀ i, k ≤ i → K i = kids i
  sv : ∀ i, i < 16 → Rx.sv (Rof J) (K i)
  ext : ∃ E, J = I ++ E ∧ E.length ≤ ((List.range k).map fun i => Rx.uns (kids i)).sum
  small : Small I → Small J
theorem mid_zero (kids : Nat → T) (I : Its) (h : ∀ i, i < 16 → Rx.sv (Rof I) (kids i)) : Mid kids kids I I 0 :=
  ⟨fun i hi => absurd hi (by omega), fun _ _ => rfl, h, ⟨[], by simp, by simp⟩, id⟩
theorem Mid.ptr {kids K : Nat → T} {I J : Its} {k : Nat} (h : Mid kids K I J k) {i : Nat} (hi : i < 16) : (K i).ptr = (kids i).ptr := by
  by_cases e : i < k
  · exact (h.lt i e hi).2.1
  · rw [h.ge i (by omega)]
theorem Mid.mem {kids K : Nat → T} {I J : Its} {k : Nat} (h : Mid kids K I J k) {i : Nat} (hi : i < 16) (x : Nat) : Rx.mem (K i) x ↔ Rx.mem (kids i) x := by
  by_cases e : i < k
  · exact (h.lt i e hi).2.2.1 x
  · rw [h.ge i (by omega)]
theorem Mid.step {kids K : Nat → T} {I J J' : Its} {k : Nat} {t' : T} (h : Mid kids K I J k) (hk : k < 16) (hs : Saves (kids k) J t' J') : Mid kids (upd K k t') I J' (k + 1) where
  lt := fun i hi h16 => by
    by_cases e : i = k
    · subst e; rw [upd_same]; exact ⟨hs.sm, hs.ptr, hs.mem, hs.sep, hs.all⟩
    · rw [upd_ne _ _ e]; exact h.lt i (by omega) h16
  ge := fun i hi => by rw [upd_ne _ _ (by omega)]; exact h.ge i (by omega)
  sv := fun i hi => by
    obtain ⟨E, rfl, _⟩ := hs.ext
    by_cases e : i = k
    · subst e; rw [upd_same]; exact hs.sv
    · rw [upd_ne _ _ e]; exact sv_ext E (h.sv i hi)
  ext := by
    obtain ⟨E, rfl, h1⟩ := hs.ext
    obtain ⟨E0, rfl, h0⟩ := h.ext
    refine ⟨E0 ++ E, by rw [List.append_assoc], ?_⟩
    rw [List.range_succ, List.map_append, List.sum_append, List.length_append]
    simp only [List.map_cons, List.map_nil, List.sum_cons, List.sum_nil, Nat.add_zero]
    omega
  small := fun hs0 => hs.small (h.small hs0)
theorem Mid.done {kids K : Nat → T} {I J : Its} (h : Mid kids K I J 16) (b : Nat) : Saves (.inner b kids 0) I (.inner b K ((J.length : Int) + 1)) (J ++ [body (.inner (places K))]) where
  sm := er_inner true b b kids K 0 _ (fun i hi => (h.lt i hi hi).1) (by simp)
  ptr := rfl
  mem := fun x => by
    simp only [Rx.mem]
    constructor
    · rintro (h1 | ⟨i, hi, h1⟩)
      · exact .inl h1
      · exact .inr ⟨i, hi, (h.mem hi x).1 h1⟩
    · rintro (h1 | ⟨i, hi, h1⟩)
      · exact .inl h1
      · exact .inr ⟨i, hi, (h.mem hi x).2 h1⟩
  sep := fun hs => ⟨fun i hi => ⟨fun hm => (hs.1 i hi).1 ((h.mem hi b).1 hm), (h.lt i hi hi).2.2.2.1 (hs.1 i hi).2⟩, fun i j hi hj hij x h1 h2 => hs.2 i j hi hj hij x ((h.mem hi x).1 h1) ((h.mem hj x).1 h2)⟩
  ext := by
    obtain ⟨E, rfl, h1⟩ := h.ext
    refine ⟨E ++ [body (.inner (places K))], by rw [List.append_assoc], ?_⟩
    simp only [List.length_append, List.length_singleton, Rx.uns, if_true]
    have : ((List.range 16).map fun i => Rx.uns (kids i)).sum = sum16 fun i => Rx.uns (kids i) := rfl
    omega
  small := fun hs p hp => by
    rcases List.mem_append.1 hp with h1 | h1
    · exact h.small hs p h1
    · simp only [List.mem_singleton] at h1
      subst h1
      refine ⟨.inr rfl, ?_⟩
      have := vb_le (places K)
      rw [places_length] at this
      exact this
  sv := by
    refine ⟨⟨by omega, fun _ => ⟨fun i hi => (h.lt i hi hi).2.2.2.2, by omega, get_snoc J _, fun l e p hp => ?_⟩⟩, fun i hi => sv_ext _ (h.sv i hi)⟩
    cases e
    simp only [places, List.mem_map, List.mem_range] at hp
    obtain ⟨i, hi, rfl⟩ := hp
    have := sv_le (h.sv i hi)
    omega
  all := fun _ e => by simp only [T.saved] at e; omega
  old := fun e => absurd rfl (e (by simp [T.ptr]))
theorem Saves.len {t t' : T} {I I' : Its} (h : Saves t I t' I') : I.length ≤ I'.length ∧ I'.length ≤ I.length + Rx.uns t := by
  obtain ⟨E, rfl, h1⟩ := h.ext
  simp only [List.length_append]; omega
theorem Mid.len {kids K : Nat → T} {I J : Its} {k : Nat} (h : Mid kids K I J k) : I.length ≤ J.length ∧ J.length ≤ I.length + ((List.range k).map fun i => Rx.uns (kids i)).sum := by
  obtain ⟨E, rfl, h1⟩ := h.ext
  simp only [List.length_append]; omega
theorem sum_range_le (f : Nat → Nat) : ∀ k n, k ≤ n → ((List.range k).map f).sum ≤ ((List.range n).map f).sum
  | k, 0, h => by have : k = 0 := by omega
                  subst this; exact Nat.le_refl _
  | k, n + 1, h => by
    by_cases e : k = n + 1
    · subst e; exact Nat.le_refl _
    · have := sum_range_le f k n (by omega)
      rw [List.range_succ, List.map_append, List.sum_append]; omega
theorem sum_range_succ (f : Nat → Nat) (k : Nat) : ((List.range (k + 1)).map f).sum = ((List.range k).map f).sum + f k := by
  rw [List.range_succ, List.map_append, List.sum_append]; simp
theorem uns_one {t : T} (hb : big t) (hc : cnt t ≤ 1) : uns t ≤ 1 := by
  cases t with
  | nil => simp [uns]
  | leaf b h n s => simp only [uns]; split <;> omega
  | inner b K s => have := hb.1; simp only [cnt] at hc; omega
/-- Reading what was laid. -/
theorem rdVar_var (p : Int) (h0 : 0 ≤ p) (h1 : p ≤ 9223372036854775807) (r : List UInt8) : Oct.rdVar (Oct.var (Oct.u64 p) ++ r) false = (p, r, false) := by
  unfold Oct.rdVar
  rw [if_neg (by simp), Oct.varGo_var _ (Oct.u64_lt p)]
  simp only [Oct.i64_u64 p (by omega) h1]
end Rx
/- The order of hashes, plainly; sorted lists. -/
set_option linter.unusedVariables false
set_option linter.unusedSimpArgs false
namespace Rx
def lessB : List UInt8 → List UInt8 → Bool
  | x :: a, y :: b => if x = y then lessB a b else decide (x.toNat < y.toNat)
  | _, _ => false
theorem lessB_at : ∀ (a b : List UInt8) (k : Nat) (x y : UInt8), a.take k = b.take k → a[k]? = some x → b[k]? = some y → x ≠ y → lessB a b = decide (x.toNat < y.toNat)
  | [], b, k, x, y, _, hx, _, _ => by simp at hx
  | x' :: a, [], k, x, y, _, _, hy, _ => by simp at hy
  | x' :: a, y' :: b, 0, x, y, _, hx, hy, hn => by
    simp at hx hy; subst hx; subst hy
    rw [lessB, if_neg hn]
  | x' :: a, y' :: b, k + 1, x, y, ht, hx, hy, hn => by
    simp only [List.take_succ_cons, List.cons.injEq] at ht
    rw [lessB, if_pos ht.1]
    exact lessB_at a b k x y ht.2 (by simpa using hx) (by simpa using hy) hn
theorem lessB_same : ∀ a, lessB a a = false
  | [] => rfl
  | x :: a => by rw [lessB, if_pos rfl]; exact lessB_same a
theorem dig_cons (x : UInt8) (a : List UInt8) (j : Nat) : dig (x :: a) (j + 2) = dig a j := by
  unfold dig
  rw [show (j + 2) % 2 = j % 2 by omega, show (j + 2) / 2 = j / 2 + 1 by omega]
  rfl
theorem lt_cons (x y : UInt8) (a b : List UInt8) : lt (x :: a) (y :: b) ↔ x.toNat < y.toNat ∨ (x = y ∧ lt a b) := by
  have d0 : ∀ (z : UInt8) (c : List UInt8), dig (z :: c) 0 = z.toNat / 16 := fun _ _ => rfl
  have d1 : ∀ (z : UInt8) (c : List UInt8), dig (z :: c) 1 = z.toNat % 16 := fun _ _ => rfl
  constructor
  · rintro ⟨k, he, hl⟩
    match k, he, hl with
    | 0, he, hl => rw [d0, d0] at hl; exact .inl (by omega)
    | 1, he, hl =>
      have h0 := he 0 (by omega)
      rw [d0, d0] at h0
      rw [d1, d1] at hl
      exact .inl (by omega)
    | k + 2, he, hl =>
      have h0 := he 0 (by omega)
      have h1 := he 1 (by omega)
      rw [d0, d0] at h0
      rw [d1, d1] at h1
      refine .inr ⟨UInt8.toNat_inj.1 (by omega), k, fun j hj => ?_, ?_⟩
      · have := he (j + 2) (by omega)
        rwa [dig_cons, dig_cons] at this
      · rwa [dig_cons, dig_cons] at hl
  · rintro (h | ⟨rfl, k, he, hl⟩)
    · by_cases e : x.toNat / 16 = y.toNat / 16
      · refine ⟨1, fun j hj => ?_, by rw [d1, d1]; omega⟩
        obtain rfl : j = 0 := by omega
        rw [d0, d0]; exact e
      · exact ⟨0, fun j hj => by omega, by rw [d0, d0]; omega⟩
    · refine ⟨k + 2, fun j hj => ?_, by rw [dig_cons, dig_cons]; exact hl⟩
      match j with
      | 0 => rfl
      | 1 => rfl
      | j + 2 => rw [dig_cons, dig_cons]; exact he j (by omega)
theorem lessB_iff : ∀ (a b : List UInt8), a.length = b.length → (lessB a b = true ↔ lt a b)
  | [], [], _ => by simp [lessB]; rintro ⟨k, _, h⟩; simp [dig] at h
  | [], y :: b, h => by simp at h
  | x :: a, [], h => by simp at h
  | x :: a, y :: b, h => by
    rw [lt_cons, lessB]
    have ih := lessB_iff a b (by simpa using h)
    by_cases e : x = y
    · subst e; rw [if_pos rfl, ih]; simp
    · rw [if_neg e]; simp [e]
theorem lt_total {a b : List UInt8} (ha : a.length = b.length) (hne : a ≠ b) : lt a b ∨ lt b a := by
  rw [← lessB_iff a b ha, ← lessB_iff b a ha.symm]
  induction a generalizing b with
  | nil => cases b with
    | nil => exact absurd rfl hne
    | cons y b => simp at ha
  | cons x a ih =>
    cases b with
    | nil => simp at ha
    | cons y b =>
      rw [lessB, lessB]
      by_cases e : x = y
      · subst e
        rw [if_pos rfl, if_pos rfl]
        exact ih (by simpa using ha) (fun e => hne (by rw [e]))
      · rw [if_neg e, if_neg (Ne.symm e)]
        have : x.toNat ≠ y.toNat := fun h => e (UInt8.toNat_inj.1 h)
        simp only [decide_eq_true_eq]
        omega
def insH (h : List UInt8) : List (List UInt8) → List (List UInt8)
  | [] => [h]
  | x :: r => if lessB x h = true then x :: insH h r else if x = h then x :: r else h :: x :: r
theorem insH_skip (h : List UInt8) : ∀ (k : Nat) (l : List (List UInt8)), (∀ x ∈ l.take k, lessB x h = true) → insH h l = l.take k ++ insH h (l.drop k)
  | 0, l, _ => by simp
  | k + 1, [], _ => by simp
  | k + 1, x :: r, hx => by
    rw [insH, if_pos (hx x (by simp))]
    rw [insH_skip h k r (fun y hy => hx y (by simp [hy]))]
    simp
theorem mem_insH (h y : List UInt8) : ∀ l, y ∈ insH h l ↔ y = h ∨ y ∈ l
  | [] => by simp [insH]
  | x :: r => by
    rw [insH]
    split
    · rw [List.mem_cons, mem_insH h y r, List.mem_cons]
      constructor
      · rintro (h1 | h1 | h1) <;> simp [h1]
      · rintro (h1 | h1 | h1) <;> simp [h1]
    · split
      · rename_i e; subst e; simp
      · simp
theorem sorted_insH (h : List UInt8) (hl : h.length = 32) : ∀ l : List (List UInt8), (∀ x ∈ l, x.length = 32) → l.Pairwise lt → (insH h l).Pairwise lt
  | [], _, _ => by simp [insH]
  | x :: r, h32, hp => by
    rw [List.pairwise_cons] at hp
    have hx := h32 x (List.mem_cons_self ..)
    rw [insH]
    split
    · rename_i hlt
      rw [List.pairwise_cons]
      refine ⟨fun y hy => ?_, sorted_insH h hl r (fun y hy => h32 y (List.mem_cons_of_mem _ hy)) hp.2⟩
      rcases (mem_insH h y r).1 hy with rfl | hy
      · exact (lessB_iff x _ (by omega)).1 hlt
      · exact hp.1 y hy
    · rename_i hnl
      split
      · rename_i e; subst e; rw [List.pairwise_cons]; exact hp
      · rename_i hne
        have hlt : lt h x := by
          rcases lt_total (a := h) (b := x) (by omega) (fun e => hne e.symm) with h1 | h1
          · exact h1
          · exact absurd ((lessB_iff x h (by omega)).2 h1) hnl
        rw [List.pairwise_cons, List.pairwise_cons]
        refine ⟨fun y hy => ?_, hp⟩
        rcases List.mem_cons.1 hy with rfl | hy
        · exact hlt
        · exact lt_trans hlt (hp.1 y hy)
def sortH (l : List (List UInt8)) : List (List UInt8) := l.foldl (fun o h => insH h o) []
theorem sortH_snoc (l : List (List UInt8)) (h : List UInt8) : sortH (l ++ [h]) = insH h (sortH l) := by simp [sortH]
theorem sortH_spec : ∀ (n : Nat) (l : List (List UInt8)), l.length = n → (∀ x ∈ l, x.length = 32) → (sortH l).Pairwise lt ∧ (∀ x, x ∈ sortH l ↔ x ∈ l)
  | 0, l, hn, _ => by
    obtain rfl := List.eq_nil_of_length_eq_zero hn
    exact ⟨List.Pairwise.nil, fun x => Iff.rfl⟩
  | n + 1, l, hn, h32 => by
    have hne : l ≠ [] := by intro e; rw [e] at hn; simp at hn
    obtain ⟨r, h, rfl⟩ : ∃ r h, l = r ++ [h] := ⟨_, _, (List.dropLast_concat_getLast hne).symm⟩
    obtain ⟨h1, h2⟩ := sortH_spec n r (by simp at hn; omega) (fun x hx => h32 x (by simp [hx]))
    rw [sortH_snoc]
    refine ⟨sorted_insH h (h32 h (by simp)) _ (fun x hx => h32 x (by simp [(h2 x).1 hx])) h1, fun x => ?_⟩
    rw [mem_insH, h2]; simp [or_comm]
theorem sortH_len (l : List (List UInt8)) (N : Nat) : ∀ n, l.length = n → n ≤ N → (sortH l).length ≤ n := by
  intro n
  induction n generalizing l with
  | zero => intro h _; rw [List.eq_nil_of_length_eq_zero h]; simp [sortH]
  | succ n ih =>
    intro h hN
    have hne : l ≠ [] := by intro e; rw [e] at h; simp at h
    obtain ⟨r, x, rfl⟩ : ∃ r x, l = r ++ [x] := ⟨_, _, (List.dropLast_concat_getLast hne).symm⟩
    have h1 := ih r (by simp at h; omega) (by omega)
    rw [sortH_snoc]
    have : ∀ o : List (List UInt8), (insH x o).length ≤ o.length + 1 := by
      intro o
      induction o with
      | nil => simp [insH]
      | cons y o iho =>
        rw [insH]
        split
        · simp only [List.length_cons]; omega
        · split <;> simp
    have := this (sortH r)
    omega
theorem leaves_distinct {t : T} {p : List Nat} (h : ok t p) : (hashes t).Pairwise lt := by
  have := leaves_sorted t p h
  unfold hashes
  rw [List.pairwise_map]
  exact this
theorem hashes_sort {t : T} (h : ok t []) (l : List (List UInt8)) (h32 : ∀ x ∈ l, x.length = 32) (hm : ∀ x, x ∈ l ↔ x ∈ hashes t) : hashes t = sortH l := by
  obtain ⟨h1, h2⟩ := sortH_spec l.length l rfl h32
  exact sorted_unique lt_irrefl (fun _ _ _ => lt_trans) _ _ (leaves_distinct h) h1 (fun x => by rw [h2, hm])
end Rx
