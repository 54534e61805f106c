/- The raw requests and replies of chapter 23's statements, plainly. -/
import Derived.Test.YthampbiabkfmoaaDoorWiItems
set_option linter.unusedVariables false
set_option linter.unusedSimpArgs false
namespace Go.Proofs.YthampbiabkfmoaaDoor
open Go.RowKit Go.Tap
structure Wi.Raw where
  seq : Int
  kind : Int
  how : Int
  l : List Int
  e : List Int
structure Wi.Raw.ok (x : Wi.Raw) : Prop where
  seq : In64 x.seq
  kind : In64 x.kind
  how : In64 x.how
  e : ∀ z ∈ x.e, In64 z
def Wi.itG : Wi.It := ⟨Wi.z32, 0, [71]⟩
def Wi.itS : Wi.It := ⟨Wi.z32, 1, [97, 98]⟩
def Wi.itN (s : Int) : Wi.It := ⟨Wi.z32, s, []⟩
def Wi.askOf (x : Wi.Raw) (k : Int) (l : List Wi.It) : Wi.Rq :=
  if x.how % 20 = 0 then ⟨x.seq, k, l⟩
  else if x.how % 20 = 1 then ⟨x.seq % 1000, x.kind, l⟩
  else if x.how % 20 = 2 then ⟨x.seq % 1000, k, l ++ [Wi.itG]⟩
  else if x.how % 20 = 3 then ⟨x.seq % 1000, k, l ++ [Wi.itS]⟩
  else if x.how % 20 = 4 then ⟨x.seq % 1000, k, l ++ [Wi.itN x.seq]⟩
  else ⟨x.seq % 1000, k, l⟩
def Wi.askQ (x : Wi.Raw) : Wi.Rq := Wi.askOf x (1 + x.kind % 2) (Wi.itemsOf (1 + x.kind % 2) x.l)
theorem i64_0 : Wi.i64ok 0 := by unfold Wi.i64ok; omega
theorem itG_ok : Wi.itG.ok := ⟨rfl, i64_0, by show 1 ≤ _; omega⟩
theorem itS_ok : Wi.itS.ok := ⟨rfl, by show Wi.i64ok 1; unfold Wi.i64ok; omega, by show 2 ≤ _; omega⟩
theorem itN_ok (s : Int) (h : Wi.i64ok s) : (Wi.itN s).ok := ⟨rfl, h, by show 0 ≤ _; omega⟩
theorem itemsOf_ok (k : Int) (l : List Int) : ∀ i ∈ Wi.itemsOf k l, i.ok := by
  intro i hi
  simp only [Wi.itemsOf, List.mem_map] at hi
  obtain ⟨z, _, rfl⟩ := hi
  exact itOf_ok k z
theorem itemsOf_len (k : Int) (l : List Int) : (Wi.itemsOf k l).length ≤ 17 := by
  unfold Wi.itemsOf; rw [List.length_map, List.length_take]; omega
theorem snoc_ok {l : List Wi.It} {i : Wi.It} (h : ∀ j ∈ l, j.ok) (hi : i.ok) : ∀ j ∈ l ++ [i], j.ok := by
  intro j hj
  rw [List.mem_append, List.mem_singleton] at hj
  rcases hj with hj | rfl
  · exact h j hj
  · exact hi
theorem askOf_ok (x : Wi.Raw) (h : x.ok) (k : Int) (l : List Wi.It) (hk : Wi.i64ok k) (hl : ∀ j ∈ l, j.ok) : (Wi.askOf x k l).ok := by
  have hs : Wi.i64ok (x.seq % 1000) := by unfold Wi.i64ok; omega
  unfold Wi.askOf
  split
  · exact ⟨h.seq, hk, hl⟩
  split
  · exact ⟨hs, h.kind, hl⟩
  split
  · exact ⟨hs, hk, snoc_ok hl itG_ok⟩
  split
  · exact ⟨hs, hk, snoc_ok hl itS_ok⟩
  split
  · exact ⟨hs, hk, snoc_ok hl (itN_ok _ h.seq)⟩
  · exact ⟨hs, hk, hl⟩
theorem askQ_ok (x : Wi.Raw) (h : x.ok) : (Wi.askQ x).ok := askOf_ok x h _ _ (by unfold Wi.i64ok; omega) (itemsOf_ok _ _)
theorem askOf_len (x : Wi.Raw) (k : Int) (l : List Wi.It) (hl : l.length ≤ 17) : (Wi.askOf x k l).items.length ≤ 18 := by
  unfold Wi.askOf
  split
  · show l.length ≤ _; omega
  split
  · show l.length ≤ _; omega
  split
  · show (l ++ _).length ≤ _; simp; omega
  split
  · show (l ++ _).length ≤ _; simp; omega
  split
  · show (l ++ _).length ≤ _; simp; omega
  · show l.length ≤ _; omega
theorem askQ_len (x : Wi.Raw) : (Wi.askQ x).items.length ≤ 18 := askOf_len x _ _ (itemsOf_len _ _)
def Wi.one32 : List UInt8 := 1 :: List.replicate 31 0
/-- An entry of a number, ahead of what is turned in it. -/
def Wi.toldA (kind n : Int) : Wi.En :=
  if n % 3 = 0 then (if kind = 2 then ⟨1, Hs.of (n.tdiv 180 % 60).toNat, n % 50, Hs.of (n.tdiv 3 % 60).toNat⟩ else ⟨1, Wi.z32, 0, Hs.of (n.tdiv 3 % 60).toNat⟩)
  else if n % 3 = 2 ∧ kind = 1 then ⟨2, Wi.z32, 0, Wi.z32⟩ else ⟨1 + n % 3, Wi.z32, 0, Wi.z32⟩
def Wi.toldT (n : Int) (x : Wi.En) : Wi.En :=
  if n.tmod 47 = 46 then ⟨n, x.high, x.steps, x.hash⟩ else if n.tmod 47 = 45 then ⟨x.status, x.high, x.steps, Wi.one32⟩ else if n.tmod 47 = 44 then ⟨x.status, x.high, n, x.hash⟩ else x
def Wi.toldN (x : Wi.Raw) (i : Nat) : Int := (x.e[i]?).getD (i : Int)
def Wi.toldE (x : Wi.Raw) (kind : Int) (i : Nat) : Wi.En := Wi.toldT (Wi.toldN x i) (Wi.toldA kind (Wi.toldN x i))
def Wi.enU : Wi.En := ⟨2, Wi.z32, 0, Wi.z32⟩
def Wi.toldL (x : Wi.Raw) (kind : Int) (n : Nat) : List Wi.En := (List.range n).map (Wi.toldE x kind)
def Wi.toldP (x : Wi.Raw) : Wi.Rp :=
  ⟨Wi.askQ x, Wi.toldL x (Wi.askQ x).kind (Wi.askQ x).items.length ++ if x.how.tmod 31 = 30 then [Wi.enU] else []⟩
theorem toldA_ok (k n : Int) : (Wi.toldA k n).ok := by
  unfold Wi.toldA
  split
  · split
    · exact ⟨by show Wi.i64ok 1; unfold Wi.i64ok; omega, rfl, by show Wi.i64ok (n % 50); unfold Wi.i64ok; omega, rfl⟩
    · exact ⟨by show Wi.i64ok 1; unfold Wi.i64ok; omega, rfl, i64_0, rfl⟩
  · split
    · exact zen_ok 2 (by unfold Wi.i64ok; omega)
    · exact zen_ok _ (by unfold Wi.i64ok; omega)
theorem toldT_ok (n : Int) (h : Wi.i64ok n) (x : Wi.En) (hx : x.ok) : (Wi.toldT n x).ok := by
  unfold Wi.toldT
  split
  · exact ⟨h, hx.high, hx.steps, hx.hash⟩
  split
  · exact ⟨hx.status, hx.high, hx.steps, rfl⟩
  split
  · exact ⟨hx.status, hx.high, h, hx.hash⟩
  · exact hx
theorem toldN_ok (x : Wi.Raw) (h : x.ok) (i : Nat) (hi : i ≤ 1000) : Wi.i64ok (Wi.toldN x i) := by
  unfold Wi.toldN
  cases hx : x.e[i]? with
  | none => show Wi.i64ok (i : Int); unfold Wi.i64ok; omega
  | some z => exact h.e z (List.mem_of_getElem? hx)
theorem enU_ok : Wi.enU.ok := zen_ok 2 (by unfold Wi.i64ok; omega)
theorem toldE_ok (x : Wi.Raw) (h : x.ok) (k : Int) (i : Nat) (hi : i ≤ 1000) : (Wi.toldE x k i).ok := toldT_ok _ (toldN_ok x h i hi) _ (toldA_ok _ _)
theorem toldL_ok (x : Wi.Raw) (h : x.ok) (k : Int) (n : Nat) (hn : n ≤ 1000) : ∀ e ∈ Wi.toldL x k n, e.ok := by
  intro e he
  simp only [Wi.toldL, List.mem_map, List.mem_range] at he
  obtain ⟨i, hi, rfl⟩ := he
  exact toldE_ok x h k i (by omega)
theorem toldL_succ (x : Wi.Raw) (k : Int) (n : Nat) : Wi.toldL x k (n + 1) = Wi.toldL x k n ++ [Wi.toldE x k n] := by
  simp [Wi.toldL, List.range_succ]
theorem toldL_len (x : Wi.Raw) (k : Int) (n : Nat) : (Wi.toldL x k n).length = n := by simp [Wi.toldL]
theorem toldP_ok (x : Wi.Raw) (h : x.ok) : (Wi.toldP x).ok := by
  refine ⟨askQ_ok x h, ?_⟩
  intro e he
  have hn := askQ_len x
  simp only [Wi.toldP, List.mem_append] at he
  rcases he with he | he
  · exact toldL_ok x h _ _ (by omega) e he
  · split at he
    · rw [List.mem_singleton] at he; subst he; exact enU_ok
    · cases he
theorem toldP_len (x : Wi.Raw) : (Wi.toldP x).ents.length ≤ 19 := by
  have hn := askQ_len x
  simp only [Wi.toldP, List.length_append, toldL_len]
  split <;> simp <;> omega
end Go.Proofs.YthampbiabkfmoaaDoor
