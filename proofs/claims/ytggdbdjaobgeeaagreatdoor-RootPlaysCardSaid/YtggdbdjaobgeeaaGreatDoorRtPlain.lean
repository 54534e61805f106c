/- Chapter 8, said plainly: roots, their bytes, reading them; the reference's reading is the same. -/
import Derived.Test.YtggdbdjaobgeeaaGreatDoorNext
namespace Go.Proofs.YtggdbdjaobgeeaaGreatDoor
open Go.RowKit Go.Tap Go.Maps
set_option linter.unusedVariables false

namespace Rt
structure Root where
  gen : Int
  logs : List Int
  idx : Int
def zero : Root := ⟨0, [], 0⟩
def fine (n : Int) : Bool := decide (0 ≤ n ∧ n ≤ 1099511627776)
def may (r : Root) : Bool := fine r.gen && fine r.idx && r.logs.all fine && decide (r.logs.length ≤ 8)
def vr (n : Int) : List UInt8 := Oct.var (Oct.u64 n)
def vars (l : List Int) : List UInt8 := l.flatMap vr
def body (r : Root) : List UInt8 := vr r.gen ++ vr r.idx ++ vr (r.logs.length : Int) ++ vars r.logs
def lay (r : Root) : List UInt8 := frm ((1 : Nat) : Int) (body r)
/-- The logs, as they are read: how many are still to come, the bytes, was something taken beyond the end. -/
def logsF : Nat → Int → List UInt8 → Bool → List Int × Bool
  | 0, _, _, k => ([], k)
  | f + 1, n, l, k => if 0 < n ∧ k = false then ((Oct.rdVar l k).1 :: (logsF f (n - 1) (Oct.rdVar l k).2.1 (Oct.rdVar l k).2.2).1, (logsF f (n - 1) (Oct.rdVar l k).2.1 (Oct.rdVar l k).2.2).2) else ([], k)
/-- As the reference reads them: not more than nine. -/
def logsR : Nat → Nat → Int → List UInt8 → Bool → List Int × Bool
  | 0, _, _, _, k => ([], k)
  | f + 1, m, n, l, k => if 0 < n ∧ k = false ∧ m ≤ 8 then ((Oct.rdVar l k).1 :: (logsR f (m + 1) (n - 1) (Oct.rdVar l k).2.1 (Oct.rdVar l k).2.2).1, (logsR f (m + 1) (n - 1) (Oct.rdVar l k).2.1 (Oct.rdVar l k).2.2).2) else ([], k)
def q1 (l : List UInt8) := Oct.rdVar l false
def q2 (l : List UInt8) := Oct.rdVar (q1 l).2.1 (q1 l).2.2
def q3 (l : List UInt8) := Oct.rdVar (q2 l).2.1 (q2 l).2.2
def unlay (l : List UInt8) : Root := ⟨(q1 l).1, (logsF (l.length + 1) (q3 l).1 (q3 l).2.1 (q3 l).2.2).1, (q2 l).1⟩
def unlayR (l : List UInt8) : Root × Bool := (⟨(q1 l).1, (logsR (l.length + 1) 0 (q3 l).1 (q3 l).2.1 (q3 l).2.2).1, (q2 l).1⟩, (logsR (l.length + 1) 0 (q3 l).1 (q3 l).2.1 (q3 l).2.2).2)
def read (b : List UInt8) : Except Nat Root :=
  match nxt b with
  | .error k => .error k
  | .ok q => if may (unlay q.2.1) = true ∧ lay (unlay q.2.1) = b then .ok (unlay q.2.1) else .error 2
def readR (b : List UInt8) : Except Nat Root :=
  match nxt b with
  | .error k => .error k
  | .ok q => if may (unlayR q.2.1).1 = true ∧ (unlayR q.2.1).2 = false ∧ lay (unlayR q.2.1).1 = b then .ok (unlayR q.2.1).1 else .error 2

theorem rdVar_vr (n : Int) (h : fine n = true) (r : List UInt8) : Oct.rdVar (vr n ++ r) false = (n, r, false) := by
  have h' : 0 ≤ n ∧ n ≤ 1099511627776 := of_decide_eq_true h
  unfold Oct.rdVar vr
  rw [if_neg (by simp), Oct.varGo_var _ (Oct.u64_lt n)]
  simp only
  rw [Oct.i64_u64 n (by omega) (by omega)]
theorem vr_length (n : Int) (h : fine n = true) : 1 ≤ (vr n).length ∧ (vr n).length ≤ 10 := by
  unfold vr Oct.var
  refine ⟨Oct.varF_pos _ _, ?_⟩
  rw [Oct.varF_length]
  have : ∀ f v, Oct.groups f v ≤ f + 1 := by
    intro f
    induction f with
    | zero => intro v; simp [Oct.groups]
    | succ f ih => intro v; unfold Oct.groups; split; omega; have := ih (v / 128); omega
  exact this 9 _
theorem vars_length (l : List Int) (h : ∀ n ∈ l, fine n = true) : (vars l).length ≤ 10 * l.length := by
  induction l with
  | nil => simp [vars]
  | cons n l ih =>
    have h1 := (vr_length n (h n (List.mem_cons_self ..))).2
    have h2 := ih (fun m hm => h m (List.mem_cons_of_mem _ hm))
    unfold vars at h2 ⊢
    rw [List.flatMap_cons, List.length_append, List.length_cons]; omega
theorem may_iff (r : Root) : may r = true ↔ fine r.gen = true ∧ fine r.idx = true ∧ (∀ n ∈ r.logs, fine n = true) ∧ r.logs.length ≤ 8 := by
  unfold may
  simp only [Bool.and_eq_true, List.all_eq_true, decide_eq_true_eq, and_assoc]
theorem fine_len (r : Root) (h : may r = true) : fine (r.logs.length : Int) = true := by
  have := ((may_iff r).1 h).2.2.2
  unfold fine
  exact decide_eq_true (by omega)
theorem body_length (r : Root) (h : may r = true) : (body r).length ≤ 110 := by
  obtain ⟨h1, h2, h3, h4⟩ := (may_iff r).1 h
  have e1 := (vr_length _ h1).2
  have e2 := (vr_length _ h2).2
  have e3 := (vr_length _ (fine_len r h)).2
  have e4 := vars_length _ h3
  unfold body
  simp only [List.length_append]; omega
theorem lay_length (r : Root) (h : may r = true) : (lay r).length ≤ 119 := by
  have := body_length r h
  unfold lay
  rw [frm_length]; omega
theorem q1_body (r : Root) (h : may r = true) : q1 (body r) = (r.gen, vr r.idx ++ (vr (r.logs.length : Int) ++ vars r.logs), false) := by
  unfold q1 body
  rw [List.append_assoc, List.append_assoc, rdVar_vr _ ((may_iff r).1 h).1]
theorem q2_body (r : Root) (h : may r = true) : q2 (body r) = (r.idx, vr (r.logs.length : Int) ++ vars r.logs, false) := by
  unfold q2
  rw [q1_body r h]
  exact rdVar_vr _ ((may_iff r).1 h).2.1 _
theorem q3_body (r : Root) (h : may r = true) : q3 (body r) = ((r.logs.length : Int), vars r.logs, false) := by
  unfold q3
  rw [q2_body r h]
  exact rdVar_vr _ (fine_len r h) _
theorem logsF_vars : ∀ (l : List Int) (f : Nat), (∀ n ∈ l, fine n = true) → l.length ≤ f → logsF f (l.length : Int) (vars l) false = (l, false)
  | [], f, _, _ => by cases f <;> simp [logsF]
  | n :: l, 0, _, hf => by simp at hf
  | n :: l, f + 1, h, hf => by
    have e : vars (n :: l) = vr n ++ vars l := by simp [vars]
    rw [logsF, if_pos ⟨by simp only [List.length_cons]; omega, rfl⟩, e, rdVar_vr n (h n (List.mem_cons_self ..))]
    simp only
    rw [show ((n :: l).length : Int) - 1 = (l.length : Int) by simp only [List.length_cons]; omega, logsF_vars l f (fun m hm => h m (List.mem_cons_of_mem _ hm)) (by simpa using hf)]
theorem len_vars (l : List Int) (h : ∀ n ∈ l, fine n = true) : l.length ≤ (vars l).length := by
  induction l with
  | nil => simp
  | cons n l ih =>
    have h1 := (vr_length n (h n (List.mem_cons_self ..))).1
    have h2 := ih (fun m hm => h m (List.mem_cons_of_mem _ hm))
    unfold vars at h2 ⊢
    rw [List.flatMap_cons, List.length_append, List.length_cons]; omega
theorem logs_body (r : Root) (h : may r = true) : logsF ((body r).length + 1) (q3 (body r)).1 (q3 (body r)).2.1 (q3 (body r)).2.2 = (r.logs, false) := by
  obtain ⟨h1, h2, h3, h4⟩ := (may_iff r).1 h
  rw [q3_body r h]
  refine logsF_vars _ _ h3 ?_
  have := len_vars _ h3
  unfold body
  simp only [List.length_append]; omega
theorem unlay_body (r : Root) (h : may r = true) : unlay (body r) = r := by
  unfold unlay
  rw [logs_body r h, q1_body r h, q2_body r h]
theorem nxt_lay (r : Root) (h : may r = true) : nxt (lay r) = .ok (1, body r, 9 + (body r).length) := by
  have := nxt_frm 1 (by omega) (body r) [] (by have := body_length r h; omega)
  rw [List.append_nil] at this
  exact this
theorem read_lay (r : Root) (h : may r = true) : read (lay r) = .ok r := by
  unfold read
  rw [nxt_lay r h]
  simp only
  rw [unlay_body r h, if_pos ⟨h, rfl⟩]
theorem lay_inj {r s : Root} (hr : may r = true) (hs : may s = true) (h : lay r = lay s) : r = s := by
  have h1 := read_lay r hr
  rw [h, read_lay s hs] at h1
  simp only [Except.ok.injEq] at h1
  exact h1.symm
/-- The two ways of reading the logs. -/
theorem logsR_le : ∀ (f m : Nat) (n : Int) (l : List UInt8) (k : Bool), m + (logsF f n l k).1.length ≤ 9 → logsR f m n l k = logsF f n l k
  | 0, m, n, l, k, _ => rfl
  | f + 1, m, n, l, k, h => by
    rw [logsR, logsF]
    by_cases hc : 0 < n ∧ k = false
    · rw [if_pos hc]
      have hl : (logsF (f + 1) n l k).1.length = (logsF f (n - 1) (Oct.rdVar l k).2.1 (Oct.rdVar l k).2.2).1.length + 1 := by rw [logsF, if_pos hc]; rfl
      rw [if_pos ⟨hc.1, hc.2, by omega⟩, logsR_le f (m + 1) _ _ _ (by omega)]
    · rw [if_neg hc, if_neg (fun h => hc ⟨h.1, h.2.1⟩)]
theorem logsR_gt : ∀ (f m : Nat) (n : Int) (l : List UInt8) (k : Bool), m ≤ 9 → 9 < m + (logsF f n l k).1.length → m + (logsR f m n l k).1.length = 9
  | 0, m, n, l, k, hm, h => by simp [logsF] at h; omega
  | f + 1, m, n, l, k, hm, h => by
    rw [logsF] at h
    by_cases hc : 0 < n ∧ k = false
    · rw [if_pos hc, List.length_cons] at h
      by_cases hm8 : m ≤ 8
      · have ih := logsR_gt f (m + 1) (n - 1) (Oct.rdVar l k).2.1 (Oct.rdVar l k).2.2 (by omega) (by omega)
        rw [logsR, if_pos ⟨hc.1, hc.2, hm8⟩, List.length_cons]; omega
      · rw [logsR, if_neg (fun h => hm8 h.2.2)]; simp; omega
    · rw [if_neg hc] at h; simp at h; omega
theorem readR_eq (b : List UInt8) : readR b = read b := by
  unfold readR read
  cases hn : nxt b with
  | error k => rfl
  | ok q =>
    simp only
    obtain ⟨k, l, s⟩ := q
    simp only
    by_cases h9 : (unlay l).logs.length ≤ 8
    · have e : logsR (l.length + 1) 0 (q3 l).1 (q3 l).2.1 (q3 l).2.2 = logsF (l.length + 1) (q3 l).1 (q3 l).2.1 (q3 l).2.2 := logsR_le _ _ _ _ _ (by have : (logsF (l.length + 1) (q3 l).1 (q3 l).2.1 (q3 l).2.2).1.length ≤ 8 := h9; omega)
      have e1 : (unlayR l).1 = unlay l := by unfold unlayR unlay; rw [e]
      rw [e1]
      by_cases hc : may (unlay l) = true ∧ lay (unlay l) = b
      · have hb : body (unlay l) = l := by
          have h1 := nxt_lay (unlay l) hc.1
          rw [hc.2, hn] at h1
          simp only [Except.ok.injEq, Prod.mk.injEq] at h1
          exact h1.2.1.symm
        have hk : (unlayR l).2 = false := by
          show (logsR (l.length + 1) 0 (q3 l).1 (q3 l).2.1 (q3 l).2.2).2 = false
          rw [e]
          have h2 := logs_body (unlay l) hc.1
          rw [hb] at h2
          rw [h2]
        rw [if_pos ⟨hc.1, hk, hc.2⟩, if_pos hc]
      · rw [if_neg hc, if_neg (fun h => hc ⟨h.1, h.2.2⟩)]
    · have h9' : 9 < 0 + (logsF (l.length + 1) (q3 l).1 (q3 l).2.1 (q3 l).2.2).1.length ∨ (logsF (l.length + 1) (q3 l).1 (q3 l).2.1 (q3 l).2.2).1.length = 9 := by
        have : ¬ (logsF (l.length + 1) (q3 l).1 (q3 l).2.1 (q3 l).2.2).1.length ≤ 8 := h9
        omega
      have e : (unlayR l).1.logs.length = 9 := by
        show (logsR (l.length + 1) 0 (q3 l).1 (q3 l).2.1 (q3 l).2.2).1.length = 9
        rcases h9' with h | h
        · have := logsR_gt _ 0 _ _ _ (by omega) h; omega
        · rw [logsR_le _ _ _ _ _ (by omega)]; exact h
      rw [if_neg (fun h => by have := ((may_iff _).1 h.1).2.2.2; omega), if_neg (fun h => h9 ((may_iff _).1 h.1).2.2.2)]
end Rt
end Go.Proofs.YtggdbdjaobgeeaaGreatDoor
