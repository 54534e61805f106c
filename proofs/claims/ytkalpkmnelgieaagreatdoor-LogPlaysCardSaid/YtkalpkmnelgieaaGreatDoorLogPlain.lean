/- Records laid one behind the other are scanned as they were laid. -/
import Derived.Test.YtkalpkmnelgieaaGreatDoorLogScan
import Derived.Test.YtkalpkmnelgieaaGreatDoorNext
namespace Go.Proofs.YtkalpkmnelgieaaGreatDoor
open Go.RowKit Go.Tap Go.Maps
set_option linter.unusedVariables false

def Ok1 (p : Nat × List UInt8) : Prop := (1 ≤ p.1 ∧ p.1 ≤ 255) ∧ p.2.length ≤ 1048576
def frs (l : List (Nat × List UInt8)) : List UInt8 := l.flatMap fun p => frm (p.1 : Int) p.2
def recsAt : Nat → List (Nat × List UInt8) → List Rec
  | _, [] => []
  | at_, p :: r => ⟨p.1, p.2, at_ + (9 + p.2.length)⟩ :: recsAt (at_ + (9 + p.2.length)) r
theorem scanG_frs : ∀ (l : List (Nat × List UInt8)) (f at_ : Nat), (∀ p ∈ l, Ok1 p) → (frs l).length < f → scanG f (frs l) at_ = (recsAt at_ l, 0)
  | [], f, at_, _, hf => by
    obtain ⟨f, rfl⟩ : ∃ f', f = f' + 1 := ⟨f - 1, by omega⟩
    simp [frs, scanG, recsAt]
  | p :: r, f, at_, h, hf => by
    obtain ⟨f, rfl⟩ : ∃ f', f = f' + 1 := ⟨f - 1, by omega⟩
    have hp := h p (List.mem_cons_self ..)
    have e : frs (p :: r) = frm (p.1 : Int) p.2 ++ frs r := by simp [frs]
    have hl : (frs (p :: r)).length = 9 + p.2.length + (frs r).length := by rw [e, List.length_append, frm_length]
    have hne : frs (p :: r) ≠ [] := fun e => by rw [e] at hl; simp at hl; omega
    have hn := nxt_frm p.1 hp.1 p.2 (frs r) hp.2
    have hd : (frs (p :: r)).drop (9 + p.2.length) = frs r := by rw [e, List.drop_append_of_le_length (by rw [frm_length]; omega), List.drop_eq_nil_of_le (by rw [frm_length]; omega)]; rfl
    rw [scanG, if_neg hne, e, hn]
    simp only
    rw [← e, hd, scanG_frs r f _ (fun q hq => h q (List.mem_cons_of_mem _ hq)) (by omega)]
    rfl
theorem scan_frs (l : List (Nat × List UInt8)) (h : ∀ p ∈ l, Ok1 p) : scanF (frs l) = (recsAt 0 l, 0) := scanG_frs l _ 0 h (Nat.lt_succ_self _)
theorem recsAt_length : ∀ (l : List (Nat × List UInt8)) (at_ : Nat), (recsAt at_ l).length = l.length
  | [], _ => rfl
  | p :: r, at_ => by simp [recsAt, recsAt_length r]
theorem frs_snoc (l : List (Nat × List UInt8)) (p : Nat × List UInt8) : frs (l ++ [p]) = frs l ++ frm (p.1 : Int) p.2 := by simp [frs]
theorem recsAt_snoc : ∀ (l : List (Nat × List UInt8)) (at_ : Nat) (p : Nat × List UInt8), recsAt at_ (l ++ [p]) = recsAt at_ l ++ [⟨p.1, p.2, at_ + (frs l).length + (9 + p.2.length)⟩]
  | [], at_, p => by simp [recsAt, frs]
  | q :: r, at_, p => by
    have e : (frs (q :: r)).length = 9 + q.2.length + (frs r).length := by simp [frs, frm_length]
    rw [List.cons_append, recsAt, recsAt_snoc r, recsAt, List.cons_append, e]
    congr 3
    · congr 1; omega
theorem lenOf_recs : ∀ (l : List (Nat × List UInt8)) , lenOf (recsAt 0 l) = (frs l).length := by
  intro l
  rcases List.eq_nil_or_concat l with rfl | ⟨r, p, rfl⟩
  · rfl
  · rw [List.concat_eq_append, recsAt_snoc, frs_snoc]
    unfold lenOf
    rw [List.getLast?_append]
    show 0 + (frs r).length + (9 + p.2.length) = _
    rw [List.length_append, frm_length]; omega
theorem recsAt_get : ∀ (l : List (Nat × List UInt8)) (at_ i : Nat) (p : Nat × List UInt8), l[i]? = some p → ∃ x, (recsAt at_ l)[i]? = some x ∧ x.kind = p.1 ∧ x.body = p.2 ∧ x.fin = at_ + (frs (l.take (i + 1))).length
  | [], _, _, _, h => by simp at h
  | q :: r, at_, 0, p, h => by
    simp at h; subst h
    exact ⟨_, rfl, rfl, rfl, by simp [frs, frm_length]⟩
  | q :: r, at_, i + 1, p, h => by
    obtain ⟨x, h1, h2, h3, h4⟩ := recsAt_get r (at_ + (9 + q.2.length)) i p (by simpa using h)
    refine ⟨x, by simpa [recsAt] using h1, h2, h3, ?_⟩
    rw [h4, List.take_succ_cons]
    simp [frs, frm_length]; omega
end Go.Proofs.YtkalpkmnelgieaaGreatDoor
