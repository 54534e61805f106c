/- Records laid one behind the other are scanned as they were laid. -/
import Derived.Test.YtgkbgponednfjaaDoorLogScan
namespace Go.Proofs.YtgkbgponednfjaaDoor
open Go.RowKit Go.Tap Go.Maps
set_option linter.unusedVariables false

theorem rdU_be' (k v : Nat) (r : List UInt8) : Oct.rdU k (Oct.be k v ++ r) false = (v % 256 ^ k, r, false) := by
  unfold Oct.rdU
  rw [if_neg (by simp [Oct.be_length])]
  rw [List.take_append_of_le_length (by simp [Oct.be_length]), List.take_of_length_le (by simp [Oct.be_length]), Oct.val_be, List.drop_append_of_le_length (by simp [Oct.be_length]), List.drop_eq_nil_of_le (by simp [Oct.be_length])]
  rfl
theorem u64_nat (n : Nat) (h : n < 4294967296) : Oct.u64 (n : Int) = n := by unfold Oct.u64; omega
theorem nxt_frm (k : Nat) (hk : 1 ≤ k ∧ k ≤ 255) (b r : List UInt8) (hb : b.length ≤ 1048576) : nxt (frm (k : Int) b ++ r) = .ok (k, b, 9 + b.length) := by
  have e : frm (k : Int) b = Oct.be 1 k ++ Oct.be 4 b.length ++ Oct.be 4 (Crc.sum (Oct.be 1 k ++ Oct.be 4 b.length ++ b)) ++ b := by
    unfold frm
    simp only
    rw [u64_nat k (by omega), u64_nat b.length (by omega), u64_nat _ (Crc.sum_lt _)]
  have hs := Crc.sum_lt (Oct.be 1 k ++ Oct.be 4 b.length ++ b)
  generalize hM : Crc.sum (Oct.be 1 k ++ Oct.be 4 b.length ++ b) = M at e hs
  have hA : (Oct.be 1 k).length = 1 := Oct.be_length _ _
  have hB : (Oct.be 4 b.length).length = 4 := Oct.be_length _ _
  have hS : (Oct.be 4 M).length = 4 := Oct.be_length _ _
  have e2 : frm (k : Int) b ++ r = (Oct.be 1 k ++ (Oct.be 4 b.length ++ Oct.be 4 M)) ++ (b ++ r) := by rw [e]; simp [List.append_assoc]
  have t9 : (frm (k : Int) b ++ r).take 9 = Oct.be 1 k ++ (Oct.be 4 b.length ++ Oct.be 4 M) := by
    rw [e2, List.take_append_of_le_length (by simp only [List.length_append]; omega), List.take_of_length_le (by simp only [List.length_append]; omega)]
  have d9 : (frm (k : Int) b ++ r).drop 9 = b ++ r := by
    rw [e2, List.drop_append_of_le_length (by simp only [List.length_append]; omega), List.drop_eq_nil_of_le (by simp only [List.length_append]; omega)]; rfl
  have e3 : frm (k : Int) b ++ r = (Oct.be 1 k ++ Oct.be 4 b.length) ++ (Oct.be 4 M ++ (b ++ r)) := by rw [e2]; simp [List.append_assoc]
  have t5 : (frm (k : Int) b ++ r).take 5 = Oct.be 1 k ++ Oct.be 4 b.length := by
    rw [e3, List.take_append_of_le_length (by simp only [List.length_append]; omega), List.take_of_length_le (by simp only [List.length_append]; omega)]
  have hlen : (frm (k : Int) b ++ r).length = 9 + b.length + r.length := by rw [List.length_append, frm_length]
  have r1 := rdU_be' 1 k (Oct.be 4 b.length ++ Oct.be 4 M)
  have r2 := rdU_be' 4 b.length (Oct.be 4 M)
  have r3 := rdU_be' 4 M []
  rw [List.append_nil] at r3
  have m1 : k % 256 ^ 1 = k := Nat.mod_eq_of_lt (by omega)
  have m2 : b.length % 256 ^ 4 = b.length := Nat.mod_eq_of_lt (by omega)
  have m3 : M % 256 ^ 4 = M := Nat.mod_eq_of_lt (by omega)
  rw [m1] at r1; rw [m2] at r2; rw [m3] at r3
  have tb : (b ++ r).take b.length = b := List.take_left
  unfold nxt
  rw [if_neg (by omega), t9, d9, t5, r1]
  simp only
  rw [r2]
  simp only
  rw [r3, hlen, tb, hM]
  simp only
  rw [if_neg (by omega), if_neg (by omega), if_neg (by simp)]
def Ok1 (p : Nat × List UInt8) : Prop := (1 ≤ p.1 ∧ p.1 ≤ 255) ∧ p.2.length ≤ 1048576
def frs (l : List (Nat × List UInt8)) : List UInt8 := l.flatMap fun p => frm (p.1 : Int) p.2
def recsAt : Nat → List (Nat × List UInt8) → List Rec
  | _, [] => []
  | at_, p :: r => ⟨p.1, p.2, at_ + (9 + p.2.length)⟩ :: recsAt (at_ + (9 + p.2.length)) r
theorem scanG_frs : ∀ (l : List (Nat × List UInt8)) (f at_ : Nat), (∀ p ∈ l, Ok1 p) → (frs l).length < f → scanG f (frs l) at_ = (recsAt at_ l, 0)
  | [], f, at_, _, hf => by
    obtain ⟨f, rfl⟩ : ∃ f', f = f' + 1 := ⟨f - 1, by omega⟩
    simp [frs, scanG, recsAt]
  | p :: r, f, at_, h, hf => by
    obtain ⟨f, rfl⟩ : ∃ f', f = f' + 1 := ⟨f - 1, by omega⟩
    have hp := h p (List.mem_cons_self ..)
    have e : frs (p :: r) = frm (p.1 : Int) p.2 ++ frs r := by simp [frs]
    have hl : (frs (p :: r)).length = 9 + p.2.length + (frs r).length := by rw [e, List.length_append, frm_length]
    have hne : frs (p :: r) ≠ [] := fun e => by rw [e] at hl; simp at hl; omega
    have hn := nxt_frm p.1 hp.1 p.2 (frs r) hp.2
    have hd : (frs (p :: r)).drop (9 + p.2.length) = frs r := by rw [e, List.drop_append_of_le_length (by rw [frm_length]; omega), List.drop_eq_nil_of_le (by rw [frm_length]; omega)]; rfl
    rw [scanG, if_neg hne, e, hn]
    simp only
    rw [← e, hd, scanG_frs r f _ (fun q hq => h q (List.mem_cons_of_mem _ hq)) (by omega)]
    rfl
theorem scan_frs (l : List (Nat × List UInt8)) (h : ∀ p ∈ l, Ok1 p) : scanF (frs l) = (recsAt 0 l, 0) := scanG_frs l _ 0 h (Nat.lt_succ_self _)
theorem recsAt_length : ∀ (l : List (Nat × List UInt8)) (at_ : Nat), (recsAt at_ l).length = l.length
  | [], _ => rfl
  | p :: r, at_ => by simp [recsAt, recsAt_length r]
theorem frs_snoc (l : List (Nat × List UInt8)) (p : Nat × List UInt8) : frs (l ++ [p]) = frs l ++ frm (p.1 : Int) p.2 := by simp [frs]
theorem recsAt_snoc : ∀ (l : List (Nat × List UInt8)) (at_ : Nat) (p : Nat × List UInt8), recsAt at_ (l ++ [p]) = recsAt at_ l ++ [⟨p.1, p.2, at_ + (frs l).length + (9 + p.2.length)⟩]
  | [], at_, p => by simp [recsAt, frs]
  | q :: r, at_, p => by
    have e : (frs (q :: r)).length = 9 + q.2.length + (frs r).length := by simp [frs, frm_length]
    rw [List.cons_append, recsAt, recsAt_snoc r, recsAt, List.cons_append, e]
    congr 3
    · congr 1; omega
theorem lenOf_recs : ∀ (l : List (Nat × List UInt8)) , lenOf (recsAt 0 l) = (frs l).length := by
  intro l
  rcases List.eq_nil_or_concat l with rfl | ⟨r, p, rfl⟩
  · rfl
  · rw [List.concat_eq_append, recsAt_snoc, frs_snoc]
    unfold lenOf
    rw [List.getLast?_append]
    show 0 + (frs r).length + (9 + p.2.length) = _
    rw [List.length_append, frm_length]; omega
theorem recsAt_get : ∀ (l : List (Nat × List UInt8)) (at_ i : Nat) (p : Nat × List UInt8), l[i]? = some p → ∃ x, (recsAt at_ l)[i]? = some x ∧ x.kind = p.1 ∧ x.body = p.2 ∧ x.fin = at_ + (frs (l.take (i + 1))).length
  | [], _, _, _, h => by simp at h
  | q :: r, at_, 0, p, h => by
    simp at h; subst h
    exact ⟨_, rfl, rfl, rfl, by simp [frs, frm_length]⟩
  | q :: r, at_, i + 1, p, h => by
    obtain ⟨x, h1, h2, h3, h4⟩ := recsAt_get r (at_ + (9 + q.2.length)) i p (by simpa using h)
    refine ⟨x, by simpa [recsAt] using h1, h2, h3, ?_⟩
    rw [h4, List.take_succ_cons]
    simp [frs, frm_length]; omega
end Go.Proofs.YtgkbgponednfjaaDoor
