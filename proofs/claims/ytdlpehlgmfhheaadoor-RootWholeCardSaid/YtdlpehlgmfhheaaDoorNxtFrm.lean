/- A record that was laid is read. -/
import Derived.Test.YtdlpehlgmfhheaaDoorNext
import Derived.Test.YtdlpehlgmfhheaaDoorOctPlain
namespace Go.Proofs.YtdlpehlgmfhheaaDoor
open Go.RowKit Go.Tap Go.Maps
set_option linter.unusedVariables false

theorem rdU_be' (k v : Nat) (r : List UInt8) : Oct.rdU k (Oct.be k v ++ r) false = (v % 256 ^ k, r, false) := by
  unfold Oct.rdU
  rw [if_neg (by simp [Oct.be_length])]
  rw [List.take_append_of_le_length (by simp [Oct.be_length]), List.take_of_length_le (by simp [Oct.be_length]), Oct.val_be, List.drop_append_of_le_length (by simp [Oct.be_length]), List.drop_eq_nil_of_le (by simp [Oct.be_length])]
  rfl
theorem u64_nat (n : Nat) (h : n < 4294967296) : Oct.u64 (n : Int) = n := by unfold Oct.u64; omega
theorem nxt_frm (k : Nat) (hk : 1 ≤ k ∧ k ≤ 255) (b r : List UInt8) (hb : b.length ≤ 1048576) : nxt (frm (k : Int) b ++ r) = .ok (k, b, 9 + b.length) := by
  have e : frm (k : Int) b = Oct.be 1 k ++ Oct.be 4 b.length ++ Oct.be 4 (Crc.sum (Oct.be 1 k ++ Oct.be 4 b.length ++ b)) ++ b := by
    unfold frm
    simp only
    rw [u64_nat k (by omega), u64_nat b.length (by omega), u64_nat _ (Crc.sum_lt _)]
  have hs := Crc.sum_lt (Oct.be 1 k ++ Oct.be 4 b.length ++ b)
  generalize hM : Crc.sum (Oct.be 1 k ++ Oct.be 4 b.length ++ b) = M at e hs
  have hA : (Oct.be 1 k).length = 1 := Oct.be_length _ _
  have hB : (Oct.be 4 b.length).length = 4 := Oct.be_length _ _
  have hS : (Oct.be 4 M).length = 4 := Oct.be_length _ _
  have e2 : frm (k : Int) b ++ r = (Oct.be 1 k ++ (Oct.be 4 b.length ++ Oct.be 4 M)) ++ (b ++ r) := by rw [e]; simp [List.append_assoc]
  have t9 : (frm (k : Int) b ++ r).take 9 = Oct.be 1 k ++ (Oct.be 4 b.length ++ Oct.be 4 M) := by
    rw [e2, List.take_append_of_le_length (by simp only [List.length_append]; omega), List.take_of_length_le (by simp only [List.length_append]; omega)]
  have d9 : (frm (k : Int) b ++ r).drop 9 = b ++ r := by
    rw [e2, List.drop_append_of_le_length (by simp only [List.length_append]; omega), List.drop_eq_nil_of_le (by simp only [List.length_append]; omega)]; rfl
  have e3 : frm (k : Int) b ++ r = (Oct.be 1 k ++ Oct.be 4 b.length) ++ (Oct.be 4 M ++ (b ++ r)) := by rw [e2]; simp [List.append_assoc]
  have t5 : (frm (k : Int) b ++ r).take 5 = Oct.be 1 k ++ Oct.be 4 b.length := by
    rw [e3, List.take_append_of_le_length (by simp only [List.length_append]; omega), List.take_of_length_le (by simp only [List.length_append]; omega)]
  have hlen : (frm (k : Int) b ++ r).length = 9 + b.length + r.length := by rw [List.length_append, frm_length]
  have r1 := rdU_be' 1 k (Oct.be 4 b.length ++ Oct.be 4 M)
  have r2 := rdU_be' 4 b.length (Oct.be 4 M)
  have r3 := rdU_be' 4 M []
  rw [List.append_nil] at r3
  have m1 : k % 256 ^ 1 = k := Nat.mod_eq_of_lt (by omega)
  have m2 : b.length % 256 ^ 4 = b.length := Nat.mod_eq_of_lt (by omega)
  have m3 : M % 256 ^ 4 = M := Nat.mod_eq_of_lt (by omega)
  rw [m1] at r1; rw [m2] at r2; rw [m3] at r3
  have tb : (b ++ r).take b.length = b := List.take_left
  unfold nxt
  rw [if_neg (by omega), t9, d9, t5, r1]
  simp only
  rw [r2]
  simp only
  rw [r3, hlen, tb, hM]
  simp only
  rw [if_neg (by omega), if_neg (by omega), if_neg (by simp)]
theorem nxt_ok {l : List UInt8} {q : Nat × List UInt8 × Nat} (h : nxt l = .ok q) : q.2.2 = 9 + q.2.1.length ∧ q.2.2 ≤ l.length ∧ q.1 < 256 := by
  unfold nxt at h
  split at h
  · cases h
  · rename_i h0
    split at h
    · cases h
    · split at h
      · cases h
      · split at h
        · cases h
        · simp only [Except.ok.injEq] at h
          subst h
          have h1 := Oct.rdU_lt 1 (l.take 9) false
          refine ⟨?_, ?_, h1⟩
          · show 9 + _ = 9 + (List.take _ _).length
            rw [List.length_take, List.length_drop]; omega
          · show 9 + _ ≤ _; omega
end Go.Proofs.YtdlpehlgmfhheaaDoor
