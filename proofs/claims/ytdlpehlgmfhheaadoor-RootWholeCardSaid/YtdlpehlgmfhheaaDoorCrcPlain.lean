import Derived.Laws.BitsAllLaws
namespace Crc
/-- One round over a bit. -/
def rnd (c : Nat) : Nat := if c % 2 = 1 then (c / 2) ^^^ 3988292384 else c / 2
def rnds : Nat → Nat → Nat
  | 0, c => c
  | k + 1, c => rnds k (rnd c)
def byte (c : Nat) (x : UInt8) : Nat := rnds 8 (c ^^^ x.toNat)
def run (c : Nat) (l : List UInt8) : Nat := l.foldl byte c
def sum (l : List UInt8) : Nat := 4294967295 - run 4294967295 l

theorem rnd_lt (c : Nat) (h : c < 4294967296) : rnd c < 4294967296 := by
  unfold rnd; split
  · exact Nat.xor_lt_two_pow (n := 32) (by omega) (by omega)
  · omega
theorem rnds_lt (k : Nat) : ∀ c, c < 4294967296 → rnds k c < 4294967296 := by
  induction k with
  | zero => intro c h; exact h
  | succ k ih => intro c h; exact ih _ (rnd_lt c h)
theorem rnds_succ (k : Nat) : ∀ c, rnds (k + 1) c = rnd (rnds k c) := by
  induction k with
  | zero => intro c; rfl
  | succ k ih => intro c; exact ih (rnd c)
theorem xor_byte_lt (c : Nat) (x : UInt8) (h : c < 4294967296) : c ^^^ x.toNat < 4294967296 :=
  Nat.xor_lt_two_pow (n := 32) (by omega) (by have := x.toNat_lt; omega)
theorem byte_lt (c : Nat) (x : UInt8) (h : c < 4294967296) : byte c x < 4294967296 := rnds_lt 8 _ (xor_byte_lt c x h)
theorem run_lt (l : List UInt8) : ∀ c, c < 4294967296 → run c l < 4294967296 := by
  induction l with
  | nil => intro c h; exact h
  | cons x l ih => intro c h; exact ih _ (byte_lt c x h)
theorem sum_lt (l : List UInt8) : sum l < 4294967296 := by unfold sum; omega

theorem xor_cancel (a b k : Nat) (h : a ^^^ k = b ^^^ k) : a = b := by
  have := congrArg (· ^^^ k) h
  simpa [Nat.xor_assoc] using this
/-- The top bit tells whether the polynomial went in. -/
theorem hi (a : Nat) (h : a < 2147483648) : 2147483648 ≤ a ^^^ 3988292384 := by
  have h1 : a.testBit 31 = false := Nat.testBit_lt_two_pow (by omega)
  have h2 : (3988292384 : Nat).testBit 31 = true := by decide
  have h3 : (a ^^^ 3988292384).testBit 31 = true := by rw [Nat.testBit_xor, h1, h2]; rfl
  exact Nat.ge_two_pow_of_testBit h3
theorem rnd_inj (c d : Nat) (hc : c < 4294967296) (hd : d < 4294967296) (h : rnd c = rnd d) : c = d := by
  have h1 := hi (c / 2) (by omega)
  have h2 := hi (d / 2) (by omega)
  unfold rnd at h
  split at h <;> split at h
  · have := xor_cancel _ _ _ h
    omega
  · omega
  · omega
  · omega
theorem rnds_inj (k : Nat) : ∀ c d, c < 4294967296 → d < 4294967296 → rnds k c = rnds k d → c = d := by
  induction k with
  | zero => intro c d _ _ h; exact h
  | succ k ih => intro c d hc hd h; exact rnd_inj _ _ hc hd (ih _ _ (rnd_lt c hc) (rnd_lt d hd) h)
theorem byte_inj (c d : Nat) (x : UInt8) (hc : c < 4294967296) (hd : d < 4294967296) (h : byte c x = byte d x) : c = d :=
  xor_cancel _ _ _ (rnds_inj 8 _ _ (xor_byte_lt c x hc) (xor_byte_lt d x hd) h)
theorem byte_turn (c : Nat) (x y : UInt8) (hc : c < 4294967296) (h : byte c x = byte c y) : x = y := by
  have h1 := rnds_inj 8 _ _ (xor_byte_lt c x hc) (xor_byte_lt c y hc) h
  have h2 : x.toNat = y.toNat := xor_cancel _ _ c (by rw [Nat.xor_comm _ c, Nat.xor_comm _ c]; exact h1)
  exact UInt8.toNat_inj.1 h2
theorem run_inj (l : List UInt8) : ∀ c d, c < 4294967296 → d < 4294967296 → run c l = run d l → c = d := by
  induction l with
  | nil => intro c d _ _ h; exact h
  | cons x l ih => intro c d hc hd h; exact byte_inj _ _ x hc hd (ih _ _ (byte_lt c x hc) (byte_lt d x hd) h)
/-- One byte turned: another sum. -/
theorem sum_turn (l : List UInt8) (k : Nat) (hk : k < l.length) (y : UInt8) (h : l[k] ≠ y) : sum (l.set k y) ≠ sum l := by
  intro he
  have a := run_lt l 4294967295 (by omega)
  have b := run_lt (l.set k y) 4294967295 (by omega)
  have e : run 4294967295 (l.set k y) = run 4294967295 l := by unfold sum at he; omega
  have s1 : l.set k y = l.take k ++ y :: l.drop (k + 1) := List.set_eq_take_append_cons_drop ▸ (by rw [if_pos hk])
  have s2 : l = l.take k ++ l[k] :: l.drop (k + 1) := by simp
  rw [s1] at e
  conv at e => rhs; rw [s2]
  simp only [run, List.foldl_append, List.foldl_cons] at e
  have hm := run_lt (l.take k) 4294967295 (by omega)
  have e2 := run_inj _ _ _ (byte_lt _ _ hm) (byte_lt _ _ hm) e
  exact h (byte_turn _ _ _ hm e2).symm
end Crc
