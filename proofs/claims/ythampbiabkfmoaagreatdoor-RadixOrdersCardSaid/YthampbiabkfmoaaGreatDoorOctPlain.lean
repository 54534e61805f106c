import Derived.Laws.BitsAllLaws
namespace Oct
/-- The n lowest bytes of a number, the highest first. -/
def be : Nat → Nat → List UInt8
  | 0, _ => []
  | n + 1, v => UInt8.ofNat (v / 256 ^ n % 256) :: be n v
/-- Groups of seven bits, the lowest first. -/
def varF : Nat → Nat → List UInt8
  | 0, v => [UInt8.ofNat v]
  | f + 1, v => if v < 128 then [UInt8.ofNat v] else UInt8.ofNat (v % 128 + 128) :: varF f (v / 128)
def var (v : Nat) : List UInt8 := varF 9 v
/-- The number that bytes say. -/
def val (l : List UInt8) : Nat := l.foldl (fun v c => v * 256 + c.toNat) 0
/-- A number in groups of seven bits, at the beginning of bytes. -/
def varGo : List UInt8 → Nat → Nat → Option (Nat × List UInt8)
  | [], _, _ => none
  | c :: r, k, v =>
    if 9 < k ∨ (k = 9 ∧ 1 < c.toNat) ∨ (0 < k ∧ c.toNat = 0) then none
    else if c.toNat < 128 then some (v + c.toNat * 128 ^ k, r)
    else varGo r (k + 1) (v + (c.toNat - 128) * 128 ^ k)
/-- A 64-bit number as an int. -/
def i64 (v : Nat) : Int := if v < 9223372036854775808 then (v : Int) else (v : Int) - 18446744073709551616
def u64 (n : Int) : Nat := (n % 18446744073709551616).toNat

theorem u64_lt (n : Int) : u64 n < 18446744073709551616 := by unfold u64; omega
theorem i64_u64 (n : Int) (h0 : -9223372036854775808 ≤ n) (h1 : n ≤ 9223372036854775807) : i64 (u64 n) = n := by
  unfold i64 u64; split <;> omega
theorem u64_i64 (v : Nat) (h : v < 18446744073709551616) : u64 (i64 v) = v := by
  unfold i64 u64; split <;> omega

theorem be_length (n v : Nat) : (be n v).length = n := by induction n with | zero => rfl | succ n ih => simp [be, ih]
theorem foldl_val (l : List UInt8) : ∀ a, l.foldl (fun v c => v * 256 + c.toNat) a = a * 256 ^ l.length + val l := by
  induction l with
  | nil => intro a; simp [val]
  | cons c l ih =>
    intro a
    simp only [List.foldl_cons, List.length_cons, val]
    rw [ih, ih (0 * 256 + c.toNat), Nat.pow_succ]
    simp only [Nat.zero_mul, Nat.zero_add, Nat.add_mul, Nat.mul_assoc, Nat.mul_comm 256, Nat.add_assoc]
theorem val_cons (c : UInt8) (l : List UInt8) : val (c :: l) = c.toNat * 256 ^ l.length + val l := by
  have := foldl_val l (0 * 256 + c.toNat)
  simpa [val] using this
theorem val_lt (l : List UInt8) : val l < 256 ^ l.length := by
  induction l with
  | nil => simp [val]
  | cons c l ih =>
    rw [val_cons, List.length_cons, Nat.pow_succ]
    have hc := c.toNat_lt
    have : c.toNat * 256 ^ l.length ≤ 255 * 256 ^ l.length := Nat.mul_le_mul_right _ (by omega)
    omega
theorem val_be (n v : Nat) : val (be n v) = v % 256 ^ n := by
  induction n with
  | zero => simp [be, val, Nat.mod_one]
  | succ n ih =>
    rw [be, val_cons, be_length, ih]
    have h1 : (UInt8.ofNat (v / 256 ^ n % 256)).toNat = v / 256 ^ n % 256 := by simp
    rw [h1, Nat.pow_succ, Nat.mod_mul]
    rw [Nat.mul_comm]; omega

theorem ofNat_toNat (n : Nat) (h : n < 256) : (UInt8.ofNat n).toNat = n := by
  simp [Nat.mod_eq_of_lt h]

/-- What is laid is read again; the rest is left. -/
theorem varGo_varF (r : List UInt8) : ∀ f k a v, k + f = 9 → v < 128 ^ f * 2 → (0 < k → 0 < v) → varGo (varF f v ++ r) k a = some (a + v * 128 ^ k, r) := by
  intro f
  induction f with
  | zero =>
    intro k a v hk hv h0
    have : k = 9 := by omega
    subst this
    have hv1 : v = 1 := by have := h0 (by omega); omega
    subst hv1
    simp [varF, varGo]
  | succ f ih =>
    intro k a v hk hv h0
    unfold varF
    split
    · rename_i h
      have e := ofNat_toNat v (by omega)
      simp only [List.cons_append, List.nil_append, varGo, e]
      rw [if_neg, if_pos h]
      rintro (h1 | h1 | h1)
      · omega
      · omega
      · have := h0 h1.1; omega
    · rename_i h
      have e := ofNat_toNat (v % 128 + 128) (by omega)
      simp only [List.cons_append, varGo, e]
      rw [if_neg (by rintro (h1 | h1 | h1) <;> omega), if_neg (by omega), ih (k + 1) _ _ (by omega) (by rw [Nat.pow_succ] at hv; omega) (by intro _; omega)]
      congr 2
      rw [Nat.pow_succ, Nat.add_sub_cancel, Nat.add_assoc]
      congr 1
      have : v = v % 128 + v / 128 * 128 := by omega
      conv => rhs; rw [this]
      rw [Nat.add_mul, Nat.mul_assoc, Nat.mul_comm 128]
theorem varGo_var (v : Nat) (h : v < 18446744073709551616) (r : List UInt8) : varGo (var v ++ r) 0 0 = some (v, r) := by
  have := varGo_varF r 9 0 0 v rfl (by simpa using h) (by omega)
  simpa [var] using this
/-- A beginning alone is none. -/
theorem varGo_short : ∀ f k a v c, v < 128 ^ f * 2 → c < (varF f v).length → varGo ((varF f v).take c) k a = none := by
  intro f
  induction f with
  | zero => intro k a v c _ hc; simp [varF] at hc; subst hc; simp [varGo]
  | succ f ih =>
    intro k a v c hv hc
    unfold varF at hc ⊢
    split
    · rename_i h; rw [if_pos h] at hc; simp at hc; subst hc; simp [varGo]
    · rename_i h
      rw [if_neg h] at hc
      cases c with
      | zero => simp [varGo]
      | succ c =>
        have e := ofNat_toNat (v % 128 + 128) (by omega)
        simp only [List.take_succ_cons, varGo, e]
        split
        · rfl
        · rw [if_neg (by omega)]
          exact ih _ _ _ _ (by rw [Nat.pow_succ] at hv; omega) (by simpa using hc)
/-- How many groups. -/
def groups : Nat → Nat → Nat
  | 0, _ => 1
  | f + 1, v => if v < 128 then 1 else groups f (v / 128) + 1
theorem varF_length : ∀ f v, (varF f v).length = groups f v := by
  intro f
  induction f with
  | zero => intro v; rfl
  | succ f ih => intro v; unfold varF groups; split <;> simp [ih]
theorem varF_pos (f v : Nat) : 0 < (varF f v).length := by cases f <;> simp [varF]; split <;> simp
/-- All but the last are 128 or more, the last one less; it is not 0 if there are more. -/
theorem varF_get : ∀ f v i, v < 128 ^ f * 2 → (h : i < (varF f v).length) → (127 < ((varF f v)[i]).toNat ↔ i + 1 < (varF f v).length) := by
  intro f
  induction f with
  | zero =>
    intro v i hv h
    have hi : i = 0 := by simpa [varF] using h
    subst hi
    simp [varF]; omega
  | succ f ih =>
    intro v i hv h
    by_cases hlt : v < 128
    · have e1 : varF (f + 1) v = [UInt8.ofNat v] := by rw [varF, if_pos hlt]
      have hi : i = 0 := by rw [e1] at h; simpa using h
      subst hi
      simp only [e1, List.getElem_cons_zero, ofNat_toNat v (by omega), List.length_singleton]; omega
    · have e1 : varF (f + 1) v = UInt8.ofNat (v % 128 + 128) :: varF f (v / 128) := by rw [varF, if_neg hlt]
      have hp := varF_pos f (v / 128)
      cases i with
      | zero => simp only [e1, List.getElem_cons_zero, ofNat_toNat (v % 128 + 128) (by omega), List.length_cons]; omega
      | succ i =>
        simp only [e1, List.getElem_cons_succ, List.length_cons]
        have := ih (v / 128) i (by rw [Nat.pow_succ] at hv; omega) (by rw [e1] at h; simpa using h)
        rw [this]; omega
theorem varF_last : ∀ f v, v < 128 ^ f * 2 → 1 < (varF f v).length → ∀ h : (varF f v).length - 1 < (varF f v).length, ((varF f v)[(varF f v).length - 1]).toNat ≠ 0 := by
  have key : ∀ f v, 0 < v → v < 128 ^ f * 2 → ∀ h : (varF f v).length - 1 < (varF f v).length, ((varF f v)[(varF f v).length - 1]).toNat ≠ 0 := by
    intro f
    induction f with
    | zero => intro v h0 hv h; simp [varF]; omega
    | succ f ih =>
      intro v h0 hv h
      by_cases hlt : v < 128
      · have e1 : varF (f + 1) v = [UInt8.ofNat v] := by rw [varF, if_pos hlt]
        simp only [e1, List.length_singleton, Nat.sub_self, List.getElem_cons_zero, ofNat_toNat v (by omega)]; omega
      · have e1 : varF (f + 1) v = UInt8.ofNat (v % 128 + 128) :: varF f (v / 128) := by rw [varF, if_neg hlt]
        have hp := varF_pos f (v / 128)
        have := ih (v / 128) (by omega) (by rw [Nat.pow_succ] at hv; omega) (by omega)
        simp only [e1, List.length_cons, Nat.add_sub_cancel]
        rw [List.getElem_cons, dif_neg (by omega)]
        exact this
  intro f v hv h1 h
  by_cases h0 : 0 < v
  · exact key f v h0 hv h
  · have : v = 0 := by omega
    subst this
    cases f <;> simp [varF] at h1

/-! ### Reading, with a mark for what lacks -/
def rdRaw (n : Int) (l : List UInt8) (lack : Bool) : List UInt8 × List UInt8 × Bool :=
  if lack = true ∨ n < 0 ∨ (l.length : Int) < n then ([], [], true) else (l.take n.toNat, l.drop n.toNat, false)
def rdU (n : Nat) (l : List UInt8) (lack : Bool) : Nat × List UInt8 × Bool :=
  if lack = true ∨ l.length < n then (0, [], true) else (val (l.take n), l.drop n, false)
def rdVar (l : List UInt8) (lack : Bool) : Int × List UInt8 × Bool :=
  if lack = true then (0, [], true) else
  match varGo l 0 0 with
  | none => (0, [], true)
  | some (v, r) => (i64 v, r, false)
theorem rdU_raw (n : Nat) (l : List UInt8) (lack : Bool) : rdU n l lack = (val (rdRaw n l lack).1, (rdRaw n l lack).2) := by
  unfold rdU rdRaw
  by_cases h : lack = true ∨ l.length < n
  · rw [if_pos h, if_pos (by rcases h with h | h; exact .inl h; exact .inr (.inr (by omega)))]; rfl
  · rw [if_neg h, if_neg (by rintro (h1 | h1 | h1); exact h (.inl h1); omega; exact h (.inr (by omega)))]; simp
theorem rdU_lt (n : Nat) (l : List UInt8) (lack : Bool) : (rdU n l lack).1 < 256 ^ n := by
  unfold rdU; split
  · exact Nat.pow_pos (by omega)
  · have := val_lt (l.take n)
    rw [List.length_take, Nat.min_eq_left (by omega)] at this
    exact this
theorem val_snoc (l : List UInt8) (c : UInt8) : val (l ++ [c]) = val l * 256 + c.toNat := by simp [val]
theorem or_step (v c : Nat) (hc : c < 256) : v * 256 ||| c = v * 256 + c := by
  have := Nat.two_pow_add_eq_or_of_lt (i := 8) hc v
  rw [Nat.mul_comm]; exact this.symm
theorem or_group (v c k : Nat) (hv : v < 128 ^ k) : v ||| c * 128 ^ k = v + c * 128 ^ k := by
  have h : v < 2 ^ (7 * k) := by rw [Nat.pow_mul]; exact hv
  have := Nat.two_pow_add_eq_or_of_lt h c
  rw [Nat.or_comm, Nat.mul_comm c, show (128 : Nat) = 2 ^ 7 from rfl, ← Nat.pow_mul, ← this, Nat.add_comm]
/-- One group more. -/
theorem varGo_step (c : UInt8) (r : List UInt8) (k a : Nat) (h1 : k ≤ 9) (h2 : ¬ (k = 9 ∧ 1 < c.toNat)) (h3 : ¬ (0 < k ∧ c.toNat = 0)) (h4 : ¬ c.toNat < 128) :
    varGo (c :: r) k a = varGo r (k + 1) (a + (c.toNat - 128) * 128 ^ k) := by
  rw [varGo, if_neg (fun h => h.elim (fun h => absurd h (by omega)) (fun h => h.elim h2 h3)), if_neg h4]
theorem varGo_last (c : UInt8) (r : List UInt8) (k a : Nat) (h1 : k ≤ 9) (h2 : ¬ (k = 9 ∧ 1 < c.toNat)) (h3 : ¬ (0 < k ∧ c.toNat = 0)) (h4 : c.toNat < 128) :
    varGo (c :: r) k a = some (a + c.toNat * 128 ^ k, r) := by
  rw [varGo, if_neg (fun h => h.elim (fun h => absurd h (by omega)) (fun h => h.elim h2 h3)), if_pos h4]
theorem varGo_none (c : UInt8) (r : List UInt8) (k a : Nat) (h : 9 < k ∨ (k = 9 ∧ 1 < c.toNat) ∨ (0 < k ∧ c.toNat = 0)) : varGo (c :: r) k a = none := by
  rw [varGo, if_pos h]
theorem varGo_far (l : List UInt8) (k a : Nat) (h : 9 < k) : varGo l k a = none := by
  cases l with
  | nil => rfl
  | cons c r => exact varGo_none c r k a (.inl h)
end Oct
namespace Crc
/-- One round over a bit. -/
def rnd (c : Nat) : Nat := if c % 2 = 1 then (c / 2) ^^^ 3988292384 else c / 2
def rnds : Nat → Nat → Nat
  | 0, c => c
  | k + 1, c => rnds k (rnd c)
def byte (c : Nat) (x : UInt8) : Nat := rnds 8 (c ^^^ x.toNat)
def run (c : Nat) (l : List UInt8) : Nat := l.foldl byte c
def sum (l : List UInt8) : Nat := 4294967295 - run 4294967295 l

theorem rnd_lt (c : Nat) (h : c < 4294967296) : rnd c < 4294967296 := by
  unfold rnd; split
  · exact Nat.xor_lt_two_pow (n := 32) (by omega) (by omega)
  · omega
theorem rnds_lt (k : Nat) : ∀ c, c < 4294967296 → rnds k c < 4294967296 := by
  induction k with
  | zero => intro c h; exact h
  | succ k ih => intro c h; exact ih _ (rnd_lt c h)
theorem rnds_succ (k : Nat) : ∀ c, rnds (k + 1) c = rnd (rnds k c) := by
  induction k with
  | zero => intro c; rfl
  | succ k ih => intro c; exact ih (rnd c)
theorem xor_byte_lt (c : Nat) (x : UInt8) (h : c < 4294967296) : c ^^^ x.toNat < 4294967296 :=
  Nat.xor_lt_two_pow (n := 32) (by omega) (by have := x.toNat_lt; omega)
theorem byte_lt (c : Nat) (x : UInt8) (h : c < 4294967296) : byte c x < 4294967296 := rnds_lt 8 _ (xor_byte_lt c x h)
theorem run_lt (l : List UInt8) : ∀ c, c < 4294967296 → run c l < 4294967296 := by
  induction l with
  | nil => intro c h; exact h
  | cons x l ih => intro c h; exact ih _ (byte_lt c x h)
theorem sum_lt (l : List UInt8) : sum l < 4294967296 := by unfold sum; omega

theorem xor_cancel (a b k : Nat) (h : a ^^^ k = b ^^^ k) : a = b := by
  have := congrArg (· ^^^ k) h
  simpa [Nat.xor_assoc] using this
/-- The top bit tells whether the polynomial went in. -/
theorem hi (a : Nat) (h : a < 2147483648) : 2147483648 ≤ a ^^^ 3988292384 := by
  have h1 : a.testBit 31 = false := Nat.testBit_lt_two_pow (by omega)
  have h2 : (3988292384 : Nat).testBit 31 = true := by decide
  have h3 : (a ^^^ 3988292384).testBit 31 = true := by rw [Nat.testBit_xor, h1, h2]; rfl
  exact Nat.ge_two_pow_of_testBit h3
theorem rnd_inj (c d : Nat) (hc : c < 4294967296) (hd : d < 4294967296) (h : rnd c = rnd d) : c = d := by
  have h1 := hi (c / 2) (by omega)
  have h2 := hi (d / 2) (by omega)
  unfold rnd at h
  split at h <;> split at h
  · have := xor_cancel _ _ _ h
    omega
  · omega
  · omega
  · omega
theorem rnds_inj (k : Nat) : ∀ c d, c < 4294967296 → d < 4294967296 → rnds k c = rnds k d → c = d := by
  induction k with
  | zero => intro c d _ _ h; exact h
  | succ k ih => intro c d hc hd h; exact rnd_inj _ _ hc hd (ih _ _ (rnd_lt c hc) (rnd_lt d hd) h)
theorem byte_inj (c d : Nat) (x : UInt8) (hc : c < 4294967296) (hd : d < 4294967296) (h : byte c x = byte d x) : c = d :=
  xor_cancel _ _ _ (rnds_inj 8 _ _ (xor_byte_lt c x hc) (xor_byte_lt d x hd) h)
theorem byte_turn (c : Nat) (x y : UInt8) (hc : c < 4294967296) (h : byte c x = byte c y) : x = y := by
  have h1 := rnds_inj 8 _ _ (xor_byte_lt c x hc) (xor_byte_lt c y hc) h
  have h2 : x.toNat = y.toNat := xor_cancel _ _ c (by rw [Nat.xor_comm _ c, Nat.xor_comm _ c]; exact h1)
  exact UInt8.toNat_inj.1 h2
theorem run_inj (l : List UInt8) : ∀ c d, c < 4294967296 → d < 4294967296 → run c l = run d l → c = d := by
  induction l with
  | nil => intro c d _ _ h; exact h
  | cons x l ih => intro c d hc hd h; exact byte_inj _ _ x hc hd (ih _ _ (byte_lt c x hc) (byte_lt d x hd) h)
/-- One byte turned: another sum. -/
theorem sum_turn (l : List UInt8) (k : Nat) (hk : k < l.length) (y : UInt8) (h : l[k] ≠ y) : sum (l.set k y) ≠ sum l := by
  intro he
  have a := run_lt l 4294967295 (by omega)
  have b := run_lt (l.set k y) 4294967295 (by omega)
  have e : run 4294967295 (l.set k y) = run 4294967295 l := by unfold sum at he; omega
  have s1 : l.set k y = l.take k ++ y :: l.drop (k + 1) := List.set_eq_take_append_cons_drop ▸ (by rw [if_pos hk])
  have s2 : l = l.take k ++ l[k] :: l.drop (k + 1) := by simp
  rw [s1] at e
  conv at e => rhs; rw [s2]
  simp only [run, List.foldl_append, List.foldl_cons] at e
  have hm := run_lt (l.take k) 4294967295 (by omega)
  have e2 := run_inj _ _ _ (byte_lt _ _ hm) (byte_lt _ _ hm) e
  exact h (byte_turn _ _ _ hm e2).symm
end Crc
