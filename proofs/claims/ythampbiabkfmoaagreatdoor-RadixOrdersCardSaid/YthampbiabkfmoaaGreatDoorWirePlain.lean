/- Chapter 23, plainly: requests and replies, their bytes, what is read. -/
import Derived.Test.YthampbiabkfmoaaGreatDoorOctPlain
set_option linter.unusedVariables false
set_option linter.unusedSimpArgs false
namespace Wi
def z32 : List UInt8 := List.replicate 32 0
structure It where
  high : List UInt8
  steps : Int
  text : List UInt8
  deriving DecidableEq, Inhabited
structure En where
  status : Int
  high : List UInt8
  steps : Int
  hash : List UInt8
  deriving DecidableEq, Inhabited
structure Rq where
  seq : Int
  kind : Int
  items : List It
  deriving DecidableEq, Inhabited
structure Rp where
  q : Rq
  ents : List En
  deriving DecidableEq, Inhabited
def i64ok (z : Int) : Prop := -9223372036854775808 ≤ z ∧ z ≤ 9223372036854775807
structure It.ok (i : It) : Prop where
  high : i.high.length = 32
  steps : i64ok i.steps
  text : i.text.length ≤ 140737488351232
structure En.ok (x : En) : Prop where
  status : i64ok x.status
  high : x.high.length = 32
  steps : i64ok x.steps
  hash : x.hash.length = 32
def dig (c : UInt8) : Bool := decide (48 ≤ c.toNat) && decide (c.toNat ≤ 57) || decide (97 ≤ c.toNat) && decide (c.toNat ≤ 102)
def isPre (l : List UInt8) : Bool := l.all dig && decide (l ≠ []) && decide (l.length ≤ 64)
def stepsOk (z : Int) : Bool := decide (0 ≤ z) && decide (z ≤ 1048576)
def mayIt (kind : Int) (i : It) : Bool :=
  if kind = 1 then decide (i.text = []) && stepsOk i.steps
  else if kind = 2 then isPre i.text && (decide (i.high = z32) && decide (i.steps = 0))
  else false
def mayRq (r : Rq) : Bool := r.items.all (mayIt r.kind) && (decide (0 ≤ r.seq) && decide (r.seq ≤ 2147483647) && decide (1 ≤ r.items.length) && decide (r.items.length ≤ 16))
def noPath (x : En) : Bool := decide (x.high = z32) && decide (x.steps = 0)
def mayEn (kind : Int) (x : En) : Bool :=
  if x.status = 1 then decide (kind = 2) && stepsOk x.steps || noPath x
  else if x.status = 2 then noPath x && decide (x.hash = z32)
  else if x.status = 3 then decide (kind = 2) && (noPath x && decide (x.hash = z32))
  else false
def pathB (high : List UInt8) (steps : Int) : List UInt8 := high ++ Oct.var (Oct.u64 steps)
def u8B (n : Int) : List UInt8 := Oct.be 1 (Oct.u64 n)
def u32B (n : Int) : List UInt8 := Oct.be 4 (Oct.u64 n)
def itB (kind : Int) (i : It) : List UInt8 := if kind = 1 then pathB i.high i.steps else u8B (i.text.length : Int) ++ i.text
def itsB (kind : Int) (l : List It) : List UInt8 := (l.map (itB kind)).flatten
def headB (first : Int) (r : Rq) : List UInt8 := u8B first ++ u32B r.seq ++ u8B r.kind ++ u8B (r.items.length : Int) ++ itsB r.kind r.items
def enB (kind : Int) (x : En) : List UInt8 := u8B x.status ++ if x.status = 1 then x.hash ++ (if kind = 2 then pathB x.high x.steps else []) else []
def ensB (kind : Int) (l : List En) : List UInt8 := (l.map (enB kind)).flatten
def sumB (l : List UInt8) : List UInt8 := l ++ u32B ((Crc.sum l : Nat) : Int)
def layRq (r : Rq) : Option (List UInt8) := if mayRq r = true then some (sumB (headB 1 r)) else none
def layRp (p : Rp) : Option (List UInt8) := if mayRq p.q = true ∧ p.ents.length = p.q.items.length ∧ p.ents.all (mayEn p.q.kind) = true then some (sumB (headB 2 p.q ++ ensB p.q.kind p.ents)) else none

/-- A hash that is read. -/
def rdHash (l : List UInt8) (lack : Bool) : List UInt8 × List UInt8 × Bool :=
  ((if (Oct.rdRaw 32 l lack).1 = [] then z32 else (Oct.rdRaw 32 l lack).1), (Oct.rdRaw 32 l lack).2)
def rdIt (kind : Int) (l : List UInt8) (lack : Bool) : It × List UInt8 × Bool :=
  if kind = 1 then
    let h := rdHash l lack
    let v := Oct.rdVar h.2.1 h.2.2
    (⟨h.1, v.1, []⟩, v.2)
  else
    let n := Oct.rdU 1 l lack
    let x := Oct.rdRaw (Oct.i64 n.1) n.2.1 n.2.2
    (⟨z32, 0, x.1⟩, x.2)
def rdIts (kind : Int) : Nat → List UInt8 × Bool → List It × List UInt8 × Bool
  | 0, q => ([], q)
  | n + 1, q => if q.2 = true then ([], q) else
    let i := rdIt kind q.1 q.2
    let r := rdIts kind n i.2
    (i.1 :: r.1, r.2)
def rdHead (l : List UInt8) (lack : Bool) : Rq × List UInt8 × Bool :=
  let s := Oct.rdU 4 l lack
  let k := Oct.rdU 1 s.2.1 s.2.2
  let n := Oct.rdU 1 k.2.1 k.2.2
  let r := rdIts (Oct.i64 k.1) n.1 n.2
  (⟨Oct.i64 s.1, Oct.i64 k.1, r.1⟩, r.2)
def rdEn (kind : Int) (l : List UInt8) (lack : Bool) : En × List UInt8 × Bool :=
  let s := Oct.rdU 1 l lack
  if Oct.i64 s.1 = 1 then
    let h := rdHash s.2.1 s.2.2
    if kind = 2 then
      let p := rdHash h.2.1 h.2.2
      let v := Oct.rdVar p.2.1 p.2.2
      (⟨Oct.i64 s.1, p.1, v.1, h.1⟩, v.2)
    else (⟨Oct.i64 s.1, z32, 0, h.1⟩, h.2)
  else (⟨Oct.i64 s.1, z32, 0, z32⟩, s.2)
def rdEns (kind : Int) : Nat → List UInt8 × Bool → List En × List UInt8 × Bool
  | 0, q => ([], q)
  | n + 1, q =>
    let i := rdEn kind q.1 q.2
    let r := rdEns kind n i.2
    (i.1 :: r.1, r.2)
/-- The bytes ahead of a right sum. -/
def opened (b : List UInt8) : Option (List UInt8) :=
  if b.length < 4 then none else if Crc.sum (b.take (b.length - 4)) = Oct.val (b.drop (b.length - 4)) then some (b.take (b.length - 4)) else none
def behind (x : List UInt8) : List UInt8 × Bool := (Oct.rdU 1 x false).2
def readRq (b : List UInt8) : Except Nat Rq :=
  match opened b with
  | none => .error 4
  | some x => let r := rdHead (behind x).1 (behind x).2
    if layRq r.1 = some b then .ok r.1 else .error 2
def rdRest (x : List UInt8) : Rp :=
  let r := rdHead (behind x).1 (behind x).2
  ⟨r.1, (rdEns r.1.kind r.1.items.length r.2).1⟩
def readRp (b : List UInt8) : Except Nat Rp :=
  match opened b with
  | none => .error 4
  | some x => if layRp (rdRest x) = some b then .ok (rdRest x) else .error 2

/- What is laid is read. -/
theorem rdU_be (n : Nat) (hn : n ≤ 8) (v : Nat) (hv : v < 256 ^ n) (r : List UInt8) : Oct.rdU n (Oct.be n v ++ r) false = (v, r, false) := by
  have hl := Oct.be_length n v
  unfold Oct.rdU
  rw [if_neg (by simp [hl])]
  rw [List.take_left' hl, List.drop_left' hl, Oct.val_be, Nat.mod_eq_of_lt hv]
theorem rdVar_var (z : Int) (h : i64ok z) (r : List UInt8) : Oct.rdVar (Oct.var (Oct.u64 z) ++ r) false = (z, r, false) := by
  unfold Oct.rdVar
  rw [if_neg (by simp), Oct.varGo_var _ (Oct.u64_lt z)]
  simp only [Oct.i64_u64 z h.1 h.2]
theorem rdRaw_of (n : Nat) (x r : List UInt8) (h : x.length = n) : Oct.rdRaw (n : Int) (x ++ r) false = (x, r, false) := by
  unfold Oct.rdRaw
  rw [if_neg (by simp; omega), Int.toNat_natCast, List.take_left' h, List.drop_left' h]
theorem rdHash_of (x r : List UInt8) (h : x.length = 32) : rdHash (x ++ r) false = (x, r, false) := by
  unfold rdHash
  have := rdRaw_of 32 x r h
  rw [show ((32 : Nat) : Int) = 32 from rfl] at this
  rw [this]
  have hx : x ≠ [] := by rintro rfl; simp at h
  simp [hx]
theorem u64_nat (n : Nat) (h : n < 18446744073709551616) : Oct.u64 (n : Int) = n := by unfold Oct.u64; omega
theorem i64_nat (n : Nat) (h : n < 9223372036854775808) : Oct.i64 n = (n : Int) := by unfold Oct.i64; rw [if_pos h]
theorem rdU_u8 (n : Int) (h0 : 0 ≤ n) (h1 : n < 256) (r : List UInt8) : Oct.rdU 1 (u8B n ++ r) false = (n.toNat, r, false) := by
  obtain ⟨k, rfl⟩ := Int.eq_ofNat_of_zero_le h0
  unfold u8B
  rw [u64_nat k (by omega), rdU_be 1 (by omega) k (by omega)]
  simp
theorem rdU_u32 (n : Int) (h0 : 0 ≤ n) (h1 : n < 4294967296) (r : List UInt8) : Oct.rdU 4 (u32B n ++ r) false = (n.toNat, r, false) := by
  obtain ⟨k, rfl⟩ := Int.eq_ofNat_of_zero_le h0
  unfold u32B
  rw [u64_nat k (by omega), rdU_be 4 (by omega) k (by omega)]
  simp
theorem toNat_i64 (n : Int) (h0 : 0 ≤ n) (h1 : n < 4294967296) : Oct.i64 n.toNat = n := by rw [i64_nat _ (by omega)]; omega
theorem isPre_len {l : List UInt8} (h : isPre l = true) : l.length ≤ 64 := by
  simp only [isPre, Bool.and_eq_true, decide_eq_true_eq] at h; exact h.2
theorem rdIt_itB (kind : Int) (i : It) (hi : i.ok) (hm : mayIt kind i = true) (r : List UInt8) : rdIt kind (itB kind i ++ r) false = (i, r, false) := by
  unfold rdIt itB
  by_cases h1 : kind = 1
  · subst h1
    simp only [mayIt, if_true, Bool.and_eq_true, decide_eq_true_eq] at hm
    simp only [if_true, pathB, List.append_assoc, rdHash_of _ _ hi.high, rdVar_var _ hi.steps]
    rw [← hm.1]
  · simp only [mayIt, if_neg h1] at hm
    by_cases h2 : kind = 2
    · simp only [if_pos h2, Bool.and_eq_true, decide_eq_true_eq] at hm
      have hl := isPre_len hm.1
      simp only [if_neg h1, List.append_assoc]
      rw [rdU_u8 _ (by omega) (by omega)]
      simp only [Int.toNat_natCast, i64_nat _ (show i.text.length < 9223372036854775808 by omega), rdRaw_of _ _ _ rfl]
      rw [← hm.2.1, ← hm.2.2]
    · simp [if_neg h2] at hm
theorem itsB_cons (kind : Int) (i : It) (l : List It) : itsB kind (i :: l) = itB kind i ++ itsB kind l := by simp [itsB]
theorem ensB_cons (kind : Int) (i : En) (l : List En) : ensB kind (i :: l) = enB kind i ++ ensB kind l := by simp [ensB]
theorem itsB_snoc (kind : Int) (l : List It) (i : It) : itsB kind (l ++ [i]) = itsB kind l ++ itB kind i := by simp [itsB]
theorem ensB_snoc (kind : Int) (l : List En) (i : En) : ensB kind (l ++ [i]) = ensB kind l ++ enB kind i := by simp [ensB]
theorem rdIts_itsB (kind : Int) (r : List UInt8) : ∀ (l : List It), (∀ i ∈ l, i.ok) → l.all (mayIt kind) = true → rdIts kind l.length (itsB kind l ++ r, false) = (l, r, false)
  | [], _, _ => rfl
  | i :: l, hok, hm => by
    simp only [List.all_cons, Bool.and_eq_true] at hm
    rw [List.length_cons, rdIts, itsB_cons]
    simp only [List.append_assoc]
    rw [if_neg (by simp), rdIt_itB kind i (hok i (List.mem_cons_self ..)) hm.1]
    simp only [rdIts_itsB kind r l (fun j hj => hok j (List.mem_cons_of_mem _ hj)) hm.2]
structure Rq.ok (r : Rq) : Prop where
  seq : i64ok r.seq
  kind : i64ok r.kind
  items : ∀ i ∈ r.items, i.ok
theorem mayRq_kind {r : Rq} (h : mayRq r = true) : r.kind = 1 ∨ r.kind = 2 := by
  simp only [mayRq, Bool.and_eq_true, decide_eq_true_eq] at h
  cases hi : r.items with
  | nil => rw [hi] at h; simp at h
  | cons i l =>
    have := h.1
    rw [hi] at this
    simp only [List.all_cons, Bool.and_eq_true, mayIt] at this
    by_cases h1 : r.kind = 1
    · exact .inl h1
    · by_cases h2 : r.kind = 2
      · exact .inr h2
      · simp [h1, h2] at this
theorem rdHead_headB (first : Int) (h0 : 0 ≤ first) (h1 : first < 256) (r : Rq) (ho : r.ok) (hm : mayRq r = true) (x : List UInt8) :
    rdHead (behind (headB first r ++ x)).1 (behind (headB first r ++ x)).2 = (r, x, false) := by
  have hk := mayRq_kind hm
  simp only [mayRq, Bool.and_eq_true, decide_eq_true_eq] at hm
  obtain ⟨ha, ⟨⟨hs0, hs1⟩, hn0⟩, hn1⟩ := hm
  unfold behind headB rdHead
  simp only [List.append_assoc]
  rw [rdU_u8 first h0 h1]
  simp only
  rw [rdU_u32 r.seq hs0 (by omega)]
  simp only
  rw [rdU_u8 r.kind (by omega) (by omega)]
  simp only
  rw [rdU_u8 _ (by omega) (by omega)]
  simp only [Int.toNat_natCast, toNat_i64 r.kind (by omega) (by omega), toNat_i64 r.seq hs0 (by omega), rdIts_itsB r.kind x r.items ho.items ha]
theorem opened_sumB (l : List UInt8) : opened (sumB l) = some l := by
  have hb := Oct.be_length 4 (Oct.u64 ((Crc.sum l : Nat) : Int))
  have hs := Crc.sum_lt l
  have hlen : (sumB l).length = l.length + 4 := by unfold sumB u32B; rw [List.length_append, hb]
  unfold opened
  rw [if_neg (by omega), hlen, Nat.add_sub_cancel]
  unfold sumB u32B
  rw [List.take_left' rfl, List.drop_left' rfl, Oct.val_be, u64_nat _ (by omega), Nat.mod_eq_of_lt (by omega), if_pos rfl]
/-- A request that is laid is read back. -/
theorem readRq_lay (r : Rq) (ho : r.ok) (b : List UInt8) (h : layRq r = some b) : readRq b = .ok r := by
  have h' := h
  unfold layRq at h
  split at h
  · rename_i hm
    simp only [Option.some.injEq] at h
    have hr := rdHead_headB 1 (by omega) (by omega) r ho hm []
    rw [List.append_nil] at hr
    unfold readRq
    rw [← h, opened_sumB, h]
    simp only [hr, h', if_true]
  · cases h
structure Rp.ok (p : Rp) : Prop where
  q : p.q.ok
  ents : ∀ x ∈ p.ents, x.ok
theorem rdEn_enB (kind : Int) (x : En) (hx : x.ok) (hm : mayEn kind x = true) (r : List UInt8) : rdEn kind (enB kind x ++ r) false = (x, r, false) := by
  have hst : x.status = 1 ∨ x.status = 2 ∨ x.status = 3 := by
    unfold mayEn at hm
    split at hm
    · exact .inl ‹_›
    · split at hm
      · exact .inr (.inl ‹_›)
      · split at hm
        · exact .inr (.inr ‹_›)
        · cases hm
  unfold rdEn enB
  simp only [List.append_assoc]
  rw [rdU_u8 _ (by omega) (by omega)]
  simp only [toNat_i64 x.status (by omega) (by omega)]
  by_cases h1 : x.status = 1
  · simp only [if_pos h1, List.append_assoc]
    rw [rdHash_of _ _ hx.hash]
    by_cases h2 : kind = 2
    · simp only [if_pos h2, pathB, List.append_assoc, rdHash_of _ _ hx.high, rdVar_var _ hx.steps]
    · simp only [if_neg h2, List.nil_append]
      unfold mayEn at hm
      rw [if_pos h1] at hm
      simp only [decide_eq_false h2, Bool.false_and, Bool.false_or, noPath, Bool.and_eq_true, decide_eq_true_eq] at hm
      rw [← hm.1, ← hm.2]
  · simp only [if_neg h1, List.nil_append]
    unfold mayEn at hm
    rw [if_neg h1] at hm
    have : x.high = z32 ∧ x.steps = 0 ∧ x.hash = z32 := by
      split at hm
      · simp only [noPath, Bool.and_eq_true, decide_eq_true_eq] at hm; exact ⟨hm.1.1, hm.1.2, hm.2⟩
      · split at hm
        · simp only [noPath, Bool.and_eq_true, decide_eq_true_eq] at hm; exact ⟨hm.2.1.1, hm.2.1.2, hm.2.2⟩
        · cases hm
    obtain ⟨a, b, c⟩ := this
    cases x; simp_all
theorem rdEns_ensB (kind : Int) (r : List UInt8) : ∀ (l : List En), (∀ i ∈ l, i.ok) → l.all (mayEn kind) = true → rdEns kind l.length (ensB kind l ++ r, false) = (l, r, false)
  | [], _, _ => rfl
  | i :: l, hok, hm => by
    simp only [List.all_cons, Bool.and_eq_true] at hm
    rw [List.length_cons, rdEns, ensB_cons]
    simp only [List.append_assoc]
    rw [rdEn_enB kind i (hok i (List.mem_cons_self ..)) hm.1]
    simp only [rdEns_ensB kind r l (fun j hj => hok j (List.mem_cons_of_mem _ hj)) hm.2]
theorem layRp_parts {p : Rp} {b : List UInt8} (h : layRp p = some b) : mayRq p.q = true ∧ p.ents.length = p.q.items.length ∧ p.ents.all (mayEn p.q.kind) = true ∧ b = sumB (headB 2 p.q ++ ensB p.q.kind p.ents) := by
  unfold layRp at h
  split at h
  · rename_i hm
    simp only [Option.some.injEq] at h
    exact ⟨hm.1, hm.2.1, hm.2.2, h.symm⟩
  · cases h
theorem layRq_parts {r : Rq} {b : List UInt8} (h : layRq r = some b) : mayRq r = true ∧ b = sumB (headB 1 r) := by
  unfold layRq at h
  split at h
  · simp only [Option.some.injEq] at h; exact ⟨‹_›, h.symm⟩
  · cases h
theorem readRp_lay (p : Rp) (ho : p.ok) (b : List UInt8) (h : layRp p = some b) : readRp b = .ok p := by
  obtain ⟨hm, hl, he, hb⟩ := layRp_parts h
  have hr := rdHead_headB 2 (by omega) (by omega) p.q ho.q hm (ensB p.q.kind p.ents)
  have hw : rdRest (headB 2 p.q ++ ensB p.q.kind p.ents) = p := by
    have := rdEns_ensB p.q.kind [] p.ents ho.ents he
    rw [List.append_nil] at this
    unfold rdRest
    simp only [hr, ← hl, this]
  unfold readRp
  rw [hb, opened_sumB, ← hb]
  simp only [hw, h, if_true]
theorem u8B_eq (n : Int) (h0 : 0 ≤ n) (h1 : n < 256) : u8B n = [UInt8.ofNat n.toNat] := by
  unfold u8B Oct.u64
  simp [Oct.be]
  congr 1
  omega
theorem head_of_headB (first : Int) (h0 : 0 ≤ first) (h1 : first < 256) (r : Rq) (x : List UInt8) : (sumB (headB first r ++ x)).head? = some (UInt8.ofNat first.toNat) := by
  unfold sumB headB
  rw [u8B_eq first h0 h1]; simp
/-- A request is no reply. -/
theorem readRp_request (r : Rq) (b : List UInt8) (h : layRq r = some b) : readRp b = .error 2 := by
  obtain ⟨_, hb⟩ := layRq_parts h
  have h1 : b.head? = some 1 := by rw [hb]; have := head_of_headB 1 (by omega) (by omega) r []; rwa [List.append_nil] at this
  unfold readRp
  rw [hb, opened_sumB, ← hb]
  simp only
  rw [if_neg]
  intro hl
  obtain ⟨_, _, _, hb'⟩ := layRp_parts hl
  have h2 : b.head? = some 2 := by rw [hb']; exact head_of_headB 2 (by omega) (by omega) _ _
  rw [h1] at h2; cases h2
theorem readRq_reply (p : Rp) (b : List UInt8) (h : layRp p = some b) : readRq b = .error 2 := by
  obtain ⟨_, _, _, hb⟩ := layRp_parts h
  have h2 : b.head? = some 2 := by rw [hb]; exact head_of_headB 2 (by omega) (by omega) _ _
  unfold readRq
  rw [hb, opened_sumB, ← hb]
  simp only
  rw [if_neg]
  intro hl
  obtain ⟨_, hb'⟩ := layRq_parts hl
  have h1 : b.head? = some 1 := by rw [hb']; have := head_of_headB 1 (by omega) (by omega) (rdHead (behind (headB 2 p.q ++ ensB p.q.kind p.ents)).1 (behind (headB 2 p.q ++ ensB p.q.kind p.ents)).2).1 []; rwa [List.append_nil] at this
  rw [h1] at h2; cases h2
/-- One byte turned: no right sum any more. -/
theorem val_inj4 (a b : List UInt8) (h : a.length = b.length) (hv : Oct.val a = Oct.val b) : a = b := by
  induction a generalizing b with
  | nil => cases b with
    | nil => rfl
    | cons y s => simp at h
  | cons x r ih =>
    cases b with
    | nil => simp at h
    | cons y s =>
      simp only [List.length_cons, Nat.add_right_cancel_iff] at h
      rw [Oct.val_cons, Oct.val_cons, h] at hv
      have h1 := Oct.val_lt r
      have h2 := Oct.val_lt s
      rw [h] at h1
      have hx : x.toNat = y.toNat := by
        have e1 : (x.toNat * 256 ^ s.length + Oct.val r) / 256 ^ s.length = x.toNat := by
          rw [Nat.mul_comm, Nat.mul_add_div (by exact Nat.pos_of_ne_zero (by simp)), Nat.div_eq_of_lt h1, Nat.add_zero]
        have e2 : (y.toNat * 256 ^ s.length + Oct.val s) / 256 ^ s.length = y.toNat := by
          rw [Nat.mul_comm, Nat.mul_add_div (by exact Nat.pos_of_ne_zero (by simp)), Nat.div_eq_of_lt h2, Nat.add_zero]
        rw [← e1, ← e2, hv]
      have hxy : x = y := UInt8.toNat_inj.1 hx
      subst hxy
      rw [ih s h (by omega)]
theorem opened_turn (l : List UInt8) (k : Nat) (hk : k < (sumB l).length) (y : UInt8) (h : (sumB l)[k]? ≠ some y) : opened ((sumB l).set k y) = none := by
  have hb := Oct.be_length 4 (Oct.u64 ((Crc.sum l : Nat) : Int))
  have hs := Crc.sum_lt l
  have hlen : (sumB l).length = l.length + 4 := by unfold sumB u32B; rw [List.length_append, hb]
  obtain ⟨t, ht4⟩ : ∃ t, t = u32B ((Crc.sum l : Nat) : Int) := ⟨_, rfl⟩
  have hv : Oct.val t = Crc.sum l := by
    rw [ht4]; unfold u32B; rw [Oct.val_be, u64_nat _ (by omega), Nat.mod_eq_of_lt (by omega)]
  have htl : t.length = 4 := by rw [ht4]; exact hb
  have hS : sumB l = l ++ t := by rw [ht4]; rfl
  rw [hS] at h hlen hk ⊢
  unfold opened
  rw [List.length_set, if_neg (by omega), hlen, Nat.add_sub_cancel, if_neg]
  by_cases hkl : k < l.length
  · rw [List.take_set, List.take_left' rfl, List.drop_set_of_lt hkl, List.drop_left' rfl, hv]
    refine Crc.sum_turn l k hkl y ?_
    intro e; apply h; rw [← e, List.getElem?_append_left hkl, List.getElem?_eq_getElem hkl]
  · rw [List.take_set_of_le (by omega), List.take_left' rfl, List.drop_set, if_neg hkl, List.drop_left' rfl]
    intro e
    rw [← hv] at e
    have := val_inj4 _ _ (by rw [List.length_set]) e
    apply h
    rw [List.getElem?_append_right (by omega)]
    have e3 : t[k - l.length]? = (t.set (k - l.length) y)[k - l.length]? := by rw [← this]
    rwa [List.getElem?_set_self (by omega)] at e3
/-- How long a request is. -/
theorem itB_len (kind : Int) (i : It) : (itB kind i).length = if kind = 1 then i.high.length + (Oct.var (Oct.u64 i.steps)).length else 1 + i.text.length := by
  unfold itB pathB u8B; split <;> simp [Oct.be_length]
theorem headB_len (first : Int) (r : Rq) : (headB first r).length = 7 + (itsB r.kind r.items).length := by
  unfold headB u8B u32B; simp [Oct.be_length]; omega
theorem sumB_len (l : List UInt8) : (sumB l).length = l.length + 4 := by unfold sumB u32B; simp [Oct.be_length]
/-- What lacked is not laid so. -/
theorem lack_no (x b : List UInt8) (r : Rq) (s : List UInt8) (hx : opened b = some x) (h : rdHead (behind x).1 (behind x).2 = (r, s, true)) (ho : r.ok) : layRq r ≠ some b := by
  intro hl
  obtain ⟨hm, hb⟩ := layRq_parts hl
  rw [hb, opened_sumB] at hx
  simp only [Option.some.injEq] at hx
  subst hx
  have := rdHead_headB 1 (by omega) (by omega) r ho hm []
  rw [List.append_nil] at this
  rw [this] at h
  simp at h
end Wi
namespace Wi
theorem groups_le : ∀ f v, Oct.groups f v ≤ f + 1
  | 0, v => by simp [Oct.groups]
  | f + 1, v => by
    unfold Oct.groups
    split
    · omega
    · have := groups_le f (v / 128); omega
theorem var_len (v : Nat) : (Oct.var v).length ≤ 10 := by
  unfold Oct.var; rw [Oct.varF_length]; exact groups_le 9 v
theorem u8B_len (n : Int) : (u8B n).length = 1 := by unfold u8B; rw [Oct.be_length]
theorem u32B_len (n : Int) : (u32B n).length = 4 := by unfold u32B; rw [Oct.be_length]
theorem itB_le (k : Int) (i : It) (hi : i.high.length = 32) (hm : mayIt k i = true) : (itB k i).length ≤ 65 := by
  rw [itB_len]
  have := var_len (Oct.u64 i.steps)
  split
  · omega
  · rename_i h1
    unfold mayIt at hm
    rw [if_neg h1] at hm
    split at hm
    · simp only [Bool.and_eq_true] at hm
      have := isPre_len hm.1
      omega
    · cases hm
theorem itsB_le (k : Int) : ∀ (l : List It), (∀ i ∈ l, i.ok) → l.all (mayIt k) = true → (itsB k l).length ≤ 65 * l.length
  | [], _, _ => by simp [itsB]
  | i :: l, ho, hm => by
    simp only [List.all_cons, Bool.and_eq_true] at hm
    rw [itsB_cons, List.length_append, List.length_cons]
    have h1 := itB_le k i (ho i (List.mem_cons_self ..)).high hm.1
    have h2 := itsB_le k l (fun j hj => ho j (List.mem_cons_of_mem _ hj)) hm.2
    omega
theorem mayRq_parts {r : Rq} (h : mayRq r = true) : r.items.all (mayIt r.kind) = true ∧ 0 ≤ r.seq ∧ r.seq ≤ 2147483647 ∧ 1 ≤ r.items.length ∧ r.items.length ≤ 16 := by
  simp only [mayRq, Bool.and_eq_true, decide_eq_true_eq] at h
  exact ⟨h.1, h.2.1.1.1, h.2.1.1.2, h.2.1.2, h.2.2⟩
theorem all_take {α : Type} {p : α → Bool} {l : List α} (h : l.all p = true) (k : Nat) : (l.take k).all p = true := by
  rw [List.all_eq_true] at h ⊢
  exact fun x hx => h x (List.mem_of_mem_take hx)
theorem itsB_take_le {r : Rq} (hm : mayRq r = true) (ho : r.ok) (k : Nat) : (itsB r.kind (r.items.take k)).length ≤ 1040 := by
  obtain ⟨h1, _, _, _, h2⟩ := mayRq_parts hm
  have := itsB_le r.kind (r.items.take k) (fun i hi => ho.items i (List.mem_of_mem_take hi)) (all_take h1 k)
  rw [List.length_take] at this
  omega
theorem headB_le {r : Rq} (hm : mayRq r = true) (ho : r.ok) (first : Int) : (headB first r).length ≤ 1047 := by
  rw [headB_len]
  have := itsB_take_le hm ho r.items.length
  rw [List.take_of_length_le (Nat.le_refl _)] at this
  omega
theorem enB_le (k : Int) (x : En) (hx : x.ok) : (enB k x).length ≤ 75 := by
  have := var_len (Oct.u64 x.steps)
  unfold enB pathB
  rw [List.length_append, u8B_len]
  split
  · rw [List.length_append, hx.hash]
    split
    · rw [List.length_append, hx.high]; omega
    · simp
  · simp
theorem ensB_le (k : Int) : ∀ (l : List En), (∀ i ∈ l, i.ok) → (ensB k l).length ≤ 75 * l.length
  | [], _ => by simp [ensB]
  | i :: l, ho => by
    rw [ensB_cons, List.length_append, List.length_cons]
    have h1 := enB_le k i (ho i (List.mem_cons_self ..))
    have h2 := ensB_le k l (fun j hj => ho j (List.mem_cons_of_mem _ hj))
    omega
end Wi
namespace Wi
theorem varGo_lt : ∀ (l : List UInt8) (k a v : Nat) (r : List UInt8), k ≤ 9 → a < 128 ^ k → Oct.varGo l k a = some (v, r) → v < 18446744073709551616
  | [], k, a, v, r, _, _, h => by simp [Oct.varGo] at h
  | c :: l, k, a, v, r, hk, ha, h => by
    have hc := c.toNat_lt
    unfold Oct.varGo at h
    split at h
    · cases h
    · rename_i hn
      have hpos : 0 < 128 ^ k := Nat.pow_pos (by omega)
      split at h
      · rename_i h1
        simp only [Option.some.injEq, Prod.mk.injEq] at h
        obtain ⟨rfl, _⟩ := h
        by_cases h9 : k = 9
        · subst h9
          have h2 : c.toNat ≤ 1 := by omega
          have h3 : c.toNat * 128 ^ 9 ≤ 1 * 128 ^ 9 := Nat.mul_le_mul_right _ h2
          have h4 : (128 : Nat) ^ 9 = 9223372036854775808 := by decide
          omega
        · have h3 : c.toNat * 128 ^ k ≤ 127 * 128 ^ k := Nat.mul_le_mul_right _ (by omega)
          have h5 : (128 : Nat) ^ k ≤ 128 ^ 8 := Nat.pow_le_pow_right (by omega) (by omega)
          have h4 : (128 : Nat) ^ 8 = 72057594037927936 := by decide
          omega
      · rename_i h1
        by_cases h9 : k = 9
        · exfalso; subst h9; omega
        · have h3 : (c.toNat - 128) * 128 ^ k ≤ 127 * 128 ^ k := Nat.mul_le_mul_right _ (by have : c.toNat < 256 := hc; omega)
          exact varGo_lt l (k + 1) _ v r (by omega) (by rw [Nat.pow_succ]; omega) h
theorem i64ok_i64 (v : Nat) (h : v < 18446744073709551616) : i64ok (Oct.i64 v) := by
  unfold i64ok Oct.i64; split <;> omega
theorem rdVar_ok (l : List UInt8) (lk : Bool) : i64ok (Oct.rdVar l lk).1 := by
  unfold Oct.rdVar
  split
  · show i64ok 0; unfold i64ok; omega
  · cases hv : Oct.varGo l 0 0 with
    | none => show i64ok 0; unfold i64ok; omega
    | some p => obtain ⟨v, r⟩ := p; exact i64ok_i64 v (varGo_lt l 0 0 v r (by omega) (by simp) hv)
theorem rdU_i64 (n : Nat) (hn : n ≤ 7) (l : List UInt8) (lk : Bool) : Oct.i64 (Oct.rdU n l lk).1 = ((Oct.rdU n l lk).1 : Int) := by
  have h := Oct.rdU_lt n l lk
  have h2 : (256 : Nat) ^ n ≤ 256 ^ 7 := Nat.pow_le_pow_right (by omega) hn
  have h3 : (256 : Nat) ^ 7 = 72057594037927936 := by decide
  exact i64_nat _ (by omega)
theorem rdHash_length (l : List UInt8) (lk : Bool) : (rdHash l lk).1.length = 32 := by
  unfold rdHash Oct.rdRaw
  split
  · simp; rfl
  · rename_i h
    simp only [not_or, Int.not_lt] at h
    have hl : (l.take (32 : Int).toNat).length = 32 := by simp; omega
    have hx : l.take (32 : Int).toNat ≠ [] := by intro e; rw [e] at hl; simp at hl
    simp only [if_neg hx]; exact hl
theorem rdRaw_le (n : Int) (m : Nat) (hn : n ≤ m) (l : List UInt8) (lk : Bool) : (Oct.rdRaw n l lk).1.length ≤ m := by
  unfold Oct.rdRaw
  split
  · simp
  · simp; omega
theorem rdIt_ok (kind : Int) (l : List UInt8) (lk : Bool) : (rdIt kind l lk).1.ok := by
  unfold rdIt
  split
  · exact ⟨rdHash_length _ _, rdVar_ok _ _, by simp⟩
  · refine ⟨rfl, by show i64ok 0; unfold i64ok; omega, ?_⟩
    have h := Oct.rdU_lt 1 l lk
    have h2 := rdU_i64 1 (by omega) l lk
    show (Oct.rdRaw (Oct.i64 (Oct.rdU 1 l lk).1) _ _).1.length ≤ _
    exact Nat.le_trans (rdRaw_le _ 255 (by simp at h; omega) _ _) (by omega)
theorem rdIts_ok (kind : Int) : ∀ (n : Nat) (q : List UInt8 × Bool), ∀ i ∈ (rdIts kind n q).1, i.ok
  | 0, q, i, h => by simp [rdIts] at h
  | n + 1, q, i, h => by
    rw [rdIts] at h
    split at h
    · simp at h
    · simp only [List.mem_cons] at h
      rcases h with rfl | h
      · exact rdIt_ok _ _ _
      · exact rdIts_ok kind n _ i h
theorem rdIts_len (kind : Int) : ∀ (n : Nat) (q : List UInt8 × Bool), (rdIts kind n q).1.length ≤ n
  | 0, q => by simp [rdIts]
  | n + 1, q => by
    rw [rdIts]
    split
    · simp
    · simp only [List.length_cons]
      have := rdIts_len kind n (rdIt kind q.1 q.2).2
      omega
theorem rdHead_ok (l : List UInt8) (lk : Bool) : (rdHead l lk).1.ok := by
  unfold rdHead
  refine ⟨?_, ?_, rdIts_ok _ _ _⟩
  · have h := Oct.rdU_lt 4 l lk; exact i64ok_i64 _ (by simp at h; omega)
  · have h := Oct.rdU_lt 1 (Oct.rdU 4 l lk).2.1 (Oct.rdU 4 l lk).2.2; exact i64ok_i64 _ (by simp at h; omega)
theorem rdEn_ok (kind : Int) (l : List UInt8) (lk : Bool) : (rdEn kind l lk).1.ok := by
  have h := Oct.rdU_lt 1 l lk
  have hs : i64ok (Oct.i64 (Oct.rdU 1 l lk).1) := i64ok_i64 _ (by simp at h; omega)
  have h0 : i64ok 0 := by unfold i64ok; omega
  unfold rdEn
  by_cases h1 : Oct.i64 (Oct.rdU 1 l lk).1 = 1
  · simp only [if_pos h1]
    by_cases h2 : kind = 2
    · simp only [if_pos h2]; exact ⟨hs, rdHash_length _ _, rdVar_ok _ _, rdHash_length _ _⟩
    · simp only [if_neg h2]; exact ⟨hs, rfl, h0, rdHash_length _ _⟩
  · simp only [if_neg h1]; exact ⟨hs, rfl, h0, rfl⟩
theorem rdEns_ok (kind : Int) : ∀ (n : Nat) (q : List UInt8 × Bool), ∀ i ∈ (rdEns kind n q).1, i.ok
  | 0, q, i, h => by simp [rdEns] at h
  | n + 1, q, i, h => by
    rw [rdEns] at h
    simp only [List.mem_cons] at h
    rcases h with rfl | h
    · exact rdEn_ok _ _ _
    · exact rdEns_ok kind n _ i h
theorem rdEns_len (kind : Int) : ∀ (n : Nat) (q : List UInt8 × Bool), (rdEns kind n q).1.length = n
  | 0, q => rfl
  | n + 1, q => by rw [rdEns]; simp only [List.length_cons]; rw [rdEns_len kind n]
theorem rdRest_ok (x : List UInt8) : (rdRest x).ok := ⟨rdHead_ok _ _, rdEns_ok _ _ _⟩
end Wi
