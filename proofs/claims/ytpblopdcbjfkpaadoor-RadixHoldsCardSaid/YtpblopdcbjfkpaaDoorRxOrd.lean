/- The order of hashes, plainly; sorted lists. -/
import Derived.Test.YtpblopdcbjfkpaaDoorRxPlain
set_option linter.unusedVariables false
set_option linter.unusedSimpArgs false
namespace Rx
def lessB : List UInt8 → List UInt8 → Bool
  | x :: a, y :: b => if x = y then lessB a b else decide (x.toNat < y.toNat)
  | _, _ => false
theorem lessB_at : ∀ (a b : List UInt8) (k : Nat) (x y : UInt8), a.take k = b.take k → a[k]? = some x → b[k]? = some y → x ≠ y → lessB a b = decide (x.toNat < y.toNat)
  | [], b, k, x, y, _, hx, _, _ => by simp at hx
  | x' :: a, [], k, x, y, _, _, hy, _ => by simp at hy
  | x' :: a, y' :: b, 0, x, y, _, hx, hy, hn => by
    simp at hx hy; subst hx; subst hy
    rw [lessB, if_neg hn]
  | x' :: a, y' :: b, k + 1, x, y, ht, hx, hy, hn => by
    simp only [List.take_succ_cons, List.cons.injEq] at ht
    rw [lessB, if_pos ht.1]
    exact lessB_at a b k x y ht.2 (by simpa using hx) (by simpa using hy) hn
theorem lessB_same : ∀ a, lessB a a = false
  | [] => rfl
  | x :: a => by rw [lessB, if_pos rfl]; exact lessB_same a
theorem dig_cons (x : UInt8) (a : List UInt8) (j : Nat) : dig (x :: a) (j + 2) = dig a j := by
  unfold dig
  rw [show (j + 2) % 2 = j % 2 by omega, show (j + 2) / 2 = j / 2 + 1 by omega]
  rfl
theorem lt_cons (x y : UInt8) (a b : List UInt8) : lt (x :: a) (y :: b) ↔ x.toNat < y.toNat ∨ (x = y ∧ lt a b) := by
  have d0 : ∀ (z : UInt8) (c : List UInt8), dig (z :: c) 0 = z.toNat / 16 := fun _ _ => rfl
  have d1 : ∀ (z : UInt8) (c : List UInt8), dig (z :: c) 1 = z.toNat % 16 := fun _ _ => rfl
  constructor
  · rintro ⟨k, he, hl⟩
    match k, he, hl with
    | 0, he, hl => rw [d0, d0] at hl; exact .inl (by omega)
    | 1, he, hl =>
      have h0 := he 0 (by omega)
      rw [d0, d0] at h0
      rw [d1, d1] at hl
      exact .inl (by omega)
    | k + 2, he, hl =>
      have h0 := he 0 (by omega)
      have h1 := he 1 (by omega)
      rw [d0, d0] at h0
      rw [d1, d1] at h1
      refine .inr ⟨UInt8.toNat_inj.1 (by omega), k, fun j hj => ?_, ?_⟩
      · have := he (j + 2) (by omega)
        rwa [dig_cons, dig_cons] at this
      · rwa [dig_cons, dig_cons] at hl
  · rintro (h | ⟨rfl, k, he, hl⟩)
    · by_cases e : x.toNat / 16 = y.toNat / 16
      · refine ⟨1, fun j hj => ?_, by rw [d1, d1]; omega⟩
        obtain rfl : j = 0 := by omega
        rw [d0, d0]; exact e
      · exact ⟨0, fun j hj => by omega, by rw [d0, d0]; omega⟩
    · refine ⟨k + 2, fun j hj => ?_, by rw [dig_cons, dig_cons]; exact hl⟩
      match j with
      | 0 => rfl
      | 1 => rfl
      | j + 2 => rw [dig_cons, dig_cons]; exact he j (by omega)
theorem lessB_iff : ∀ (a b : List UInt8), a.length = b.length → (lessB a b = true ↔ lt a b)
  | [], [], _ => by simp [lessB]; rintro ⟨k, _, h⟩; simp [dig] at h
  | [], y :: b, h => by simp at h
  | x :: a, [], h => by simp at h
  | x :: a, y :: b, h => by
    rw [lt_cons, lessB]
    have ih := lessB_iff a b (by simpa using h)
    by_cases e : x = y
    · subst e; rw [if_pos rfl, ih]; simp
    · rw [if_neg e]; simp [e]
theorem lt_total {a b : List UInt8} (ha : a.length = b.length) (hne : a ≠ b) : lt a b ∨ lt b a := by
  rw [← lessB_iff a b ha, ← lessB_iff b a ha.symm]
  induction a generalizing b with
  | nil => cases b with
    | nil => exact absurd rfl hne
    | cons y b => simp at ha
  | cons x a ih =>
    cases b with
    | nil => simp at ha
    | cons y b =>
      rw [lessB, lessB]
      by_cases e : x = y
      · subst e
        rw [if_pos rfl, if_pos rfl]
        exact ih (by simpa using ha) (fun e => hne (by rw [e]))
      · rw [if_neg e, if_neg (Ne.symm e)]
        have : x.toNat ≠ y.toNat := fun h => e (UInt8.toNat_inj.1 h)
        simp only [decide_eq_true_eq]
        omega
def insH (h : List UInt8) : List (List UInt8) → List (List UInt8)
  | [] => [h]
  | x :: r => if lessB x h = true then x :: insH h r else if x = h then x :: r else h :: x :: r
theorem insH_skip (h : List UInt8) : ∀ (k : Nat) (l : List (List UInt8)), (∀ x ∈ l.take k, lessB x h = true) → insH h l = l.take k ++ insH h (l.drop k)
  | 0, l, _ => by simp
  | k + 1, [], _ => by simp
  | k + 1, x :: r, hx => by
    rw [insH, if_pos (hx x (by simp))]
    rw [insH_skip h k r (fun y hy => hx y (by simp [hy]))]
    simp
theorem mem_insH (h y : List UInt8) : ∀ l, y ∈ insH h l ↔ y = h ∨ y ∈ l
  | [] => by simp [insH]
  | x :: r => by
    rw [insH]
    split
    · rw [List.mem_cons, mem_insH h y r, List.mem_cons]
      constructor
      · rintro (h1 | h1 | h1) <;> simp [h1]
      · rintro (h1 | h1 | h1) <;> simp [h1]
    · split
      · rename_i e; subst e; simp
      · simp
theorem sorted_insH (h : List UInt8) (hl : h.length = 32) : ∀ l : List (List UInt8), (∀ x ∈ l, x.length = 32) → l.Pairwise lt → (insH h l).Pairwise lt
  | [], _, _ => by simp [insH]
  | x :: r, h32, hp => by
    rw [List.pairwise_cons] at hp
    have hx := h32 x (List.mem_cons_self ..)
    rw [insH]
    split
    · rename_i hlt
      rw [List.pairwise_cons]
      refine ⟨fun y hy => ?_, sorted_insH h hl r (fun y hy => h32 y (List.mem_cons_of_mem _ hy)) hp.2⟩
      rcases (mem_insH h y r).1 hy with rfl | hy
      · exact (lessB_iff x _ (by omega)).1 hlt
      · exact hp.1 y hy
    · rename_i hnl
      split
      · rename_i e; subst e; rw [List.pairwise_cons]; exact hp
      · rename_i hne
        have hlt : lt h x := by
          rcases lt_total (a := h) (b := x) (by omega) (fun e => hne e.symm) with h1 | h1
          · exact h1
          · exact absurd ((lessB_iff x h (by omega)).2 h1) hnl
        rw [List.pairwise_cons, List.pairwise_cons]
        refine ⟨fun y hy => ?_, hp⟩
        rcases List.mem_cons.1 hy with rfl | hy
        · exact hlt
        · exact lt_trans hlt (hp.1 y hy)
def sortH (l : List (List UInt8)) : List (List UInt8) := l.foldl (fun o h => insH h o) []
theorem sortH_snoc (l : List (List UInt8)) (h : List UInt8) : sortH (l ++ [h]) = insH h (sortH l) := by simp [sortH]
theorem sortH_spec : ∀ (n : Nat) (l : List (List UInt8)), l.length = n → (∀ x ∈ l, x.length = 32) → (sortH l).Pairwise lt ∧ (∀ x, x ∈ sortH l ↔ x ∈ l)
  | 0, l, hn, _ => by
    obtain rfl := List.eq_nil_of_length_eq_zero hn
    exact ⟨List.Pairwise.nil, fun x => Iff.rfl⟩
  | n + 1, l, hn, h32 => by
    have hne : l ≠ [] := by intro e; rw [e] at hn; simp at hn
    obtain ⟨r, h, rfl⟩ : ∃ r h, l = r ++ [h] := ⟨_, _, (List.dropLast_concat_getLast hne).symm⟩
    obtain ⟨h1, h2⟩ := sortH_spec n r (by simp at hn; omega) (fun x hx => h32 x (by simp [hx]))
    rw [sortH_snoc]
    refine ⟨sorted_insH h (h32 h (by simp)) _ (fun x hx => h32 x (by simp [(h2 x).1 hx])) h1, fun x => ?_⟩
    rw [mem_insH, h2]; simp [or_comm]
theorem sortH_len (l : List (List UInt8)) (N : Nat) : ∀ n, l.length = n → n ≤ N → (sortH l).length ≤ n := by
  intro n
  induction n generalizing l with
  | zero => intro h _; rw [List.eq_nil_of_length_eq_zero h]; simp [sortH]
  | succ n ih =>
    intro h hN
    have hne : l ≠ [] := by intro e; rw [e] at h; simp at h
    obtain ⟨r, x, rfl⟩ : ∃ r x, l = r ++ [x] := ⟨_, _, (List.dropLast_concat_getLast hne).symm⟩
    have h1 := ih r (by simp at h; omega) (by omega)
    rw [sortH_snoc]
    have : ∀ o : List (List UInt8), (insH x o).length ≤ o.length + 1 := by
      intro o
      induction o with
      | nil => simp [insH]
      | cons y o iho =>
        rw [insH]
        split
        · simp only [List.length_cons]; omega
        · split <;> simp
    have := this (sortH r)
    omega
theorem leaves_distinct {t : T} {p : List Nat} (h : ok t p) : (hashes t).Pairwise lt := by
  have := leaves_sorted t p h
  unfold hashes
  rw [List.pairwise_map]
  exact this
theorem hashes_sort {t : T} (h : ok t []) (l : List (List UInt8)) (h32 : ∀ x ∈ l, x.length = 32) (hm : ∀ x, x ∈ l ↔ x ∈ hashes t) : hashes t = sortH l := by
  obtain ⟨h1, h2⟩ := sortH_spec l.length l rfl h32
  exact sorted_unique lt_irrefl (fun _ _ _ => lt_trans) _ _ (leaves_distinct h) h1 (fun x => by rw [h2, hm])
end Rx
