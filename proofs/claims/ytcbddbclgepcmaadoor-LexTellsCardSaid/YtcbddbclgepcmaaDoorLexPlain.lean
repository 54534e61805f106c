import Derived.Laws.BitsAllLaws
namespace Lx
structure Tok where
  kind : Nat
  place : Nat
  text : List UInt8
def letter (c : UInt8) : Bool := (48 ≤ c && c ≤ 57) || (97 ≤ c && c ≤ 122) || (65 ≤ c && c ≤ 90) || c == 95
def word : List UInt8 → Nat
  | [] => 0
  | c :: r => if letter c then word r + 1 else 0
def worded (s : List UInt8) : Nat :=
  if s = [111, 114] then 7 else if s = [97, 110, 100] then 9 else if s = [110, 111, 116] then 10 else if s = [109, 105, 110, 117, 115] then 8 else 1
def sign : List UInt8 → Nat × Nat
  | [] => (0, 0)
  | c :: r =>
    if c = 58 then (if r.head? = some 58 then (5, 2) else (0, 0))
    else if c = 46 then (if r.head? = some 46 then (6, 2) else (0, 0))
    else if c = 40 then (2, 1) else if c = 41 then (3, 1) else if c = 44 then (4, 1)
    else if c = 43 then (7, 1) else if c = 124 then (7, 1) else if c = 45 then (8, 1)
    else if c = 38 then (9, 1) else if c = 33 then (10, 1) else (0, 0)
def one (s : List UInt8) : Nat × Nat := if 0 < word s then (worded (s.take (word s)), word s) else sign s
def blank (c : UInt8) : Bool := c == 32 || c == 9 || c == 10
/-- The tokens, or the place of the first fault. -/
def lexF : Nat → List UInt8 → Nat → Except Nat (List Tok)
  | 0, _, p => .ok [⟨11, p, []⟩]
  | _ + 1, [], p => .ok [⟨11, p, []⟩]
  | f + 1, c :: r, p =>
    if blank c then lexF f r (p + 1)
    else if (one (c :: r)).1 = 0 then .error p
    else (lexF f ((c :: r).drop (one (c :: r)).2) (p + (one (c :: r)).2)).map (⟨(one (c :: r)).1, p, (c :: r).take (one (c :: r)).2⟩ :: ·)
def lex (s : List UInt8) : Except Nat (List Tok) := lexF s.length s 0

theorem word_le : ∀ s, word s ≤ s.length
  | [] => Nat.le_refl _
  | c :: r => by unfold word; split <;> simp [word_le r]
theorem sign_cases (s : List UInt8) : sign s = (0, 0) ∨ ((sign s).1 ≠ 0 ∧ 0 < (sign s).2 ∧ (sign s).2 ≤ s.length) := by
  cases s with
  | nil => exact .inl rfl
  | cons c r =>
    by_cases h1 : c = 58
    · by_cases h : r.head? = some 58
      · refine .inr ?_
        cases r with
        | nil => simp at h
        | cons d r => simp [sign, h1, h]
      · exact .inl (by simp [sign, h1, h])
    · by_cases h2 : c = 46
      · by_cases h : r.head? = some 46
        · refine .inr ?_
          cases r with
          | nil => simp at h
          | cons d r => simp [sign, h2, h]
        · exact .inl (by simp [sign, h2, h])
      · simp only [sign, if_neg h1, if_neg h2]
        by_cases h3 : c = 40
        · rw [if_pos h3]; exact .inr ⟨by simp, by simp, by simp⟩
        rw [if_neg h3]
        by_cases h3 : c = 41
        · rw [if_pos h3]; exact .inr ⟨by simp, by simp, by simp⟩
        rw [if_neg h3]
        by_cases h3 : c = 44
        · rw [if_pos h3]; exact .inr ⟨by simp, by simp, by simp⟩
        rw [if_neg h3]
        by_cases h3 : c = 43
        · rw [if_pos h3]; exact .inr ⟨by simp, by simp, by simp⟩
        rw [if_neg h3]
        by_cases h3 : c = 124
        · rw [if_pos h3]; exact .inr ⟨by simp, by simp, by simp⟩
        rw [if_neg h3]
        by_cases h3 : c = 45
        · rw [if_pos h3]; exact .inr ⟨by simp, by simp, by simp⟩
        rw [if_neg h3]
        by_cases h3 : c = 38
        · rw [if_pos h3]; exact .inr ⟨by simp, by simp, by simp⟩
        rw [if_neg h3]
        by_cases h3 : c = 33
        · rw [if_pos h3]; exact .inr ⟨by simp, by simp, by simp⟩
        rw [if_neg h3]; exact .inl rfl
theorem sign_le (s : List UInt8) : (sign s).2 ≤ s.length := by
  rcases sign_cases s with h | h
  · rw [h]; exact Nat.zero_le _
  · exact h.2.2
theorem sign_pos (s : List UInt8) (h : (sign s).1 ≠ 0) : 0 < (sign s).2 := by
  rcases sign_cases s with h' | h'
  · rw [h'] at h; exact absurd rfl h
  · exact h'.2.1
theorem one_le (s : List UInt8) : (one s).2 ≤ s.length := by
  unfold one; split
  · exact word_le s
  · exact sign_le s
theorem one_pos (s : List UInt8) (h : (one s).1 ≠ 0) : 0 < (one s).2 := by
  unfold one at h ⊢; split
  · assumption
  · rename_i h'; rw [if_neg h'] at h; exact sign_pos s h
theorem worded_ne (s : List UInt8) : worded s ≠ 0 := by
  unfold worded
  split
  · simp
  split
  · simp
  split
  · simp
  split <;> simp

theorem lexF_fuel : ∀ f g (s : List UInt8) p, s.length ≤ f → s.length ≤ g → lexF f s p = lexF g s p := by
  intro f
  induction f with
  | zero => intro g s p hf hg; have : s = [] := List.eq_nil_of_length_eq_zero (by omega); subst this; cases g <;> rfl
  | succ f ih =>
    intro g s p hf hg
    cases s with
    | nil => cases g <;> rfl
    | cons c r =>
      cases g with
      | zero => simp at hg
      | succ g =>
        simp only [lexF]
        split
        · exact ih g r _ (by simpa using hf) (by simpa using hg)
        · split
          · rfl
          · rename_i h
            have hp := one_pos _ h
            rw [ih g _ _ (by rw [List.length_drop]; omega) (by rw [List.length_drop]; omega)]

theorem word_take : ∀ (s x : List UInt8), word (s.take (word s) ++ 32 :: x) = word s
  | [], x => by simp [word, letter]
  | c :: r, x => by
    by_cases h : letter c = true
    · have e : word (c :: r) = word r + 1 := by simp [word, h]
      rw [e]
      simp only [List.take_succ_cons, List.cons_append, word, h, if_true, word_take r x]
    · have e : word (c :: r) = 0 := by simp [word, h]
      rw [e]
      simp [word, letter]
theorem one_back (s x : List UInt8) (h : (one s).1 ≠ 0) : one (s.take (one s).2 ++ 32 :: x) = one s := by
  by_cases hw : 0 < word s
  · have e : one s = (worded (s.take (word s)), word s) := by simp [one, hw]
    rw [e]
    simp only [one, word_take, if_pos hw]
    rw [List.take_left' (by rw [List.length_take]; have := word_le s; omega)]
  · have e : one s = sign s := by simp [one, hw]
    rw [e] at h ⊢
    cases s with
    | nil => simp [sign] at h
    | cons c r =>
      have hc : letter c = false := by
        cases hl : letter c with
        | false => rfl
        | true => simp [word, hl] at hw
      have hn := sign_pos _ h
      have e2 : (c :: r).take (sign (c :: r)).2 ++ 32 :: x = c :: (r.take ((sign (c :: r)).2 - 1) ++ 32 :: x) := by
        obtain ⟨n, hn'⟩ : ∃ n, (sign (c :: r)).2 = n + 1 := ⟨_, (Nat.succ_pred_eq_of_pos hn).symm⟩
        rw [hn']; simp
      rw [e2]
      have e3 : ∀ y, one (c :: y) = sign (c :: y) := by intro y; simp [one, word, hc]
      rw [e3]
      clear e2 e3 e hw hn
      by_cases h1 : c = 58
      · subst h1
        cases r with
        | nil => simp [sign] at h
        | cons d r =>
          by_cases hd : d = 58
          · subst hd; simp [sign]
          · simp [sign, hd] at h
      · by_cases h2 : c = 46
        · subst h2
          cases r with
          | nil => simp [sign] at h
          | cons d r =>
            by_cases hd : d = 46
            · subst hd; simp [sign]
            · simp [sign, hd] at h
        · simp only [sign, if_neg h1, if_neg h2]

/-- The tokens' texts, one behind the other, a blank between. -/
def join : List Tok → List UInt8
  | [] => []
  | [t] => t.text
  | t :: u :: r => t.text ++ 32 :: join (u :: r)

theorem lexF_ne : ∀ f s p a, lexF f s p = .ok a → a ≠ [] := by
  intro f
  induction f with
  | zero => intro s p a h; simp [lexF] at h; subst h; simp
  | succ f ih =>
    intro s p a h
    cases s with
    | nil => simp [lexF] at h; subst h; simp
    | cons c r =>
      simp only [lexF] at h
      split at h
      · exact ih _ _ _ h
      · split at h
        · cases h
        · cases hr : lexF f ((c :: r).drop (one (c :: r)).2) (p + (one (c :: r)).2) with
          | error e => rw [hr] at h; cases h
          | ok b => rw [hr] at h; simp only [Except.map, Except.ok.injEq] at h; subst h; simp

def alike (a b : List Tok) : Prop := a.map (fun t => (t.kind, t.text)) = b.map (fun t => (t.kind, t.text))

theorem back : ∀ f s p a, s.length ≤ f → lexF f s p = .ok a → ∀ q, ∃ b, lexF (join a).length (join a) q = .ok b ∧ alike a b := by
  intro f
  induction f with
  | zero => intro s p a _ h q; simp [lexF] at h; subst h; exact ⟨_, rfl, rfl⟩
  | succ f ih =>
    intro s p a hf h q
    cases s with
    | nil => simp [lexF] at h; subst h; exact ⟨_, rfl, rfl⟩
    | cons c r =>
      simp only [lexF] at h
      split at h
      · exact ih _ _ _ (by simpa using hf) h q
      · split at h
        · cases h
        · rename_i hb h1
          cases hr : lexF f ((c :: r).drop (one (c :: r)).2) (p + (one (c :: r)).2) with
          | error e => rw [hr] at h; cases h
          | ok b =>
            rw [hr] at h; simp only [Except.map, Except.ok.injEq] at h; subst h
            have hp := one_pos _ h1
            have hle := one_le (c :: r)
            obtain ⟨b', hb', hal⟩ := ih _ _ _ (by rw [List.length_drop]; omega) hr (q + (one (c :: r)).2 + 1)
            have hne := lexF_ne _ _ _ _ hr
            have ej : join (⟨(one (c :: r)).1, p, (c :: r).take (one (c :: r)).2⟩ :: b) = (c :: r).take (one (c :: r)).2 ++ 32 :: join b := by
              cases b with
              | nil => exact absurd rfl hne
              | cons u v => rfl
            rw [ej]
            have hob := one_back (c :: r) (join b) h1
            have ec : ∃ y, (c :: r).take (one (c :: r)).2 ++ 32 :: join b = c :: y := by
              obtain ⟨n, hn'⟩ : ∃ n, (one (c :: r)).2 = n + 1 := ⟨_, (Nat.succ_pred_eq_of_pos hp).symm⟩
              rw [hn']; exact ⟨_, rfl⟩
            obtain ⟨y, ey⟩ := ec
            rw [ey] at hob ⊢
            have hlen : ((c :: r).take (one (c :: r)).2).length = (one (c :: r)).2 := by rw [List.length_take]; omega
            simp only [List.length_cons, lexF]
            rw [if_neg hb, hob, if_neg h1]
            have hd : (c :: y).drop (one (c :: r)).2 = 32 :: join b := by rw [← ey]; exact List.drop_left' hlen
            have ht : (c :: y).take (one (c :: r)).2 = (c :: r).take (one (c :: r)).2 := by rw [← ey]; exact List.take_left' hlen
            have hyl : y.length + 1 = (one (c :: r)).2 + ((join b).length + 1) := by
              have := congrArg List.length ey
              simp only [List.length_append, hlen, List.length_cons] at this
              omega
            rw [hd, ht]
            obtain ⟨g, hg⟩ : ∃ g, y.length = g + 1 := ⟨y.length - 1, by omega⟩
            have e4 : lexF y.length (32 :: join b) (q + (one (c :: r)).2) = .ok b' := by
              rw [hg]; simp only [lexF]
              rw [if_pos (show blank 32 = true from rfl), lexF_fuel g (join b).length _ _ (by omega) (Nat.le_refl _)]
              exact hb'
            rw [e4]
            exact ⟨_, rfl, by simpa [alike] using hal⟩

/-- Where the tokens stand. -/
def stand (s : List UInt8) : Nat → List Tok → Prop
  | _, [] => True
  | p, t :: r => p ≤ t.place ∧ t.place + t.text.length ≤ s.length ∧ (s.drop t.place).take t.text.length = t.text ∧ stand s (t.place + t.text.length) r
theorem stand_mono (s : List UInt8) {p q : Nat} (h : p ≤ q) : ∀ a, stand s q a → stand s p a
  | [], _ => trivial
  | _ :: _, ⟨h1, h2⟩ => ⟨Nat.le_trans h h1, h2⟩
theorem stands (s : List UInt8) : ∀ f p a, lexF f (s.drop p) p = .ok a → p ≤ s.length → s.length ≤ p + f → stand s p a := by
  intro f
  induction f with
  | zero => intro p a h hp _; simp [lexF] at h; subst h; simp [stand]; omega
  | succ f ih =>
    intro p a h hp hf
    cases hs : s.drop p with
    | nil => rw [hs] at h; simp [lexF] at h; subst h; simp [stand]; omega
    | cons c r =>
      have hl : (c :: r).length = s.length - p := by rw [← hs, List.length_drop]
      have hlt : p < s.length := by simp at hl; omega
      rw [hs] at h
      simp only [lexF] at h
      split at h
      · have e : r = s.drop (p + 1) := by rw [← List.drop_drop, hs]; rfl
        rw [e] at h
        exact stand_mono s (by omega) _ (ih _ _ h (by omega) (by omega))
      · split at h
        · cases h
        · rename_i h1
          have hp1 := one_pos _ h1
          have hle := one_le (c :: r)
          cases hr : lexF f ((c :: r).drop (one (c :: r)).2) (p + (one (c :: r)).2) with
          | error e => rw [hr] at h; cases h
          | ok b =>
            rw [hr] at h; simp only [Except.map, Except.ok.injEq] at h; subst h
            rw [show (c :: r).drop (one (c :: r)).2 = s.drop (p + (one (c :: r)).2) by rw [← List.drop_drop, hs]] at hr
            have hlen : ((c :: r).take (one (c :: r)).2).length = (one (c :: r)).2 := by rw [List.length_take]; omega
            refine ⟨Nat.le_refl _, ?_, ?_, ?_⟩
            · simp only [hlen]; omega
            · simp only [hlen, hs]
            · simp only [hlen]
              exact ih _ _ hr (by omega) (by omega)
theorem lex_stands (s : List UInt8) (a : List Tok) (h : lex s = .ok a) : stand s 0 a := stands s s.length 0 a (by rw [List.drop_zero]; exact h) (Nat.zero_le _) (by omega)
theorem lex_back (s : List UInt8) (a : List Tok) (h : lex s = .ok a) : ∃ b, lex (join a) = .ok b ∧ alike a b := back _ _ _ _ (Nat.le_refl _) h 0
end Lx
