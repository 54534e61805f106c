/- The tokens' texts in a row: how long, where each stands. -/
import Derived.Test.YtcbddbclgepcmaaDoorLexPlain
namespace Lx
def joinR : Bool → List Tok → List UInt8
  | _, [] => []
  | b, t :: r => (if b then [] else [32]) ++ (t.text ++ joinR false r)
theorem joinR_false : ∀ (t : Tok) r, joinR false (t :: r) = 32 :: join (t :: r)
  | t, [] => by simp [joinR, join]
  | t, u :: r => by
    have h := joinR_false u r
    rw [joinR, h]; simp [join]
theorem join_eq : ∀ a, join a = joinR true a
  | [] => rfl
  | [t] => by simp [joinR, join]
  | t :: u :: r => by rw [joinR, joinR_false u r]; simp [join]
theorem join_len : ∀ f s p a, lexF f s p = .ok a → s.length ≤ f → (join a).length ≤ 2 * s.length ∧ a.length ≤ s.length + 1 := by
  intro f
  induction f with
  | zero => intro s p a h _; simp [lexF] at h; subst h; simp [join]
  | succ f ih =>
    intro s p a h hf
    cases s with
    | nil => simp [lexF] at h; subst h; simp [join]
    | cons c r =>
      simp only [lexF] at h
      split at h
      · have := ih _ _ _ h (by simpa using hf)
        simp only [List.length_cons]; omega
      · split at h
        · cases h
        · rename_i h1
          have hp1 := one_pos _ h1
          have hle := one_le (c :: r)
          cases hr : lexF f ((c :: r).drop (one (c :: r)).2) (p + (one (c :: r)).2) with
          | error e => rw [hr] at h; cases h
          | ok b =>
            rw [hr] at h; simp only [Except.map, Except.ok.injEq] at h; subst h
            have hi := ih _ _ _ hr (by rw [List.length_drop]; omega)
            rw [List.length_drop] at hi
            cases b with
            | nil => simp only [join, List.length_take, List.length_cons, List.length_nil] at *; omega
            | cons u v => simp only [join, List.length_append, List.length_take, List.length_cons] at *; omega
theorem stand_at (s : List UInt8) : ∀ (a : List Tok) p, stand s p a → ∀ (i : Nat) (t : Tok), a[i]? = some t → p ≤ t.place ∧ t.place + t.text.length ≤ s.length ∧ (s.drop t.place).take t.text.length = t.text
  | [], _, _, i, t, h => by simp at h
  | u :: r, p, ⟨h1, h2, h3, h4⟩, i, t, h => by
    cases i with
    | zero => simp at h; subst h; exact ⟨h1, h2, h3⟩
    | succ i =>
      have := stand_at s r _ h4 i t (by simpa using h)
      exact ⟨by omega, this.2⟩
theorem stand_next (s : List UInt8) : ∀ (a : List Tok) p, stand s p a → ∀ (i : Nat) (t u : Tok), a[i]? = some t → a[i + 1]? = some u → t.place + t.text.length ≤ u.place
  | [], _, _, i, t, u, h, _ => by simp at h
  | v :: r, p, ⟨h1, h2, h3, h4⟩, i, t, u, h, h' => by
    cases i with
    | zero => simp at h; subst h; exact (stand_at s r _ h4 0 u (by simpa using h')).1
    | succ i => exact stand_next s r _ h4 i t u (by simpa using h) (by simpa using h')
theorem kind_le : ∀ f s p a, lexF f s p = .ok a → ∀ t ∈ a, t.kind ≤ 11 := by
  intro f
  induction f with
  | zero => intro s p a h t ht; simp [lexF] at h; subst h; simp at ht; subst ht; simp
  | succ f ih =>
    intro s p a h t ht
    cases s with
    | nil => simp [lexF] at h; subst h; simp at ht; subst ht; simp
    | cons c r =>
      simp only [lexF] at h
      split at h
      · exact ih _ _ _ h t ht
      · split at h
        · cases h
        · cases hr : lexF f ((c :: r).drop (one (c :: r)).2) (p + (one (c :: r)).2) with
          | error e => rw [hr] at h; cases h
          | ok b =>
            rw [hr] at h; simp only [Except.map, Except.ok.injEq] at h; subst h
            rcases List.mem_cons.1 ht with rfl | ht
            · show (one (c :: r)).1 ≤ 11
              unfold one; split
              · show worded _ ≤ 11
                unfold worded
                split
                · omega
                split
                · omega
                split
                · omega
                split <;> omega
              · unfold sign
                simp only
                repeat' split
                all_goals omega
            · exact ih _ _ _ hr t ht
/-- What Lex answers: of any length. -/
def lexR (s : List UInt8) : Except Nat (List Tok) := if 600 < s.length then .error 0 else lex s
theorem lexR_short (s : List UInt8) (h : s.length ≤ 600) : lexR s = lex s := if_neg (by omega)
theorem lexR_ok (s : List UInt8) (a : List Tok) (h : lexR s = .ok a) : lex s = .ok a ∧ s.length ≤ 600 := by
  unfold lexR at h; split at h
  · cases h
  · exact ⟨h, by omega⟩
end Lx
