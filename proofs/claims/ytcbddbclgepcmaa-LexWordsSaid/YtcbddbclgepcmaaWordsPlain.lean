/- Words with blanks where they are needed have their kinds. -/
import Derived.Test.YtcbddbclgepcmaaLexPlain
namespace Lx
/-- The twenty words. -/
def wrd : Nat → List UInt8
  | 0 => [111, 114] | 1 => [97, 110, 100] | 2 => [110, 111, 116] | 3 => [109, 105, 110, 117, 115]
  | 4 => [111, 114, 98] | 5 => [120, 97, 110, 100] | 6 => [110, 111, 116, 115] | 7 => [77, 105, 110, 117, 115]
  | 8 => [40] | 9 => [41] | 10 => [44] | 11 => [58, 58] | 12 => [46, 46] | 13 => [43] | 14 => [124] | 15 => [45] | 16 => [38] | 17 => [33]
  | 18 => [97, 98, 49, 50] | _ => [95]
def knd : Nat → Nat
  | 0 => 7 | 1 => 9 | 2 => 10 | 3 => 8 | 4 => 1 | 5 => 1 | 6 => 1 | 7 => 1
  | 8 => 2 | 9 => 3 | 10 => 4 | 11 => 5 | 12 => 6 | 13 => 7 | 14 => 7 | 15 => 8 | 16 => 9 | 17 => 10 | 18 => 1 | _ => 1
/-- Is it a word of letters? -/
def wdy (k : Nat) : Bool := decide (k < 8) || decide (17 < k)
def gap (last : Nat) (x : Nat × Bool) : Bool := (wdy x.1 && wdy last) || x.2
def build : Nat → List (Nat × Bool) → List UInt8
  | _, [] => []
  | last, x :: r => (if gap last x then [32] else []) ++ (wrd x.1 ++ build x.1 r)
def soft (r : List UInt8) : Prop := ∀ c, r.head? = some c → letter c = false
theorem wrd_len (k : Nat) : 0 < (wrd k).length ∧ (wrd k).length ≤ 5 := by
  unfold wrd; split <;> simp
theorem knd_ne (k : Nat) : knd k ≠ 0 ∧ knd k ≤ 10 := by unfold knd; split <;> simp
theorem word_end (r : List UInt8) (h : soft r) : word r = 0 := by
  cases r with
  | nil => rfl
  | cons c r => unfold word; rw [h c rfl]; rfl
theorem word_app : ∀ (w r : List UInt8), (∀ c ∈ w, letter c = true) → soft r → word (w ++ r) = w.length
  | [], r, _, h => word_end r h
  | c :: w, r, hw, h => by
    rw [List.cons_append, word, if_pos (hw c (List.mem_cons_self ..)), word_app w r (fun d hd => hw d (List.mem_cons_of_mem _ hd)) h]; rfl
theorem one_word (w r : List UInt8) (hn : 0 < w.length) (hw : ∀ c ∈ w, letter c = true) (h : soft r) : one (w ++ r) = (worded w, w.length) := by
  unfold one; rw [word_app w r hw h, if_pos hn, List.take_left']; rfl
theorem sign_range (k : Nat) (hk : ¬ wdy k = true) : k = 8 ∨ k = 9 ∨ k = 10 ∨ k = 11 ∨ k = 12 ∨ k = 13 ∨ k = 14 ∨ k = 15 ∨ k = 16 ∨ k = 17 := by
  unfold wdy at hk
  simp only [Bool.or_eq_true, decide_eq_true_eq] at hk
  omega
theorem word_range (k : Nat) (hk : wdy k = true) : k = 0 ∨ k = 1 ∨ k = 2 ∨ k = 3 ∨ k = 4 ∨ k = 5 ∨ k = 6 ∨ k = 7 ∨ k = 18 ∨ wrd k = [95] ∧ knd k = 1 := by
  unfold wdy at hk
  simp only [Bool.or_eq_true, decide_eq_true_eq] at hk
  by_cases h : 19 ≤ k
  · obtain ⟨m, rfl⟩ := Nat.exists_eq_add_of_le' h
    exact .inr (.inr (.inr (.inr (.inr (.inr (.inr (.inr (.inr ⟨rfl, rfl⟩))))))))
  · have : k = 0 ∨ k = 1 ∨ k = 2 ∨ k = 3 ∨ k = 4 ∨ k = 5 ∨ k = 6 ∨ k = 7 ∨ k = 18 := by omega
    rcases this with h | h | h | h | h | h | h | h | h <;> simp [h]
theorem word_all (k : Nat) (hk : wdy k = true) : worded (wrd k) = knd k ∧ ∀ c ∈ wrd k, letter c = true := by
  rcases word_range k hk with rfl | rfl | rfl | rfl | rfl | rfl | rfl | rfl | rfl | ⟨h1, h2⟩
  all_goals first | (exact ⟨by decide, by decide⟩) | (rw [h1, h2]; exact ⟨by decide, by decide⟩)
theorem sign_all (k : Nat) (hk : ¬ wdy k = true) (r : List UInt8) : one (wrd k ++ r) = (knd k, (wrd k).length) := by
  rcases sign_range k hk with rfl | rfl | rfl | rfl | rfl | rfl | rfl | rfl | rfl | rfl
  all_goals simp [wrd, knd, one, word, letter, sign]
theorem sign_head (k : Nat) (hk : ¬ wdy k = true) : ∃ c r, wrd k = c :: r ∧ letter c = false := by
  rcases sign_range k hk with rfl | rfl | rfl | rfl | rfl | rfl | rfl | rfl | rfl | rfl
  all_goals exact ⟨_, _, rfl, rfl⟩
theorem one_wrd (k : Nat) (r : List UInt8) (h : wdy k = true → soft r) : one (wrd k ++ r) = (knd k, (wrd k).length) := by
  by_cases hk : wdy k = true
  · rw [one_word _ r (wrd_len k).1 (word_all k hk).2 (h hk), (word_all k hk).1]
  · exact sign_all k hk r
theorem soft_build (last : Nat) (h : wdy last = true) : ∀ r, soft (build last r)
  | [] => by intro c hc; cases hc
  | x :: r => by
    unfold build
    cases hg : gap last x with
    | true => intro c hc; simp at hc; subst hc; rfl
    | false =>
      have hx : ¬ wdy x.1 = true := by
        unfold gap at hg; rw [h] at hg
        cases hx : wdy x.1 <;> simp_all
      intro c hc
      obtain ⟨d, s, e, hd⟩ := sign_head _ hx
      rw [if_neg (by simp), List.nil_append, e] at hc
      simp at hc
      rw [← hc]; exact hd
theorem head_not (k : Nat) : ∃ c r, wrd k = c :: r ∧ blank c = false := by
  unfold wrd; split <;> exact ⟨_, _, rfl, rfl⟩
theorem lexF_wrd (f k p : Nat) (r : List UInt8) (h : wdy k = true → soft r) (hf : (wrd k ++ r).length ≤ f) :
    lexF f (wrd k ++ r) p = (lexF f r (p + (wrd k).length)).map (⟨knd k, p, wrd k⟩ :: ·) := by
  have ho := one_wrd k r h
  obtain ⟨c, s, e, hb⟩ := head_not k
  have hpos := (wrd_len k).1
  cases f with
  | zero => rw [List.length_append] at hf; omega
  | succ f =>
    have e2 : wrd k ++ r = c :: (s ++ r) := by rw [e]; rfl
    rw [e2] at ho hf ⊢
    rw [lexF, if_neg (by rw [hb]; simp), ho, if_neg (knd_ne k).1]
    have h3 : (c :: (s ++ r)).drop (wrd k).length = r := by rw [← e2]; exact List.drop_left' rfl
    have h4 : (c :: (s ++ r)).take (wrd k).length = wrd k := by rw [← e2]; exact List.take_left' rfl
    simp only [h3, h4]
    have hl : (c :: (s ++ r)).length = (wrd k).length + r.length := by rw [← e2, List.length_append]
    rw [lexF_fuel f (f + 1) r _ (by rw [hl] at hf; omega) (by rw [hl] at hf; omega)]
theorem lex_build : ∀ (l : List (Nat × Bool)) (last f p : Nat), (build last l).length ≤ f → ∃ a, lexF f (build last l) p = .ok a ∧ a.map (·.kind) = l.map (fun x => knd x.1) ++ [11]
  | [], last, f, p, hf => ⟨[⟨11, p, []⟩], by cases f <;> rfl, rfl⟩
  | x :: r, last, f, p, hf => by
    have step : ∀ f p, (wrd x.1 ++ build x.1 r).length ≤ f → ∃ a, lexF f (wrd x.1 ++ build x.1 r) p = .ok a ∧ a.map (·.kind) = (x :: r).map (fun x => knd x.1) ++ [11] := by
      intro f p hf
      obtain ⟨a, ha, hm⟩ := lex_build r x.1 f (p + (wrd x.1).length) (by rw [List.length_append] at hf; omega)
      rw [lexF_wrd f x.1 p _ (fun h => soft_build x.1 h r) hf, ha]
      exact ⟨_, rfl, by rw [List.map_cons, hm]; rfl⟩
    unfold build at hf ⊢
    cases hg : gap last x with
    | false => rw [hg] at hf; exact step f p hf
    | true =>
      rw [hg] at hf
      cases f with
      | zero => simp at hf
      | succ f =>
        obtain ⟨a, ha, hm⟩ := step f (p + 1) (by simpa using hf)
        refine ⟨a, ?_, hm⟩
        simp only [if_true, List.cons_append, List.nil_append]
        rw [lexF, if_pos (show blank 32 = true from rfl)]
        exact ha
/-- What is chosen. -/
def its : Nat → List Int → List Int → List (Nat × Bool)
  | 0, _, _ => []
  | _ + 1, [], _ => []
  | n + 1, x :: l, g => ((x % 20).toNat, match g with | [] => false | y :: _ => decide (y % 2 = 0)) :: its n l g.tail
theorem its_length (n : Nat) (l g : List Int) : (its n l g).length ≤ n := by
  induction n generalizing l g with
  | zero => simp [its]
  | succ n ih => cases l with
    | nil => simp [its]
    | cons x l => simp only [its, List.length_cons]; have := ih l g.tail; omega
theorem build_len (l : List (Nat × Bool)) : ∀ last, (build last l).length ≤ 6 * l.length := by
  induction l with
  | nil => intro; simp [build]
  | cons x r ih =>
    intro last
    unfold build
    have h1 := ih x.1
    have h2 := (wrd_len x.1).2
    simp only [List.length_append, List.length_cons]
    split <;> simp <;> omega
end Lx
