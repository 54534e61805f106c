/- taprootref17.Lex: what it answers. -/
import Derived.Test.YtcbddbclgepcmaaDoorLexLex
import Derived.Test.YtcbddbclgepcmaaDoorBackPlain
namespace Go.Proofs.YtcbddbclgepcmaaDoor
open Go.RowKit Go.Tap
set_option linter.unusedVariables false
set_option linter.unusedSimpArgs false

theorem wordByte_any (w : World) (c : UInt8) : Calls Tryd.prog 49 #[.int .u8 (c.toNat : Int)] w fun e w' => e = .returned (.bool (Lx.letter c)) ∧ w' = w := by
  have hc := c.toNat_lt
  have hl : Lx.letter c = ((decide (48 ≤ c.toNat) && decide (c.toNat ≤ 57)) || (decide (97 ≤ c.toNat) && decide (c.toNat ≤ 122)) || (decide (65 ≤ c.toNat) && decide (c.toNat ≤ 90)) || decide (c.toNat = 95)) := by
    have e : (c == 95) = decide (c.toNat = 95) := by
      rw [Bool.eq_iff_iff]; simp [← UInt8.toNat_inj]
    simp only [Lx.letter, e]; rfl
  generalize c.toNat = x at hl hc
  have d : ∀ a : Nat, (decide ((a : Int) ≤ (x : Int)) = decide (a ≤ x)) ∧ decide ((x : Int) ≤ (a : Int)) = decide (x ≤ a) := fun a => ⟨decide_eq_decide.2 (by omega), decide_eq_decide.2 (by omega)⟩
  have hcases : x < 48 ∨ (48 ≤ x ∧ x ≤ 57) ∨ (58 ≤ x ∧ x ≤ 64) ∨ (65 ≤ x ∧ x ≤ 90) ∨ (91 ≤ x ∧ x ≤ 94) ∨ x = 95 ∨ x = 96 ∨ (97 ≤ x ∧ x ≤ 122) ∨ 123 ≤ x := by omega
  have HC := Lib.hid hc
  clear hc d
  rcases hcases with h | h | h | h | h | h | h | h | h
  · have d0 : decide ((48 : Int) ≤ (x : Int)) = false := decide_eq_false (by omega)
    have d1 : decide ((x : Int) ≤ 57) = true := decide_eq_true (by omega)
    have d2 : decide ((97 : Int) ≤ (x : Int)) = false := decide_eq_false (by omega)
    have d3 : decide ((x : Int) ≤ 122) = true := decide_eq_true (by omega)
    have d4 : decide ((65 : Int) ≤ (x : Int)) = false := decide_eq_false (by omega)
    have d5 : decide ((x : Int) ≤ 90) = true := decide_eq_true (by omega)
    have d9 : ((x : Int) == 95) = false := by simp; omega
    have HL := Lib.hid (show Lx.letter c = false by rw [hl]; simp; omega)
    clear hl h
    go_enter Tryd.func49, Tryd.ntmps49
    go_wp2
    go_ret
    exact ⟨by rw [HL.out]; rfl, rfl⟩
  · have d0 : decide ((48 : Int) ≤ (x : Int)) = true := decide_eq_true (by omega)
    have d1 : decide ((x : Int) ≤ 57) = true := decide_eq_true (by omega)
    have d2 : decide ((97 : Int) ≤ (x : Int)) = false := decide_eq_false (by omega)
    have d3 : decide ((x : Int) ≤ 122) = true := decide_eq_true (by omega)
    have d4 : decide ((65 : Int) ≤ (x : Int)) = false := decide_eq_false (by omega)
    have d5 : decide ((x : Int) ≤ 90) = true := decide_eq_true (by omega)
    have d9 : ((x : Int) == 95) = false := by simp; omega
    have HL := Lib.hid (show Lx.letter c = true by rw [hl]; simp; omega)
    clear hl h
    go_enter Tryd.func49, Tryd.ntmps49
    go_wp2
    go_ret
    exact ⟨by rw [HL.out]; rfl, rfl⟩
  · have d0 : decide ((48 : Int) ≤ (x : Int)) = true := decide_eq_true (by omega)
    have d1 : decide ((x : Int) ≤ 57) = false := decide_eq_false (by omega)
    have d2 : decide ((97 : Int) ≤ (x : Int)) = false := decide_eq_false (by omega)
    have d3 : decide ((x : Int) ≤ 122) = true := decide_eq_true (by omega)
    have d4 : decide ((65 : Int) ≤ (x : Int)) = false := decide_eq_false (by omega)
    have d5 : decide ((x : Int) ≤ 90) = true := decide_eq_true (by omega)
    have d9 : ((x : Int) == 95) = false := by simp; omega
    have HL := Lib.hid (show Lx.letter c = false by rw [hl]; simp; omega)
    clear hl h
    go_enter Tryd.func49, Tryd.ntmps49
    go_wp2
    go_ret
    exact ⟨by rw [HL.out]; rfl, rfl⟩
  · have d0 : decide ((48 : Int) ≤ (x : Int)) = true := decide_eq_true (by omega)
    have d1 : decide ((x : Int) ≤ 57) = false := decide_eq_false (by omega)
    have d2 : decide ((97 : Int) ≤ (x : Int)) = false := decide_eq_false (by omega)
    have d3 : decide ((x : Int) ≤ 122) = true := decide_eq_true (by omega)
    have d4 : decide ((65 : Int) ≤ (x : Int)) = true := decide_eq_true (by omega)
    have d5 : decide ((x : Int) ≤ 90) = true := decide_eq_true (by omega)
    have d9 : ((x : Int) == 95) = false := by simp; omega
    have HL := Lib.hid (show Lx.letter c = true by rw [hl]; simp; omega)
    clear hl h
    go_enter Tryd.func49, Tryd.ntmps49
    go_wp2
    go_ret
    exact ⟨by rw [HL.out]; rfl, rfl⟩
  · have d0 : decide ((48 : Int) ≤ (x : Int)) = true := decide_eq_true (by omega)
    have d1 : decide ((x : Int) ≤ 57) = false := decide_eq_false (by omega)
    have d2 : decide ((97 : Int) ≤ (x : Int)) = false := decide_eq_false (by omega)
    have d3 : decide ((x : Int) ≤ 122) = true := decide_eq_true (by omega)
    have d4 : decide ((65 : Int) ≤ (x : Int)) = true := decide_eq_true (by omega)
    have d5 : decide ((x : Int) ≤ 90) = false := decide_eq_false (by omega)
    have d9 : ((x : Int) == 95) = false := by simp; omega
    have HL := Lib.hid (show Lx.letter c = false by rw [hl]; simp; omega)
    clear hl h
    go_enter Tryd.func49, Tryd.ntmps49
    go_wp2
    go_ret
    exact ⟨by rw [HL.out]; rfl, rfl⟩
  · have d0 : decide ((48 : Int) ≤ (x : Int)) = true := decide_eq_true (by omega)
    have d1 : decide ((x : Int) ≤ 57) = false := decide_eq_false (by omega)
    have d2 : decide ((97 : Int) ≤ (x : Int)) = false := decide_eq_false (by omega)
    have d3 : decide ((x : Int) ≤ 122) = true := decide_eq_true (by omega)
    have d4 : decide ((65 : Int) ≤ (x : Int)) = true := decide_eq_true (by omega)
    have d5 : decide ((x : Int) ≤ 90) = false := decide_eq_false (by omega)
    have d9 : ((x : Int) == 95) = true := by simp; omega
    have HL := Lib.hid (show Lx.letter c = true by rw [hl]; simp; omega)
    clear hl h
    go_enter Tryd.func49, Tryd.ntmps49
    go_wp2
    go_ret
    exact ⟨by rw [HL.out]; rfl, rfl⟩
  · have d0 : decide ((48 : Int) ≤ (x : Int)) = true := decide_eq_true (by omega)
    have d1 : decide ((x : Int) ≤ 57) = false := decide_eq_false (by omega)
    have d2 : decide ((97 : Int) ≤ (x : Int)) = false := decide_eq_false (by omega)
    have d3 : decide ((x : Int) ≤ 122) = true := decide_eq_true (by omega)
    have d4 : decide ((65 : Int) ≤ (x : Int)) = true := decide_eq_true (by omega)
    have d5 : decide ((x : Int) ≤ 90) = false := decide_eq_false (by omega)
    have d9 : ((x : Int) == 95) = false := by simp; omega
    have HL := Lib.hid (show Lx.letter c = false by rw [hl]; simp; omega)
    clear hl h
    go_enter Tryd.func49, Tryd.ntmps49
    go_wp2
    go_ret
    exact ⟨by rw [HL.out]; rfl, rfl⟩
  · have d0 : decide ((48 : Int) ≤ (x : Int)) = true := decide_eq_true (by omega)
    have d1 : decide ((x : Int) ≤ 57) = false := decide_eq_false (by omega)
    have d2 : decide ((97 : Int) ≤ (x : Int)) = true := decide_eq_true (by omega)
    have d3 : decide ((x : Int) ≤ 122) = true := decide_eq_true (by omega)
    have d4 : decide ((65 : Int) ≤ (x : Int)) = true := decide_eq_true (by omega)
    have d5 : decide ((x : Int) ≤ 90) = false := decide_eq_false (by omega)
    have d9 : ((x : Int) == 95) = false := by simp; omega
    have HL := Lib.hid (show Lx.letter c = true by rw [hl]; simp; omega)
    clear hl h
    go_enter Tryd.func49, Tryd.ntmps49
    go_wp2
    go_ret
    exact ⟨by rw [HL.out]; rfl, rfl⟩
  · have d0 : decide ((48 : Int) ≤ (x : Int)) = true := decide_eq_true (by omega)
    have d1 : decide ((x : Int) ≤ 57) = false := decide_eq_false (by omega)
    have d2 : decide ((97 : Int) ≤ (x : Int)) = true := decide_eq_true (by omega)
    have d3 : decide ((x : Int) ≤ 122) = false := decide_eq_false (by omega)
    have d4 : decide ((65 : Int) ≤ (x : Int)) = true := decide_eq_true (by omega)
    have d5 : decide ((x : Int) ≤ 90) = false := decide_eq_false (by omega)
    have d9 : ((x : Int) == 95) = false := by simp; omega
    have HL := Lib.hid (show Lx.letter c = false by rw [hl]; simp; omega)
    clear hl h
    go_enter Tryd.func49, Tryd.ntmps49
    go_wp2
    go_ret
    exact ⟨by rw [HL.out]; rfl, rfl⟩


theorem Tryd.infoTok : (Tryd.prog.info? 50).map (fun i => (i.zero, i.size, i.bytes)) = some (some (.agg #[.int .i64 0, .int .i64 0, .string ⟨#[]⟩]), 3, 32) := by kernel_rfl
/-- Behind the document's Lex. -/
def RefAft (w : World) (r : Except Nat (List Lx.Tok)) (e : Ending) (w' : World) : Prop :=
  Below w.heap.size w w' ∧ match r with
  | .error p => e = .returned (.tuple #[.slice none 0 0, .int .i64 15, .int .i64 (p : Int)])
  | .ok l => ∃ v, e = .returned (.tuple #[v, .int .i64 0, .int .i64 0]) ∧ w'.ownsRow w.heap.size 50 3 v l.length (tv l)
theorem ref_long (w : World) (l : List UInt8) (hl : 600 < l.length) : Calls Tryd.prog 19 #[.string (str l)] w fun e w' => e = .returned (.tuple #[.slice none 0 0, .int .i64 5, .int .i64 0]) ∧ w' = w := by
  have hsz : (str l).size = l.length := rfl
  have hd0 : decide ((600 : Int) < (l.length : Int)) = true := decide_eq_true (by omega)
  have hd1 : decide (600 < l.length) = true := decide_eq_true (by omega)
  go_enter Tryd.func19, Tryd.ntmps19
  go_wp2
  go_ret3
  exact ⟨rfl, rfl⟩
/-- The ways of one step. -/
theorem ways (x : UInt8) (r : List UInt8) (hb : Lx.blank x = false) (hl : Lx.letter x = false) :
    (x = 58 ∧ (∃ y s, r = y :: s ∧ y = 58) ∧ Lx.one (x :: r) = (5, 2)) ∨ (x = 58 ∧ (∀ y s, r = y :: s → y ≠ 58) ∧ (Lx.one (x :: r)).1 = 0) ∨
    (x = 46 ∧ (∃ y s, r = y :: s ∧ y = 46) ∧ Lx.one (x :: r) = (6, 2)) ∨ (x = 46 ∧ (∀ y s, r = y :: s → y ≠ 46) ∧ (Lx.one (x :: r)).1 = 0) ∨
    (x = 40 ∧ Lx.one (x :: r) = (2, 1)) ∨ (x = 41 ∧ Lx.one (x :: r) = (3, 1)) ∨ (x = 44 ∧ Lx.one (x :: r) = (4, 1)) ∨ (x = 43 ∧ Lx.one (x :: r) = (7, 1)) ∨ (x = 124 ∧ Lx.one (x :: r) = (7, 1)) ∨
    (x = 45 ∧ Lx.one (x :: r) = (8, 1)) ∨ (x = 38 ∧ Lx.one (x :: r) = (9, 1)) ∨ (x = 33 ∧ Lx.one (x :: r) = (10, 1)) ∨
    ((x ≠ 58 ∧ x ≠ 46 ∧ x ≠ 40 ∧ x ≠ 41 ∧ x ≠ 44 ∧ x ≠ 43 ∧ x ≠ 124 ∧ x ≠ 45 ∧ x ≠ 38 ∧ x ≠ 33) ∧ (Lx.one (x :: r)).1 = 0) := by
  have e : Lx.one (x :: r) = Lx.sign (x :: r) := by simp [Lx.one, Lx.word, hl]
  rw [e]
  by_cases h1 : x = 58
  · subst h1
    cases r with
    | nil => exact .inr (.inl ⟨rfl, (fun y s h => by cases h), by simp [Lx.sign]⟩)
    | cons y s =>
      by_cases hy : y = 58
      · exact .inl ⟨rfl, ⟨y, s, rfl, hy⟩, by simp [Lx.sign, hy]⟩
      · exact .inr (.inl ⟨rfl, (fun y' s' h => by obtain ⟨rfl, rfl⟩ := List.cons.inj h; exact hy), by simp [Lx.sign, hy]⟩)
  by_cases h2 : x = 46
  · subst h2
    cases r with
    | nil => exact .inr (.inr (.inr (.inl ⟨rfl, (fun y s h => by cases h), by simp [Lx.sign]⟩)))
    | cons y s =>
      by_cases hy : y = 46
      · exact .inr (.inr (.inl ⟨rfl, ⟨y, s, rfl, hy⟩, by simp [Lx.sign, hy]⟩))
      · exact .inr (.inr (.inr (.inl ⟨rfl, (fun y' s' h => by obtain ⟨rfl, rfl⟩ := List.cons.inj h; exact hy), by simp [Lx.sign, hy]⟩)))
  refine .inr (.inr (.inr (.inr ?_)))
  by_cases h3 : x = 40
  · exact .inl ⟨h3, by simp [Lx.sign, h3]⟩
  refine .inr ?_
  by_cases h4 : x = 41
  · exact .inl ⟨h4, by simp [Lx.sign, h4]⟩
  refine .inr ?_
  by_cases h5 : x = 44
  · exact .inl ⟨h5, by simp [Lx.sign, h5]⟩
  refine .inr ?_
  by_cases h6 : x = 43
  · exact .inl ⟨h6, by simp [Lx.sign, h6]⟩
  refine .inr ?_
  by_cases h7 : x = 124
  · exact .inl ⟨h7, by simp [Lx.sign, h7]⟩
  refine .inr ?_
  by_cases h8 : x = 45
  · exact .inl ⟨h8, by simp [Lx.sign, h8]⟩
  refine .inr ?_
  by_cases h9 : x = 38
  · exact .inl ⟨h9, by simp [Lx.sign, h9]⟩
  refine .inr ?_
  by_cases h10 : x = 33
  · exact .inl ⟨h10, by simp [Lx.sign, h10]⟩
  exact .inr ⟨⟨h1, h2, h3, h4, h5, h6, h7, h8, h9, h10⟩, by simp only [Lx.sign]; rw [if_neg h1, if_neg h2, if_neg h3, if_neg h4, if_neg h5, if_neg h6, if_neg h7, if_neg h8, if_neg h9, if_neg h10]⟩
set_option maxHeartbeats 8000000 in
set_option maxRecDepth 100000 in
theorem ref_any (w : World) (l : List UInt8) (hl : l.length ≤ 600) : Calls Tryd.prog 19 #[.string (str l)] w (RefAft w (Lx.lex l)) := by
  obtain ⟨i0, hi, hz0, hz1, hz2⟩ := info_parts Tryd.infoTok
  have hsz : (str l).size = l.length := rfl
  have hd0 : decide ((600 : Int) < (l.length : Int)) = false := decide_eq_false (by omega)
  go_enter Tryd.func19, Tryd.ntmps19
  go_wp2
  go_loopw [5, 6, 7, 8, 9] (fun o t _ _ _ wr => ∃ (p : Nat) (ts : List Lx.Tok), p ≤ l.length ∧ ts.length ≤ p ∧ t = .int .i64 (p : Int) ∧ wr.ownsRow w.heap.size 50 3 o ts.length (tv ts) ∧ Hid (Lx.lex l = pre ts (Lx.lexF (l.length - p) (l.drop p) p)) ∧ Below w.heap.size w wr) (fun _ t _ _ _ _ => l.length - (intOf t).toNat)
  case atStart => exact ⟨0, [], Nat.zero_le _, Nat.zero_le _, rfl, World.ownsRow_nil _ _ _ _, by rw [Nat.sub_zero, List.drop_zero]; unfold Lx.lex pre; split <;> simp_all [Hid], Below.refl _ _⟩
  case round =>
    obtain ⟨p, ts, hp, htp, rfl, how, HL, hb⟩ := hrel
    by_cases hlt : p < l.length
    · have hd1 : decide ((p : Int) < (l.length : Int)) = true := decide_eq_true (by omega)
      have hx : l.drop p = (l[p]'hlt) :: l.drop (p + 1) := List.drop_eq_getElem_cons hlt
      have HX := Lib.hid hx
      clear hx
      have hix : (str l)[p]'(by rw [hsz]; exact hlt) = l[p]'hlt := rfl
      generalize (l[p]'hlt) = x at HX hix
      have hrl : (x :: l.drop (p + 1)).length = l.length - p := by rw [← HX.out, List.length_drop]
      have HR := Lib.hid hrl
      clear hrl
      cases hbx : Lx.blank x with
      | true =>
        have HB := Lib.hid hbx
        have hxx : x = 32 ∨ x = 9 ∨ x = 10 := by simpa [Lx.blank, or_assoc] using hbx
        clear hbx
        rcases hxx with hx0 | hx0 | hx0
        · as_aux_lemma =>
            have t32 : ((x.toNat : Int) == 32) = true := (byte_is x 32).trans (decide_eq_true (by subst hx0; decide))
            have t9 : ((x.toNat : Int) == 9) = false := (byte_is x 9).trans (decide_eq_false (by subst hx0; decide))
            have t10 : ((x.toNat : Int) == 10) = false := (byte_is x 10).trans (decide_eq_false (by subst hx0; decide))
            clear hx0
            go_wp2
            go_roundw
            case rel => exact ⟨p + 1, ts, by omega, by omega, by go_num, how, by rw [HL.out, HX.out, show l.length - p = (l.length - (p + 1)) + 1 by omega, lexF_blank _ _ _ _ HB.out]; rfl, hb⟩
            case measure => first | (simp [intOf]; done) | (simp [intOf]; omega)
        · as_aux_lemma =>
            have t32 : ((x.toNat : Int) == 32) = false := (byte_is x 32).trans (decide_eq_false (by subst hx0; decide))
            have t9 : ((x.toNat : Int) == 9) = true := (byte_is x 9).trans (decide_eq_true (by subst hx0; decide))
            have t10 : ((x.toNat : Int) == 10) = false := (byte_is x 10).trans (decide_eq_false (by subst hx0; decide))
            clear hx0
            go_wp2
            go_roundw
            case rel => exact ⟨p + 1, ts, by omega, by omega, by go_num, how, by rw [HL.out, HX.out, show l.length - p = (l.length - (p + 1)) + 1 by omega, lexF_blank _ _ _ _ HB.out]; rfl, hb⟩
            case measure => first | (simp [intOf]; done) | (simp [intOf]; omega)
        · as_aux_lemma =>
            have t32 : ((x.toNat : Int) == 32) = false := (byte_is x 32).trans (decide_eq_false (by subst hx0; decide))
            have t9 : ((x.toNat : Int) == 9) = false := (byte_is x 9).trans (decide_eq_false (by subst hx0; decide))
            have t10 : ((x.toNat : Int) == 10) = true := (byte_is x 10).trans (decide_eq_true (by subst hx0; decide))
            clear hx0
            go_wp2
            go_roundw
            case rel => exact ⟨p + 1, ts, by omega, by omega, by go_num, how, by rw [HL.out, HX.out, show l.length - p = (l.length - (p + 1)) + 1 by omega, lexF_blank _ _ _ _ HB.out]; rfl, hb⟩
            case measure => first | (simp [intOf]; done) | (simp [intOf]; omega)
      | false =>
        have HB := Lib.hid hbx
        have hn32 : x ≠ 32 ∧ x ≠ 9 ∧ x ≠ 10 := by simpa [Lx.blank, and_assoc] using hbx
        cases hlx : Lx.letter x with
        | true =>
          have HLT := Lib.hid hlx
          have hw1 : Lx.word (x :: l.drop (p + 1)) = 1 + Lx.word (l.drop (p + 1)) := by rw [Lx.word, if_pos hlx]; omega
          clear hbx hlx
          have t32 : ((x.toNat : Int) == 32) = false := (byte_is x 32).trans (decide_eq_false hn32.1)
          have t9 : ((x.toNat : Int) == 9) = false := (byte_is x 9).trans (decide_eq_false hn32.2.1)
          have t10 : ((x.toNat : Int) == 10) = false := (byte_is x 10).trans (decide_eq_false hn32.2.2)
          clear hn32
          go_wp2_with fail
          refine (wordByte_any _ x).mono ?_
          rw [HLT.out]
          rintro e w' ⟨rfl, rfl⟩
          go_wp2_with fail
          have hww := Lx.word_le (l.drop (p + 1))
          go_loopw [8] (fun t wq => ∃ n : Nat, 1 ≤ n ∧ p + n ≤ l.length ∧ t = .int .i64 (n : Int) ∧ Hid (Lx.word (x :: l.drop (p + 1)) = n + Lx.word (l.drop (p + n))) ∧ wq = w') (fun t _ => l.length - (intOf t).toNat)
          case atStart => exact ⟨1, Nat.le_refl _, by omega, rfl, hw1, rfl⟩
          case round =>
            obtain ⟨n, hn1, hpn, rfl, HN, rfl⟩ := hrel
            by_cases hm : p + n < l.length
            · have e1 : decide ((p : Int) + (n : Int) < (l.length : Int)) = true := decide_eq_true (by omega)
              have e2 : decide (p + n < l.length) = true := decide_eq_true hm
              have e4 : (p : Int) + (n : Int) < (l.length : Int) := by omega
              have hy : l.drop (p + n) = (l[p + n]'hm) :: l.drop (p + n + 1) := List.drop_eq_getElem_cons hm
              have hiy : (str l)[p + n]'(by rw [hsz]; exact hm) = l[p + n]'hm := rfl
              generalize (l[p + n]'hm) = y at hy hiy
              have HY := Lib.hid hy
              clear hy
              go_wp2_with fail
              refine (wordByte_any _ y).mono ?_
              rintro e w' ⟨rfl, rfl⟩
              cases hly : Lx.letter y with
              | true =>
                have HLY := Lib.hid hly
                clear hly
                go_wp2
                go_roundw
                case rel => exact ⟨n + 1, by omega, by omega, by go_num, by rw [HN.out, HY.out, Lx.word, if_pos HLY.out]; show _ = _; rw [← Nat.add_assoc p n 1]; omega, trivial⟩
                case measure => first | (simp [intOf]; done) | (simp [intOf]; omega)
              | false =>
                have hwn : Lx.word (x :: l.drop (p + 1)) = n := by rw [HN.out, HY.out, Lx.word, if_neg (by rw [hly]; simp)]; rfl
                clear hly HN
                have hn0 : 0 < Lx.word (x :: l.drop (p + 1)) := by omega
                have HO := Lib.hid (show Lx.one (x :: l.drop (p + 1)) = (Lx.worded ((x :: l.drop (p + 1)).take n), n) by unfold Lx.one; rw [if_pos hn0, hwn])
                clear hn0 hwn
                have hs0 : (str l).extract p (p + n) = str ((x :: l.drop (p + 1)).take n) := by rw [sub_str, ← HX.out, List.drop_take, Nat.add_sub_cancel_left]
                have hpq : p + n ≤ l.length := by omega
                by_cases g0 : (x :: l.drop (p + 1)).take n = [111, 114]
                · as_aux_lemma =>
                    have c0 : (((str l).extract p (p + n)).toList == [111, 114]) = true := by rw [hs0, str_is]; exact decide_eq_true g0
                    have HV : Lx.worded ((x :: l.drop (p + 1)).take n) = 7 := by unfold Lx.worded; rw [if_pos g0]
                    rw [HV] at HO
                    have hK0 : 7 ≠ 0 := by decide
                    clear hs0 HV g0
                    have hs1 : (str l).extract p (p + n) = str ((x :: l.drop (p + 1)).take n) := by rw [sub_str, ← HX.out, List.drop_take, Nat.add_sub_cancel_left]
                    have HS := Lib.hid hs1
                    clear hs1
                    go_wp2_with (at_builtin; refine wpList_append_one _ rfl (.tmp 126) (.tmp 136) 44 rfl w.heap.size 50 i0 _ 3 32 Tryd.underlying44 hi hz0 hz1 hz2 rfl (by decide) _ ts.length (tv ts) rfl (how.alloc _) _ 1 _ _ rfl (heap_alloc_new _ _) rfl (by intro u hu; simp at hu; rcases hu with rfl | rfl | rfl <;> rfl) (by omega) (by omega) (by have := hb.size; simp; omega) ?_)
                    intro v' w3 hown hg
                    have HT := Lib.hid (lexF_tok (l.length - (p + 1)) (l.length - (p + n)) x (l.drop (p + 1)) p HB.out (by rw [HO.out]; exact hK0) (by rw [List.length_drop]; omega) (by rw [HO.out, HR.out]; omega))
                    go_wp2
                    go_roundw
                    case rel =>
                      refine ⟨p + n, ts ++ [⟨7, p, (x :: l.drop (p + 1)).take n⟩], hpq, by simp; omega, by go_num, ?_, ?_, ?_⟩
                      · rw [List.length_append, tv_snoc]
                        simpa [tc, HS.out] using hown
                      · have h1 := HT.out
                        rw [HO.out] at h1
                        show Lx.lex l = _
                        rw [HL.out, show l.length - p = (l.length - (p + 1)) + 1 by omega, HX.out, h1, ← HX.out, List.drop_drop, pre_pre]
                      · exact (hb.alloc hb.size _).grown hg (by have := hb.size; simp; omega) (by intro j hj; exact (how.lt j hj).1)
                    case measure => first | (simp [intOf]; done) | (simp [intOf]; omega)
                by_cases g1 : (x :: l.drop (p + 1)).take n = [97, 110, 100]
                · as_aux_lemma =>
                    have c0 : (((str l).extract p (p + n)).toList == [111, 114]) = false := by rw [hs0, str_is]; exact decide_eq_false g0
                    have c1 : (((str l).extract p (p + n)).toList == [97, 110, 100]) = true := by rw [hs0, str_is]; exact decide_eq_true g1
                    have HV : Lx.worded ((x :: l.drop (p + 1)).take n) = 9 := by unfold Lx.worded; rw [if_neg g0, if_pos g1]
                    rw [HV] at HO
                    have hK0 : 9 ≠ 0 := by decide
                    clear hs0 HV g0 g1
                    have hs1 : (str l).extract p (p + n) = str ((x :: l.drop (p + 1)).take n) := by rw [sub_str, ← HX.out, List.drop_take, Nat.add_sub_cancel_left]
                    have HS := Lib.hid hs1
                    clear hs1
                    go_wp2_with (at_builtin; refine wpList_append_one _ rfl (.tmp 126) (.tmp 136) 44 rfl w.heap.size 50 i0 _ 3 32 Tryd.underlying44 hi hz0 hz1 hz2 rfl (by decide) _ ts.length (tv ts) rfl (how.alloc _) _ 1 _ _ rfl (heap_alloc_new _ _) rfl (by intro u hu; simp at hu; rcases hu with rfl | rfl | rfl <;> rfl) (by omega) (by omega) (by have := hb.size; simp; omega) ?_)
                    intro v' w3 hown hg
                    have HT := Lib.hid (lexF_tok (l.length - (p + 1)) (l.length - (p + n)) x (l.drop (p + 1)) p HB.out (by rw [HO.out]; exact hK0) (by rw [List.length_drop]; omega) (by rw [HO.out, HR.out]; omega))
                    go_wp2
                    go_roundw
                    case rel =>
                      refine ⟨p + n, ts ++ [⟨9, p, (x :: l.drop (p + 1)).take n⟩], hpq, by simp; omega, by go_num, ?_, ?_, ?_⟩
                      · rw [List.length_append, tv_snoc]
                        simpa [tc, HS.out] using hown
                      · have h1 := HT.out
                        rw [HO.out] at h1
                        show Lx.lex l = _
                        rw [HL.out, show l.length - p = (l.length - (p + 1)) + 1 by omega, HX.out, h1, ← HX.out, List.drop_drop, pre_pre]
                      · exact (hb.alloc hb.size _).grown hg (by have := hb.size; simp; omega) (by intro j hj; exact (how.lt j hj).1)
                    case measure => first | (simp [intOf]; done) | (simp [intOf]; omega)
                by_cases g2 : (x :: l.drop (p + 1)).take n = [110, 111, 116]
                · as_aux_lemma =>
                    have c0 : (((str l).extract p (p + n)).toList == [111, 114]) = false := by rw [hs0, str_is]; exact decide_eq_false g0
                    have c1 : (((str l).extract p (p + n)).toList == [97, 110, 100]) = false := by rw [hs0, str_is]; exact decide_eq_false g1
                    have c2 : (((str l).extract p (p + n)).toList == [110, 111, 116]) = true := by rw [hs0, str_is]; exact decide_eq_true g2
                    have HV : Lx.worded ((x :: l.drop (p + 1)).take n) = 10 := by unfold Lx.worded; rw [if_neg g0, if_neg g1, if_pos g2]
                    rw [HV] at HO
                    have hK0 : 10 ≠ 0 := by decide
                    clear hs0 HV g0 g1 g2
                    have hs1 : (str l).extract p (p + n) = str ((x :: l.drop (p + 1)).take n) := by rw [sub_str, ← HX.out, List.drop_take, Nat.add_sub_cancel_left]
                    have HS := Lib.hid hs1
                    clear hs1
                    go_wp2_with (at_builtin; refine wpList_append_one _ rfl (.tmp 126) (.tmp 136) 44 rfl w.heap.size 50 i0 _ 3 32 Tryd.underlying44 hi hz0 hz1 hz2 rfl (by decide) _ ts.length (tv ts) rfl (how.alloc _) _ 1 _ _ rfl (heap_alloc_new _ _) rfl (by intro u hu; simp at hu; rcases hu with rfl | rfl | rfl <;> rfl) (by omega) (by omega) (by have := hb.size; simp; omega) ?_)
                    intro v' w3 hown hg
                    have HT := Lib.hid (lexF_tok (l.length - (p + 1)) (l.length - (p + n)) x (l.drop (p + 1)) p HB.out (by rw [HO.out]; exact hK0) (by rw [List.length_drop]; omega) (by rw [HO.out, HR.out]; omega))
                    go_wp2
                    go_roundw
                    case rel =>
                      refine ⟨p + n, ts ++ [⟨10, p, (x :: l.drop (p + 1)).take n⟩], hpq, by simp; omega, by go_num, ?_, ?_, ?_⟩
                      · rw [List.length_append, tv_snoc]
                        simpa [tc, HS.out] using hown
                      · have h1 := HT.out
                        rw [HO.out] at h1
                        show Lx.lex l = _
                        rw [HL.out, show l.length - p = (l.length - (p + 1)) + 1 by omega, HX.out, h1, ← HX.out, List.drop_drop, pre_pre]
                      · exact (hb.alloc hb.size _).grown hg (by have := hb.size; simp; omega) (by intro j hj; exact (how.lt j hj).1)
                    case measure => first | (simp [intOf]; done) | (simp [intOf]; omega)
                by_cases g3 : (x :: l.drop (p + 1)).take n = [109, 105, 110, 117, 115]
                · as_aux_lemma =>
                    have c0 : (((str l).extract p (p + n)).toList == [111, 114]) = false := by rw [hs0, str_is]; exact decide_eq_false g0
                    have c1 : (((str l).extract p (p + n)).toList == [97, 110, 100]) = false := by rw [hs0, str_is]; exact decide_eq_false g1
                    have c2 : (((str l).extract p (p + n)).toList == [110, 111, 116]) = false := by rw [hs0, str_is]; exact decide_eq_false g2
                    have c3 : (((str l).extract p (p + n)).toList == [109, 105, 110, 117, 115]) = true := by rw [hs0, str_is]; exact decide_eq_true g3
                    have HV : Lx.worded ((x :: l.drop (p + 1)).take n) = 8 := by unfold Lx.worded; rw [if_neg g0, if_neg g1, if_neg g2, if_pos g3]
                    rw [HV] at HO
                    have hK0 : 8 ≠ 0 := by decide
                    clear hs0 HV g0 g1 g2 g3
                    have hs1 : (str l).extract p (p + n) = str ((x :: l.drop (p + 1)).take n) := by rw [sub_str, ← HX.out, List.drop_take, Nat.add_sub_cancel_left]
                    have HS := Lib.hid hs1
                    clear hs1
                    go_wp2_with (at_builtin; refine wpList_append_one _ rfl (.tmp 126) (.tmp 136) 44 rfl w.heap.size 50 i0 _ 3 32 Tryd.underlying44 hi hz0 hz1 hz2 rfl (by decide) _ ts.length (tv ts) rfl (how.alloc _) _ 1 _ _ rfl (heap_alloc_new _ _) rfl (by intro u hu; simp at hu; rcases hu with rfl | rfl | rfl <;> rfl) (by omega) (by omega) (by have := hb.size; simp; omega) ?_)
                    intro v' w3 hown hg
                    have HT := Lib.hid (lexF_tok (l.length - (p + 1)) (l.length - (p + n)) x (l.drop (p + 1)) p HB.out (by rw [HO.out]; exact hK0) (by rw [List.length_drop]; omega) (by rw [HO.out, HR.out]; omega))
                    go_wp2
                    go_roundw
                    case rel =>
                      refine ⟨p + n, ts ++ [⟨8, p, (x :: l.drop (p + 1)).take n⟩], hpq, by simp; omega, by go_num, ?_, ?_, ?_⟩
                      · rw [List.length_append, tv_snoc]
                        simpa [tc, HS.out] using hown
                      · have h1 := HT.out
                        rw [HO.out] at h1
                        show Lx.lex l = _
                        rw [HL.out, show l.length - p = (l.length - (p + 1)) + 1 by omega, HX.out, h1, ← HX.out, List.drop_drop, pre_pre]
                      · exact (hb.alloc hb.size _).grown hg (by have := hb.size; simp; omega) (by intro j hj; exact (how.lt j hj).1)
                    case measure => first | (simp [intOf]; done) | (simp [intOf]; omega)
                have c0 : (((str l).extract p (p + n)).toList == [111, 114]) = false := by rw [hs0, str_is]; exact decide_eq_false g0
                have c1 : (((str l).extract p (p + n)).toList == [97, 110, 100]) = false := by rw [hs0, str_is]; exact decide_eq_false g1
                have c2 : (((str l).extract p (p + n)).toList == [110, 111, 116]) = false := by rw [hs0, str_is]; exact decide_eq_false g2
                have c3 : (((str l).extract p (p + n)).toList == [109, 105, 110, 117, 115]) = false := by rw [hs0, str_is]; exact decide_eq_false g3
                have HV : Lx.worded ((x :: l.drop (p + 1)).take n) = 1 := by unfold Lx.worded; rw [if_neg g0, if_neg g1, if_neg g2, if_neg g3]
                rw [HV] at HO
                have hK0 : 1 ≠ 0 := by decide
                clear hs0 HV g0 g1 g2 g3
                have hs1 : (str l).extract p (p + n) = str ((x :: l.drop (p + 1)).take n) := by rw [sub_str, ← HX.out, List.drop_take, Nat.add_sub_cancel_left]
                have HS := Lib.hid hs1
                clear hs1
                go_wp2_with (at_builtin; refine wpList_append_one _ rfl (.tmp 126) (.tmp 136) 44 rfl w.heap.size 50 i0 _ 3 32 Tryd.underlying44 hi hz0 hz1 hz2 rfl (by decide) _ ts.length (tv ts) rfl (how.alloc _) _ 1 _ _ rfl (heap_alloc_new _ _) rfl (by intro u hu; simp at hu; rcases hu with rfl | rfl | rfl <;> rfl) (by omega) (by omega) (by have := hb.size; simp; omega) ?_)
                intro v' w3 hown hg
                have HT := Lib.hid (lexF_tok (l.length - (p + 1)) (l.length - (p + n)) x (l.drop (p + 1)) p HB.out (by rw [HO.out]; exact hK0) (by rw [List.length_drop]; omega) (by rw [HO.out, HR.out]; omega))
                go_wp2
                go_roundw
                case rel =>
                  refine ⟨p + n, ts ++ [⟨1, p, (x :: l.drop (p + 1)).take n⟩], hpq, by simp; omega, by go_num, ?_, ?_, ?_⟩
                  · rw [List.length_append, tv_snoc]
                    simpa [tc, HS.out] using hown
                  · have h1 := HT.out
                    rw [HO.out] at h1
                    show Lx.lex l = _
                    rw [HL.out, show l.length - p = (l.length - (p + 1)) + 1 by omega, HX.out, h1, ← HX.out, List.drop_drop, pre_pre]
                  · exact (hb.alloc hb.size _).grown hg (by have := hb.size; simp; omega) (by intro j hj; exact (how.lt j hj).1)
                case measure => first | (simp [intOf]; done) | (simp [intOf]; omega)
            · have e1 : decide ((p : Int) + (n : Int) < (l.length : Int)) = false := decide_eq_false (by omega)
              have e2 : decide (p + n < l.length) = false := decide_eq_false hm
              have hwn : Lx.word (x :: l.drop (p + 1)) = n := by rw [HN.out, List.drop_eq_nil_of_le (by omega)]; rfl
              clear HN
              have hn0 : 0 < Lx.word (x :: l.drop (p + 1)) := by omega
              have HO := Lib.hid (show Lx.one (x :: l.drop (p + 1)) = (Lx.worded ((x :: l.drop (p + 1)).take n), n) by unfold Lx.one; rw [if_pos hn0, hwn])
              clear hn0 hwn
              have hs0 : (str l).extract p (p + n) = str ((x :: l.drop (p + 1)).take n) := by rw [sub_str, ← HX.out, List.drop_take, Nat.add_sub_cancel_left]
              have hpq : p + n ≤ l.length := by omega
              by_cases g0 : (x :: l.drop (p + 1)).take n = [111, 114]
              · as_aux_lemma =>
                  have c0 : (((str l).extract p (p + n)).toList == [111, 114]) = true := by rw [hs0, str_is]; exact decide_eq_true g0
                  have HV : Lx.worded ((x :: l.drop (p + 1)).take n) = 7 := by unfold Lx.worded; rw [if_pos g0]
                  rw [HV] at HO
                  have hK0 : 7 ≠ 0 := by decide
                  clear hs0 HV g0
                  have hs1 : (str l).extract p (p + n) = str ((x :: l.drop (p + 1)).take n) := by rw [sub_str, ← HX.out, List.drop_take, Nat.add_sub_cancel_left]
                  have HS := Lib.hid hs1
                  clear hs1
                  go_wp2_with (at_builtin; refine wpList_append_one _ rfl (.tmp 126) (.tmp 136) 44 rfl w.heap.size 50 i0 _ 3 32 Tryd.underlying44 hi hz0 hz1 hz2 rfl (by decide) _ ts.length (tv ts) rfl (how.alloc _) _ 1 _ _ rfl (heap_alloc_new _ _) rfl (by intro u hu; simp at hu; rcases hu with rfl | rfl | rfl <;> rfl) (by omega) (by omega) (by have := hb.size; simp; omega) ?_)
                  intro v' w3 hown hg
                  have HT := Lib.hid (lexF_tok (l.length - (p + 1)) (l.length - (p + n)) x (l.drop (p + 1)) p HB.out (by rw [HO.out]; exact hK0) (by rw [List.length_drop]; omega) (by rw [HO.out, HR.out]; omega))
                  go_wp2
                  go_roundw
                  case rel =>
                    refine ⟨p + n, ts ++ [⟨7, p, (x :: l.drop (p + 1)).take n⟩], hpq, by simp; omega, by go_num, ?_, ?_, ?_⟩
                    · rw [List.length_append, tv_snoc]
                      simpa [tc, HS.out] using hown
                    · have h1 := HT.out
                      rw [HO.out] at h1
                      show Lx.lex l = _
                      rw [HL.out, show l.length - p = (l.length - (p + 1)) + 1 by omega, HX.out, h1, ← HX.out, List.drop_drop, pre_pre]
                    · exact (hb.alloc hb.size _).grown hg (by have := hb.size; simp; omega) (by intro j hj; exact (how.lt j hj).1)
                  case measure => first | (simp [intOf]; done) | (simp [intOf]; omega)
              by_cases g1 : (x :: l.drop (p + 1)).take n = [97, 110, 100]
              · as_aux_lemma =>
                  have c0 : (((str l).extract p (p + n)).toList == [111, 114]) = false := by rw [hs0, str_is]; exact decide_eq_false g0
                  have c1 : (((str l).extract p (p + n)).toList == [97, 110, 100]) = true := by rw [hs0, str_is]; exact decide_eq_true g1
                  have HV : Lx.worded ((x :: l.drop (p + 1)).take n) = 9 := by unfold Lx.worded; rw [if_neg g0, if_pos g1]
                  rw [HV] at HO
                  have hK0 : 9 ≠ 0 := by decide
                  clear hs0 HV g0 g1
                  have hs1 : (str l).extract p (p + n) = str ((x :: l.drop (p + 1)).take n) := by rw [sub_str, ← HX.out, List.drop_take, Nat.add_sub_cancel_left]
                  have HS := Lib.hid hs1
                  clear hs1
                  go_wp2_with (at_builtin; refine wpList_append_one _ rfl (.tmp 126) (.tmp 136) 44 rfl w.heap.size 50 i0 _ 3 32 Tryd.underlying44 hi hz0 hz1 hz2 rfl (by decide) _ ts.length (tv ts) rfl (how.alloc _) _ 1 _ _ rfl (heap_alloc_new _ _) rfl (by intro u hu; simp at hu; rcases hu with rfl | rfl | rfl <;> rfl) (by omega) (by omega) (by have := hb.size; simp; omega) ?_)
                  intro v' w3 hown hg
                  have HT := Lib.hid (lexF_tok (l.length - (p + 1)) (l.length - (p + n)) x (l.drop (p + 1)) p HB.out (by rw [HO.out]; exact hK0) (by rw [List.length_drop]; omega) (by rw [HO.out, HR.out]; omega))
                  go_wp2
                  go_roundw
                  case rel =>
                    refine ⟨p + n, ts ++ [⟨9, p, (x :: l.drop (p + 1)).take n⟩], hpq, by simp; omega, by go_num, ?_, ?_, ?_⟩
                    · rw [List.length_append, tv_snoc]
                      simpa [tc, HS.out] using hown
                    · have h1 := HT.out
                      rw [HO.out] at h1
                      show Lx.lex l = _
                      rw [HL.out, show l.length - p = (l.length - (p + 1)) + 1 by omega, HX.out, h1, ← HX.out, List.drop_drop, pre_pre]
                    · exact (hb.alloc hb.size _).grown hg (by have := hb.size; simp; omega) (by intro j hj; exact (how.lt j hj).1)
                  case measure => first | (simp [intOf]; done) | (simp [intOf]; omega)
              by_cases g2 : (x :: l.drop (p + 1)).take n = [110, 111, 116]
              · as_aux_lemma =>
                  have c0 : (((str l).extract p (p + n)).toList == [111, 114]) = false := by rw [hs0, str_is]; exact decide_eq_false g0
                  have c1 : (((str l).extract p (p + n)).toList == [97, 110, 100]) = false := by rw [hs0, str_is]; exact decide_eq_false g1
                  have c2 : (((str l).extract p (p + n)).toList == [110, 111, 116]) = true := by rw [hs0, str_is]; exact decide_eq_true g2
                  have HV : Lx.worded ((x :: l.drop (p + 1)).take n) = 10 := by unfold Lx.worded; rw [if_neg g0, if_neg g1, if_pos g2]
                  rw [HV] at HO
                  have hK0 : 10 ≠ 0 := by decide
                  clear hs0 HV g0 g1 g2
                  have hs1 : (str l).extract p (p + n) = str ((x :: l.drop (p + 1)).take n) := by rw [sub_str, ← HX.out, List.drop_take, Nat.add_sub_cancel_left]
                  have HS := Lib.hid hs1
                  clear hs1
                  go_wp2_with (at_builtin; refine wpList_append_one _ rfl (.tmp 126) (.tmp 136) 44 rfl w.heap.size 50 i0 _ 3 32 Tryd.underlying44 hi hz0 hz1 hz2 rfl (by decide) _ ts.length (tv ts) rfl (how.alloc _) _ 1 _ _ rfl (heap_alloc_new _ _) rfl (by intro u hu; simp at hu; rcases hu with rfl | rfl | rfl <;> rfl) (by omega) (by omega) (by have := hb.size; simp; omega) ?_)
                  intro v' w3 hown hg
                  have HT := Lib.hid (lexF_tok (l.length - (p + 1)) (l.length - (p + n)) x (l.drop (p + 1)) p HB.out (by rw [HO.out]; exact hK0) (by rw [List.length_drop]; omega) (by rw [HO.out, HR.out]; omega))
                  go_wp2
                  go_roundw
                  case rel =>
                    refine ⟨p + n, ts ++ [⟨10, p, (x :: l.drop (p + 1)).take n⟩], hpq, by simp; omega, by go_num, ?_, ?_, ?_⟩
                    · rw [List.length_append, tv_snoc]
                      simpa [tc, HS.out] using hown
                    · have h1 := HT.out
                      rw [HO.out] at h1
                      show Lx.lex l = _
                      rw [HL.out, show l.length - p = (l.length - (p + 1)) + 1 by omega, HX.out, h1, ← HX.out, List.drop_drop, pre_pre]
                    · exact (hb.alloc hb.size _).grown hg (by have := hb.size; simp; omega) (by intro j hj; exact (how.lt j hj).1)
                  case measure => first | (simp [intOf]; done) | (simp [intOf]; omega)
              by_cases g3 : (x :: l.drop (p + 1)).take n = [109, 105, 110, 117, 115]
              · as_aux_lemma =>
                  have c0 : (((str l).extract p (p + n)).toList == [111, 114]) = false := by rw [hs0, str_is]; exact decide_eq_false g0
                  have c1 : (((str l).extract p (p + n)).toList == [97, 110, 100]) = false := by rw [hs0, str_is]; exact decide_eq_false g1
                  have c2 : (((str l).extract p (p + n)).toList == [110, 111, 116]) = false := by rw [hs0, str_is]; exact decide_eq_false g2
                  have c3 : (((str l).extract p (p + n)).toList == [109, 105, 110, 117, 115]) = true := by rw [hs0, str_is]; exact decide_eq_true g3
                  have HV : Lx.worded ((x :: l.drop (p + 1)).take n) = 8 := by unfold Lx.worded; rw [if_neg g0, if_neg g1, if_neg g2, if_pos g3]
                  rw [HV] at HO
                  have hK0 : 8 ≠ 0 := by decide
                  clear hs0 HV g0 g1 g2 g3
                  have hs1 : (str l).extract p (p + n) = str ((x :: l.drop (p + 1)).take n) := by rw [sub_str, ← HX.out, List.drop_take, Nat.add_sub_cancel_left]
                  have HS := Lib.hid hs1
                  clear hs1
                  go_wp2_with (at_builtin; refine wpList_append_one _ rfl (.tmp 126) (.tmp 136) 44 rfl w.heap.size 50 i0 _ 3 32 Tryd.underlying44 hi hz0 hz1 hz2 rfl (by decide) _ ts.length (tv ts) rfl (how.alloc _) _ 1 _ _ rfl (heap_alloc_new _ _) rfl (by intro u hu; simp at hu; rcases hu with rfl | rfl | rfl <;> rfl) (by omega) (by omega) (by have := hb.size; simp; omega) ?_)
                  intro v' w3 hown hg
                  have HT := Lib.hid (lexF_tok (l.length - (p + 1)) (l.length - (p + n)) x (l.drop (p + 1)) p HB.out (by rw [HO.out]; exact hK0) (by rw [List.length_drop]; omega) (by rw [HO.out, HR.out]; omega))
                  go_wp2
                  go_roundw
                  case rel =>
                    refine ⟨p + n, ts ++ [⟨8, p, (x :: l.drop (p + 1)).take n⟩], hpq, by simp; omega, by go_num, ?_, ?_, ?_⟩
                    · rw [List.length_append, tv_snoc]
                      simpa [tc, HS.out] using hown
                    · have h1 := HT.out
                      rw [HO.out] at h1
                      show Lx.lex l = _
                      rw [HL.out, show l.length - p = (l.length - (p + 1)) + 1 by omega, HX.out, h1, ← HX.out, List.drop_drop, pre_pre]
                    · exact (hb.alloc hb.size _).grown hg (by have := hb.size; simp; omega) (by intro j hj; exact (how.lt j hj).1)
                  case measure => first | (simp [intOf]; done) | (simp [intOf]; omega)
              have c0 : (((str l).extract p (p + n)).toList == [111, 114]) = false := by rw [hs0, str_is]; exact decide_eq_false g0
              have c1 : (((str l).extract p (p + n)).toList == [97, 110, 100]) = false := by rw [hs0, str_is]; exact decide_eq_false g1
              have c2 : (((str l).extract p (p + n)).toList == [110, 111, 116]) = false := by rw [hs0, str_is]; exact decide_eq_false g2
              have c3 : (((str l).extract p (p + n)).toList == [109, 105, 110, 117, 115]) = false := by rw [hs0, str_is]; exact decide_eq_false g3
              have HV : Lx.worded ((x :: l.drop (p + 1)).take n) = 1 := by unfold Lx.worded; rw [if_neg g0, if_neg g1, if_neg g2, if_neg g3]
              rw [HV] at HO
              have hK0 : 1 ≠ 0 := by decide
              clear hs0 HV g0 g1 g2 g3
              have hs1 : (str l).extract p (p + n) = str ((x :: l.drop (p + 1)).take n) := by rw [sub_str, ← HX.out, List.drop_take, Nat.add_sub_cancel_left]
              have HS := Lib.hid hs1
              clear hs1
              go_wp2_with (at_builtin; refine wpList_append_one _ rfl (.tmp 126) (.tmp 136) 44 rfl w.heap.size 50 i0 _ 3 32 Tryd.underlying44 hi hz0 hz1 hz2 rfl (by decide) _ ts.length (tv ts) rfl (how.alloc _) _ 1 _ _ rfl (heap_alloc_new _ _) rfl (by intro u hu; simp at hu; rcases hu with rfl | rfl | rfl <;> rfl) (by omega) (by omega) (by have := hb.size; simp; omega) ?_)
              intro v' w3 hown hg
              have HT := Lib.hid (lexF_tok (l.length - (p + 1)) (l.length - (p + n)) x (l.drop (p + 1)) p HB.out (by rw [HO.out]; exact hK0) (by rw [List.length_drop]; omega) (by rw [HO.out, HR.out]; omega))
              go_wp2
              go_roundw
              case rel =>
                refine ⟨p + n, ts ++ [⟨1, p, (x :: l.drop (p + 1)).take n⟩], hpq, by simp; omega, by go_num, ?_, ?_, ?_⟩
                · rw [List.length_append, tv_snoc]
                  simpa [tc, HS.out] using hown
                · have h1 := HT.out
                  rw [HO.out] at h1
                  show Lx.lex l = _
                  rw [HL.out, show l.length - p = (l.length - (p + 1)) + 1 by omega, HX.out, h1, ← HX.out, List.drop_drop, pre_pre]
                · exact (hb.alloc hb.size _).grown hg (by have := hb.size; simp; omega) (by intro j hj; exact (how.lt j hj).1)
              case measure => first | (simp [intOf]; done) | (simp [intOf]; omega)
        | false =>
          have HLT := Lib.hid hlx
          have hw := ways x (l.drop (p + 1)) hbx hlx
          clear hbx hlx
          have t32 : ((x.toNat : Int) == 32) = false := (byte_is x 32).trans (decide_eq_false hn32.1)
          have t9 : ((x.toNat : Int) == 9) = false := (byte_is x 9).trans (decide_eq_false hn32.2.1)
          have t10 : ((x.toNat : Int) == 10) = false := (byte_is x 10).trans (decide_eq_false hn32.2.2)
          clear hn32
          go_wp2_with fail
          refine (wordByte_any _ x).mono ?_
          rw [HLT.out]
          rintro e w' ⟨rfl, rfl⟩
          rcases hw with ⟨hx0, ⟨y, s, hr, hy⟩, ho⟩ | ⟨hx0, hny, ho⟩ | ⟨hx0, ⟨y, s, hr, hy⟩, ho⟩ | ⟨hx0, hny, ho⟩ | ⟨hx0, ho⟩ | ⟨hx0, ho⟩ | ⟨hx0, ho⟩ | ⟨hx0, ho⟩ | ⟨hx0, ho⟩ | ⟨hx0, ho⟩ | ⟨hx0, ho⟩ | ⟨hx0, ho⟩ | ⟨hx0, ho⟩
          · as_aux_lemma =>
              have hnx : p + 1 < l.length := by have := congrArg List.length hr; rw [List.length_drop, List.length_cons] at this; omega
              have HO := Lib.hid ho
              clear ho
              have t58 : ((x.toNat : Int) == 58) = true := (byte_is x 58).trans (decide_eq_true (by subst hx0; decide))
              have t46 : ((x.toNat : Int) == 46) = false := (byte_is x 46).trans (decide_eq_false (by subst hx0; decide))
              have t40 : ((x.toNat : Int) == 40) = false := (byte_is x 40).trans (decide_eq_false (by subst hx0; decide))
              have t41 : ((x.toNat : Int) == 41) = false := (byte_is x 41).trans (decide_eq_false (by subst hx0; decide))
              have t44 : ((x.toNat : Int) == 44) = false := (byte_is x 44).trans (decide_eq_false (by subst hx0; decide))
              have t43 : ((x.toNat : Int) == 43) = false := (byte_is x 43).trans (decide_eq_false (by subst hx0; decide))
              have t124 : ((x.toNat : Int) == 124) = false := (byte_is x 124).trans (decide_eq_false (by subst hx0; decide))
              have t45 : ((x.toNat : Int) == 45) = false := (byte_is x 45).trans (decide_eq_false (by subst hx0; decide))
              have t38 : ((x.toNat : Int) == 38) = false := (byte_is x 38).trans (decide_eq_false (by subst hx0; decide))
              have t33 : ((x.toNat : Int) == 33) = false := (byte_is x 33).trans (decide_eq_false (by subst hx0; decide))
              clear hx0
              have hK0 : 5 ≠ 0 := by decide
              have hpq : p + 2 ≤ l.length := by omega
              have e1 : decide ((p : Int) + 1 < (l.length : Int)) = true := decide_eq_true (by omega)
              have e2 : decide (p + 1 < l.length) = true := decide_eq_true (by omega)
              have e3 : p + 1 < l.length := by omega
              have e4 : (p : Int) + 1 < (l.length : Int) := by omega
              have hiy : (str l)[p + 1]'(by rw [hsz]; exact e3) = y := by (show l[p + 1]'e3 = y; have h := List.drop_eq_getElem_cons e3; rw [hr] at h; exact (List.cons.inj h).1.symm)
              have ty : ((y.toNat : Int) == 58) = true := (byte_is y 58).trans (decide_eq_true hy)
              clear hy hr
              have hs1 : (str l).extract p (p + 2) = str ((x :: l.drop (p + 1)).take 2) := by rw [sub_str, ← HX.out, List.drop_take, Nat.add_sub_cancel_left]
              have HS := Lib.hid hs1
              clear hs1
              go_wp2_with (at_builtin; refine wpList_append_one _ rfl (.tmp 126) (.tmp 136) 44 rfl w.heap.size 50 i0 _ 3 32 Tryd.underlying44 hi hz0 hz1 hz2 rfl (by decide) _ ts.length (tv ts) rfl (how.alloc _) _ 1 _ _ rfl (heap_alloc_new _ _) rfl (by intro u hu; simp at hu; rcases hu with rfl | rfl | rfl <;> rfl) (by omega) (by omega) (by have := hb.size; simp; omega) ?_)
              intro v' w3 hown hg
              have HT := Lib.hid (lexF_tok (l.length - (p + 1)) (l.length - (p + 2)) x (l.drop (p + 1)) p HB.out (by rw [HO.out]; exact hK0) (by rw [List.length_drop]; omega) (by rw [HO.out, HR.out]; omega))
              go_wp2
              go_roundw
              case rel =>
                refine ⟨p + 2, ts ++ [⟨5, p, (x :: l.drop (p + 1)).take 2⟩], hpq, by simp; omega, by go_num, ?_, ?_, ?_⟩
                · rw [List.length_append, tv_snoc]
                  simpa [tc, HS.out] using hown
                · have h1 := HT.out
                  rw [HO.out] at h1
                  show Lx.lex l = _
                  rw [HL.out, show l.length - p = (l.length - (p + 1)) + 1 by omega, HX.out, h1, ← HX.out, List.drop_drop, pre_pre]
                · exact (hb.alloc hb.size _).grown hg (by have := hb.size; simp; omega) (by intro j hj; exact (how.lt j hj).1)
              case measure => first | (simp [intOf]; done) | (simp [intOf]; omega)
          · have HO0 := Lib.hid ho
            clear ho
            have t58 : ((x.toNat : Int) == 58) = true := (byte_is x 58).trans (decide_eq_true (by subst hx0; decide))
            have t46 : ((x.toNat : Int) == 46) = false := (byte_is x 46).trans (decide_eq_false (by subst hx0; decide))
            have t40 : ((x.toNat : Int) == 40) = false := (byte_is x 40).trans (decide_eq_false (by subst hx0; decide))
            have t41 : ((x.toNat : Int) == 41) = false := (byte_is x 41).trans (decide_eq_false (by subst hx0; decide))
            have t44 : ((x.toNat : Int) == 44) = false := (byte_is x 44).trans (decide_eq_false (by subst hx0; decide))
            have t43 : ((x.toNat : Int) == 43) = false := (byte_is x 43).trans (decide_eq_false (by subst hx0; decide))
            have t124 : ((x.toNat : Int) == 124) = false := (byte_is x 124).trans (decide_eq_false (by subst hx0; decide))
            have t45 : ((x.toNat : Int) == 45) = false := (byte_is x 45).trans (decide_eq_false (by subst hx0; decide))
            have t38 : ((x.toNat : Int) == 38) = false := (byte_is x 38).trans (decide_eq_false (by subst hx0; decide))
            have t33 : ((x.toNat : Int) == 33) = false := (byte_is x 33).trans (decide_eq_false (by subst hx0; decide))
            clear hx0
            by_cases hnx : p + 1 < l.length
            · as_aux_lemma =>
                have e1 : decide ((p : Int) + 1 < (l.length : Int)) = true := decide_eq_true (by omega)
                have e2 : decide (p + 1 < l.length) = true := decide_eq_true (by omega)
                have e3 : p + 1 < l.length := by omega
                have e4 : (p : Int) + 1 < (l.length : Int) := by omega
                obtain ⟨y, s, hr⟩ : ∃ y s, l.drop (p + 1) = y :: s := ⟨_, _, List.drop_eq_getElem_cons hnx⟩
                have hy := hny y s hr
                have hiy : (str l)[p + 1]'(by rw [hsz]; exact e3) = y := by (show l[p + 1]'e3 = y; have h := List.drop_eq_getElem_cons e3; rw [hr] at h; exact (List.cons.inj h).1.symm)
                have ty : ((y.toNat : Int) == 58) = false := (byte_is y 58).trans (decide_eq_false hy)
                clear hy hr hny
                go_wp2
                go_ret3
                have HE : Lx.lex l = .error p := by rw [HL.out, HX.out, show l.length - p = (l.length - (p + 1)) + 1 by omega, lexF_bad _ _ _ _ HB.out HO0.out]; rfl
                rw [HE]
                exact ⟨hb, rfl⟩
            · as_aux_lemma =>
                clear hny
                have e1 : decide ((p : Int) + 1 < (l.length : Int)) = false := decide_eq_false (by omega)
                have e2 : decide (p + 1 < l.length) = false := decide_eq_false (by omega)
                go_wp2
                go_ret3
                have HE : Lx.lex l = .error p := by rw [HL.out, HX.out, show l.length - p = (l.length - (p + 1)) + 1 by omega, lexF_bad _ _ _ _ HB.out HO0.out]; rfl
                rw [HE]
                exact ⟨hb, rfl⟩
          · as_aux_lemma =>
              have hnx : p + 1 < l.length := by have := congrArg List.length hr; rw [List.length_drop, List.length_cons] at this; omega
              have HO := Lib.hid ho
              clear ho
              have t58 : ((x.toNat : Int) == 58) = false := (byte_is x 58).trans (decide_eq_false (by subst hx0; decide))
              have t46 : ((x.toNat : Int) == 46) = true := (byte_is x 46).trans (decide_eq_true (by subst hx0; decide))
              have t40 : ((x.toNat : Int) == 40) = false := (byte_is x 40).trans (decide_eq_false (by subst hx0; decide))
              have t41 : ((x.toNat : Int) == 41) = false := (byte_is x 41).trans (decide_eq_false (by subst hx0; decide))
              have t44 : ((x.toNat : Int) == 44) = false := (byte_is x 44).trans (decide_eq_false (by subst hx0; decide))
              have t43 : ((x.toNat : Int) == 43) = false := (byte_is x 43).trans (decide_eq_false (by subst hx0; decide))
              have t124 : ((x.toNat : Int) == 124) = false := (byte_is x 124).trans (decide_eq_false (by subst hx0; decide))
              have t45 : ((x.toNat : Int) == 45) = false := (byte_is x 45).trans (decide_eq_false (by subst hx0; decide))
              have t38 : ((x.toNat : Int) == 38) = false := (byte_is x 38).trans (decide_eq_false (by subst hx0; decide))
              have t33 : ((x.toNat : Int) == 33) = false := (byte_is x 33).trans (decide_eq_false (by subst hx0; decide))
              clear hx0
              have hK0 : 6 ≠ 0 := by decide
              have hpq : p + 2 ≤ l.length := by omega
              have e1 : decide ((p : Int) + 1 < (l.length : Int)) = true := decide_eq_true (by omega)
              have e2 : decide (p + 1 < l.length) = true := decide_eq_true (by omega)
              have e3 : p + 1 < l.length := by omega
              have e4 : (p : Int) + 1 < (l.length : Int) := by omega
              have hiy : (str l)[p + 1]'(by rw [hsz]; exact e3) = y := by (show l[p + 1]'e3 = y; have h := List.drop_eq_getElem_cons e3; rw [hr] at h; exact (List.cons.inj h).1.symm)
              have ty : ((y.toNat : Int) == 46) = true := (byte_is y 46).trans (decide_eq_true hy)
              clear hy hr
              have hs1 : (str l).extract p (p + 2) = str ((x :: l.drop (p + 1)).take 2) := by rw [sub_str, ← HX.out, List.drop_take, Nat.add_sub_cancel_left]
              have HS := Lib.hid hs1
              clear hs1
              go_wp2_with (at_builtin; refine wpList_append_one _ rfl (.tmp 126) (.tmp 136) 44 rfl w.heap.size 50 i0 _ 3 32 Tryd.underlying44 hi hz0 hz1 hz2 rfl (by decide) _ ts.length (tv ts) rfl (how.alloc _) _ 1 _ _ rfl (heap_alloc_new _ _) rfl (by intro u hu; simp at hu; rcases hu with rfl | rfl | rfl <;> rfl) (by omega) (by omega) (by have := hb.size; simp; omega) ?_)
              intro v' w3 hown hg
              have HT := Lib.hid (lexF_tok (l.length - (p + 1)) (l.length - (p + 2)) x (l.drop (p + 1)) p HB.out (by rw [HO.out]; exact hK0) (by rw [List.length_drop]; omega) (by rw [HO.out, HR.out]; omega))
              go_wp2
              go_roundw
              case rel =>
                refine ⟨p + 2, ts ++ [⟨6, p, (x :: l.drop (p + 1)).take 2⟩], hpq, by simp; omega, by go_num, ?_, ?_, ?_⟩
                · rw [List.length_append, tv_snoc]
                  simpa [tc, HS.out] using hown
                · have h1 := HT.out
                  rw [HO.out] at h1
                  show Lx.lex l = _
                  rw [HL.out, show l.length - p = (l.length - (p + 1)) + 1 by omega, HX.out, h1, ← HX.out, List.drop_drop, pre_pre]
                · exact (hb.alloc hb.size _).grown hg (by have := hb.size; simp; omega) (by intro j hj; exact (how.lt j hj).1)
              case measure => first | (simp [intOf]; done) | (simp [intOf]; omega)
          · have HO0 := Lib.hid ho
            clear ho
            have t58 : ((x.toNat : Int) == 58) = false := (byte_is x 58).trans (decide_eq_false (by subst hx0; decide))
            have t46 : ((x.toNat : Int) == 46) = true := (byte_is x 46).trans (decide_eq_true (by subst hx0; decide))
            have t40 : ((x.toNat : Int) == 40) = false := (byte_is x 40).trans (decide_eq_false (by subst hx0; decide))
            have t41 : ((x.toNat : Int) == 41) = false := (byte_is x 41).trans (decide_eq_false (by subst hx0; decide))
            have t44 : ((x.toNat : Int) == 44) = false := (byte_is x 44).trans (decide_eq_false (by subst hx0; decide))
            have t43 : ((x.toNat : Int) == 43) = false := (byte_is x 43).trans (decide_eq_false (by subst hx0; decide))
            have t124 : ((x.toNat : Int) == 124) = false := (byte_is x 124).trans (decide_eq_false (by subst hx0; decide))
            have t45 : ((x.toNat : Int) == 45) = false := (byte_is x 45).trans (decide_eq_false (by subst hx0; decide))
            have t38 : ((x.toNat : Int) == 38) = false := (byte_is x 38).trans (decide_eq_false (by subst hx0; decide))
            have t33 : ((x.toNat : Int) == 33) = false := (byte_is x 33).trans (decide_eq_false (by subst hx0; decide))
            clear hx0
            by_cases hnx : p + 1 < l.length
            · as_aux_lemma =>
                have e1 : decide ((p : Int) + 1 < (l.length : Int)) = true := decide_eq_true (by omega)
                have e2 : decide (p + 1 < l.length) = true := decide_eq_true (by omega)
                have e3 : p + 1 < l.length := by omega
                have e4 : (p : Int) + 1 < (l.length : Int) := by omega
                obtain ⟨y, s, hr⟩ : ∃ y s, l.drop (p + 1) = y :: s := ⟨_, _, List.drop_eq_getElem_cons hnx⟩
                have hy := hny y s hr
                have hiy : (str l)[p + 1]'(by rw [hsz]; exact e3) = y := by (show l[p + 1]'e3 = y; have h := List.drop_eq_getElem_cons e3; rw [hr] at h; exact (List.cons.inj h).1.symm)
                have ty : ((y.toNat : Int) == 46) = false := (byte_is y 46).trans (decide_eq_false hy)
                clear hy hr hny
                go_wp2
                go_ret3
                have HE : Lx.lex l = .error p := by rw [HL.out, HX.out, show l.length - p = (l.length - (p + 1)) + 1 by omega, lexF_bad _ _ _ _ HB.out HO0.out]; rfl
                rw [HE]
                exact ⟨hb, rfl⟩
            · as_aux_lemma =>
                clear hny
                have e1 : decide ((p : Int) + 1 < (l.length : Int)) = false := decide_eq_false (by omega)
                have e2 : decide (p + 1 < l.length) = false := decide_eq_false (by omega)
                go_wp2
                go_ret3
                have HE : Lx.lex l = .error p := by rw [HL.out, HX.out, show l.length - p = (l.length - (p + 1)) + 1 by omega, lexF_bad _ _ _ _ HB.out HO0.out]; rfl
                rw [HE]
                exact ⟨hb, rfl⟩
          · have HO := Lib.hid ho
            clear ho
            have t58 : ((x.toNat : Int) == 58) = false := (byte_is x 58).trans (decide_eq_false (by subst hx0; decide))
            have t46 : ((x.toNat : Int) == 46) = false := (byte_is x 46).trans (decide_eq_false (by subst hx0; decide))
            have t40 : ((x.toNat : Int) == 40) = true := (byte_is x 40).trans (decide_eq_true (by subst hx0; decide))
            have t41 : ((x.toNat : Int) == 41) = false := (byte_is x 41).trans (decide_eq_false (by subst hx0; decide))
            have t44 : ((x.toNat : Int) == 44) = false := (byte_is x 44).trans (decide_eq_false (by subst hx0; decide))
            have t43 : ((x.toNat : Int) == 43) = false := (byte_is x 43).trans (decide_eq_false (by subst hx0; decide))
            have t124 : ((x.toNat : Int) == 124) = false := (byte_is x 124).trans (decide_eq_false (by subst hx0; decide))
            have t45 : ((x.toNat : Int) == 45) = false := (byte_is x 45).trans (decide_eq_false (by subst hx0; decide))
            have t38 : ((x.toNat : Int) == 38) = false := (byte_is x 38).trans (decide_eq_false (by subst hx0; decide))
            have t33 : ((x.toNat : Int) == 33) = false := (byte_is x 33).trans (decide_eq_false (by subst hx0; decide))
            clear hx0
            have hK0 : 2 ≠ 0 := by decide
            have hpq : p + 1 ≤ l.length := by omega
            by_cases hnx : p + 1 < l.length
            · as_aux_lemma =>
                have e1 : decide ((p : Int) + 1 < (l.length : Int)) = true := decide_eq_true (by omega)
                have e2 : decide (p + 1 < l.length) = true := decide_eq_true (by omega)
                have e3 : p + 1 < l.length := by omega
                have e4 : (p : Int) + 1 < (l.length : Int) := by omega
                have hs1 : (str l).extract p (p + 1) = str ((x :: l.drop (p + 1)).take 1) := by rw [sub_str, ← HX.out, List.drop_take, Nat.add_sub_cancel_left]
                have HS := Lib.hid hs1
                clear hs1
                go_wp2_with (at_builtin; refine wpList_append_one _ rfl (.tmp 126) (.tmp 136) 44 rfl w.heap.size 50 i0 _ 3 32 Tryd.underlying44 hi hz0 hz1 hz2 rfl (by decide) _ ts.length (tv ts) rfl (how.alloc _) _ 1 _ _ rfl (heap_alloc_new _ _) rfl (by intro u hu; simp at hu; rcases hu with rfl | rfl | rfl <;> rfl) (by omega) (by omega) (by have := hb.size; simp; omega) ?_)
                intro v' w3 hown hg
                have HT := Lib.hid (lexF_tok (l.length - (p + 1)) (l.length - (p + 1)) x (l.drop (p + 1)) p HB.out (by rw [HO.out]; exact hK0) (by rw [List.length_drop]; omega) (by rw [HO.out, HR.out]; omega))
                go_wp2
                go_roundw
                case rel =>
                  refine ⟨p + 1, ts ++ [⟨2, p, (x :: l.drop (p + 1)).take 1⟩], hpq, by simp; omega, by go_num, ?_, ?_, ?_⟩
                  · rw [List.length_append, tv_snoc]
                    simpa [tc, HS.out] using hown
                  · have h1 := HT.out
                    rw [HO.out] at h1
                    show Lx.lex l = _
                    rw [HL.out, show l.length - p = (l.length - (p + 1)) + 1 by omega, HX.out, h1, ← HX.out, List.drop_drop, pre_pre]
                  · exact (hb.alloc hb.size _).grown hg (by have := hb.size; simp; omega) (by intro j hj; exact (how.lt j hj).1)
                case measure => first | (simp [intOf]; done) | (simp [intOf]; omega)
            · as_aux_lemma =>
                have e1 : decide ((p : Int) + 1 < (l.length : Int)) = false := decide_eq_false (by omega)
                have e2 : decide (p + 1 < l.length) = false := decide_eq_false (by omega)
                have hs1 : (str l).extract p (p + 1) = str ((x :: l.drop (p + 1)).take 1) := by rw [sub_str, ← HX.out, List.drop_take, Nat.add_sub_cancel_left]
                have HS := Lib.hid hs1
                clear hs1
                go_wp2_with (at_builtin; refine wpList_append_one _ rfl (.tmp 126) (.tmp 136) 44 rfl w.heap.size 50 i0 _ 3 32 Tryd.underlying44 hi hz0 hz1 hz2 rfl (by decide) _ ts.length (tv ts) rfl (how.alloc _) _ 1 _ _ rfl (heap_alloc_new _ _) rfl (by intro u hu; simp at hu; rcases hu with rfl | rfl | rfl <;> rfl) (by omega) (by omega) (by have := hb.size; simp; omega) ?_)
                intro v' w3 hown hg
                have HT := Lib.hid (lexF_tok (l.length - (p + 1)) (l.length - (p + 1)) x (l.drop (p + 1)) p HB.out (by rw [HO.out]; exact hK0) (by rw [List.length_drop]; omega) (by rw [HO.out, HR.out]; omega))
                go_wp2
                go_roundw
                case rel =>
                  refine ⟨p + 1, ts ++ [⟨2, p, (x :: l.drop (p + 1)).take 1⟩], hpq, by simp; omega, by go_num, ?_, ?_, ?_⟩
                  · rw [List.length_append, tv_snoc]
                    simpa [tc, HS.out] using hown
                  · have h1 := HT.out
                    rw [HO.out] at h1
                    show Lx.lex l = _
                    rw [HL.out, show l.length - p = (l.length - (p + 1)) + 1 by omega, HX.out, h1, ← HX.out, List.drop_drop, pre_pre]
                  · exact (hb.alloc hb.size _).grown hg (by have := hb.size; simp; omega) (by intro j hj; exact (how.lt j hj).1)
                case measure => first | (simp [intOf]; done) | (simp [intOf]; omega)
          · have HO := Lib.hid ho
            clear ho
            have t58 : ((x.toNat : Int) == 58) = false := (byte_is x 58).trans (decide_eq_false (by subst hx0; decide))
            have t46 : ((x.toNat : Int) == 46) = false := (byte_is x 46).trans (decide_eq_false (by subst hx0; decide))
            have t40 : ((x.toNat : Int) == 40) = false := (byte_is x 40).trans (decide_eq_false (by subst hx0; decide))
            have t41 : ((x.toNat : Int) == 41) = true := (byte_is x 41).trans (decide_eq_true (by subst hx0; decide))
            have t44 : ((x.toNat : Int) == 44) = false := (byte_is x 44).trans (decide_eq_false (by subst hx0; decide))
            have t43 : ((x.toNat : Int) == 43) = false := (byte_is x 43).trans (decide_eq_false (by subst hx0; decide))
            have t124 : ((x.toNat : Int) == 124) = false := (byte_is x 124).trans (decide_eq_false (by subst hx0; decide))
            have t45 : ((x.toNat : Int) == 45) = false := (byte_is x 45).trans (decide_eq_false (by subst hx0; decide))
            have t38 : ((x.toNat : Int) == 38) = false := (byte_is x 38).trans (decide_eq_false (by subst hx0; decide))
            have t33 : ((x.toNat : Int) == 33) = false := (byte_is x 33).trans (decide_eq_false (by subst hx0; decide))
            clear hx0
            have hK0 : 3 ≠ 0 := by decide
            have hpq : p + 1 ≤ l.length := by omega
            by_cases hnx : p + 1 < l.length
            · as_aux_lemma =>
                have e1 : decide ((p : Int) + 1 < (l.length : Int)) = true := decide_eq_true (by omega)
                have e2 : decide (p + 1 < l.length) = true := decide_eq_true (by omega)
                have e3 : p + 1 < l.length := by omega
                have e4 : (p : Int) + 1 < (l.length : Int) := by omega
                have hs1 : (str l).extract p (p + 1) = str ((x :: l.drop (p + 1)).take 1) := by rw [sub_str, ← HX.out, List.drop_take, Nat.add_sub_cancel_left]
                have HS := Lib.hid hs1
                clear hs1
                go_wp2_with (at_builtin; refine wpList_append_one _ rfl (.tmp 126) (.tmp 136) 44 rfl w.heap.size 50 i0 _ 3 32 Tryd.underlying44 hi hz0 hz1 hz2 rfl (by decide) _ ts.length (tv ts) rfl (how.alloc _) _ 1 _ _ rfl (heap_alloc_new _ _) rfl (by intro u hu; simp at hu; rcases hu with rfl | rfl | rfl <;> rfl) (by omega) (by omega) (by have := hb.size; simp; omega) ?_)
                intro v' w3 hown hg
                have HT := Lib.hid (lexF_tok (l.length - (p + 1)) (l.length - (p + 1)) x (l.drop (p + 1)) p HB.out (by rw [HO.out]; exact hK0) (by rw [List.length_drop]; omega) (by rw [HO.out, HR.out]; omega))
                go_wp2
                go_roundw
                case rel =>
                  refine ⟨p + 1, ts ++ [⟨3, p, (x :: l.drop (p + 1)).take 1⟩], hpq, by simp; omega, by go_num, ?_, ?_, ?_⟩
                  · rw [List.length_append, tv_snoc]
                    simpa [tc, HS.out] using hown
                  · have h1 := HT.out
                    rw [HO.out] at h1
                    show Lx.lex l = _
                    rw [HL.out, show l.length - p = (l.length - (p + 1)) + 1 by omega, HX.out, h1, ← HX.out, List.drop_drop, pre_pre]
                  · exact (hb.alloc hb.size _).grown hg (by have := hb.size; simp; omega) (by intro j hj; exact (how.lt j hj).1)
                case measure => first | (simp [intOf]; done) | (simp [intOf]; omega)
            · as_aux_lemma =>
                have e1 : decide ((p : Int) + 1 < (l.length : Int)) = false := decide_eq_false (by omega)
                have e2 : decide (p + 1 < l.length) = false := decide_eq_false (by omega)
                have hs1 : (str l).extract p (p + 1) = str ((x :: l.drop (p + 1)).take 1) := by rw [sub_str, ← HX.out, List.drop_take, Nat.add_sub_cancel_left]
                have HS := Lib.hid hs1
                clear hs1
                go_wp2_with (at_builtin; refine wpList_append_one _ rfl (.tmp 126) (.tmp 136) 44 rfl w.heap.size 50 i0 _ 3 32 Tryd.underlying44 hi hz0 hz1 hz2 rfl (by decide) _ ts.length (tv ts) rfl (how.alloc _) _ 1 _ _ rfl (heap_alloc_new _ _) rfl (by intro u hu; simp at hu; rcases hu with rfl | rfl | rfl <;> rfl) (by omega) (by omega) (by have := hb.size; simp; omega) ?_)
                intro v' w3 hown hg
                have HT := Lib.hid (lexF_tok (l.length - (p + 1)) (l.length - (p + 1)) x (l.drop (p + 1)) p HB.out (by rw [HO.out]; exact hK0) (by rw [List.length_drop]; omega) (by rw [HO.out, HR.out]; omega))
                go_wp2
                go_roundw
                case rel =>
                  refine ⟨p + 1, ts ++ [⟨3, p, (x :: l.drop (p + 1)).take 1⟩], hpq, by simp; omega, by go_num, ?_, ?_, ?_⟩
                  · rw [List.length_append, tv_snoc]
                    simpa [tc, HS.out] using hown
                  · have h1 := HT.out
                    rw [HO.out] at h1
                    show Lx.lex l = _
                    rw [HL.out, show l.length - p = (l.length - (p + 1)) + 1 by omega, HX.out, h1, ← HX.out, List.drop_drop, pre_pre]
                  · exact (hb.alloc hb.size _).grown hg (by have := hb.size; simp; omega) (by intro j hj; exact (how.lt j hj).1)
                case measure => first | (simp [intOf]; done) | (simp [intOf]; omega)
          · have HO := Lib.hid ho
            clear ho
            have t58 : ((x.toNat : Int) == 58) = false := (byte_is x 58).trans (decide_eq_false (by subst hx0; decide))
            have t46 : ((x.toNat : Int) == 46) = false := (byte_is x 46).trans (decide_eq_false (by subst hx0; decide))
            have t40 : ((x.toNat : Int) == 40) = false := (byte_is x 40).trans (decide_eq_false (by subst hx0; decide))
            have t41 : ((x.toNat : Int) == 41) = false := (byte_is x 41).trans (decide_eq_false (by subst hx0; decide))
            have t44 : ((x.toNat : Int) == 44) = true := (byte_is x 44).trans (decide_eq_true (by subst hx0; decide))
            have t43 : ((x.toNat : Int) == 43) = false := (byte_is x 43).trans (decide_eq_false (by subst hx0; decide))
            have t124 : ((x.toNat : Int) == 124) = false := (byte_is x 124).trans (decide_eq_false (by subst hx0; decide))
            have t45 : ((x.toNat : Int) == 45) = false := (byte_is x 45).trans (decide_eq_false (by subst hx0; decide))
            have t38 : ((x.toNat : Int) == 38) = false := (byte_is x 38).trans (decide_eq_false (by subst hx0; decide))
            have t33 : ((x.toNat : Int) == 33) = false := (byte_is x 33).trans (decide_eq_false (by subst hx0; decide))
            clear hx0
            have hK0 : 4 ≠ 0 := by decide
            have hpq : p + 1 ≤ l.length := by omega
            by_cases hnx : p + 1 < l.length
            · as_aux_lemma =>
                have e1 : decide ((p : Int) + 1 < (l.length : Int)) = true := decide_eq_true (by omega)
                have e2 : decide (p + 1 < l.length) = true := decide_eq_true (by omega)
                have e3 : p + 1 < l.length := by omega
                have e4 : (p : Int) + 1 < (l.length : Int) := by omega
                have hs1 : (str l).extract p (p + 1) = str ((x :: l.drop (p + 1)).take 1) := by rw [sub_str, ← HX.out, List.drop_take, Nat.add_sub_cancel_left]
                have HS := Lib.hid hs1
                clear hs1
                go_wp2_with (at_builtin; refine wpList_append_one _ rfl (.tmp 126) (.tmp 136) 44 rfl w.heap.size 50 i0 _ 3 32 Tryd.underlying44 hi hz0 hz1 hz2 rfl (by decide) _ ts.length (tv ts) rfl (how.alloc _) _ 1 _ _ rfl (heap_alloc_new _ _) rfl (by intro u hu; simp at hu; rcases hu with rfl | rfl | rfl <;> rfl) (by omega) (by omega) (by have := hb.size; simp; omega) ?_)
                intro v' w3 hown hg
                have HT := Lib.hid (lexF_tok (l.length - (p + 1)) (l.length - (p + 1)) x (l.drop (p + 1)) p HB.out (by rw [HO.out]; exact hK0) (by rw [List.length_drop]; omega) (by rw [HO.out, HR.out]; omega))
                go_wp2
                go_roundw
                case rel =>
                  refine ⟨p + 1, ts ++ [⟨4, p, (x :: l.drop (p + 1)).take 1⟩], hpq, by simp; omega, by go_num, ?_, ?_, ?_⟩
                  · rw [List.length_append, tv_snoc]
                    simpa [tc, HS.out] using hown
                  · have h1 := HT.out
                    rw [HO.out] at h1
                    show Lx.lex l = _
                    rw [HL.out, show l.length - p = (l.length - (p + 1)) + 1 by omega, HX.out, h1, ← HX.out, List.drop_drop, pre_pre]
                  · exact (hb.alloc hb.size _).grown hg (by have := hb.size; simp; omega) (by intro j hj; exact (how.lt j hj).1)
                case measure => first | (simp [intOf]; done) | (simp [intOf]; omega)
            · as_aux_lemma =>
                have e1 : decide ((p : Int) + 1 < (l.length : Int)) = false := decide_eq_false (by omega)
                have e2 : decide (p + 1 < l.length) = false := decide_eq_false (by omega)
                have hs1 : (str l).extract p (p + 1) = str ((x :: l.drop (p + 1)).take 1) := by rw [sub_str, ← HX.out, List.drop_take, Nat.add_sub_cancel_left]
                have HS := Lib.hid hs1
                clear hs1
                go_wp2_with (at_builtin; refine wpList_append_one _ rfl (.tmp 126) (.tmp 136) 44 rfl w.heap.size 50 i0 _ 3 32 Tryd.underlying44 hi hz0 hz1 hz2 rfl (by decide) _ ts.length (tv ts) rfl (how.alloc _) _ 1 _ _ rfl (heap_alloc_new _ _) rfl (by intro u hu; simp at hu; rcases hu with rfl | rfl | rfl <;> rfl) (by omega) (by omega) (by have := hb.size; simp; omega) ?_)
                intro v' w3 hown hg
                have HT := Lib.hid (lexF_tok (l.length - (p + 1)) (l.length - (p + 1)) x (l.drop (p + 1)) p HB.out (by rw [HO.out]; exact hK0) (by rw [List.length_drop]; omega) (by rw [HO.out, HR.out]; omega))
                go_wp2
                go_roundw
                case rel =>
                  refine ⟨p + 1, ts ++ [⟨4, p, (x :: l.drop (p + 1)).take 1⟩], hpq, by simp; omega, by go_num, ?_, ?_, ?_⟩
                  · rw [List.length_append, tv_snoc]
                    simpa [tc, HS.out] using hown
                  · have h1 := HT.out
                    rw [HO.out] at h1
                    show Lx.lex l = _
                    rw [HL.out, show l.length - p = (l.length - (p + 1)) + 1 by omega, HX.out, h1, ← HX.out, List.drop_drop, pre_pre]
                  · exact (hb.alloc hb.size _).grown hg (by have := hb.size; simp; omega) (by intro j hj; exact (how.lt j hj).1)
                case measure => first | (simp [intOf]; done) | (simp [intOf]; omega)
          · have HO := Lib.hid ho
            clear ho
            have t58 : ((x.toNat : Int) == 58) = false := (byte_is x 58).trans (decide_eq_false (by subst hx0; decide))
            have t46 : ((x.toNat : Int) == 46) = false := (byte_is x 46).trans (decide_eq_false (by subst hx0; decide))
            have t40 : ((x.toNat : Int) == 40) = false := (byte_is x 40).trans (decide_eq_false (by subst hx0; decide))
            have t41 : ((x.toNat : Int) == 41) = false := (byte_is x 41).trans (decide_eq_false (by subst hx0; decide))
            have t44 : ((x.toNat : Int) == 44) = false := (byte_is x 44).trans (decide_eq_false (by subst hx0; decide))
            have t43 : ((x.toNat : Int) == 43) = true := (byte_is x 43).trans (decide_eq_true (by subst hx0; decide))
            have t124 : ((x.toNat : Int) == 124) = false := (byte_is x 124).trans (decide_eq_false (by subst hx0; decide))
            have t45 : ((x.toNat : Int) == 45) = false := (byte_is x 45).trans (decide_eq_false (by subst hx0; decide))
            have t38 : ((x.toNat : Int) == 38) = false := (byte_is x 38).trans (decide_eq_false (by subst hx0; decide))
            have t33 : ((x.toNat : Int) == 33) = false := (byte_is x 33).trans (decide_eq_false (by subst hx0; decide))
            clear hx0
            have hK0 : 7 ≠ 0 := by decide
            have hpq : p + 1 ≤ l.length := by omega
            by_cases hnx : p + 1 < l.length
            · as_aux_lemma =>
                have e1 : decide ((p : Int) + 1 < (l.length : Int)) = true := decide_eq_true (by omega)
                have e2 : decide (p + 1 < l.length) = true := decide_eq_true (by omega)
                have e3 : p + 1 < l.length := by omega
                have e4 : (p : Int) + 1 < (l.length : Int) := by omega
                have hs1 : (str l).extract p (p + 1) = str ((x :: l.drop (p + 1)).take 1) := by rw [sub_str, ← HX.out, List.drop_take, Nat.add_sub_cancel_left]
                have HS := Lib.hid hs1
                clear hs1
                go_wp2_with (at_builtin; refine wpList_append_one _ rfl (.tmp 126) (.tmp 136) 44 rfl w.heap.size 50 i0 _ 3 32 Tryd.underlying44 hi hz0 hz1 hz2 rfl (by decide) _ ts.length (tv ts) rfl (how.alloc _) _ 1 _ _ rfl (heap_alloc_new _ _) rfl (by intro u hu; simp at hu; rcases hu with rfl | rfl | rfl <;> rfl) (by omega) (by omega) (by have := hb.size; simp; omega) ?_)
                intro v' w3 hown hg
                have HT := Lib.hid (lexF_tok (l.length - (p + 1)) (l.length - (p + 1)) x (l.drop (p + 1)) p HB.out (by rw [HO.out]; exact hK0) (by rw [List.length_drop]; omega) (by rw [HO.out, HR.out]; omega))
                go_wp2
                go_roundw
                case rel =>
                  refine ⟨p + 1, ts ++ [⟨7, p, (x :: l.drop (p + 1)).take 1⟩], hpq, by simp; omega, by go_num, ?_, ?_, ?_⟩
                  · rw [List.length_append, tv_snoc]
                    simpa [tc, HS.out] using hown
                  · have h1 := HT.out
                    rw [HO.out] at h1
                    show Lx.lex l = _
                    rw [HL.out, show l.length - p = (l.length - (p + 1)) + 1 by omega, HX.out, h1, ← HX.out, List.drop_drop, pre_pre]
                  · exact (hb.alloc hb.size _).grown hg (by have := hb.size; simp; omega) (by intro j hj; exact (how.lt j hj).1)
                case measure => first | (simp [intOf]; done) | (simp [intOf]; omega)
            · as_aux_lemma =>
                have e1 : decide ((p : Int) + 1 < (l.length : Int)) = false := decide_eq_false (by omega)
                have e2 : decide (p + 1 < l.length) = false := decide_eq_false (by omega)
                have hs1 : (str l).extract p (p + 1) = str ((x :: l.drop (p + 1)).take 1) := by rw [sub_str, ← HX.out, List.drop_take, Nat.add_sub_cancel_left]
                have HS := Lib.hid hs1
                clear hs1
                go_wp2_with (at_builtin; refine wpList_append_one _ rfl (.tmp 126) (.tmp 136) 44 rfl w.heap.size 50 i0 _ 3 32 Tryd.underlying44 hi hz0 hz1 hz2 rfl (by decide) _ ts.length (tv ts) rfl (how.alloc _) _ 1 _ _ rfl (heap_alloc_new _ _) rfl (by intro u hu; simp at hu; rcases hu with rfl | rfl | rfl <;> rfl) (by omega) (by omega) (by have := hb.size; simp; omega) ?_)
                intro v' w3 hown hg
                have HT := Lib.hid (lexF_tok (l.length - (p + 1)) (l.length - (p + 1)) x (l.drop (p + 1)) p HB.out (by rw [HO.out]; exact hK0) (by rw [List.length_drop]; omega) (by rw [HO.out, HR.out]; omega))
                go_wp2
                go_roundw
                case rel =>
                  refine ⟨p + 1, ts ++ [⟨7, p, (x :: l.drop (p + 1)).take 1⟩], hpq, by simp; omega, by go_num, ?_, ?_, ?_⟩
                  · rw [List.length_append, tv_snoc]
                    simpa [tc, HS.out] using hown
                  · have h1 := HT.out
                    rw [HO.out] at h1
                    show Lx.lex l = _
                    rw [HL.out, show l.length - p = (l.length - (p + 1)) + 1 by omega, HX.out, h1, ← HX.out, List.drop_drop, pre_pre]
                  · exact (hb.alloc hb.size _).grown hg (by have := hb.size; simp; omega) (by intro j hj; exact (how.lt j hj).1)
                case measure => first | (simp [intOf]; done) | (simp [intOf]; omega)
          · have HO := Lib.hid ho
            clear ho
            have t58 : ((x.toNat : Int) == 58) = false := (byte_is x 58).trans (decide_eq_false (by subst hx0; decide))
            have t46 : ((x.toNat : Int) == 46) = false := (byte_is x 46).trans (decide_eq_false (by subst hx0; decide))
            have t40 : ((x.toNat : Int) == 40) = false := (byte_is x 40).trans (decide_eq_false (by subst hx0; decide))
            have t41 : ((x.toNat : Int) == 41) = false := (byte_is x 41).trans (decide_eq_false (by subst hx0; decide))
            have t44 : ((x.toNat : Int) == 44) = false := (byte_is x 44).trans (decide_eq_false (by subst hx0; decide))
            have t43 : ((x.toNat : Int) == 43) = false := (byte_is x 43).trans (decide_eq_false (by subst hx0; decide))
            have t124 : ((x.toNat : Int) == 124) = true := (byte_is x 124).trans (decide_eq_true (by subst hx0; decide))
            have t45 : ((x.toNat : Int) == 45) = false := (byte_is x 45).trans (decide_eq_false (by subst hx0; decide))
            have t38 : ((x.toNat : Int) == 38) = false := (byte_is x 38).trans (decide_eq_false (by subst hx0; decide))
            have t33 : ((x.toNat : Int) == 33) = false := (byte_is x 33).trans (decide_eq_false (by subst hx0; decide))
            clear hx0
            have hK0 : 7 ≠ 0 := by decide
            have hpq : p + 1 ≤ l.length := by omega
            by_cases hnx : p + 1 < l.length
            · as_aux_lemma =>
                have e1 : decide ((p : Int) + 1 < (l.length : Int)) = true := decide_eq_true (by omega)
                have e2 : decide (p + 1 < l.length) = true := decide_eq_true (by omega)
                have e3 : p + 1 < l.length := by omega
                have e4 : (p : Int) + 1 < (l.length : Int) := by omega
                have hs1 : (str l).extract p (p + 1) = str ((x :: l.drop (p + 1)).take 1) := by rw [sub_str, ← HX.out, List.drop_take, Nat.add_sub_cancel_left]
                have HS := Lib.hid hs1
                clear hs1
                go_wp2_with (at_builtin; refine wpList_append_one _ rfl (.tmp 126) (.tmp 136) 44 rfl w.heap.size 50 i0 _ 3 32 Tryd.underlying44 hi hz0 hz1 hz2 rfl (by decide) _ ts.length (tv ts) rfl (how.alloc _) _ 1 _ _ rfl (heap_alloc_new _ _) rfl (by intro u hu; simp at hu; rcases hu with rfl | rfl | rfl <;> rfl) (by omega) (by omega) (by have := hb.size; simp; omega) ?_)
                intro v' w3 hown hg
                have HT := Lib.hid (lexF_tok (l.length - (p + 1)) (l.length - (p + 1)) x (l.drop (p + 1)) p HB.out (by rw [HO.out]; exact hK0) (by rw [List.length_drop]; omega) (by rw [HO.out, HR.out]; omega))
                go_wp2
                go_roundw
                case rel =>
                  refine ⟨p + 1, ts ++ [⟨7, p, (x :: l.drop (p + 1)).take 1⟩], hpq, by simp; omega, by go_num, ?_, ?_, ?_⟩
                  · rw [List.length_append, tv_snoc]
                    simpa [tc, HS.out] using hown
                  · have h1 := HT.out
                    rw [HO.out] at h1
                    show Lx.lex l = _
                    rw [HL.out, show l.length - p = (l.length - (p + 1)) + 1 by omega, HX.out, h1, ← HX.out, List.drop_drop, pre_pre]
                  · exact (hb.alloc hb.size _).grown hg (by have := hb.size; simp; omega) (by intro j hj; exact (how.lt j hj).1)
                case measure => first | (simp [intOf]; done) | (simp [intOf]; omega)
            · as_aux_lemma =>
                have e1 : decide ((p : Int) + 1 < (l.length : Int)) = false := decide_eq_false (by omega)
                have e2 : decide (p + 1 < l.length) = false := decide_eq_false (by omega)
                have hs1 : (str l).extract p (p + 1) = str ((x :: l.drop (p + 1)).take 1) := by rw [sub_str, ← HX.out, List.drop_take, Nat.add_sub_cancel_left]
                have HS := Lib.hid hs1
                clear hs1
                go_wp2_with (at_builtin; refine wpList_append_one _ rfl (.tmp 126) (.tmp 136) 44 rfl w.heap.size 50 i0 _ 3 32 Tryd.underlying44 hi hz0 hz1 hz2 rfl (by decide) _ ts.length (tv ts) rfl (how.alloc _) _ 1 _ _ rfl (heap_alloc_new _ _) rfl (by intro u hu; simp at hu; rcases hu with rfl | rfl | rfl <;> rfl) (by omega) (by omega) (by have := hb.size; simp; omega) ?_)
                intro v' w3 hown hg
                have HT := Lib.hid (lexF_tok (l.length - (p + 1)) (l.length - (p + 1)) x (l.drop (p + 1)) p HB.out (by rw [HO.out]; exact hK0) (by rw [List.length_drop]; omega) (by rw [HO.out, HR.out]; omega))
                go_wp2
                go_roundw
                case rel =>
                  refine ⟨p + 1, ts ++ [⟨7, p, (x :: l.drop (p + 1)).take 1⟩], hpq, by simp; omega, by go_num, ?_, ?_, ?_⟩
                  · rw [List.length_append, tv_snoc]
                    simpa [tc, HS.out] using hown
                  · have h1 := HT.out
                    rw [HO.out] at h1
                    show Lx.lex l = _
                    rw [HL.out, show l.length - p = (l.length - (p + 1)) + 1 by omega, HX.out, h1, ← HX.out, List.drop_drop, pre_pre]
                  · exact (hb.alloc hb.size _).grown hg (by have := hb.size; simp; omega) (by intro j hj; exact (how.lt j hj).1)
                case measure => first | (simp [intOf]; done) | (simp [intOf]; omega)
          · have HO := Lib.hid ho
            clear ho
            have t58 : ((x.toNat : Int) == 58) = false := (byte_is x 58).trans (decide_eq_false (by subst hx0; decide))
            have t46 : ((x.toNat : Int) == 46) = false := (byte_is x 46).trans (decide_eq_false (by subst hx0; decide))
            have t40 : ((x.toNat : Int) == 40) = false := (byte_is x 40).trans (decide_eq_false (by subst hx0; decide))
            have t41 : ((x.toNat : Int) == 41) = false := (byte_is x 41).trans (decide_eq_false (by subst hx0; decide))
            have t44 : ((x.toNat : Int) == 44) = false := (byte_is x 44).trans (decide_eq_false (by subst hx0; decide))
            have t43 : ((x.toNat : Int) == 43) = false := (byte_is x 43).trans (decide_eq_false (by subst hx0; decide))
            have t124 : ((x.toNat : Int) == 124) = false := (byte_is x 124).trans (decide_eq_false (by subst hx0; decide))
            have t45 : ((x.toNat : Int) == 45) = true := (byte_is x 45).trans (decide_eq_true (by subst hx0; decide))
            have t38 : ((x.toNat : Int) == 38) = false := (byte_is x 38).trans (decide_eq_false (by subst hx0; decide))
            have t33 : ((x.toNat : Int) == 33) = false := (byte_is x 33).trans (decide_eq_false (by subst hx0; decide))
            clear hx0
            have hK0 : 8 ≠ 0 := by decide
            have hpq : p + 1 ≤ l.length := by omega
            by_cases hnx : p + 1 < l.length
            · as_aux_lemma =>
                have e1 : decide ((p : Int) + 1 < (l.length : Int)) = true := decide_eq_true (by omega)
                have e2 : decide (p + 1 < l.length) = true := decide_eq_true (by omega)
                have e3 : p + 1 < l.length := by omega
                have e4 : (p : Int) + 1 < (l.length : Int) := by omega
                have hs1 : (str l).extract p (p + 1) = str ((x :: l.drop (p + 1)).take 1) := by rw [sub_str, ← HX.out, List.drop_take, Nat.add_sub_cancel_left]
                have HS := Lib.hid hs1
                clear hs1
                go_wp2_with (at_builtin; refine wpList_append_one _ rfl (.tmp 126) (.tmp 136) 44 rfl w.heap.size 50 i0 _ 3 32 Tryd.underlying44 hi hz0 hz1 hz2 rfl (by decide) _ ts.length (tv ts) rfl (how.alloc _) _ 1 _ _ rfl (heap_alloc_new _ _) rfl (by intro u hu; simp at hu; rcases hu with rfl | rfl | rfl <;> rfl) (by omega) (by omega) (by have := hb.size; simp; omega) ?_)
                intro v' w3 hown hg
                have HT := Lib.hid (lexF_tok (l.length - (p + 1)) (l.length - (p + 1)) x (l.drop (p + 1)) p HB.out (by rw [HO.out]; exact hK0) (by rw [List.length_drop]; omega) (by rw [HO.out, HR.out]; omega))
                go_wp2
                go_roundw
                case rel =>
                  refine ⟨p + 1, ts ++ [⟨8, p, (x :: l.drop (p + 1)).take 1⟩], hpq, by simp; omega, by go_num, ?_, ?_, ?_⟩
                  · rw [List.length_append, tv_snoc]
                    simpa [tc, HS.out] using hown
                  · have h1 := HT.out
                    rw [HO.out] at h1
                    show Lx.lex l = _
                    rw [HL.out, show l.length - p = (l.length - (p + 1)) + 1 by omega, HX.out, h1, ← HX.out, List.drop_drop, pre_pre]
                  · exact (hb.alloc hb.size _).grown hg (by have := hb.size; simp; omega) (by intro j hj; exact (how.lt j hj).1)
                case measure => first | (simp [intOf]; done) | (simp [intOf]; omega)
            · as_aux_lemma =>
                have e1 : decide ((p : Int) + 1 < (l.length : Int)) = false := decide_eq_false (by omega)
                have e2 : decide (p + 1 < l.length) = false := decide_eq_false (by omega)
                have hs1 : (str l).extract p (p + 1) = str ((x :: l.drop (p + 1)).take 1) := by rw [sub_str, ← HX.out, List.drop_take, Nat.add_sub_cancel_left]
                have HS := Lib.hid hs1
                clear hs1
                go_wp2_with (at_builtin; refine wpList_append_one _ rfl (.tmp 126) (.tmp 136) 44 rfl w.heap.size 50 i0 _ 3 32 Tryd.underlying44 hi hz0 hz1 hz2 rfl (by decide) _ ts.length (tv ts) rfl (how.alloc _) _ 1 _ _ rfl (heap_alloc_new _ _) rfl (by intro u hu; simp at hu; rcases hu with rfl | rfl | rfl <;> rfl) (by omega) (by omega) (by have := hb.size; simp; omega) ?_)
                intro v' w3 hown hg
                have HT := Lib.hid (lexF_tok (l.length - (p + 1)) (l.length - (p + 1)) x (l.drop (p + 1)) p HB.out (by rw [HO.out]; exact hK0) (by rw [List.length_drop]; omega) (by rw [HO.out, HR.out]; omega))
                go_wp2
                go_roundw
                case rel =>
                  refine ⟨p + 1, ts ++ [⟨8, p, (x :: l.drop (p + 1)).take 1⟩], hpq, by simp; omega, by go_num, ?_, ?_, ?_⟩
                  · rw [List.length_append, tv_snoc]
                    simpa [tc, HS.out] using hown
                  · have h1 := HT.out
                    rw [HO.out] at h1
                    show Lx.lex l = _
                    rw [HL.out, show l.length - p = (l.length - (p + 1)) + 1 by omega, HX.out, h1, ← HX.out, List.drop_drop, pre_pre]
                  · exact (hb.alloc hb.size _).grown hg (by have := hb.size; simp; omega) (by intro j hj; exact (how.lt j hj).1)
                case measure => first | (simp [intOf]; done) | (simp [intOf]; omega)
          · have HO := Lib.hid ho
            clear ho
            have t58 : ((x.toNat : Int) == 58) = false := (byte_is x 58).trans (decide_eq_false (by subst hx0; decide))
            have t46 : ((x.toNat : Int) == 46) = false := (byte_is x 46).trans (decide_eq_false (by subst hx0; decide))
            have t40 : ((x.toNat : Int) == 40) = false := (byte_is x 40).trans (decide_eq_false (by subst hx0; decide))
            have t41 : ((x.toNat : Int) == 41) = false := (byte_is x 41).trans (decide_eq_false (by subst hx0; decide))
            have t44 : ((x.toNat : Int) == 44) = false := (byte_is x 44).trans (decide_eq_false (by subst hx0; decide))
            have t43 : ((x.toNat : Int) == 43) = false := (byte_is x 43).trans (decide_eq_false (by subst hx0; decide))
            have t124 : ((x.toNat : Int) == 124) = false := (byte_is x 124).trans (decide_eq_false (by subst hx0; decide))
            have t45 : ((x.toNat : Int) == 45) = false := (byte_is x 45).trans (decide_eq_false (by subst hx0; decide))
            have t38 : ((x.toNat : Int) == 38) = true := (byte_is x 38).trans (decide_eq_true (by subst hx0; decide))
            have t33 : ((x.toNat : Int) == 33) = false := (byte_is x 33).trans (decide_eq_false (by subst hx0; decide))
            clear hx0
            have hK0 : 9 ≠ 0 := by decide
            have hpq : p + 1 ≤ l.length := by omega
            by_cases hnx : p + 1 < l.length
            · as_aux_lemma =>
                have e1 : decide ((p : Int) + 1 < (l.length : Int)) = true := decide_eq_true (by omega)
                have e2 : decide (p + 1 < l.length) = true := decide_eq_true (by omega)
                have e3 : p + 1 < l.length := by omega
                have e4 : (p : Int) + 1 < (l.length : Int) := by omega
                have hs1 : (str l).extract p (p + 1) = str ((x :: l.drop (p + 1)).take 1) := by rw [sub_str, ← HX.out, List.drop_take, Nat.add_sub_cancel_left]
                have HS := Lib.hid hs1
                clear hs1
                go_wp2_with (at_builtin; refine wpList_append_one _ rfl (.tmp 126) (.tmp 136) 44 rfl w.heap.size 50 i0 _ 3 32 Tryd.underlying44 hi hz0 hz1 hz2 rfl (by decide) _ ts.length (tv ts) rfl (how.alloc _) _ 1 _ _ rfl (heap_alloc_new _ _) rfl (by intro u hu; simp at hu; rcases hu with rfl | rfl | rfl <;> rfl) (by omega) (by omega) (by have := hb.size; simp; omega) ?_)
                intro v' w3 hown hg
                have HT := Lib.hid (lexF_tok (l.length - (p + 1)) (l.length - (p + 1)) x (l.drop (p + 1)) p HB.out (by rw [HO.out]; exact hK0) (by rw [List.length_drop]; omega) (by rw [HO.out, HR.out]; omega))
                go_wp2
                go_roundw
                case rel =>
                  refine ⟨p + 1, ts ++ [⟨9, p, (x :: l.drop (p + 1)).take 1⟩], hpq, by simp; omega, by go_num, ?_, ?_, ?_⟩
                  · rw [List.length_append, tv_snoc]
                    simpa [tc, HS.out] using hown
                  · have h1 := HT.out
                    rw [HO.out] at h1
                    show Lx.lex l = _
                    rw [HL.out, show l.length - p = (l.length - (p + 1)) + 1 by omega, HX.out, h1, ← HX.out, List.drop_drop, pre_pre]
                  · exact (hb.alloc hb.size _).grown hg (by have := hb.size; simp; omega) (by intro j hj; exact (how.lt j hj).1)
                case measure => first | (simp [intOf]; done) | (simp [intOf]; omega)
            · as_aux_lemma =>
                have e1 : decide ((p : Int) + 1 < (l.length : Int)) = false := decide_eq_false (by omega)
                have e2 : decide (p + 1 < l.length) = false := decide_eq_false (by omega)
                have hs1 : (str l).extract p (p + 1) = str ((x :: l.drop (p + 1)).take 1) := by rw [sub_str, ← HX.out, List.drop_take, Nat.add_sub_cancel_left]
                have HS := Lib.hid hs1
                clear hs1
                go_wp2_with (at_builtin; refine wpList_append_one _ rfl (.tmp 126) (.tmp 136) 44 rfl w.heap.size 50 i0 _ 3 32 Tryd.underlying44 hi hz0 hz1 hz2 rfl (by decide) _ ts.length (tv ts) rfl (how.alloc _) _ 1 _ _ rfl (heap_alloc_new _ _) rfl (by intro u hu; simp at hu; rcases hu with rfl | rfl | rfl <;> rfl) (by omega) (by omega) (by have := hb.size; simp; omega) ?_)
                intro v' w3 hown hg
                have HT := Lib.hid (lexF_tok (l.length - (p + 1)) (l.length - (p + 1)) x (l.drop (p + 1)) p HB.out (by rw [HO.out]; exact hK0) (by rw [List.length_drop]; omega) (by rw [HO.out, HR.out]; omega))
                go_wp2
                go_roundw
                case rel =>
                  refine ⟨p + 1, ts ++ [⟨9, p, (x :: l.drop (p + 1)).take 1⟩], hpq, by simp; omega, by go_num, ?_, ?_, ?_⟩
                  · rw [List.length_append, tv_snoc]
                    simpa [tc, HS.out] using hown
                  · have h1 := HT.out
                    rw [HO.out] at h1
                    show Lx.lex l = _
                    rw [HL.out, show l.length - p = (l.length - (p + 1)) + 1 by omega, HX.out, h1, ← HX.out, List.drop_drop, pre_pre]
                  · exact (hb.alloc hb.size _).grown hg (by have := hb.size; simp; omega) (by intro j hj; exact (how.lt j hj).1)
                case measure => first | (simp [intOf]; done) | (simp [intOf]; omega)
          · have HO := Lib.hid ho
            clear ho
            have t58 : ((x.toNat : Int) == 58) = false := (byte_is x 58).trans (decide_eq_false (by subst hx0; decide))
            have t46 : ((x.toNat : Int) == 46) = false := (byte_is x 46).trans (decide_eq_false (by subst hx0; decide))
            have t40 : ((x.toNat : Int) == 40) = false := (byte_is x 40).trans (decide_eq_false (by subst hx0; decide))
            have t41 : ((x.toNat : Int) == 41) = false := (byte_is x 41).trans (decide_eq_false (by subst hx0; decide))
            have t44 : ((x.toNat : Int) == 44) = false := (byte_is x 44).trans (decide_eq_false (by subst hx0; decide))
            have t43 : ((x.toNat : Int) == 43) = false := (byte_is x 43).trans (decide_eq_false (by subst hx0; decide))
            have t124 : ((x.toNat : Int) == 124) = false := (byte_is x 124).trans (decide_eq_false (by subst hx0; decide))
            have t45 : ((x.toNat : Int) == 45) = false := (byte_is x 45).trans (decide_eq_false (by subst hx0; decide))
            have t38 : ((x.toNat : Int) == 38) = false := (byte_is x 38).trans (decide_eq_false (by subst hx0; decide))
            have t33 : ((x.toNat : Int) == 33) = true := (byte_is x 33).trans (decide_eq_true (by subst hx0; decide))
            clear hx0
            have hK0 : 10 ≠ 0 := by decide
            have hpq : p + 1 ≤ l.length := by omega
            by_cases hnx : p + 1 < l.length
            · as_aux_lemma =>
                have e1 : decide ((p : Int) + 1 < (l.length : Int)) = true := decide_eq_true (by omega)
                have e2 : decide (p + 1 < l.length) = true := decide_eq_true (by omega)
                have e3 : p + 1 < l.length := by omega
                have e4 : (p : Int) + 1 < (l.length : Int) := by omega
                have hs1 : (str l).extract p (p + 1) = str ((x :: l.drop (p + 1)).take 1) := by rw [sub_str, ← HX.out, List.drop_take, Nat.add_sub_cancel_left]
                have HS := Lib.hid hs1
                clear hs1
                go_wp2_with (at_builtin; refine wpList_append_one _ rfl (.tmp 126) (.tmp 136) 44 rfl w.heap.size 50 i0 _ 3 32 Tryd.underlying44 hi hz0 hz1 hz2 rfl (by decide) _ ts.length (tv ts) rfl (how.alloc _) _ 1 _ _ rfl (heap_alloc_new _ _) rfl (by intro u hu; simp at hu; rcases hu with rfl | rfl | rfl <;> rfl) (by omega) (by omega) (by have := hb.size; simp; omega) ?_)
                intro v' w3 hown hg
                have HT := Lib.hid (lexF_tok (l.length - (p + 1)) (l.length - (p + 1)) x (l.drop (p + 1)) p HB.out (by rw [HO.out]; exact hK0) (by rw [List.length_drop]; omega) (by rw [HO.out, HR.out]; omega))
                go_wp2
                go_roundw
                case rel =>
                  refine ⟨p + 1, ts ++ [⟨10, p, (x :: l.drop (p + 1)).take 1⟩], hpq, by simp; omega, by go_num, ?_, ?_, ?_⟩
                  · rw [List.length_append, tv_snoc]
                    simpa [tc, HS.out] using hown
                  · have h1 := HT.out
                    rw [HO.out] at h1
                    show Lx.lex l = _
                    rw [HL.out, show l.length - p = (l.length - (p + 1)) + 1 by omega, HX.out, h1, ← HX.out, List.drop_drop, pre_pre]
                  · exact (hb.alloc hb.size _).grown hg (by have := hb.size; simp; omega) (by intro j hj; exact (how.lt j hj).1)
                case measure => first | (simp [intOf]; done) | (simp [intOf]; omega)
            · as_aux_lemma =>
                have e1 : decide ((p : Int) + 1 < (l.length : Int)) = false := decide_eq_false (by omega)
                have e2 : decide (p + 1 < l.length) = false := decide_eq_false (by omega)
                have hs1 : (str l).extract p (p + 1) = str ((x :: l.drop (p + 1)).take 1) := by rw [sub_str, ← HX.out, List.drop_take, Nat.add_sub_cancel_left]
                have HS := Lib.hid hs1
                clear hs1
                go_wp2_with (at_builtin; refine wpList_append_one _ rfl (.tmp 126) (.tmp 136) 44 rfl w.heap.size 50 i0 _ 3 32 Tryd.underlying44 hi hz0 hz1 hz2 rfl (by decide) _ ts.length (tv ts) rfl (how.alloc _) _ 1 _ _ rfl (heap_alloc_new _ _) rfl (by intro u hu; simp at hu; rcases hu with rfl | rfl | rfl <;> rfl) (by omega) (by omega) (by have := hb.size; simp; omega) ?_)
                intro v' w3 hown hg
                have HT := Lib.hid (lexF_tok (l.length - (p + 1)) (l.length - (p + 1)) x (l.drop (p + 1)) p HB.out (by rw [HO.out]; exact hK0) (by rw [List.length_drop]; omega) (by rw [HO.out, HR.out]; omega))
                go_wp2
                go_roundw
                case rel =>
                  refine ⟨p + 1, ts ++ [⟨10, p, (x :: l.drop (p + 1)).take 1⟩], hpq, by simp; omega, by go_num, ?_, ?_, ?_⟩
                  · rw [List.length_append, tv_snoc]
                    simpa [tc, HS.out] using hown
                  · have h1 := HT.out
                    rw [HO.out] at h1
                    show Lx.lex l = _
                    rw [HL.out, show l.length - p = (l.length - (p + 1)) + 1 by omega, HX.out, h1, ← HX.out, List.drop_drop, pre_pre]
                  · exact (hb.alloc hb.size _).grown hg (by have := hb.size; simp; omega) (by intro j hj; exact (how.lt j hj).1)
                case measure => first | (simp [intOf]; done) | (simp [intOf]; omega)
          · have HO0 := Lib.hid ho
            clear ho
            obtain ⟨m58, m46, m40, m41, m44, m43, m124, m45, m38, m33⟩ := hx0
            have t58 : ((x.toNat : Int) == 58) = false := (byte_is x 58).trans (decide_eq_false m58)
            have t46 : ((x.toNat : Int) == 46) = false := (byte_is x 46).trans (decide_eq_false m46)
            have t40 : ((x.toNat : Int) == 40) = false := (byte_is x 40).trans (decide_eq_false m40)
            have t41 : ((x.toNat : Int) == 41) = false := (byte_is x 41).trans (decide_eq_false m41)
            have t44 : ((x.toNat : Int) == 44) = false := (byte_is x 44).trans (decide_eq_false m44)
            have t43 : ((x.toNat : Int) == 43) = false := (byte_is x 43).trans (decide_eq_false m43)
            have t124 : ((x.toNat : Int) == 124) = false := (byte_is x 124).trans (decide_eq_false m124)
            have t45 : ((x.toNat : Int) == 45) = false := (byte_is x 45).trans (decide_eq_false m45)
            have t38 : ((x.toNat : Int) == 38) = false := (byte_is x 38).trans (decide_eq_false m38)
            have t33 : ((x.toNat : Int) == 33) = false := (byte_is x 33).trans (decide_eq_false m33)
            clear m58 m46 m40 m41 m44 m43 m124 m45 m38 m33
            by_cases hnx : p + 1 < l.length
            · as_aux_lemma =>
                have e1 : decide ((p : Int) + 1 < (l.length : Int)) = true := decide_eq_true (by omega)
                have e2 : decide (p + 1 < l.length) = true := decide_eq_true (by omega)
                have e3 : p + 1 < l.length := by omega
                have e4 : (p : Int) + 1 < (l.length : Int) := by omega
                go_wp2
                go_ret3
                have HE : Lx.lex l = .error p := by rw [HL.out, HX.out, show l.length - p = (l.length - (p + 1)) + 1 by omega, lexF_bad _ _ _ _ HB.out HO0.out]; rfl
                rw [HE]
                exact ⟨hb, rfl⟩
            · as_aux_lemma =>
                have e1 : decide ((p : Int) + 1 < (l.length : Int)) = false := decide_eq_false (by omega)
                have e2 : decide (p + 1 < l.length) = false := decide_eq_false (by omega)
                go_wp2
                go_ret3
                have HE : Lx.lex l = .error p := by rw [HL.out, HX.out, show l.length - p = (l.length - (p + 1)) + 1 by omega, lexF_bad _ _ _ _ HB.out HO0.out]; rfl
                rw [HE]
                exact ⟨hb, rfl⟩
    · obtain rfl : p = l.length := by omega
      have hd1 : decide ((l.length : Int) < (l.length : Int)) = false := decide_eq_false (by omega)
      have HE := Lib.hid (show Lx.lex l = .ok (ts ++ [⟨11, l.length, []⟩]) by rw [HL.out, Nat.sub_self]; rfl)
      clear HL
      go_wp2_with (at_builtin; refine wpList_append_one _ rfl (.tmp 141) (.tmp 145) 44 rfl w.heap.size 50 i0 _ 3 32 Tryd.underlying44 hi hz0 hz1 hz2 rfl (by decide) _ ts.length (tv ts) rfl (how.alloc _) _ 1 _ _ rfl (heap_alloc_new _ _) rfl (by intro u hu; simp at hu; rcases hu with rfl | rfl | rfl <;> rfl) (by omega) (by omega) (by have := hb.size; simp; omega) ?_)
      intro v' w3 hown hg
      go_wp2
      go_ret3
      rw [HE.out]
      refine ⟨(hb.alloc hb.size _).grown hg (by have := hb.size; simp; omega) (by intro j hj; exact (how.lt j hj).1), v', rfl, ?_⟩
      rw [List.length_append, tv_snoc]
      simpa [tc, str] using hown
end Go.Proofs.YtcbddbclgepcmaaDoor
