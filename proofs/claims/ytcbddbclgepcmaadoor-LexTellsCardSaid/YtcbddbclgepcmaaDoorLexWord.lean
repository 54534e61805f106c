/- lex.letter, lex.word: what they answer. -/
import Derived.Test.YtcbddbclgepcmaaDoorProg
import Derived.Test.YtcbddbclgepcmaaDoorLexPlain
import Derived.Test.YtcbddbclgepcmaaDoorConv
import Derived.Test.YtcbddbclgepcmaaDoorHand
namespace Go.Proofs.YtcbddbclgepcmaaDoor
open Go.RowKit Go.Tap
set_option linter.unusedVariables false

theorem letter_any (w : World) (c : UInt8) : Calls Tryd.prog 88 #[.int .u8 (c.toNat : Int)] w fun e w' => e = .returned (.bool (Lx.letter c)) ∧ w' = w := by
  have hc := c.toNat_lt
  have hl : Lx.letter c = ((decide (48 ≤ c.toNat) && decide (c.toNat ≤ 57)) || (decide (97 ≤ c.toNat) && decide (c.toNat ≤ 122)) || (decide (65 ≤ c.toNat) && decide (c.toNat ≤ 90)) || decide (c.toNat = 95)) := by
    have e : (c == 95) = decide (c.toNat = 95) := by
      rw [Bool.eq_iff_iff]; simp [← UInt8.toNat_inj]
    simp only [Lx.letter, e]; rfl
  generalize c.toNat = x at hl hc
  have d : ∀ a : Nat, (decide ((a : Int) ≤ (x : Int)) = decide (a ≤ x)) ∧ decide ((x : Int) ≤ (a : Int)) = decide (x ≤ a) := fun a => ⟨decide_eq_decide.2 (by omega), decide_eq_decide.2 (by omega)⟩
  have hcases : x < 48 ∨ (48 ≤ x ∧ x ≤ 57) ∨ (58 ≤ x ∧ x ≤ 64) ∨ (65 ≤ x ∧ x ≤ 90) ∨ (91 ≤ x ∧ x ≤ 94) ∨ x = 95 ∨ x = 96 ∨ (97 ≤ x ∧ x ≤ 122) ∨ 123 ≤ x := by omega
  have HC := Lib.hid hc
  clear hc d
  rcases hcases with h | h | h | h | h | h | h | h | h
  · have d0 : decide ((48 : Int) ≤ (x : Int)) = false := decide_eq_false (by omega)
    have d1 : decide ((x : Int) ≤ 57) = true := decide_eq_true (by omega)
    have d2 : decide ((97 : Int) ≤ (x : Int)) = false := decide_eq_false (by omega)
    have d3 : decide ((x : Int) ≤ 122) = true := decide_eq_true (by omega)
    have d4 : decide ((65 : Int) ≤ (x : Int)) = false := decide_eq_false (by omega)
    have d5 : decide ((x : Int) ≤ 90) = true := decide_eq_true (by omega)
    have d9 : ((x : Int) == 95) = false := by simp; omega
    have HL := Lib.hid (show Lx.letter c = false by rw [hl]; simp; omega)
    clear hl h
    go_enter Tryd.func88, Tryd.ntmps88
    go_wp2
    go_ret
    exact ⟨by rw [HL.out]; rfl, rfl⟩
  · have d0 : decide ((48 : Int) ≤ (x : Int)) = true := decide_eq_true (by omega)
    have d1 : decide ((x : Int) ≤ 57) = true := decide_eq_true (by omega)
    have d2 : decide ((97 : Int) ≤ (x : Int)) = false := decide_eq_false (by omega)
    have d3 : decide ((x : Int) ≤ 122) = true := decide_eq_true (by omega)
    have d4 : decide ((65 : Int) ≤ (x : Int)) = false := decide_eq_false (by omega)
    have d5 : decide ((x : Int) ≤ 90) = true := decide_eq_true (by omega)
    have d9 : ((x : Int) == 95) = false := by simp; omega
    have HL := Lib.hid (show Lx.letter c = true by rw [hl]; simp; omega)
    clear hl h
    go_enter Tryd.func88, Tryd.ntmps88
    go_wp2
    go_ret
    exact ⟨by rw [HL.out]; rfl, rfl⟩
  · have d0 : decide ((48 : Int) ≤ (x : Int)) = true := decide_eq_true (by omega)
    have d1 : decide ((x : Int) ≤ 57) = false := decide_eq_false (by omega)
    have d2 : decide ((97 : Int) ≤ (x : Int)) = false := decide_eq_false (by omega)
    have d3 : decide ((x : Int) ≤ 122) = true := decide_eq_true (by omega)
    have d4 : decide ((65 : Int) ≤ (x : Int)) = false := decide_eq_false (by omega)
    have d5 : decide ((x : Int) ≤ 90) = true := decide_eq_true (by omega)
    have d9 : ((x : Int) == 95) = false := by simp; omega
    have HL := Lib.hid (show Lx.letter c = false by rw [hl]; simp; omega)
    clear hl h
    go_enter Tryd.func88, Tryd.ntmps88
    go_wp2
    go_ret
    exact ⟨by rw [HL.out]; rfl, rfl⟩
  · have d0 : decide ((48 : Int) ≤ (x : Int)) = true := decide_eq_true (by omega)
    have d1 : decide ((x : Int) ≤ 57) = false := decide_eq_false (by omega)
    have d2 : decide ((97 : Int) ≤ (x : Int)) = false := decide_eq_false (by omega)
    have d3 : decide ((x : Int) ≤ 122) = true := decide_eq_true (by omega)
    have d4 : decide ((65 : Int) ≤ (x : Int)) = true := decide_eq_true (by omega)
    have d5 : decide ((x : Int) ≤ 90) = true := decide_eq_true (by omega)
    have d9 : ((x : Int) == 95) = false := by simp; omega
    have HL := Lib.hid (show Lx.letter c = true by rw [hl]; simp; omega)
    clear hl h
    go_enter Tryd.func88, Tryd.ntmps88
    go_wp2
    go_ret
    exact ⟨by rw [HL.out]; rfl, rfl⟩
  · have d0 : decide ((48 : Int) ≤ (x : Int)) = true := decide_eq_true (by omega)
    have d1 : decide ((x : Int) ≤ 57) = false := decide_eq_false (by omega)
    have d2 : decide ((97 : Int) ≤ (x : Int)) = false := decide_eq_false (by omega)
    have d3 : decide ((x : Int) ≤ 122) = true := decide_eq_true (by omega)
    have d4 : decide ((65 : Int) ≤ (x : Int)) = true := decide_eq_true (by omega)
    have d5 : decide ((x : Int) ≤ 90) = false := decide_eq_false (by omega)
    have d9 : ((x : Int) == 95) = false := by simp; omega
    have HL := Lib.hid (show Lx.letter c = false by rw [hl]; simp; omega)
    clear hl h
    go_enter Tryd.func88, Tryd.ntmps88
    go_wp2
    go_ret
    exact ⟨by rw [HL.out]; rfl, rfl⟩
  · have d0 : decide ((48 : Int) ≤ (x : Int)) = true := decide_eq_true (by omega)
    have d1 : decide ((x : Int) ≤ 57) = false := decide_eq_false (by omega)
    have d2 : decide ((97 : Int) ≤ (x : Int)) = false := decide_eq_false (by omega)
    have d3 : decide ((x : Int) ≤ 122) = true := decide_eq_true (by omega)
    have d4 : decide ((65 : Int) ≤ (x : Int)) = true := decide_eq_true (by omega)
    have d5 : decide ((x : Int) ≤ 90) = false := decide_eq_false (by omega)
    have d9 : ((x : Int) == 95) = true := by simp; omega
    have HL := Lib.hid (show Lx.letter c = true by rw [hl]; simp; omega)
    clear hl h
    go_enter Tryd.func88, Tryd.ntmps88
    go_wp2
    go_ret
    exact ⟨by rw [HL.out]; rfl, rfl⟩
  · have d0 : decide ((48 : Int) ≤ (x : Int)) = true := decide_eq_true (by omega)
    have d1 : decide ((x : Int) ≤ 57) = false := decide_eq_false (by omega)
    have d2 : decide ((97 : Int) ≤ (x : Int)) = false := decide_eq_false (by omega)
    have d3 : decide ((x : Int) ≤ 122) = true := decide_eq_true (by omega)
    have d4 : decide ((65 : Int) ≤ (x : Int)) = true := decide_eq_true (by omega)
    have d5 : decide ((x : Int) ≤ 90) = false := decide_eq_false (by omega)
    have d9 : ((x : Int) == 95) = false := by simp; omega
    have HL := Lib.hid (show Lx.letter c = false by rw [hl]; simp; omega)
    clear hl h
    go_enter Tryd.func88, Tryd.ntmps88
    go_wp2
    go_ret
    exact ⟨by rw [HL.out]; rfl, rfl⟩
  · have d0 : decide ((48 : Int) ≤ (x : Int)) = true := decide_eq_true (by omega)
    have d1 : decide ((x : Int) ≤ 57) = false := decide_eq_false (by omega)
    have d2 : decide ((97 : Int) ≤ (x : Int)) = true := decide_eq_true (by omega)
    have d3 : decide ((x : Int) ≤ 122) = true := decide_eq_true (by omega)
    have d4 : decide ((65 : Int) ≤ (x : Int)) = true := decide_eq_true (by omega)
    have d5 : decide ((x : Int) ≤ 90) = false := decide_eq_false (by omega)
    have d9 : ((x : Int) == 95) = false := by simp; omega
    have HL := Lib.hid (show Lx.letter c = true by rw [hl]; simp; omega)
    clear hl h
    go_enter Tryd.func88, Tryd.ntmps88
    go_wp2
    go_ret
    exact ⟨by rw [HL.out]; rfl, rfl⟩
  · have d0 : decide ((48 : Int) ≤ (x : Int)) = true := decide_eq_true (by omega)
    have d1 : decide ((x : Int) ≤ 57) = false := decide_eq_false (by omega)
    have d2 : decide ((97 : Int) ≤ (x : Int)) = true := decide_eq_true (by omega)
    have d3 : decide ((x : Int) ≤ 122) = false := decide_eq_false (by omega)
    have d4 : decide ((65 : Int) ≤ (x : Int)) = true := decide_eq_true (by omega)
    have d5 : decide ((x : Int) ≤ 90) = false := decide_eq_false (by omega)
    have d9 : ((x : Int) == 95) = false := by simp; omega
    have HL := Lib.hid (show Lx.letter c = false by rw [hl]; simp; omega)
    clear hl h
    go_enter Tryd.func88, Tryd.ntmps88
    go_wp2
    go_ret
    exact ⟨by rw [HL.out]; rfl, rfl⟩

/-- Whatever string: a list of bytes. -/
theorem str_of (s : ByteArray) : ∃ l, s = str l := ⟨s.toList, (ByteArray.ext (by simp [str, ByteArray.toList_eq]))⟩
theorem word_any (w : World) (l : List UInt8) (hl : l.length ≤ 140737488355328) : Calls Tryd.prog 73 #[.string (str l)] w fun e w' => e = .returned (.int .i64 (Lx.word l : Int)) ∧ Below w.heap.size w w' := by
  go_enter Tryd.func73, Tryd.ntmps73
  go_wp2
  go_loopw [3] (fun t wr => ∃ k : Nat, k ≤ l.length ∧ t = .int .i64 (k : Int) ∧ Hid (Lx.word l = k + Lx.word (l.drop k)) ∧ Below w.heap.size w wr) (fun t _ => l.length - (intOf t).toNat)
  case atStart => exact ⟨0, Nat.zero_le _, rfl, by simp [Hid], Below.refl _ _⟩
  case round =>
    obtain ⟨k, hk, rfl, HW, hb⟩ := hrel
    by_cases hlt : k < l.length
    · have hsz : (str l).size = l.length := rfl
      have hd1 : decide ((k : Int) < (l.length : Int)) = true := decide_eq_true (by omega)
      have hx : l.drop k = (l[k]'hlt) :: l.drop (k + 1) := List.drop_eq_getElem_cons hlt
      have HX := Lib.hid hx
      clear hx
      go_wp2_with fail
      refine (letter_any _ _).mono ?_
      rintro e w' ⟨rfl, rfl⟩
      rw [show (str l)[k]'(by rw [hsz]; exact hlt) = l[k]'hlt from rfl]
      cases hc : Lx.letter (l[k]'hlt) with
      | true =>
        have HC := Lib.hid hc
        clear hc
        go_wp2
        go_roundw
        case rel => exact ⟨k + 1, by omega, by go_num, by rw [HW.out, HX.out, Lx.word, if_pos HC.out]; simp [Hid]; omega, hb⟩
        case measure => first | (simp [intOf]; done) | (simp [intOf]; omega)
      | false =>
        have HC := Lib.hid hc
        clear hc
        go_wp2
        go_ret
        exact ⟨by rw [HW.out, HX.out, Lx.word, if_neg (by rw [HC.out]; simp)]; rfl, hb⟩
    · have hd1 : decide ((k : Int) < (l.length : Int)) = false := decide_eq_false (by omega)
      have hd2 : decide (k < l.length) = false := decide_eq_false (by omega)
      have hsz : (str l).size = l.length := rfl
      go_wp2
      go_ret
      exact ⟨by rw [HW.out, List.drop_eq_nil_of_le (by omega)]; rfl, hb⟩
end Go.Proofs.YtcbddbclgepcmaaDoor
