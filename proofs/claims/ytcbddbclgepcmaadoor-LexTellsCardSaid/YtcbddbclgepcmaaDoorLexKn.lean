/- lex.Lex of any text; what taprootlaw17's known comes to. -/
import Derived.Test.YtcbddbclgepcmaaDoorLexLex
import Derived.Test.YtcbddbclgepcmaaDoorBackPlain
namespace Go.Proofs.YtcbddbclgepcmaaDoor
open Go.RowKit Go.Tap
set_option linter.unusedVariables false

theorem lexR_any (w : World) (l : List UInt8) : Calls Tryd.prog 18 #[.string (str l)] w (LexAft w (Lx.lexR l)) := by
  by_cases hl : l.length ≤ 600
  · rw [Lx.lexR_short l hl]; exact lex_any w l hl
  · have hsz : (str l).size = l.length := rfl
    have hd0 : decide ((600 : Int) < (l.length : Int)) = true := decide_eq_true (by omega)
    have hd1 : decide (600 < l.length) = true := decide_eq_true (by omega)
    have HE := Lib.hid (show Lx.lexR l = .error 0 from if_pos (by omega))
    go_enter Tryd.func18, Tryd.ntmps18
    go_wp2
    go_ret2
    rw [HE.out]
    exact ⟨Below.refl _ _, _, _, rfl⟩
/-- The cells of a token in the row. -/
theorem tv_get : ∀ (a : List Lx.Tok) (i j : Nat) (t : Lx.Tok), a[i]? = some t → j < 3 → (tv a)[i * 3 + j]? = (tc t)[j]?
  | [], i, j, t, h, _ => by simp at h
  | u :: r, 0, j, t, h, hj => by
    simp at h; subst h
    show (tc u ++ tv r)[0 * 3 + j]? = _
    rw [Nat.zero_mul, Nat.zero_add, List.getElem?_append_left (by simpa [tc] using hj)]
  | u :: r, i + 1, j, t, h, hj => by
    have := tv_get r i j t (by simpa using h) hj
    show (tc u ++ tv r)[(i + 1) * 3 + j]? = _
    rw [List.getElem?_append_right (by simp [tc]; omega), ← this]
    congr 1
    simp [tc]; omega
theorem tok_cell {w : World} {base n g cap : Nat} {a : List Lx.Tok} (h : w.ownsRow base 49 3 (.slice (some ⟨g, 0, none⟩) n cap) n (tv a)) {i : Nat} {t : Lx.Tok} (hi : a[i]? = some t) :
    w.cell? ⟨g, i * 3, none⟩ = some (.int .i64 (t.kind : Int)) ∧ w.cell? ⟨g, i * 3 + 1, none⟩ = some (.int .i64 (t.place : Int)) ∧ w.cell? ⟨g, i * 3 + 2, none⟩ = some (.string (str t.text)) := by
  have h0 := h.cells (g := g) rfl (i * 3) _ (by rw [show i * 3 = i * 3 + 0 from rfl, tv_get a i 0 t hi (by omega)]; rfl)
  have h1 := h.cells (g := g) rfl (i * 3 + 1) _ (by rw [tv_get a i 1 t hi (by omega)]; rfl)
  have h2 := h.cells (g := g) rfl (i * 3 + 2) _ (by rw [tv_get a i 2 t hi (by omega)]; rfl)
  rw [Addr.add_lit, Nat.zero_add] at h0 h1 h2
  exact ⟨h0, h1, h2⟩
theorem kn17 : Lx.lexR [97, 58, 58, 98, 32, 111, 114, 32, 99] = .ok [⟨1, 0, [97]⟩, ⟨5, 1, [58, 58]⟩, ⟨1, 3, [98]⟩, ⟨7, 5, [111, 114]⟩, ⟨1, 8, [99]⟩, ⟨11, 9, []⟩] := by rfl
set_option maxHeartbeats 400000 in
theorem known17 (w : World) : Calls Tryd.prog 20 #[] w fun e w' => e = .returned (.bool true) ∧ Below w.heap.size w w' := by
  go_enter Tryd.func20, Tryd.ntmps20
  go_wp2_with fail
  refine (lexR_any w [97, 58, 58, 98, 32, 111, 114, 32, 99]).mono ?_
  rw [kn17]
  rintro e w1 ⟨hb, v, rfl, how⟩
  obtain ⟨g, cap, cur, rfl, hg⟩ : ∃ g cap cur, v = .slice (some ⟨g, 0, none⟩) 6 cap ∧ w1.heap[g]? = some (.cells cur 49 (0, 0)) := by
    rcases how.2 with ⟨_, hx⟩ | ⟨g, cap, cur, h, _, hg, _⟩
    · exact absurd hx (by simp)
    · exact ⟨g, cap, cur, h, hg⟩
  have c0 := tok_cell how (i := 0) rfl
  have c1 := tok_cell how (i := 1) rfl
  have c3 := tok_cell how (i := 3) rfl
  have c5 := tok_cell how (i := 5) rfl
  obtain ⟨c00, _, _⟩ := c0
  obtain ⟨c10, c11, _⟩ := c1
  obtain ⟨c30, _, c32⟩ := c3
  obtain ⟨c50, c51, _⟩ := c5
  simp only [Nat.reduceMul, Nat.reduceAdd] at c00 c10 c11 c30 c32 c50 c51
  have H := Lib.hid how
  clear how
  have t0 : ((str [111, 114]).toList == [111, 114]) = true := by rw [str_is]; rfl
  go_wp2
  go_ret
  exact ⟨rfl, hb⟩
end Go.Proofs.YtcbddbclgepcmaaDoor
