/- taproothand.Text, Bent: strings of bounded size. -/
import Derived.Test.YtcbddbclgepcmaaDoorExpr
namespace Go.Proofs.YtcbddbclgepcmaaDoor
open Go.RowKit Go.Tap
set_option linter.unusedVariables false

theorem expr_all : ∀ d, ExprAt d
  | 0 => expr_zero
  | d + 1 => expr_succ d (expr_all d)
theorem text_any (w : World) (a : Option Addr) (n c : Nat) (zs : List Int) (g : ArgI 140737488351232 w a n c zs) :
    Calls Tryd.prog 17 #[.slice a n c] w fun e w' => (∃ s : ByteArray, s.size ≤ 2000 ∧ e = .returned (.string s)) ∧ Below w.heap.size w w' := by
  have hn : n ≤ 140737488351232 := by have := g.cap; have := g.le; omega
  have hM : MkS (w.alloc (.cells #[.slice a n c, .int .i64 0] 92)) w.heap.size a n c zs 0 := by
    refine ⟨heap_alloc_new _ _, g.len, hn, fun h0 => ?_⟩
    obtain ⟨b, o, e, hx⟩ := g.at_ h0
    obtain ⟨x0, hx0⟩ : ∃ x, zs[0]? = some x := ⟨_, List.getElem?_eq_getElem (by have := g.len; omega)⟩
    have hlt := block_lt_of_cell (hx 0 x0 hx0).1
    refine ⟨b, o, e, by have : b < w.heap.size := hlt; omega, fun i x hi => ?_⟩
    have h1 := hx i x hi
    rw [Nat.mul_one] at h1
    have h2 := block_lt_of_cell h1.1
    exact ⟨(World.cell?_of_block (w := w) (Below.heap_alloc _ _ _ h2)).trans h1.1, h1.2⟩
  have hb0 : Below w.heap.size w (w.alloc (.cells #[.slice a n c, .int .i64 0] 92)) := (Below.refl _ _).alloc (Nat.le_refl _) _
  go_enter Tryd.func17, Tryd.ntmps17
  go_wp2_with fail
  refine (expr_all 4 _ w.heap.size a n c zs 0 0 hM (by omega) (by decide)).mono ?_
  rintro e w2 ⟨s, at2, hs, rfl, _, _, _, t2⟩
  go_wp2
  go_ret
  exact ⟨⟨s, Nat.le_trans hs (by decide), rfl⟩, Below.trans_stay hb0 t2 (by simp) (by rintro k hk rfl; omega)⟩

def T13 : Nat → ByteArray
  | 0 => ⟨#[32]⟩
  | 1 => ⟨#[40]⟩
  | 2 => ⟨#[41]⟩
  | 3 => ⟨#[58, 58]⟩
  | 4 => ⟨#[46, 46]⟩
  | 5 => ⟨#[44]⟩
  | 6 => ⟨#[45]⟩
  | 7 => ⟨#[33]⟩
  | 8 => ⟨#[103]⟩
  | 9 => ⟨#[65]⟩
  | 10 => ⟨#[58]⟩
  | 11 => ⟨#[]⟩
  | _ => ⟨#[97, 110, 100, 32]⟩
theorem T13_size (r : Nat) : (T13 r).size ≤ 4 := by unfold T13; split <;> decide
theorem T13_idx (r : Nat) (h : r < 13) (w : World) : (Instr.index 89 (.agg #[.string ⟨#[32]⟩, .string ⟨#[40]⟩, .string ⟨#[41]⟩, .string ⟨#[58, 58]⟩, .string ⟨#[46, 46]⟩, .string ⟨#[44]⟩, .string ⟨#[45]⟩, .string ⟨#[33]⟩, .string ⟨#[103]⟩, .string ⟨#[65]⟩, .string ⟨#[58]⟩, .string ⟨#[]⟩, .string ⟨#[97, 110, 100, 32]⟩]) (.int .i64 (r : Int))).run Tryd.prog w = .ok (.string (T13 r)) w := by
  refine run_idx _ 9 13 _ r _ Tryd.underlying89 h ?_ (by intro w; simp [go_sem]) (by intro w; simp [go_sem]) w
  rcases (show r = 0 ∨ r = 1 ∨ r = 2 ∨ r = 3 ∨ r = 4 ∨ r = 5 ∨ r = 6 ∨ r = 7 ∨ r = 8 ∨ r = 9 ∨ r = 10 ∨ r = 11 ∨ r = 12 by omega) with rfl | rfl | rfl | rfl | rfl | rfl | rfl | rfl | rfl | rfl | rfl | rfl | rfl <;> rfl
theorem pick_nat (x m : Int) (hm : 0 < m) : ∃ p : Nat, x % m = (p : Int) ∧ (p : Int) < m := by
  obtain ⟨p, hp⟩ := Int.eq_ofNat_of_zero_le (Int.emod_nonneg x (by omega : m ≠ 0))
  exact ⟨p, hp, by rw [← hp]; exact Int.emod_lt_of_pos x hm⟩
set_option maxHeartbeats 2000000 in
set_option maxRecDepth 100000 in
theorem bent_any (w : World) (s0 : ByteArray) (hs0 : s0.size ≤ 2000) (a : Option Addr) (n c : Nat) (zs : List Int) (g : ArgI 140737488351232 w a n c zs) :
    Calls Tryd.prog 16 #[.string s0, .slice a n c] w fun e w' => (∃ s : ByteArray, s.size ≤ 2100 ∧ e = .returned (.string s)) ∧ Below w.heap.size w w' := by
  have hl := g.len
  have hle := g.le
  have hcap := g.cap
  have HG := Lib.hid g.at_
  clear g
  go_enter Tryd.func16, Tryd.ntmps16
  go_wp2
  go_loopw [0, 5, 6, 7] (fun sv t _ _ wr => ∃ (k : Nat) (s : ByteArray), k ≤ 3 ∧ t = .int .i64 (k : Int) ∧ sv = .string s ∧ s.size ≤ 2000 + 4 * k ∧ Hid (∀ p, wr.cell? p = w.cell? p) ∧ Below w.heap.size w wr) (fun _ t _ _ _ => 3 - (intOf t).toNat)
  case atStart => exact ⟨0, s0, by omega, rfl, rfl, by omega, fun _ => rfl, Below.refl _ _⟩
  case round =>
    obtain ⟨k, s, hk3, rfl, rfl, hs, HC, hb⟩ := hrel
    by_cases hgo : k < n ∧ k < 3 ∧ 0 < s.size
    · obtain ⟨g1, g2, g3⟩ := hgo
      have d1 : decide ((k : Int) < (n : Int)) = true := decide_eq_true (by omega)
      have d2 : decide ((k : Int) < 3) = true := decide_eq_true (by omega)
      have d3 : decide ((0 : Int) < (s.size : Int)) = true := decide_eq_true (by omega)
      have d4 : decide (k < n) = true := decide_eq_true g1
      have d5 : decide (k < 3) = true := decide_eq_true g2
      have d6 : decide (0 < s.size) = true := decide_eq_true g3
      obtain ⟨b, o, rfl, hx⟩ := HG.out (by omega)
      obtain ⟨x, hxi⟩ : ∃ x, zs[k]? = some x := ⟨_, List.getElem?_eq_getElem (by omega)⟩
      obtain ⟨hcx, hx0, hx1⟩ := hx k x hxi
      rw [Nat.mul_one] at hcx
      replace hcx := (HC.out _).trans hcx
      have r13 := tdiv_range x 13 (by omega) hx0 hx1
      have r5 := tdiv_range x 5 (by omega) hx0 hx1
      obtain ⟨p1, e1, l1⟩ := pick_nat (x.tdiv 13) (s.size : Int) (by omega)
      obtain ⟨p2, e2, l2⟩ := pick_nat x 13 (by omega)
      obtain ⟨p3, e3, l3⟩ := pick_nat (x.tdiv 5) 2 (by omega)
      have w13 : IntKind.i64.wrap (x.tdiv 13) = x.tdiv 13 := wrapi _ r13
      have w5 : IntKind.i64.wrap (x.tdiv 5) = x.tdiv 5 := wrapi _ r5
      have R13 := Lib.hid r13
      have R5 := Lib.hid r5
      have E1 := Lib.hid e1
      have E2 := Lib.hid e2
      have RX := Lib.hid (And.intro hx0 hx1)
      clear e1 e2 r13 r5 hx0 hx1 hx hxi
      have hix := T13_idx p2 (by omega)
      have hsz := T13_size p2
      have c1 : (0 : Int) ≤ (p1 : Int) := by omega
      have c2 : (p1 : Int) ≤ (s.size : Int) := by omega
      have c3 : IntKind.i64.wrap ((p1 : Int) + (p3 : Int)) = (p1 : Int) + (p3 : Int) := wrapi _ (by omega)
      have c4 : (p1 : Int) + (p3 : Int) ≤ (s.size : Int) := by omega
      have c5 : (0 : Int) ≤ (p1 : Int) + (p3 : Int) := by omega
      have z1 : (s.extract 0 p1).size = p1 := by rw [ByteArray.size_extract]; omega
      have z2 : (s.extract 0 p1 ++ T13 p2).size = p1 + (T13 p2).size := by rw [ByteArray.size_append, z1]
      have z3 : (s.extract (p1 + p3) s.size).size = s.size - (p1 + p3) := by rw [ByteArray.size_extract]; omega
      have f1 : (9223372036854775807 < p1 + (T13 p2).size) = False := by simp; omega
      have f2 : (9223372036854775807 < p1 + (T13 p2).size + (s.size - (p1 + p3))) = False := by simp; omega
      go_wp2_with fail
      refine (pick_any _ (x.tdiv 13) (s.size : Int) R13.out.1 R13.out.2 (by omega) (by omega)).mono ?_
      rw [E1.out]
      rintro e w' ⟨rfl, rfl⟩
      go_wp2_with fail
      refine (pick_any _ x 13 RX.out.1 RX.out.2 (by omega) (by omega)).mono ?_
      rw [E2.out]
      rintro e w' ⟨rfl, rfl⟩
      go_wp2_with fail
      go_quiet (first | (go_at_call 14; exact Calls.quiet_of_same (pick_q _ _ _ _ R5.out.1 R5.out.2 (by omega) (by omega))))
      go_wp2
      go_roundw
      case rel => exact ⟨k + 1, _, by omega, by go_num, rfl, by rw [ByteArray.size_append, ByteArray.size_append, z1, z3]; omega, fun p => HC.out p, bel_drewN hb nq⟩
      case measure => first | (simp [intOf]; done) | (simp [intOf]; omega)
    · have hex : (decide ((k : Int) < (n : Int)) = false ∧ decide (k < n) = false) ∨ ((decide ((k : Int) < (n : Int)) = true ∧ decide (k < n) = true) ∧ decide ((k : Int) < 3) = false) ∨ ((decide ((k : Int) < (n : Int)) = true ∧ decide (k < n) = true) ∧ decide ((k : Int) < 3) = true ∧ decide ((0 : Int) < (s.size : Int)) = false ∧ decide (0 < s.size) = false) := by
        by_cases g1 : k < n
        · by_cases g2 : k < 3
          · exact .inr (.inr ⟨⟨decide_eq_true (by omega), decide_eq_true g1⟩, decide_eq_true (by omega), decide_eq_false (by omega), decide_eq_false (by omega)⟩)
          · exact .inr (.inl ⟨⟨decide_eq_true (by omega), decide_eq_true g1⟩, decide_eq_false (by omega)⟩)
        · exact .inl ⟨decide_eq_false (by omega), decide_eq_false g1⟩
      clear hgo
      rcases hex with ⟨d1, d2⟩ | ⟨⟨d1, d2⟩, d3⟩ | ⟨⟨d1, d2⟩, d3, d4, d5⟩
      all_goals
        go_wp2
        go_ret
        exact ⟨⟨s, by omega, rfl⟩, hb⟩
end Go.Proofs.YtcbddbclgepcmaaDoor
