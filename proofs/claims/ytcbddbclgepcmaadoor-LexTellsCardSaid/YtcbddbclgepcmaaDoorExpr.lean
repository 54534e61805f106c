/- taproothand.maker's expr, Text: some string of bounded size. -/
import Derived.Test.YtcbddbclgepcmaaDoorMaker
import Derived.Deep.RegionWith
namespace Go.Proofs.YtcbddbclgepcmaaDoor
open Go.RowKit Go.Tap
set_option linter.unusedVariables false
set_option linter.unusedSimpArgs false

def T0 : Nat → ByteArray
  | 0 => ⟨#[32, 111, 114, 32]⟩
  | 1 => ⟨#[43]⟩
  | _ => ⟨#[32, 124, 32]⟩
theorem T0_size (r : Nat) : (T0 r).size ≤ 9 := by unfold T0; split <;> decide
theorem T0_idx (r : Nat) (h : r < 3) (w : World) : (Instr.index 140 (.agg #[.string ⟨#[32, 111, 114, 32]⟩, .string ⟨#[43]⟩, .string ⟨#[32, 124, 32]⟩]) (.int .i64 (r : Int))).run Tryd.prog w = .ok (.string (T0 r)) w := by
  refine run_idx _ 9 3 _ r _ Tryd.underlying140 h ?_ (by intro w; simp [go_sem]) (by intro w; simp [go_sem]) w
  rcases (show r = 0 ∨ r = 1 ∨ r = 2 by omega) with rfl | rfl | rfl <;> rfl
def T1 : Nat → ByteArray
  | 0 => ⟨#[32, 45, 32]⟩
  | 1 => ⟨#[45]⟩
  | _ => ⟨#[32, 109, 105, 110, 117, 115, 32]⟩
theorem T1_size (r : Nat) : (T1 r).size ≤ 9 := by unfold T1; split <;> decide
theorem T1_idx (r : Nat) (h : r < 3) (w : World) : (Instr.index 140 (.agg #[.string ⟨#[32, 45, 32]⟩, .string ⟨#[45]⟩, .string ⟨#[32, 109, 105, 110, 117, 115, 32]⟩]) (.int .i64 (r : Int))).run Tryd.prog w = .ok (.string (T1 r)) w := by
  refine run_idx _ 9 3 _ r _ Tryd.underlying140 h ?_ (by intro w; simp [go_sem]) (by intro w; simp [go_sem]) w
  rcases (show r = 0 ∨ r = 1 ∨ r = 2 by omega) with rfl | rfl | rfl <;> rfl
def T2 : Nat → ByteArray
  | 0 => ⟨#[32, 97, 110, 100, 32]⟩
  | _ => ⟨#[38]⟩
theorem T2_size (r : Nat) : (T2 r).size ≤ 9 := by unfold T2; split <;> decide
theorem T2_idx (r : Nat) (h : r < 2) (w : World) : (Instr.index 141 (.agg #[.string ⟨#[32, 97, 110, 100, 32]⟩, .string ⟨#[38]⟩]) (.int .i64 (r : Int))).run Tryd.prog w = .ok (.string (T2 r)) w := by
  refine run_idx _ 9 2 _ r _ Tryd.underlying141 h ?_ (by intro w; simp [go_sem]) (by intro w; simp [go_sem]) w
  rcases (show r = 0 ∨ r = 1 by omega) with rfl | rfl <;> rfl
def T4 : Nat → ByteArray
  | 0 => ⟨#[110, 111, 116, 32]⟩
  | _ => ⟨#[33]⟩
theorem T4_size (r : Nat) : (T4 r).size ≤ 9 := by unfold T4; split <;> decide
theorem T4_idx (r : Nat) (h : r < 2) (w : World) : (Instr.index 141 (.agg #[.string ⟨#[110, 111, 116, 32]⟩, .string ⟨#[33]⟩]) (.int .i64 (r : Int))).run Tryd.prog w = .ok (.string (T4 r)) w := by
  refine run_idx _ 9 2 _ r _ Tryd.underlying141 h ?_ (by intro w; simp [go_sem]) (by intro w; simp [go_sem]) w
  rcases (show r = 0 ∨ r = 1 by omega) with rfl | rfl <;> rfl
def T18 : Nat → ByteArray
  | 0 => ⟨#[102, 105, 114, 115, 116]⟩
  | 1 => ⟨#[108, 97, 115, 116]⟩
  | _ => ⟨#[108, 105, 109, 105, 116]⟩
theorem T18_size (r : Nat) : (T18 r).size ≤ 9 := by unfold T18; split <;> decide
theorem T18_idx (r : Nat) (h : r < 3) (w : World) : (Instr.index 140 (.agg #[.string ⟨#[102, 105, 114, 115, 116]⟩, .string ⟨#[108, 97, 115, 116]⟩, .string ⟨#[108, 105, 109, 105, 116]⟩]) (.int .i64 (r : Int))).run Tryd.prog w = .ok (.string (T18 r)) w := by
  refine run_idx _ 9 3 _ r _ Tryd.underlying140 h ?_ (by intro w; simp [go_sem]) (by intro w; simp [go_sem]) w
  rcases (show r = 0 ∨ r = 1 ∨ r = 2 by omega) with rfl | rfl | rfl <;> rfl
def T19 : Nat → ByteArray
  | 0 => ⟨#[48]⟩
  | 1 => ⟨#[49]⟩
  | 2 => ⟨#[51]⟩
  | _ => ⟨#[48, 48, 55]⟩
theorem T19_size (r : Nat) : (T19 r).size ≤ 9 := by unfold T19; split <;> decide
theorem T19_idx (r : Nat) (h : r < 4) (w : World) : (Instr.index 142 (.agg #[.string ⟨#[48]⟩, .string ⟨#[49]⟩, .string ⟨#[51]⟩, .string ⟨#[48, 48, 55]⟩]) (.int .i64 (r : Int))).run Tryd.prog w = .ok (.string (T19 r)) w := by
  refine run_idx _ 9 4 _ r _ Tryd.underlying142 h ?_ (by intro w; simp [go_sem]) (by intro w; simp [go_sem]) w
  rcases (show r = 0 ∨ r = 1 ∨ r = 2 ∨ r = 3 by omega) with rfl | rfl | rfl | rfl <;> rfl
def T20 : Nat → ByteArray
  | 0 => ⟨#[97, 108, 108, 40, 41]⟩
  | 1 => ⟨#[109, 97, 115, 116, 101, 114, 40, 41]⟩
  | _ => ⟨#[110, 111, 110, 101, 40, 41]⟩
theorem T20_size (r : Nat) : (T20 r).size ≤ 9 := by unfold T20; split <;> decide
theorem T20_idx (r : Nat) (h : r < 3) (w : World) : (Instr.index 140 (.agg #[.string ⟨#[97, 108, 108, 40, 41]⟩, .string ⟨#[109, 97, 115, 116, 101, 114, 40, 41]⟩, .string ⟨#[110, 111, 110, 101, 40, 41]⟩]) (.int .i64 (r : Int))).run Tryd.prog w = .ok (.string (T20 r)) w := by
  refine run_idx _ 9 3 _ r _ Tryd.underlying140 h ?_ (by intro w; simp [go_sem]) (by intro w; simp [go_sem]) w
  rcases (show r = 0 ∨ r = 1 ∨ r = 2 by omega) with rfl | rfl | rfl <;> rfl

def SZ : Nat → Nat
  | 0 => 64
  | d + 1 => 2 * SZ d + 40
def KN : Nat → Nat
  | 0 => 3
  | d + 1 => 2 * KN d + 4
theorem KN_ge : ∀ d, 3 ≤ KN d
  | 0 => Nat.le_refl _
  | d + 1 => by have := KN_ge d; simp only [KN]; omega
theorem SZ_ge : ∀ d, 64 ≤ SZ d
  | 0 => Nat.le_refl _
  | d + 1 => by have := SZ_ge d; simp only [SZ]; omega
/-- What expr does, one deep. -/
def ExprAt (d : Nat) : Prop := ∀ (w : World) (B : Nat) (a : Option Addr) (n c : Nat) (zs : List Int) (at_ deep : Nat), MkS w B a n c zs at_ → deep + d = 4 → at_ + KN d ≤ 1000 →
  Calls Tryd.prog 45 #[.pointer (some ⟨B, 0, none⟩), .int .i64 (deep : Int)] w (Made w B a n c zs at_ (SZ d) (KN d))
theorem szl (l : List UInt8) : ByteArray.size ⟨l.toArray⟩ = l.length := by simp [ByteArray.size]
theorem tstay_drew {S : Nat → Prop} {w w' : World} (h : TStay S w.drew w') : TStay S w w' := ⟨h.os, h.tape, h.output, h.size, h.block⟩

set_option maxHeartbeats 2000000 in
set_option maxRecDepth 100000 in
theorem expr_zero : ExprAt 0 := by
  intro w B a n c zs at_ deep h hd hkn
  obtain rfl : deep = 4 := by omega
  have hat : at_ ≤ 997 := by simp only [KN] at hkn; omega
  go_enter Tryd.func45, Tryd.ntmps45
  go_wp2_with fail
  refine (next_any w B a n c zs at_ h (by omega) 26 (by omega) (by omega)).mono ?_
  rintro e w1 ⟨k, at1, hk, rfl, ha1, ha2, h1, t1⟩
  have HM := Lib.hid h1
  have HT := Lib.hid t1
  have um : (k : Int).tmod 6 = ((k % 6 : Nat) : Int) := by rw [Int.tmod_eq_emod_of_nonneg (by omega)]; norm_cast
  have um2 : (k : Int) % 6 = ((k % 6 : Nat) : Int) := by norm_cast
  have hq5 : k % 6 ≤ 5 := by omega
  generalize k % 6 = q at um um2 hq5
  obtain ⟨kk, hkk⟩ : ∃ kk : Nat, kk = 20 + q := ⟨_, rfl⟩
  have hk1 : (20 : Int) + (q : Int) = (kk : Int) := by omega
  have hk2 : 20 ≤ kk := by omega
  clear h h1 t1 hkk
  have dlt : decide ((kk : Int) < 20) = false := decide_eq_false (by omega)
  have dlt2 : decide (kk < 20) = false := decide_eq_false (by omega)
  have z0 : ((kk : Int) == 0) = false := by simp; omega
  have z1 : ((kk : Int) == 1) = false := by simp; omega
  have z2 : ((kk : Int) == 2) = false := by simp; omega
  have z3 : ((kk : Int) == 3) = false := by simp; omega
  have z4 : ((kk : Int) == 4) = false := by simp; omega
  have z5 : ((kk : Int) == 5) = false := by simp; omega
  have z6 : ((kk : Int) == 6) = false := by simp; omega
  have z7 : ((kk : Int) == 7) = false := by simp; omega
  have z8 : ((kk : Int) == 8) = false := by simp; omega
  have z9 : ((kk : Int) == 9) = false := by simp; omega
  have z10 : ((kk : Int) == 10) = false := by simp; omega
  have z11 : ((kk : Int) == 11) = false := by simp; omega
  have z12 : ((kk : Int) == 12) = false := by simp; omega
  have z13 : ((kk : Int) == 13) = false := by simp; omega
  have z14 : ((kk : Int) == 14) = false := by simp; omega
  have z15 : ((kk : Int) == 15) = false := by simp; omega
  have z16 : ((kk : Int) == 16) = false := by simp; omega
  have z17 : ((kk : Int) == 17) = false := by simp; omega
  have z18 : ((kk : Int) == 18) = false := by simp; omega
  have z19 : ((kk : Int) == 19) = false := by simp; omega
  by_cases h20 : kk = 20
  · subst h20
    go_wp2_with (go_at_call 70; refine (next_any _ B a n c zs at1 HM.out (by omega) 3 (by omega) (by omega)).mono ?_; rintro e w2 ⟨r, at2, hr, rfl, hb1, hb2, h2, t2⟩; have hix := T20_idx r hr)
    go_ret
    exact ⟨_, at2, Nat.le_trans (T20_size r) (by have := SZ_ge 0; omega), rfl, by omega, by have := KN_ge 0; omega, h2, HT.out.trans t2 (fun _ _ h => h)⟩
  · have z20 : ((kk : Int) == 20) = false := by simp; omega
    go_wp2_with fail
    refine (name_any _ B a n c zs at1 HM.out (by omega)).mono ?_
    rintro e w2 ⟨s, at2, hs, rfl, hb1, hb2, h2, t2⟩
    go_wp2
    go_ret
    exact ⟨s, at2, Nat.le_trans hs (SZ_ge 0), rfl, by omega, by have := KN_ge 0; omega, h2, HT.out.trans t2 (fun _ _ h => h)⟩

set_option maxHeartbeats 40000000 in
set_option maxRecDepth 100000 in
theorem expr_succ (d : Nat) (ih : ExprAt d) : ExprAt (d + 1) := by
  intro w B a n c zs at_ deep h hd hkn
  have hat : at_ ≤ 997 := by have := KN_ge d; simp only [KN] at hkn; omega
  have hS : SZ d ≤ 10000 := by
    rcases (show d = 0 ∨ d = 1 ∨ d = 2 ∨ d = 3 by omega) with rfl | rfl | rfl | rfl <;> decide
  have IH : ∀ (w' : World) (at' : Nat), MkS w' B a n c zs at' → at' + KN d ≤ 1000 → Calls Tryd.prog 45 #[.pointer (some ⟨B, 0, none⟩), .int .i64 ((deep : Int) + 1)] w' (Made w' B a n c zs at' (SZ d) (KN d)) :=
    fun w' at' h' hk' => ih w' B a n c zs at' (deep + 1) h' (by omega) hk'
  clear ih
  have hwr : IntKind.i64.wrap ((deep : Int) + 1) = (deep : Int) + 1 := wrapi _ (by omega)
  replace IH := Lib.hid IH
  have dd : decide ((3 : Int) < (deep : Int)) = false := decide_eq_false (by omega)
  have dd2 : decide (3 < deep) = false := decide_eq_false (by omega)
  go_enter Tryd.func45, Tryd.ntmps45
  go_wp2_with fail
  refine (next_any w B a n c zs at_ h (by omega) 26 (by omega) (by omega)).mono ?_
  rintro e w1 ⟨k, at1, hk, rfl, ha1, ha2, h1, t1⟩
  have HM := Lib.hid h1
  have HT := Lib.hid t1
  have hc1 : w1.cell? ⟨B, 1, none⟩ = some (.int .i64 (at1 : Int)) := blk_cell h1.blk rfl
  clear h h1 t1
  by_cases h20 : 20 < at1
  · have d20 : decide ((20 : Int) < (at1 : Int)) = true := decide_eq_true (by omega)
    have d21 : decide (20 < at1) = true := decide_eq_true h20
    have um : (k : Int).tmod 6 = ((k % 6 : Nat) : Int) := by rw [Int.tmod_eq_emod_of_nonneg (by omega)]; norm_cast
    have um2 : (k : Int) % 6 = ((k % 6 : Nat) : Int) := by norm_cast
    have hq5 : k % 6 ≤ 5 := by omega
    generalize k % 6 = q at um um2 hq5
    obtain ⟨kk, hkk⟩ : ∃ kk : Nat, kk = 20 + q := ⟨_, rfl⟩
    have hk1 : (20 : Int) + (q : Int) = (kk : Int) := by omega
    have hk2 : 20 ≤ kk := by omega
    clear hkk
    have dlt : decide ((kk : Int) < 20) = false := decide_eq_false (by omega)
    have dlt2 : decide (kk < 20) = false := decide_eq_false (by omega)
    have z0 : ((kk : Int) == 0) = false := by simp; omega
    have z1 : ((kk : Int) == 1) = false := by simp; omega
    have z2 : ((kk : Int) == 2) = false := by simp; omega
    have z3 : ((kk : Int) == 3) = false := by simp; omega
    have z4 : ((kk : Int) == 4) = false := by simp; omega
    have z5 : ((kk : Int) == 5) = false := by simp; omega
    have z6 : ((kk : Int) == 6) = false := by simp; omega
    have z7 : ((kk : Int) == 7) = false := by simp; omega
    have z8 : ((kk : Int) == 8) = false := by simp; omega
    have z9 : ((kk : Int) == 9) = false := by simp; omega
    have z10 : ((kk : Int) == 10) = false := by simp; omega
    have z11 : ((kk : Int) == 11) = false := by simp; omega
    have z12 : ((kk : Int) == 12) = false := by simp; omega
    have z13 : ((kk : Int) == 13) = false := by simp; omega
    have z14 : ((kk : Int) == 14) = false := by simp; omega
    have z15 : ((kk : Int) == 15) = false := by simp; omega
    have z16 : ((kk : Int) == 16) = false := by simp; omega
    have z17 : ((kk : Int) == 17) = false := by simp; omega
    have z18 : ((kk : Int) == 18) = false := by simp; omega
    have z19 : ((kk : Int) == 19) = false := by simp; omega
    by_cases h21 : kk = 20
    · subst h21
      go_wp2_with (go_at_call 70; refine (next_any _ B a n c zs at1 HM.out (by omega) 3 (by omega) (by omega)).mono ?_; rintro e w2 ⟨r, at2, hr, rfl, hb1, hb2, h2, t2⟩; have hix := T20_idx r hr)
      go_ret
      exact ⟨_, at2, Nat.le_trans (T20_size r) (by have := SZ_ge (d + 1); omega), rfl, by omega, by have := KN_ge (d + 1); omega, h2, HT.out.trans t2 (fun _ _ h => h)⟩
    · have z20 : ((kk : Int) == 20) = false := by simp; omega
      go_wp2_with fail
      refine (name_any _ B a n c zs at1 HM.out (by omega)).mono ?_
      rintro e w2 ⟨s, at2, hs, rfl, hb1, hb2, h2, t2⟩
      go_wp2
      go_ret
      exact ⟨s, at2, Nat.le_trans hs (SZ_ge (d + 1)), rfl, by omega, by have := KN_ge (d + 1); omega, h2, HT.out.trans t2 (fun _ _ h => h)⟩
  have d20 : decide ((20 : Int) < (at1 : Int)) = false := decide_eq_false (by omega)
  have d21 : decide (20 < at1) = false := decide_eq_false h20
  by_cases hk2 : 20 ≤ k
  · obtain ⟨kk, rfl⟩ : ∃ kk : Nat, kk = k := ⟨_, rfl⟩
    have dlt : decide ((kk : Int) < 20) = false := decide_eq_false (by omega)
    have dlt2 : decide (kk < 20) = false := decide_eq_false (by omega)
    have z0 : ((kk : Int) == 0) = false := by simp; omega
    have z1 : ((kk : Int) == 1) = false := by simp; omega
    have z2 : ((kk : Int) == 2) = false := by simp; omega
    have z3 : ((kk : Int) == 3) = false := by simp; omega
    have z4 : ((kk : Int) == 4) = false := by simp; omega
    have z5 : ((kk : Int) == 5) = false := by simp; omega
    have z6 : ((kk : Int) == 6) = false := by simp; omega
    have z7 : ((kk : Int) == 7) = false := by simp; omega
    have z8 : ((kk : Int) == 8) = false := by simp; omega
    have z9 : ((kk : Int) == 9) = false := by simp; omega
    have z10 : ((kk : Int) == 10) = false := by simp; omega
    have z11 : ((kk : Int) == 11) = false := by simp; omega
    have z12 : ((kk : Int) == 12) = false := by simp; omega
    have z13 : ((kk : Int) == 13) = false := by simp; omega
    have z14 : ((kk : Int) == 14) = false := by simp; omega
    have z15 : ((kk : Int) == 15) = false := by simp; omega
    have z16 : ((kk : Int) == 16) = false := by simp; omega
    have z17 : ((kk : Int) == 17) = false := by simp; omega
    have z18 : ((kk : Int) == 18) = false := by simp; omega
    have z19 : ((kk : Int) == 19) = false := by simp; omega
    by_cases h21 : kk = 20
    · subst h21
      go_wp2_with (go_at_call 70; refine (next_any _ B a n c zs at1 HM.out (by omega) 3 (by omega) (by omega)).mono ?_; rintro e w2 ⟨r, at2, hr, rfl, hb1, hb2, h2, t2⟩; have hix := T20_idx r hr)
      go_ret
      exact ⟨_, at2, Nat.le_trans (T20_size r) (by have := SZ_ge (d + 1); omega), rfl, by omega, by have := KN_ge (d + 1); omega, h2, HT.out.trans t2 (fun _ _ h => h)⟩
    · have z20 : ((kk : Int) == 20) = false := by simp; omega
      go_wp2_with fail
      refine (name_any _ B a n c zs at1 HM.out (by omega)).mono ?_
      rintro e w2 ⟨s, at2, hs, rfl, hb1, hb2, h2, t2⟩
      go_wp2
      go_ret
      exact ⟨s, at2, Nat.le_trans hs (SZ_ge (d + 1)), rfl, by omega, by have := KN_ge (d + 1); omega, h2, HT.out.trans t2 (fun _ _ h => h)⟩
  have e20 : decide ((k : Int) < 20) = true := decide_eq_true (by omega)
  have e21 : decide (k < 20) = true := decide_eq_true (by omega)
  go_wp2_with fail
  refine (IH.out w1 at1 HM.out (by simp only [KN] at hkn; omega)).mono ?_
  rintro e w2 ⟨sa, at2, hs, rfl, hb1, hb2, h2, t2⟩
  replace HT := Lib.hid (HT.out.trans t2 (fun _ _ h => h))
  replace HM := Lib.hid h2
  clear h2 t2 hc1
  have hs2 : sa.size ≤ 10000 := by omega
  have hkd : at2 + 2 + KN d ≤ 1000 := by simp only [KN] at hkn; have := KN_ge d; omega
  have hat2 : at2 ≤ 990 := by have := KN_ge d; omega
  rcases (show k = 0 ∨ k = 1 ∨ k = 2 ∨ k = 3 ∨ k = 4 ∨ k = 5 ∨ k = 6 ∨ k = 7 ∨ k = 8 ∨ k = 9 ∨ k = 10 ∨ k = 11 ∨ k = 12 ∨ k = 13 ∨ k = 14 ∨ k = 15 ∨ k = 16 ∨ k = 17 ∨ k = 18 ∨ k = 19 by omega) with rfl | rfl | rfl | rfl | rfl | rfl | rfl | rfl | rfl | rfl | rfl | rfl | rfl | rfl | rfl | rfl | rfl | rfl | rfl | rfl
  · have hm0 := HM.out
    go_wp2
    refine wp_region_any (by kernel_rfl) ?_
    change wpAny _ _ _ _ _ _ _ (World.drew _)
    refine wpAny_take (i := 0) (v := ?_) rfl (by kernel_rfl) (by kernel_rfl) (by kernel_rfl) (fun _ _ _ h => h) (Or.inl ⟨by rfl, ?_⟩) ?_
    rotate_left
    · (intro w; go_simp; try (first | with_reducible rfl | (rw [if_neg]; (try simp only [ByteArray.size_append, szl, List.length_cons, List.length_nil]); omega)))
    refine wpAny_take (i := 1) (v := ?_) rfl (by kernel_rfl) (by kernel_rfl) (by kernel_rfl) (fun _ _ _ h => h) (Or.inl ⟨by rfl, ?_⟩) ?_
    rotate_left
    · (intro w; go_simp; try (first | with_reducible rfl | (rw [if_neg]; (try simp only [ByteArray.size_append, szl, List.length_cons, List.length_nil]); omega)))
    refine wpAny_take (i := 2) (v := ?_) rfl (by kernel_rfl) (by kernel_rfl) (by kernel_rfl) (fun _ _ _ h => h) (Or.inl ⟨by rfl, ?_⟩) ?_
    rotate_left
    · (intro w; go_simp; try (first | with_reducible rfl | (rw [if_neg]; (try simp only [ByteArray.size_append, szl, List.length_cons, List.length_nil]); omega)))
    refine wpAny_take (i := 6) (v := ?_) rfl (by kernel_rfl) (by kernel_rfl) (by kernel_rfl) (fun _ _ _ h => h) (Or.inl ⟨by rfl, ?_⟩) ?_
    rotate_left
    · (intro w; go_simp; try (first | with_reducible rfl | (rw [if_neg]; (try simp only [ByteArray.size_append, szl, List.length_cons, List.length_nil]); omega)))
    refine wpAny_take (i := 7) (v := ?_) rfl (by kernel_rfl) (by kernel_rfl) (by kernel_rfl) (fun _ _ _ h => h) (Or.inl ⟨by rfl, ?_⟩) ?_
    rotate_left
    · (intro w; go_simp; try (first | with_reducible rfl | (rw [if_neg]; (try simp only [ByteArray.size_append, szl, List.length_cons, List.length_nil]); omega)))
    refine wpAny_take (i := 8) (v := ?_) rfl (by kernel_rfl) (by kernel_rfl) (by kernel_rfl) (fun _ _ _ h => h) (Or.inl ⟨by rfl, ?_⟩) ?_
    rotate_left
    · (intro w; go_simp; try (first | with_reducible rfl | (rw [if_neg]; (try simp only [ByteArray.size_append, szl, List.length_cons, List.length_nil]); omega)))
    refine wpAny_ready (rs := [3]) (by kernel_rfl) (by simp) ?_
    refine AllReady.cons rfl (fun K hK => ?_) AllReady.nil
    go_simp
    go_wp2_with fail
    refine (next_any _ B a n c zs at2 hm0.drew (by omega) 3 (by omega) (by omega)).mono ?_
    rintro e w3 ⟨r, at3, hr, rfl, hc1, hc2, h3, t3⟩
    have hix := T0_idx r hr
    have hix2 := T0_size r
    go_wp2
    refine wpAny_take (i := 4) (v := ?_) rfl (by kernel_rfl) (by kernel_rfl) (by kernel_rfl) (fun _ _ _ h => h) (Or.inl ⟨by rfl, ?_⟩) ?_
    rotate_left
    · (intro w; go_simp; try (first | with_reducible rfl | (rw [if_neg]; (try simp only [ByteArray.size_append, szl, List.length_cons, List.length_nil]); omega)))
    refine wpAny_take (i := 5) (v := ?_) rfl (by kernel_rfl) (by kernel_rfl) (by kernel_rfl) (fun _ _ _ h => h) (Or.inl ⟨by rfl, ?_⟩) ?_
    rotate_left
    · (intro w; go_simp; try (first | with_reducible rfl | (rw [if_neg]; (try simp only [ByteArray.size_append, szl, List.length_cons, List.length_nil]); omega)))
    refine wpAny_ready (rs := [9]) (by kernel_rfl) (by simp) ?_
    refine AllReady.cons rfl (fun K hK => ?_) AllReady.nil
    go_simp
    go_wp2_with fail
    refine (IH.out _ at3 h3 (by omega)).mono ?_
    rintro e w4 ⟨sb, at4, hs3, rfl, hd1, hd2, h4, t4⟩
    have hs4 : sb.size ≤ 10000 := by omega
    go_wp2
    refine wpAny_take (i := 10) (v := ?_) rfl (by kernel_rfl) (by kernel_rfl) (by kernel_rfl) (fun _ _ _ h => h) (Or.inl ⟨by rfl, ?_⟩) ?_
    rotate_left
    · (intro w; go_simp; try (first | with_reducible rfl | (rw [if_neg]; (try simp only [ByteArray.size_append, szl, List.length_cons, List.length_nil]); omega)))
    refine wpAny_take (i := 11) (v := ?_) rfl (by kernel_rfl) (by kernel_rfl) (by kernel_rfl) (fun _ _ _ h => h) (Or.inl ⟨by rfl, ?_⟩) ?_
    rotate_left
    · (intro w; go_simp; try (first | with_reducible rfl | (rw [if_neg]; (try simp only [ByteArray.size_append, szl, List.length_cons, List.length_nil]); omega)))
    refine wpAny_done (by kernel_rfl) ?_ _
    go_wp2
    go_ret
    exact ⟨_, at4, (by simp only [ByteArray.size_append, szl, List.length_cons, List.length_nil, SZ]; omega), rfl, by omega, by simp only [KN] at hkn ⊢; omega, h4, HT.out.trans ((tstay_drew t3).trans t4 (fun _ _ h => h)) (fun _ _ h => h)⟩
  · have hm0 := HM.out
    go_wp2
    refine wp_region_any (by kernel_rfl) ?_
    change wpAny _ _ _ _ _ _ _ (World.drew _)
    refine wpAny_take (i := 0) (v := ?_) rfl (by kernel_rfl) (by kernel_rfl) (by kernel_rfl) (fun _ _ _ h => h) (Or.inl ⟨by rfl, ?_⟩) ?_
    rotate_left
    · (intro w; go_simp; try (first | with_reducible rfl | (rw [if_neg]; (try simp only [ByteArray.size_append, szl, List.length_cons, List.length_nil]); omega)))
    refine wpAny_take (i := 1) (v := ?_) rfl (by kernel_rfl) (by kernel_rfl) (by kernel_rfl) (fun _ _ _ h => h) (Or.inl ⟨by rfl, ?_⟩) ?_
    rotate_left
    · (intro w; go_simp; try (first | with_reducible rfl | (rw [if_neg]; (try simp only [ByteArray.size_append, szl, List.length_cons, List.length_nil]); omega)))
    refine wpAny_take (i := 2) (v := ?_) rfl (by kernel_rfl) (by kernel_rfl) (by kernel_rfl) (fun _ _ _ h => h) (Or.inl ⟨by rfl, ?_⟩) ?_
    rotate_left
    · (intro w; go_simp; try (first | with_reducible rfl | (rw [if_neg]; (try simp only [ByteArray.size_append, szl, List.length_cons, List.length_nil]); omega)))
    refine wpAny_take (i := 6) (v := ?_) rfl (by kernel_rfl) (by kernel_rfl) (by kernel_rfl) (fun _ _ _ h => h) (Or.inl ⟨by rfl, ?_⟩) ?_
    rotate_left
    · (intro w; go_simp; try (first | with_reducible rfl | (rw [if_neg]; (try simp only [ByteArray.size_append, szl, List.length_cons, List.length_nil]); omega)))
    refine wpAny_take (i := 7) (v := ?_) rfl (by kernel_rfl) (by kernel_rfl) (by kernel_rfl) (fun _ _ _ h => h) (Or.inl ⟨by rfl, ?_⟩) ?_
    rotate_left
    · (intro w; go_simp; try (first | with_reducible rfl | (rw [if_neg]; (try simp only [ByteArray.size_append, szl, List.length_cons, List.length_nil]); omega)))
    refine wpAny_take (i := 8) (v := ?_) rfl (by kernel_rfl) (by kernel_rfl) (by kernel_rfl) (fun _ _ _ h => h) (Or.inl ⟨by rfl, ?_⟩) ?_
    rotate_left
    · (intro w; go_simp; try (first | with_reducible rfl | (rw [if_neg]; (try simp only [ByteArray.size_append, szl, List.length_cons, List.length_nil]); omega)))
    refine wpAny_ready (rs := [3]) (by kernel_rfl) (by simp) ?_
    refine AllReady.cons rfl (fun K hK => ?_) AllReady.nil
    go_simp
    go_wp2_with fail
    refine (next_any _ B a n c zs at2 hm0.drew (by omega) 3 (by omega) (by omega)).mono ?_
    rintro e w3 ⟨r, at3, hr, rfl, hc1, hc2, h3, t3⟩
    have hix := T1_idx r hr
    have hix2 := T1_size r
    go_wp2
    refine wpAny_take (i := 4) (v := ?_) rfl (by kernel_rfl) (by kernel_rfl) (by kernel_rfl) (fun _ _ _ h => h) (Or.inl ⟨by rfl, ?_⟩) ?_
    rotate_left
    · (intro w; go_simp; try (first | with_reducible rfl | (rw [if_neg]; (try simp only [ByteArray.size_append, szl, List.length_cons, List.length_nil]); omega)))
    refine wpAny_take (i := 5) (v := ?_) rfl (by kernel_rfl) (by kernel_rfl) (by kernel_rfl) (fun _ _ _ h => h) (Or.inl ⟨by rfl, ?_⟩) ?_
    rotate_left
    · (intro w; go_simp; try (first | with_reducible rfl | (rw [if_neg]; (try simp only [ByteArray.size_append, szl, List.length_cons, List.length_nil]); omega)))
    refine wpAny_ready (rs := [9]) (by kernel_rfl) (by simp) ?_
    refine AllReady.cons rfl (fun K hK => ?_) AllReady.nil
    go_simp
    go_wp2_with fail
    refine (IH.out _ at3 h3 (by omega)).mono ?_
    rintro e w4 ⟨sb, at4, hs3, rfl, hd1, hd2, h4, t4⟩
    have hs4 : sb.size ≤ 10000 := by omega
    go_wp2
    refine wpAny_take (i := 10) (v := ?_) rfl (by kernel_rfl) (by kernel_rfl) (by kernel_rfl) (fun _ _ _ h => h) (Or.inl ⟨by rfl, ?_⟩) ?_
    rotate_left
    · (intro w; go_simp; try (first | with_reducible rfl | (rw [if_neg]; (try simp only [ByteArray.size_append, szl, List.length_cons, List.length_nil]); omega)))
    refine wpAny_take (i := 11) (v := ?_) rfl (by kernel_rfl) (by kernel_rfl) (by kernel_rfl) (fun _ _ _ h => h) (Or.inl ⟨by rfl, ?_⟩) ?_
    rotate_left
    · (intro w; go_simp; try (first | with_reducible rfl | (rw [if_neg]; (try simp only [ByteArray.size_append, szl, List.length_cons, List.length_nil]); omega)))
    refine wpAny_done (by kernel_rfl) ?_ _
    go_wp2
    go_ret
    exact ⟨_, at4, (by simp only [ByteArray.size_append, szl, List.length_cons, List.length_nil, SZ]; omega), rfl, by omega, by simp only [KN] at hkn ⊢; omega, h4, HT.out.trans ((tstay_drew t3).trans t4 (fun _ _ h => h)) (fun _ _ h => h)⟩
  · have hm0 := HM.out
    go_wp2
    refine wp_region_any (by kernel_rfl) ?_
    change wpAny _ _ _ _ _ _ _ (World.drew _)
    refine wpAny_take (i := 0) (v := ?_) rfl (by kernel_rfl) (by kernel_rfl) (by kernel_rfl) (fun _ _ _ h => h) (Or.inl ⟨by rfl, ?_⟩) ?_
    rotate_left
    · (intro w; go_simp; try (first | with_reducible rfl | (rw [if_neg]; (try simp only [ByteArray.size_append, szl, List.length_cons, List.length_nil]); omega)))
    refine wpAny_take (i := 1) (v := ?_) rfl (by kernel_rfl) (by kernel_rfl) (by kernel_rfl) (fun _ _ _ h => h) (Or.inl ⟨by rfl, ?_⟩) ?_
    rotate_left
    · (intro w; go_simp; try (first | with_reducible rfl | (rw [if_neg]; (try simp only [ByteArray.size_append, szl, List.length_cons, List.length_nil]); omega)))
    refine wpAny_take (i := 2) (v := ?_) rfl (by kernel_rfl) (by kernel_rfl) (by kernel_rfl) (fun _ _ _ h => h) (Or.inl ⟨by rfl, ?_⟩) ?_
    rotate_left
    · (intro w; go_simp; try (first | with_reducible rfl | (rw [if_neg]; (try simp only [ByteArray.size_append, szl, List.length_cons, List.length_nil]); omega)))
    refine wpAny_take (i := 3) (v := ?_) rfl (by kernel_rfl) (by kernel_rfl) (by kernel_rfl) (fun _ _ _ h => h) (Or.inl ⟨by rfl, ?_⟩) ?_
    rotate_left
    · (intro w; go_simp; try (first | with_reducible rfl | (rw [if_neg]; (try simp only [ByteArray.size_append, szl, List.length_cons, List.length_nil]); omega)))
    refine wpAny_take (i := 4) (v := ?_) rfl (by kernel_rfl) (by kernel_rfl) (by kernel_rfl) (fun _ _ _ h => h) (Or.inl ⟨by rfl, ?_⟩) ?_
    rotate_left
    · (intro w; go_simp; try (first | with_reducible rfl | (rw [if_neg]; (try simp only [ByteArray.size_append, szl, List.length_cons, List.length_nil]); omega)))
    refine wpAny_take (i := 9) (v := ?_) rfl (by kernel_rfl) (by kernel_rfl) (by kernel_rfl) (fun _ _ _ h => h) (Or.inl ⟨by rfl, ?_⟩) ?_
    rotate_left
    · (intro w; go_simp; try (first | with_reducible rfl | (rw [if_neg]; (try simp only [ByteArray.size_append, szl, List.length_cons, List.length_nil]); omega)))
    refine wpAny_take (i := 10) (v := ?_) rfl (by kernel_rfl) (by kernel_rfl) (by kernel_rfl) (fun _ _ _ h => h) (Or.inl ⟨by rfl, ?_⟩) ?_
    rotate_left
    · (intro w; go_simp; try (first | with_reducible rfl | (rw [if_neg]; (try simp only [ByteArray.size_append, szl, List.length_cons, List.length_nil]); omega)))
    refine wpAny_take (i := 11) (v := ?_) rfl (by kernel_rfl) (by kernel_rfl) (by kernel_rfl) (fun _ _ _ h => h) (Or.inl ⟨by rfl, ?_⟩) ?_
    rotate_left
    · (intro w; go_simp; try (first | with_reducible rfl | (rw [if_neg]; (try simp only [ByteArray.size_append, szl, List.length_cons, List.length_nil]); omega)))
    refine wpAny_ready (rs := [5]) (by kernel_rfl) (by simp) ?_
    refine AllReady.cons rfl (fun K hK => ?_) AllReady.nil
    go_simp
    go_wp2_with fail
    refine (next_any _ B a n c zs at2 hm0.drew (by omega) 2 (by omega) (by omega)).mono ?_
    rintro e w3 ⟨r, at3, hr, rfl, hc1, hc2, h3, t3⟩
    have hix := T2_idx r hr
    have hix2 := T2_size r
    go_wp2
    refine wpAny_take (i := 6) (v := ?_) rfl (by kernel_rfl) (by kernel_rfl) (by kernel_rfl) (fun _ _ _ h => h) (Or.inl ⟨by rfl, ?_⟩) ?_
    rotate_left
    · (intro w; go_simp; try (first | with_reducible rfl | (rw [if_neg]; (try simp only [ByteArray.size_append, szl, List.length_cons, List.length_nil]); omega)))
    refine wpAny_take (i := 7) (v := ?_) rfl (by kernel_rfl) (by kernel_rfl) (by kernel_rfl) (fun _ _ _ h => h) (Or.inl ⟨by rfl, ?_⟩) ?_
    rotate_left
    · (intro w; go_simp; try (first | with_reducible rfl | (rw [if_neg]; (try simp only [ByteArray.size_append, szl, List.length_cons, List.length_nil]); omega)))
    refine wpAny_take (i := 8) (v := ?_) rfl (by kernel_rfl) (by kernel_rfl) (by kernel_rfl) (fun _ _ _ h => h) (Or.inl ⟨by rfl, ?_⟩) ?_
    rotate_left
    · (intro w; go_simp; try (first | with_reducible rfl | (rw [if_neg]; (try simp only [ByteArray.size_append, szl, List.length_cons, List.length_nil]); omega)))
    refine wpAny_ready (rs := [12]) (by kernel_rfl) (by simp) ?_
    refine AllReady.cons rfl (fun K hK => ?_) AllReady.nil
    go_simp
    go_wp2_with fail
    refine (IH.out _ at3 h3 (by omega)).mono ?_
    rintro e w4 ⟨sb, at4, hs3, rfl, hd1, hd2, h4, t4⟩
    have hs4 : sb.size ≤ 10000 := by omega
    go_wp2
    refine wpAny_take (i := 13) (v := ?_) rfl (by kernel_rfl) (by kernel_rfl) (by kernel_rfl) (fun _ _ _ h => h) (Or.inl ⟨by rfl, ?_⟩) ?_
    rotate_left
    · (intro w; go_simp; try (first | with_reducible rfl | (rw [if_neg]; (try simp only [ByteArray.size_append, szl, List.length_cons, List.length_nil]); omega)))
    refine wpAny_take (i := 14) (v := ?_) rfl (by kernel_rfl) (by kernel_rfl) (by kernel_rfl) (fun _ _ _ h => h) (Or.inl ⟨by rfl, ?_⟩) ?_
    rotate_left
    · (intro w; go_simp; try (first | with_reducible rfl | (rw [if_neg]; (try simp only [ByteArray.size_append, szl, List.length_cons, List.length_nil]); omega)))
    refine wpAny_take (i := 15) (v := ?_) rfl (by kernel_rfl) (by kernel_rfl) (by kernel_rfl) (fun _ _ _ h => h) (Or.inl ⟨by rfl, ?_⟩) ?_
    rotate_left
    · (intro w; go_simp; try (first | with_reducible rfl | (rw [if_neg]; (try simp only [ByteArray.size_append, szl, List.length_cons, List.length_nil]); omega)))
    refine wpAny_done (by kernel_rfl) ?_ _
    go_wp2
    go_ret
    exact ⟨_, at4, (by simp only [ByteArray.size_append, szl, List.length_cons, List.length_nil, SZ]; omega), rfl, by omega, by simp only [KN] at hkn ⊢; omega, h4, HT.out.trans ((tstay_drew t3).trans t4 (fun _ _ h => h)) (fun _ _ h => h)⟩
  · have hm0 := HM.out
    go_wp2
    refine wp_region_any (by kernel_rfl) ?_
    change wpAny _ _ _ _ _ _ _ (World.drew _)
    refine wpAny_take (i := 0) (v := ?_) rfl (by kernel_rfl) (by kernel_rfl) (by kernel_rfl) (fun _ _ _ h => h) (Or.inl ⟨by rfl, ?_⟩) ?_
    rotate_left
    · (intro w; go_simp; try (first | with_reducible rfl | (rw [if_neg]; (try simp only [ByteArray.size_append, szl, List.length_cons, List.length_nil]); omega)))
    refine wpAny_take (i := 1) (v := ?_) rfl (by kernel_rfl) (by kernel_rfl) (by kernel_rfl) (fun _ _ _ h => h) (Or.inl ⟨by rfl, ?_⟩) ?_
    rotate_left
    · (intro w; go_simp; try (first | with_reducible rfl | (rw [if_neg]; (try simp only [ByteArray.size_append, szl, List.length_cons, List.length_nil]); omega)))
    refine wpAny_take (i := 2) (v := ?_) rfl (by kernel_rfl) (by kernel_rfl) (by kernel_rfl) (fun _ _ _ h => h) (Or.inl ⟨by rfl, ?_⟩) ?_
    rotate_left
    · (intro w; go_simp; try (first | with_reducible rfl | (rw [if_neg]; (try simp only [ByteArray.size_append, szl, List.length_cons, List.length_nil]); omega)))
    refine wpAny_take (i := 3) (v := ?_) rfl (by kernel_rfl) (by kernel_rfl) (by kernel_rfl) (fun _ _ _ h => h) (Or.inl ⟨by rfl, ?_⟩) ?_
    rotate_left
    · (intro w; go_simp; try (first | with_reducible rfl | (rw [if_neg]; (try simp only [ByteArray.size_append, szl, List.length_cons, List.length_nil]); omega)))
    refine wpAny_take (i := 4) (v := ?_) rfl (by kernel_rfl) (by kernel_rfl) (by kernel_rfl) (fun _ _ _ h => h) (Or.inl ⟨by rfl, ?_⟩) ?_
    rotate_left
    · (intro w; go_simp; try (first | with_reducible rfl | (rw [if_neg]; (try simp only [ByteArray.size_append, szl, List.length_cons, List.length_nil]); omega)))
    refine wpAny_take (i := 9) (v := ?_) rfl (by kernel_rfl) (by kernel_rfl) (by kernel_rfl) (fun _ _ _ h => h) (Or.inl ⟨by rfl, ?_⟩) ?_
    rotate_left
    · (intro w; go_simp; try (first | with_reducible rfl | (rw [if_neg]; (try simp only [ByteArray.size_append, szl, List.length_cons, List.length_nil]); omega)))
    refine wpAny_take (i := 10) (v := ?_) rfl (by kernel_rfl) (by kernel_rfl) (by kernel_rfl) (fun _ _ _ h => h) (Or.inl ⟨by rfl, ?_⟩) ?_
    rotate_left
    · (intro w; go_simp; try (first | with_reducible rfl | (rw [if_neg]; (try simp only [ByteArray.size_append, szl, List.length_cons, List.length_nil]); omega)))
    refine wpAny_take (i := 11) (v := ?_) rfl (by kernel_rfl) (by kernel_rfl) (by kernel_rfl) (fun _ _ _ h => h) (Or.inl ⟨by rfl, ?_⟩) ?_
    rotate_left
    · (intro w; go_simp; try (first | with_reducible rfl | (rw [if_neg]; (try simp only [ByteArray.size_append, szl, List.length_cons, List.length_nil]); omega)))
    refine wpAny_ready (rs := [5]) (by kernel_rfl) (by simp) ?_
    refine AllReady.cons rfl (fun K hK => ?_) AllReady.nil
    go_simp
    go_wp2_with fail
    refine (next_any _ B a n c zs at2 hm0.drew (by omega) 2 (by omega) (by omega)).mono ?_
    rintro e w3 ⟨r, at3, hr, rfl, hc1, hc2, h3, t3⟩
    have hix := T2_idx r hr
    have hix2 := T2_size r
    go_wp2
    refine wpAny_take (i := 6) (v := ?_) rfl (by kernel_rfl) (by kernel_rfl) (by kernel_rfl) (fun _ _ _ h => h) (Or.inl ⟨by rfl, ?_⟩) ?_
    rotate_left
    · (intro w; go_simp; try (first | with_reducible rfl | (rw [if_neg]; (try simp only [ByteArray.size_append, szl, List.length_cons, List.length_nil]); omega)))
    refine wpAny_take (i := 7) (v := ?_) rfl (by kernel_rfl) (by kernel_rfl) (by kernel_rfl) (fun _ _ _ h => h) (Or.inl ⟨by rfl, ?_⟩) ?_
    rotate_left
    · (intro w; go_simp; try (first | with_reducible rfl | (rw [if_neg]; (try simp only [ByteArray.size_append, szl, List.length_cons, List.length_nil]); omega)))
    refine wpAny_take (i := 8) (v := ?_) rfl (by kernel_rfl) (by kernel_rfl) (by kernel_rfl) (fun _ _ _ h => h) (Or.inl ⟨by rfl, ?_⟩) ?_
    rotate_left
    · (intro w; go_simp; try (first | with_reducible rfl | (rw [if_neg]; (try simp only [ByteArray.size_append, szl, List.length_cons, List.length_nil]); omega)))
    refine wpAny_ready (rs := [12]) (by kernel_rfl) (by simp) ?_
    refine AllReady.cons rfl (fun K hK => ?_) AllReady.nil
    go_simp
    go_wp2_with fail
    refine (IH.out _ at3 h3 (by omega)).mono ?_
    rintro e w4 ⟨sb, at4, hs3, rfl, hd1, hd2, h4, t4⟩
    have hs4 : sb.size ≤ 10000 := by omega
    go_wp2
    refine wpAny_take (i := 13) (v := ?_) rfl (by kernel_rfl) (by kernel_rfl) (by kernel_rfl) (fun _ _ _ h => h) (Or.inl ⟨by rfl, ?_⟩) ?_
    rotate_left
    · (intro w; go_simp; try (first | with_reducible rfl | (rw [if_neg]; (try simp only [ByteArray.size_append, szl, List.length_cons, List.length_nil]); omega)))
    refine wpAny_take (i := 14) (v := ?_) rfl (by kernel_rfl) (by kernel_rfl) (by kernel_rfl) (fun _ _ _ h => h) (Or.inl ⟨by rfl, ?_⟩) ?_
    rotate_left
    · (intro w; go_simp; try (first | with_reducible rfl | (rw [if_neg]; (try simp only [ByteArray.size_append, szl, List.length_cons, List.length_nil]); omega)))
    refine wpAny_take (i := 15) (v := ?_) rfl (by kernel_rfl) (by kernel_rfl) (by kernel_rfl) (fun _ _ _ h => h) (Or.inl ⟨by rfl, ?_⟩) ?_
    rotate_left
    · (intro w; go_simp; try (first | with_reducible rfl | (rw [if_neg]; (try simp only [ByteArray.size_append, szl, List.length_cons, List.length_nil]); omega)))
    refine wpAny_done (by kernel_rfl) ?_ _
    go_wp2
    go_ret
    exact ⟨_, at4, (by simp only [ByteArray.size_append, szl, List.length_cons, List.length_nil, SZ]; omega), rfl, by omega, by simp only [KN] at hkn ⊢; omega, h4, HT.out.trans ((tstay_drew t3).trans t4 (fun _ _ h => h)) (fun _ _ h => h)⟩
  · go_wp2_with (go_at_call 70; refine (next_any _ B a n c zs at2 HM.out (by omega) 2 (by omega) (by omega)).mono ?_; rintro e w3 ⟨r, at3, hr, rfl, hc1, hc2, h3, t3⟩; have hix := T4_idx r hr; have hix2 := T4_size r)
    go_ret
    exact ⟨_, at3, (by simp only [ByteArray.size_append, szl, List.length_cons, List.length_nil, SZ]; omega), rfl, by omega, by simp only [KN] at hkn ⊢; omega, h3, HT.out.trans t3 (fun _ _ h => h)⟩
  · go_wp2
    go_ret
    exact ⟨_, at2, (by simp only [ByteArray.size_append, szl, List.length_cons, List.length_nil, SZ]; omega), rfl, by omega, by simp only [KN] at hkn ⊢; omega, HM.out, HT.out⟩
  · go_wp2
    go_ret
    exact ⟨_, at2, (by simp only [ByteArray.size_append, szl, List.length_cons, List.length_nil, SZ]; omega), rfl, by omega, by simp only [KN] at hkn ⊢; omega, HM.out, HT.out⟩
  · go_wp2
    go_ret
    exact ⟨_, at2, (by simp only [ByteArray.size_append, szl, List.length_cons, List.length_nil, SZ]; omega), rfl, by omega, by simp only [KN] at hkn ⊢; omega, HM.out, HT.out⟩
  · go_wp2
    go_ret
    exact ⟨_, at2, (by simp only [ByteArray.size_append, szl, List.length_cons, List.length_nil, SZ]; omega), rfl, by omega, by simp only [KN] at hkn ⊢; omega, HM.out, HT.out⟩
  · go_wp2_with (go_at_call 45; refine (IH.out _ at2 HM.out (by omega)).mono ?_; rintro e w3 ⟨sb, at3, hs3, rfl, hc1, hc2, h3, t3⟩; have hs4 : sb.size ≤ 10000 := by omega)
    go_ret
    exact ⟨_, at3, (by simp only [ByteArray.size_append, szl, List.length_cons, List.length_nil, SZ]; omega), rfl, by omega, by simp only [KN] at hkn ⊢; omega, h3, HT.out.trans t3 (fun _ _ h => h)⟩
  · go_wp2_with (go_at_call 45; refine (IH.out _ at2 HM.out (by omega)).mono ?_; rintro e w3 ⟨sb, at3, hs3, rfl, hc1, hc2, h3, t3⟩; have hs4 : sb.size ≤ 10000 := by omega)
    go_ret
    exact ⟨_, at3, (by simp only [ByteArray.size_append, szl, List.length_cons, List.length_nil, SZ]; omega), rfl, by omega, by simp only [KN] at hkn ⊢; omega, h3, HT.out.trans t3 (fun _ _ h => h)⟩
  · go_wp2
    go_ret
    exact ⟨_, at2, (by simp only [ByteArray.size_append, szl, List.length_cons, List.length_nil, SZ]; omega), rfl, by omega, by simp only [KN] at hkn ⊢; omega, HM.out, HT.out⟩
  · go_wp2
    go_ret
    exact ⟨_, at2, (by simp only [ByteArray.size_append, szl, List.length_cons, List.length_nil, SZ]; omega), rfl, by omega, by simp only [KN] at hkn ⊢; omega, HM.out, HT.out⟩
  · go_wp2
    go_ret
    exact ⟨_, at2, (by simp only [ByteArray.size_append, szl, List.length_cons, List.length_nil, SZ]; omega), rfl, by omega, by simp only [KN] at hkn ⊢; omega, HM.out, HT.out⟩
  · go_wp2
    go_ret
    exact ⟨_, at2, (by simp only [ByteArray.size_append, szl, List.length_cons, List.length_nil, SZ]; omega), rfl, by omega, by simp only [KN] at hkn ⊢; omega, HM.out, HT.out⟩
  · go_wp2
    go_ret
    exact ⟨_, at2, (by simp only [ByteArray.size_append, szl, List.length_cons, List.length_nil, SZ]; omega), rfl, by omega, by simp only [KN] at hkn ⊢; omega, HM.out, HT.out⟩
  · go_wp2
    go_ret
    exact ⟨_, at2, (by simp only [ByteArray.size_append, szl, List.length_cons, List.length_nil, SZ]; omega), rfl, by omega, by simp only [KN] at hkn ⊢; omega, HM.out, HT.out⟩
  · go_wp2
    go_ret
    exact ⟨_, at2, (by simp only [ByteArray.size_append, szl, List.length_cons, List.length_nil, SZ]; omega), rfl, by omega, by simp only [KN] at hkn ⊢; omega, HM.out, HT.out⟩
  · have hm0 := HM.out
    go_wp2
    refine wp_region_any (by kernel_rfl) ?_
    change wpAny _ _ _ _ _ _ _ (World.drew _)
    refine wpAny_take (i := 0) (v := ?_) rfl (by kernel_rfl) (by kernel_rfl) (by kernel_rfl) (fun _ _ _ h => h) (Or.inl ⟨by rfl, ?_⟩) ?_
    rotate_left
    · (intro w; go_simp; try (first | with_reducible rfl | (rw [if_neg]; (try simp only [ByteArray.size_append, szl, List.length_cons, List.length_nil]); omega)))
    refine wpAny_take (i := 1) (v := ?_) rfl (by kernel_rfl) (by kernel_rfl) (by kernel_rfl) (fun _ _ _ h => h) (Or.inl ⟨by rfl, ?_⟩) ?_
    rotate_left
    · (intro w; go_simp; try (first | with_reducible rfl | (rw [if_neg]; (try simp only [ByteArray.size_append, szl, List.length_cons, List.length_nil]); omega)))
    refine wpAny_take (i := 5) (v := ?_) rfl (by kernel_rfl) (by kernel_rfl) (by kernel_rfl) (fun _ _ _ h => h) (Or.inl ⟨by rfl, ?_⟩) ?_
    rotate_left
    · (intro w; go_simp; try (first | with_reducible rfl | (rw [if_neg]; (try simp only [ByteArray.size_append, szl, List.length_cons, List.length_nil]); omega)))
    refine wpAny_take (i := 8) (v := ?_) rfl (by kernel_rfl) (by kernel_rfl) (by kernel_rfl) (fun _ _ _ h => h) (Or.inl ⟨by rfl, ?_⟩) ?_
    rotate_left
    · (intro w; go_simp; try (first | with_reducible rfl | (rw [if_neg]; (try simp only [ByteArray.size_append, szl, List.length_cons, List.length_nil]); omega)))
    refine wpAny_take (i := 9) (v := ?_) rfl (by kernel_rfl) (by kernel_rfl) (by kernel_rfl) (fun _ _ _ h => h) (Or.inl ⟨by rfl, ?_⟩) ?_
    rotate_left
    · (intro w; go_simp; try (first | with_reducible rfl | (rw [if_neg]; (try simp only [ByteArray.size_append, szl, List.length_cons, List.length_nil]); omega)))
    refine wpAny_ready (rs := [2]) (by kernel_rfl) (by simp) ?_
    refine AllReady.cons rfl (fun K hK => ?_) AllReady.nil
    go_simp
    go_wp2_with fail
    refine (next_any _ B a n c zs at2 hm0.drew (by omega) 3 (by omega) (by omega)).mono ?_
    rintro e w3 ⟨r, at3, hr, rfl, hc1, hc2, h3, t3⟩
    have hix := T18_idx r hr
    have hix2 := T18_size r
    go_wp2
    refine wpAny_take (i := 3) (v := ?_) rfl (by kernel_rfl) (by kernel_rfl) (by kernel_rfl) (fun _ _ _ h => h) (Or.inl ⟨by rfl, ?_⟩) ?_
    rotate_left
    · (intro w; go_simp; try (first | with_reducible rfl | (rw [if_neg]; (try simp only [ByteArray.size_append, szl, List.length_cons, List.length_nil]); omega)))
    refine wpAny_take (i := 4) (v := ?_) rfl (by kernel_rfl) (by kernel_rfl) (by kernel_rfl) (fun _ _ _ h => h) (Or.inl ⟨by rfl, ?_⟩) ?_
    rotate_left
    · (intro w; go_simp; try (first | with_reducible rfl | (rw [if_neg]; (try simp only [ByteArray.size_append, szl, List.length_cons, List.length_nil]); omega)))
    refine wpAny_take (i := 6) (v := ?_) rfl (by kernel_rfl) (by kernel_rfl) (by kernel_rfl) (fun _ _ _ h => h) (Or.inl ⟨by rfl, ?_⟩) ?_
    rotate_left
    · (intro w; go_simp; try (first | with_reducible rfl | (rw [if_neg]; (try simp only [ByteArray.size_append, szl, List.length_cons, List.length_nil]); omega)))
    refine wpAny_take (i := 7) (v := ?_) rfl (by kernel_rfl) (by kernel_rfl) (by kernel_rfl) (fun _ _ _ h => h) (Or.inl ⟨by rfl, ?_⟩) ?_
    rotate_left
    · (intro w; go_simp; try (first | with_reducible rfl | (rw [if_neg]; (try simp only [ByteArray.size_append, szl, List.length_cons, List.length_nil]); omega)))
    refine wpAny_ready (rs := [10]) (by kernel_rfl) (by simp) ?_
    refine AllReady.cons rfl (fun K hK => ?_) AllReady.nil
    go_simp
    go_wp2_with fail
    refine (next_any _ B a n c zs at3 h3 (by omega) 4 (by omega) (by omega)).mono ?_
    rintro e w4 ⟨r2, at4, hr2, rfl, hd1, hd2, h4, t4⟩
    have hjx := T19_idx r2 hr2
    have hjx2 := T19_size r2
    go_wp2
    refine wpAny_take (i := 11) (v := ?_) rfl (by kernel_rfl) (by kernel_rfl) (by kernel_rfl) (fun _ _ _ h => h) (Or.inl ⟨by rfl, ?_⟩) ?_
    rotate_left
    · (intro w; go_simp; try (first | with_reducible rfl | (rw [if_neg]; (try simp only [ByteArray.size_append, szl, List.length_cons, List.length_nil]); omega)))
    refine wpAny_take (i := 12) (v := ?_) rfl (by kernel_rfl) (by kernel_rfl) (by kernel_rfl) (fun _ _ _ h => h) (Or.inl ⟨by rfl, ?_⟩) ?_
    rotate_left
    · (intro w; go_simp; try (first | with_reducible rfl | (rw [if_neg]; (try simp only [ByteArray.size_append, szl, List.length_cons, List.length_nil]); omega)))
    refine wpAny_take (i := 13) (v := ?_) rfl (by kernel_rfl) (by kernel_rfl) (by kernel_rfl) (fun _ _ _ h => h) (Or.inl ⟨by rfl, ?_⟩) ?_
    rotate_left
    · (intro w; go_simp; try (first | with_reducible rfl | (rw [if_neg]; (try simp only [ByteArray.size_append, szl, List.length_cons, List.length_nil]); omega)))
    refine wpAny_take (i := 14) (v := ?_) rfl (by kernel_rfl) (by kernel_rfl) (by kernel_rfl) (fun _ _ _ h => h) (Or.inl ⟨by rfl, ?_⟩) ?_
    rotate_left
    · (intro w; go_simp; try (first | with_reducible rfl | (rw [if_neg]; (try simp only [ByteArray.size_append, szl, List.length_cons, List.length_nil]); omega)))
    refine wpAny_done (by kernel_rfl) ?_ _
    go_wp2
    go_ret
    exact ⟨_, at4, (by simp only [ByteArray.size_append, szl, List.length_cons, List.length_nil, SZ]; omega), rfl, by omega, by simp only [KN] at hkn ⊢; have := KN_ge d; omega, h4, HT.out.trans ((tstay_drew t3).trans t4 (fun _ _ h => h)) (fun _ _ h => h)⟩
  · go_wp2
    go_ret
    exact ⟨_, at2, (by simp only [ByteArray.size_append, szl, List.length_cons, List.length_nil, SZ]; omega), rfl, by omega, by simp only [KN] at hkn ⊢; omega, HM.out, HT.out⟩
end Go.Proofs.YtcbddbclgepcmaaDoor
