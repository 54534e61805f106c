/- Contracts of the two Readers, on: Var, Left, Lack. -/
import Derived.Test.YthampbiabkfmoaaGreatDoorReader
namespace Go.Proofs.YthampbiabkfmoaaGreatDoor
open Go.RowKit Go.Tap
set_option linter.unusedVariables false

theorem rU8_cons (w : World) (B : Nat) (a : Option Addr) (c : Nat) (x : UInt8) (r : List UInt8) (h : IsR 156 w B a c false (x :: r)) :
    Calls Tryz.prog 54 #[.pointer (some ⟨B, 0, none⟩)] w (RAft 156 w B (.int .i64 (x.toNat : Int)) (r, false)) := by
  have := rU8_any w B a c false (x :: r) h
  have hx := x.toNat_lt
  have e : Oct.rdU 1 (x :: r) false = (x.toNat, r, false) := by simp [Oct.rdU, Oct.val]
  have e2 : Oct.i64 x.toNat = (x.toNat : Int) := by unfold Oct.i64; rw [if_pos (by omega)]
  rw [e] at this
  simp only [e2] at this
  exact this
theorem rU8_none (w : World) (B : Nat) (a : Option Addr) (c : Nat) (lack : Bool) (l : List UInt8) (h : IsR 156 w B a c lack l) (hn : lack = true ∨ l = []) :
    Calls Tryz.prog 54 #[.pointer (some ⟨B, 0, none⟩)] w (RAft 156 w B (.int .i64 0) ([], true)) := by
  have := rU8_any w B a c lack l h
  have e : Oct.rdU 1 l lack = (0, [], true) := by unfold Oct.rdU; rw [if_pos (by rcases hn with hn | rfl; exact .inl hn; exact .inr (by simp))]
  rw [e] at this
  exact this
/-- What is still to come of a Var. -/
def rdCont (l : List UInt8) (lack : Bool) (k V : Nat) : Int × List UInt8 × Bool :=
  if lack = true then (0, [], true) else
  match Oct.varGo l k V with
  | none => (0, [], true)
  | some (v, r) => (Oct.i64 v, r, false)
theorem rdCont_none (l : List UInt8) (lack : Bool) (k V : Nat) (h : lack = true ∨ l = []) : rdCont l lack k V = (0, [], true) := by
  unfold rdCont
  rcases h with h | rfl
  · rw [if_pos h]
  · split <;> rfl
theorem rdCont_bad (x : UInt8) (r : List UInt8) (k V : Nat) (h : 9 < k ∨ (k = 9 ∧ 1 < x.toNat) ∨ (0 < k ∧ x.toNat = 0)) : rdCont (x :: r) false k V = (0, [], true) := by
  unfold rdCont; rw [Oct.varGo_none _ _ _ _ h]; rfl
theorem rdCont_far (l : List UInt8) (lack : Bool) (k V : Nat) (h : 9 < k) : rdCont l lack k V = (0, [], true) := by
  unfold rdCont; rw [Oct.varGo_far _ _ _ h]; split <;> rfl
theorem rdCont_last (x : UInt8) (r : List UInt8) (k V : Nat) (h1 : k ≤ 9) (h2 : ¬ (k = 9 ∧ 1 < x.toNat)) (h3 : ¬ (0 < k ∧ x.toNat = 0)) (h4 : x.toNat < 128) :
    rdCont (x :: r) false k V = (Oct.i64 (V + x.toNat * 128 ^ k), r, false) := by
  unfold rdCont; rw [Oct.varGo_last _ _ _ _ h1 h2 h3 h4]; rfl
theorem rdCont_step (x : UInt8) (r : List UInt8) (k V : Nat) (h1 : k ≤ 9) (h2 : ¬ (k = 9 ∧ 1 < x.toNat)) (h3 : ¬ (0 < k ∧ x.toNat = 0)) (h4 : ¬ x.toNat < 128) :
    rdCont (x :: r) false k V = rdCont r false (k + 1) (V + (x.toNat - 128) * 128 ^ k) := by
  unfold rdCont; rw [Oct.varGo_step _ _ _ _ h1 h2 h3 h4]

theorem and127_i64 (x : Nat) (h : x < 256) : bits BinOp.and IntKind.i64 (x : Int) 127 = ((x % 128 : Nat) : Int) := by
  have := bits_mask .i64 63 (by decide) (fun n h0 h1 => IntWalk.i64_in n (by omega)) 7 (by decide) (x : Int) (by omega) (by omega)
  rw [show ((2 : Int) ^ 7 - 1) = 127 by decide, show ((2 : Int) ^ 7) = 128 by decide] at this
  rw [this]; omega
theorem and127_u8 (x : Nat) (h : x < 256) : bits BinOp.and IntKind.u8 (x : Int) 127 = ((x % 128 : Nat) : Int) := by
  have := u8_and_nat x 127 h (by omega)
  rw [show (127 : Nat) = 2 ^ 7 - 1 from rfl, Nat.and_two_pow_sub_one_eq_mod] at this
  exact this
theorem grp_lt (V x k : Nat) (hV : V < 128 ^ k) (hk : k ≤ 9) (h : ¬ (k = 9 ∧ 1 < x)) (hx : x < 256) : V + x % 128 * 128 ^ k < 18446744073709551616 := by
  by_cases h9 : k = 9
  · subst h9
    simp only [Nat.reducePow] at hV ⊢
    have : x ≤ 1 := by omega
    omega
  · have h1 : 128 ^ k ≤ 128 ^ 8 := Nat.pow_le_pow_right (by omega) (by omega)
    simp only [Nat.reducePow] at h1
    have h2 : x % 128 * 128 ^ k ≤ 127 * 128 ^ k := Nat.mul_le_mul_right _ (by omega)
    omega
theorem grp_or (V x k : Nat) (hV : V < 128 ^ k) (hb : V + x % 128 * 128 ^ k < 18446744073709551616) :
    bits BinOp.or IntKind.u64 (V : Int) (IntKind.u64.wrap (IntKind.u64.wrap ((x % 128 : Nat) : Int) * 2 ^ (7 * k))) = ((V + x % 128 * 128 ^ k : Nat) : Int) := by
  have e1 : IntKind.u64.wrap ((x % 128 : Nat) : Int) = ((x % 128 : Nat) : Int) := by rw [IntKind.wrap_u64]; omega
  have e2 : ((2 : Int) ^ (7 * k)) = ((128 ^ k : Nat) : Int) := by rw [show (128 : Nat) = 2 ^ 7 from rfl, ← Nat.pow_mul]; simp
  rw [e1, e2, ← Int.natCast_mul, IntKind.wrap_u64]
  have e3 : (((x % 128 * 128 ^ k : Nat) : Int) % 18446744073709551616) = ((x % 128 * 128 ^ k : Nat) : Int) := by
    have : x % 128 * 128 ^ k < 18446744073709551616 := by omega
    generalize x % 128 * 128 ^ k = M at this
    omega
  rw [e3, u64_or_nat _ _ (by omega) (by omega), Oct.or_group V (x % 128) k hV]
theorem wrap64_i64 (v : Nat) (h : v < 18446744073709551616) : wrap64 (v : Int) = Oct.i64 v := by
  rw [← IntWalk.i64_left]; exact i64_shows v h

set_option maxHeartbeats 2000000 in
theorem rVar_any' (w : World) (B : Nat) (a : Option Addr) (c : Nat) (lack : Bool) (l : List UInt8) (h : IsR 156 w B a c lack l) :
    Calls Tryz.prog 72 #[.pointer (some ⟨B, 0, none⟩)] w (RAft 156 w B (.int .i64 (Oct.rdVar l lack).1) (Oct.rdVar l lack).2) := by
  have hq : Hid (Oct.rdVar l lack = rdCont l lack 0 0) := rfl
  generalize Oct.rdVar l lack = q at hq ⊢
  obtain ⟨Z, q1, q2⟩ := q
  simp only
  go_enter Tryz.func72, Tryz.ntmps72
  go_wp2
  go_loopw [3, 4] (fun v t wr => ∃ (k V : Nat) (a' : Option Addr) (c' : Nat) (lk : Bool) (lr : List UInt8), k ≤ 10 ∧ t = .int .i64 (k : Int) ∧ v = .int .u64 (V : Int) ∧ Hid (V < 128 ^ k) ∧ Hid ((Z, q1, q2) = rdCont lr lk k V) ∧ IsR 156 wr B a' c' lk lr ∧ TStay (fun k => k = B) w wr) (fun _ t _ => 11 - (intOf t).toNat)
  case atStart => exact ⟨0, 0, a, c, lack, l, by omega, rfl, rfl, (show 0 < 128 ^ 0 by decide), hq, h, TStay.refl _ _⟩
  case round =>
    obtain ⟨k, V, a', c', lk, lr, hk, rfl, rfl, HV, HQ, hR, hS⟩ := hrel
    have hc1 := blk_cell (i := 1) hR.blk rfl
    by_cases hk10 : k = 10
    · have HK := Lib.hid hk10
      have hk9 : ¬ k ≤ 9 := by omega
      have hd : decide ((k : Int) ≤ 9) = false := decide_eq_false (by omega)
      have hz : (Z, q1, q2) = (0, [], true) := by rw [HQ.out]; exact rdCont_far _ _ _ _ (by omega)
      simp only [Prod.mk.injEq] at hz
      obtain ⟨rfl, rfl, rfl⟩ := hz
      clear HQ hk10
      go_wp2_with fail
      refine (fails_any wr B a' c' lk lr hR).mono ?_
      rintro e w' ⟨rfl, a2, c2, h1, h2⟩
      go_wp2
      go_ret
      exact ⟨rfl, a2, c2, h1, hS.trans h2 (fun _ _ h => h)⟩
    · have hd : decide ((k : Int) ≤ 9) = true := decide_eq_true (by omega)
      by_cases hbad : lk = true ∨ lr = []
      · have hz : (Z, q1, q2) = (0, [], true) := by rw [HQ.out]; exact rdCont_none _ _ _ _ hbad
        simp only [Prod.mk.injEq] at hz
        obtain ⟨rfl, rfl, rfl⟩ := hz
        have HBAD := Lib.hid hbad
        clear HQ hbad hk10
        go_wp2_with fail
        refine (rU8_none wr B a' c' lk lr hR HBAD.out).mono ?_
        rintro e w' ⟨rfl, a2, c2, h1, h2⟩
        have hc1' := blk_cell (i := 1) h1.blk rfl
        go_wp2_with fail
        refine (fails_any w' B a2 c2 _ _ h1).mono ?_
        rintro e w3 ⟨rfl, a3, c3, h3, h4⟩
        go_wp2
        go_ret
        exact ⟨rfl, a3, c3, h3, (hS.trans h2 (fun _ _ h => h)).trans h4 (fun _ _ h => h)⟩
      · obtain ⟨x, r, rfl⟩ : ∃ x r, lr = x :: r := by cases lr with | nil => exact absurd (.inr rfl) hbad | cons x r => exact ⟨x, r, rfl⟩
        obtain rfl : lk = false := by cases lk with | false => rfl | true => exact absurd (.inl rfl) hbad
        clear hbad
        have hxl := x.toNat_lt
        have hu8 := Lib.hid (rU8_cons wr B a' c' x r hR)
        by_cases hbad : (k = 9 ∧ 1 < x.toNat) ∨ (0 < k ∧ x.toNat = 0)
        · have hz : (Z, q1, q2) = (0, [], true) := by rw [HQ.out]; exact rdCont_bad _ _ _ _ (.inr hbad)
          simp only [Prod.mk.injEq] at hz
          obtain ⟨rfl, rfl, rfl⟩ := hz
          have hways : (((k : Int) == 9) = true ∧ decide ((1 : Int) < (x.toNat : Int)) = true) ∨ (((k : Int) == 9) = true ∧ decide ((1 : Int) < (x.toNat : Int)) = false ∧ decide (0 < k) = true ∧ ((x.toNat : Int) == 0) = true) ∨
              (((k : Int) == 9) = false ∧ decide (0 < k) = true ∧ ((x.toNat : Int) == 0) = true) := by
            simp only [beq_iff_eq, beq_eq_false_iff_ne, decide_eq_true_eq, decide_eq_false_iff_not]; omega
          clear HQ hbad hk10 HV
          rcases hways with ⟨b1, b2⟩ | ⟨b1, b2, b3, b4⟩ | ⟨b1, b3, b4⟩
          all_goals
            go_wp2_with fail
            refine hu8.out.mono ?_
            rintro e w' ⟨rfl, a2, c2, h1, h2⟩
            have hc1' := blk_cell (i := 1) h1.blk rfl
            go_wp2_with fail
            refine (fails_any w' B a2 c2 _ _ h1).mono ?_
            rintro e w3 ⟨rfl, a3, c3, h3, h4⟩
            go_wp2
            go_ret
            exact ⟨rfl, a3, c3, h3, (hS.trans h2 (fun _ _ h => h)).trans h4 (fun _ _ h => h)⟩
        · have hn1 : ¬ (k = 9 ∧ 1 < x.toNat) := fun h => hbad (.inl h)
          have hn2 : ¬ (0 < k ∧ x.toNat = 0) := fun h => hbad (.inr h)
          clear hbad
          have hways : (((k : Int) == 9) = true ∧ decide ((1 : Int) < (x.toNat : Int)) = false ∧ decide (0 < k) = true ∧ ((x.toNat : Int) == 0) = false) ∨
              (((k : Int) == 9) = false ∧ decide (0 < k) = true ∧ ((x.toNat : Int) == 0) = false) ∨ (((k : Int) == 9) = false ∧ decide (0 < k) = false) := by
            simp only [beq_iff_eq, beq_eq_false_iff_ne, decide_eq_true_eq, decide_eq_false_iff_not]; omega
          have HN1 := Lib.hid hn1
          have HN2 := Lib.hid hn2
          clear hn1 hn2
          have hk9 : k ≤ 9 := by omega
          clear hk10
          have hlt := grp_lt V x.toNat k HV.out hk9 HN1.out (by omega)
          have ha := and127_i64 x.toNat (by omega)
          have hg := grp_or V x.toNat k HV.out hlt
          rw [← ha] at hg
          have HLT := Lib.hid hlt
          clear ha hlt
          by_cases h128 : x.toNat < 128
          · have hd2 : decide ((x.toNat : Int) < 128) = true := decide_eq_true (by omega)
            have e128 : x.toNat % 128 = x.toNat := Nat.mod_eq_of_lt h128
            have hz : (Z, q1, q2) = (Oct.i64 (V + x.toNat % 128 * 128 ^ k), r, false) := by rw [HQ.out, e128]; exact rdCont_last _ _ _ _ hk9 HN1.out HN2.out h128
            simp only [Prod.mk.injEq] at hz
            obtain ⟨rfl, rfl, rfl⟩ := hz
            generalize V + x.toNat % 128 * 128 ^ k = G at hg HLT ⊢
            clear HQ e128
            rcases hways with ⟨b1, b2, b3, b4⟩ | ⟨b1, b3, b4⟩ | ⟨b1, b3⟩
            all_goals
              go_wp2_with fail
              refine hu8.out.mono ?_
              rintro e w' ⟨rfl, a2, c2, h1, h2⟩
              have hc1' := blk_cell (i := 1) h1.blk rfl
              go_wp2
              go_ret
              exact ⟨ret_int (wrap64_i64 _ HLT.out), a2, c2, h1, hS.trans h2 (fun _ _ h => h)⟩
          · have hd2 : decide ((x.toNat : Int) < 128) = false := decide_eq_false (by omega)
            have e128 : x.toNat - 128 = x.toNat % 128 := by omega
            have HQ2 : Hid ((Z, q1, q2) = rdCont r false (k + 1) (V + x.toNat % 128 * 128 ^ k)) := by
              have := HQ.out
              rw [rdCont_step _ _ _ _ hk9 HN1.out HN2.out h128, e128] at this
              exact this
            have HV2 : Hid (V + x.toNat % 128 * 128 ^ k < 128 ^ (k + 1)) := by
              have h1 := HV.out
              have h2 : x.toNat % 128 * 128 ^ k ≤ 127 * 128 ^ k := Nat.mul_le_mul_right _ (by omega)
              show _ < _
              rw [Nat.pow_succ]; omega
            generalize V + x.toNat % 128 * 128 ^ k = G at hg HLT HQ2 HV2
            clear HQ e128 HV
            rcases hways with ⟨b1, b2, b3, b4⟩ | ⟨b1, b3, b4⟩ | ⟨b1, b3⟩
            all_goals
              go_wp2_with fail
              refine hu8.out.mono ?_
              rintro e w' ⟨rfl, a2, c2, h1, h2⟩
              have hc1' := blk_cell (i := 1) h1.blk rfl
              go_wp2
              go_roundw
              case rel => exact ⟨k + 1, G, a2, c2, false, r, by omega, by go_num, rfl, HV2, HQ2, h1, hS.trans h2 (fun _ _ h => h)⟩
              case measure => first | (simp [intOf]; done) | (simp [intOf]; omega)

end Go.Proofs.YthampbiabkfmoaaGreatDoor
