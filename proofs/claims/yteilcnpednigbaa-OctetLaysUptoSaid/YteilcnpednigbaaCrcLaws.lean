/- What the three laws on crc come to. -/
import Derived.Test.YteilcnpednigbaaCrc
import Derived.Test.YteilcnpednigbaaHand
import Derived.Test.YteilcnpednigbaaOpen
import Derived.Lib.SlBytesConst
namespace Go.Proofs.Yteilcnpednigbaa
open Go.RowKit Go.Tap
set_option linter.unusedVariables false

/-- crc.Sum of bytes whose sum is known. -/
theorem crcSum_lit (w : World) (a : Option Addr) (n c : Nat) (l : List UInt8) (s : Int) (hr : Rds w a n l) (hn : n ≤ 140737488355328) (hs : ((Crc.sum l : Nat) : Int) = s) :
    Calls Try.prog 19 #[.slice a n c] w fun e w' => ∃ x : Int, e = .returned (.int .u32 x) ∧ (x == s) = true ∧ w = w' := by
  exact (crcSum w a n c l hr hn).mono fun e w' ⟨h1, h2⟩ => ⟨_, h1, beq_iff_eq.2 hs, h2⟩
theorem s9 : ((Crc.sum [49, 50, 51, 52, 53, 54, 55, 56, 57] : Nat) : Int) = 3421780262 := by decide +kernel
theorem s0 : ((Crc.sum [] : Nat) : Int) = 0 := by decide +kernel
theorem s97 : ((Crc.sum [97] : Nat) : Int) = 3904355907 := by decide +kernel
theorem s00 : ((Crc.sum [0] : Nat) : Int) = 3523407757 := by decide +kernel
theorem known2 (w : World) : Calls Try.prog 18 #[] w fun e w' => e = .returned (.bool true) ∧ Below w.heap.size w w' := by
  have kc := fun (w : World) (C : Array Value) (n c : Nat) => Lib.run_convert_bytes_const (P := Try.prog) w 25 5 C n c Try.underlying25 Try.underlying5
  go_enter Try.func18, Try.ntmps18
  go_wp2_with fail
  refine (crcSum_lit _ _ _ _ [49, 50, 51, 52, 53, 54, 55, 56, 57] _ (rds_lit w _ _ _) (by simp) s9).mono ?_
  rintro e w' ⟨x9, rfl, hx9, rfl⟩
  go_wp2_with fail
  go_ret
  exact ⟨rfl, (Below.refl _ _).alloc (Nat.le_refl _) _⟩

theorem crcKnown_walk (w : World) : Calls Try.prog 3 #[] w fun e w' => e = .returned (.bool true) ∧ Below w.heap.size w w' := by
  have kc := fun (w : World) (C : Array Value) (n c : Nat) => Lib.run_convert_bytes_const (P := Try.prog) w 25 5 C n c Try.underlying25 Try.underlying5
  go_enter Try.func3, Try.ntmps3
  go_wp2_with fail
  refine (known2 _).mono ?_
  rintro e w1 ⟨rfl, hb⟩
  have hz := hb.size
  go_wp2_with fail
  refine (crcSum_lit _ _ _ _ [] _ (Rds.nil _ _) (by omega) s0).mono ?_
  rintro e w' ⟨xs0, rfl, hxs0, rfl⟩
  go_wp2_with fail
  refine (crcSum_lit _ _ _ _ [97] _ (rds_lit w1 _ [97] _) (by simp) s97).mono ?_
  rintro e w' ⟨xs97, rfl, hxs97, rfl⟩
  go_wp2_with fail
  refine (crcSum_lit _ _ _ _ [0] _ (by have := rds_lit (w1.alloc (.cells (bv [97]).toArray 5 (1, 2))) 5 [0]; rw [World.size_alloc] at this; exact this) (by simp) s00).mono ?_
  rintro e w' ⟨xs00, rfl, hxs00, rfl⟩
  go_wp2_with fail
  go_ret
  exact ⟨rfl, (hb.alloc hz _).alloc (by simp; omega) _⟩

theorem crcSums_walk (w : World) (a : Option Addr) (n c : Nat) (l : List UInt8) (h : ArgB 140737488351232 w a n c l) :
    Calls Try.prog 4 #[.slice a n c] w fun e w' => e = .returned (.bool true) ∧ Below w.heap.size w w' := by
  have hr := h.rds
  have hn : n ≤ 140737488355328 := by have := h.le; have := h.reach; omega
  clear h
  go_enter Try.func4, Try.ntmps4
  go_wp2_with fail
  refine (known2 _).mono ?_
  rintro e w1 ⟨rfl, hb⟩
  have hr1 : Rds w1 a n l := hr.below hb (fun h0 b o e => by subst e; exact hr.lt h0)
  go_wp2_with fail
  refine (crcSum _ _ _ _ l hr1 hn).mono ?_
  rintro e w' ⟨rfl, rfl⟩
  go_wp2_with fail
  refine (refSum _ _ _ _ l hr1 hn).mono ?_
  rintro e w' ⟨rfl, rfl⟩
  go_wp2_with fail
  go_ret
  exact ⟨rfl, hb⟩

theorem xor_u8 (x y : UInt8) : bits BinOp.xor IntKind.u8 (x.toNat : Int) (y.toNat : Int) = ((x ^^^ y).toNat : Int) := by
  rw [u8_xor_nat _ _ x.toNat_lt y.toNat_lt, UInt8.toNat_xor]

set_option maxHeartbeats 400000 in
theorem crcTurns_walk (w : World) (a : Option Addr) (n c : Nat) (l : List UInt8) (h : ArgB 140737488351232 w a n c l) (at_ : Int) (ha : -9223372036854775808 ≤ at_ ∧ at_ ≤ 9223372036854775807) (y : Int) (hy : 0 ≤ y ∧ y ≤ 255) :
    Calls Try.prog 5 #[.slice a n c, .int .i64 at_, .int .u8 y] w fun e w' => e = .returned (.bool true) ∧ Below w.heap.size w w' := by
  have hr := h.rds
  have hn : n ≤ 140737488355328 := by have := h.le; have := h.reach; omega
  have hc := h.reach
  have hnc := h.le
  have hz := h.none
  by_cases h0 : n = 0
  · subst h0
    go_enter Try.func5, Try.ntmps5
    go_wp2_with (go_at_call 18; refine (known2 _).mono ?_; rintro e w1 ⟨rfl, hb⟩)
    go_ret
    exact ⟨rfl, hb⟩
  · have hne : ((n : Int) == 0) = false := by simp; omega
    by_cases hy0 : y = 0
    · subst hy0
      go_enter Try.func5, Try.ntmps5
      go_wp2_with (go_at_call 18; refine (known2 _).mono ?_; rintro e w1 ⟨rfl, hb⟩)
      go_ret
      exact ⟨rfl, hb⟩
    · have hyb : (y == 0) = false := by simpa using hy0
      go_enter Try.func5, Try.ntmps5
      go_wp2_with fail
      refine (known2 _).mono ?_
      rintro e w1 ⟨rfl, hb⟩
      have hr1 : Rds w1 a n l := hr.below hb (fun h0 b o e => by subst e; exact hr.lt h0)
      have hsz := hb.size
      go_wp2_with fail
      refine (few_all w1 a n c l hr1 hnc hz (by omega)).mono ?_
      rintro e w2 ⟨a2, c2, rfl, hown, hb2⟩
      obtain ⟨g, rfl, hg1, hg2⟩ := own_head hown (by omega)
      have hl := hr.1
      obtain ⟨k, hk⟩ : ∃ k : Nat, at_ % (n : Int) = k := ⟨(at_ % (n : Int)).toNat, by have := Int.emod_nonneg at_ (show (n : Int) ≠ 0 by omega); omega⟩
      have hkn : k < n := by have := Int.emod_lt_of_pos at_ (show (0 : Int) < n by omega); omega
      obtain ⟨Y, rfl⟩ := byte_of hy
      have HK := Lib.hid hk
      clear hk
      have hx : l[k]? = some (l[k]'(by omega)) := List.getElem?_eq_getElem _
      have hcell : w2.cell? ⟨g, k, none⟩ = some (.int .u8 ((l[k]'(by omega)).toNat : Int)) := by
        rw [hown.cellAt k (by omega), bv_getElem?, hx]; rfl
      have hfr : w2.frozen? ⟨g, k, none⟩ = false := hown.frozenAt k
      have hst := hown.stored k (.int .u8 (((l[k]'(by omega)) ^^^ Y).toNat : Int))
      rw [bv_set] at hst
      have hne2 := Crc.sum_turn l k (by omega) ((l[k]'(by omega)) ^^^ Y) (by
        intro h
        have h2 : (l[k]'(by omega)) ^^^ ((l[k]'(by omega)) ^^^ Y) = 0 := by rw [← h]; exact UInt8.xor_self
        rw [← UInt8.xor_assoc, UInt8.xor_self, UInt8.zero_xor] at h2
        subst h2; simp at hy0)
      generalize (l[k]'(by omega)) = x at hx hcell hst hne2
      have HX := Lib.hid hx
      have HL := Lib.hid hl
      have HS := Lib.hid hst
      have HN := Lib.hid hne2
      clear hx hl hst hne2
      go_wp2_with fail
      refine (pick_any _ at_ n ha.1 ha.2 (by omega) (by omega)).mono ?_
      rintro e w' ⟨he, rfl⟩
      rw [HK.out] at he
      subst he
      go_wp2_with fail
      rw [xor_u8]
      refine (crcSum _ _ _ _ (l.set k (x ^^^ Y)) (Rds.of_own (e := 5) (base := w1.heap.size) (c := c2) (by have := HS.out.1; rwa [List.length_set, HL.out]) (by rw [List.length_set, HL.out])) hn).mono ?_
      rintro e w' ⟨rfl, rfl⟩
      have hr3 : Rds (w2.setCell ⟨g, k, none⟩ (.int .u8 ((x ^^^ Y).toNat : Int))) a n l :=
        (hr1.below hb2 (fun h0 b o e => by subst e; exact hr1.lt h0)).below (B := w1.heap.size) ((Below.refl _ _).setCell hg1 _) (fun h0 b o e => by subst e; exact hr1.lt h0)
      go_wp2_with fail
      refine (crcSum _ _ _ _ l hr3 hn).mono ?_
      rintro e w' ⟨rfl, rfl⟩
      go_wp2_with fail
      go_ret
      refine ⟨ret_bool ?_, (hb.trans ((hb2.mono hsz).setCell (by simp; omega) _))⟩
      have := HN.out
      simp; omega
#print axioms crcTurns_walk
end Go.Proofs.Yteilcnpednigbaa
