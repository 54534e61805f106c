/- The contract of crc.Sum: the sum of the bytes that it is handed. -/
import Derived.Test.YthampbiabkfmoaaGreatDoorProg
import Derived.Test.YthampbiabkfmoaaGreatDoorAid
import Derived.Test.YthampbiabkfmoaaGreatDoorOctPlain
import Derived.WalkLawsBesides
import Derived.WalkSpells
import Derived.Lib.Hide
namespace Go.Proofs.YthampbiabkfmoaaGreatDoor
open Go.RowKit Go.Tap

theorem crc_round (Y : Nat) (h : Y < 4294967296) :
    bits BinOp.xor IntKind.u32 ((Y : Int) / 2) (3988292384 * bits BinOp.and IntKind.u32 (Y : Int) 1 % 4294967296) = (Crc.rnd Y : Nat) := by
  have h1 : bits BinOp.and IntKind.u32 (Y : Int) 1 = ((Y % 2 : Nat) : Int) := by
    have := u32_and_nat Y 1 h (by omega)
    rw [Nat.and_one_is_mod] at this
    exact this
  have h2 : ((Y : Int) / 2) = ((Y / 2 : Nat) : Int) := by omega
  rw [h1, h2]
  unfold Crc.rnd
  rcases Nat.mod_two_eq_zero_or_one Y with h0 | h0
  · rw [h0]
    have := u32_xor_nat (Y / 2) 0 (by omega) (by omega)
    simpa using this
  · rw [h0]
    have := u32_xor_nat (Y / 2) 3988292384 (by omega) (by omega)
    simpa using this
theorem crc_not (R : Nat) (h : R < 4294967296) : bits BinOp.xor IntKind.u32 IntKind.u32.max (R : Int) = ((4294967295 - R : Nat) : Int) := by
  have hm : IntKind.u32.max = ((4294967295 : Nat) : Int) := by decide
  rw [hm, u32_xor_nat _ _ (by omega) h]
  congr 1
  apply Nat.eq_of_testBit_eq
  intro i
  have e : 4294967295 - R = 2 ^ 32 - (R + 1) := by omega
  rw [e, Nat.testBit_two_pow_sub_succ (by simpa using h), Nat.testBit_xor, show (4294967295 : Nat) = 2 ^ 32 - 1 from rfl, Nat.testBit_two_pow_sub_one]
  by_cases hi : i < 32
  · simp [hi]
  · simp only [hi, decide_false, Bool.false_and, Bool.false_bne]
    exact Nat.testBit_lt_two_pow (Nat.lt_of_lt_of_le h (by
      have : 2 ^ 32 ≤ 2 ^ i := Nat.pow_le_pow_right (by omega) (by omega)
      simpa using this))
theorem crc_take (l : List UInt8) (k : Nat) (x : UInt8) (h : l[k]? = some x) : Crc.run 4294967295 (l.take (k + 1)) = Crc.byte (Crc.run 4294967295 (l.take k)) x := by
  rw [List.take_add_one, h]; simp [Crc.run]

set_option maxHeartbeats 400000 in
theorem crcSum (w : World) (a : Option Addr) (n c : Nat) (l : List UInt8) (hr : Rds w a n l) (hn : n ≤ 140737488355328) :
    Calls Tryz.prog 77 #[.slice a n c] w fun e w' => e = .returned (.int .u32 (Crc.sum l : Nat)) ∧ w = w' := by
  go_enter Tryz.func77, Tryz.ntmps77
  go_wp2
  go_loop [3, 9] (fun x i => ∃ k : Nat, k ≤ n ∧ i = .int .i64 k ∧ x = .int .u32 (Crc.run 4294967295 (l.take k) : Nat)) (fun _ i => n - (intOf i).toNat)
  case atStart => exact ⟨0, Nat.zero_le _, rfl, rfl⟩
  case round =>
    obtain ⟨k, hk, rfl, rfl⟩ := hrel
    by_cases hlt : k < n
    · obtain ⟨b, o, ha, hc⟩ := hr.2 (by omega)
      have hl := hr.1
      have hx : l[k]? = some (l[k]'(by omega)) := List.getElem?_eq_getElem _
      have hcell := hc k _ hx
      generalize (l[k]'(by omega)) = x at hx hcell
      have hX := Crc.run_lt (l.take k) 4294967295 (by omega)
      generalize hG : Crc.run 4294967295 (l.take k) = G at hX
      have HG := Lib.hid hG
      have HX := Lib.hid hx
      clear hG hx hc hr
      subst ha
      have hxl := x.toNat_lt
      have hlen := hl
      go_wp2
      go_loop [3, 17] (fun y j => ∃ m : Nat, m ≤ 8 ∧ j = .int .i64 m ∧ y = .int .u32 (Crc.rnds m (G ^^^ x.toNat) : Nat)) (fun _ j => 8 - (intOf j).toNat)
      case atStart => exact ⟨0, by omega, rfl, by rw [u32_xor_nat _ _ hX (by omega)]; rfl⟩
      case round =>
        obtain ⟨m, hm, rfl, rfl⟩ := hrel
        have hY := Crc.rnds_lt m _ (Crc.xor_byte_lt G x hX)
        have hS := Lib.hid (Crc.rnds_succ m (G ^^^ x.toNat))
        generalize hYe : Crc.rnds m (G ^^^ x.toNat) = Y at hY hS
        have HY := Lib.hid hYe
        clear hYe
        by_cases h8 : m < 8
        · go_wp2
          go_round
          case rel => exact ⟨m + 1, by omega, by go_num, by rw [hS.out, crc_round Y hY]⟩
          case measure => simp [intOf]; omega
        · obtain rfl : m = 8 := by omega
          go_wp2
          go_round
          case rel => exact ⟨k + 1, by omega, by go_num, by rw [crc_take l k x HX.out, HG.out, ← HY.out]; rfl⟩
          case measure => simp [intOf]; omega
    · have hR := Crc.run_lt (l.take k) 4294967295 (by omega)
      have hkn := Lib.hid (show k = n by omega)
      have hl := Lib.hid hr.1
      go_wp2
      go_ret
      refine ⟨?_, rfl⟩
      have e : l.take k = l := List.take_of_length_le (by rw [hl.out, hkn.out]; exact Nat.le_refl _)
      rw [e] at hR ⊢
      exact congrArg (fun z => Ending.returned (Value.int .u32 z)) (crc_not _ hR)

end Go.Proofs.YthampbiabkfmoaaGreatDoor
