/- hex.Digit, hex.IsPrefix: what they answer. -/
import Derived.Test.YthampbiabkfmoaaGreatDoorAgg
import Derived.Test.YthampbiabkfmoaaGreatDoorHand
import Derived.Test.YthampbiabkfmoaaGreatDoorWirePlain
import Derived.Lib.ConvBytes
namespace Go.Proofs.YthampbiabkfmoaaGreatDoor
open Go.RowKit Go.Tap
set_option linter.unusedVariables false
set_option linter.unusedSimpArgs false

/-- '[]byte(s)'. -/
theorem convS (w : World) (l : List UInt8) : ∃ c w', (convert 9 66 (.string (str l))).run Tryz.prog w = .ok (.slice (some ⟨w.heap.size, 0, none⟩) l.length c) w' ∧ Rds w' (some ⟨w.heap.size, 0, none⟩) l.length l ∧ Below w.heap.size w w' ∧ w.heap.size < w'.heap.size := by
  have hs : (str l).size = l.length := by simp [str, ByteArray.size]
  refine ⟨_, _, by rw [Lib.run_convert_string_bytes w 9 66 5 (str l) Tryz.underlying9 Tryz.underlying66 Tryz.underlying5, hs], ⟨rfl, fun h => ⟨_, _, rfl, fun i x hx => ?_⟩⟩, ?_, ?_⟩
  · have hi : i < l.length := (List.getElem?_eq_some_iff.1 hx).1
    rw [Nat.zero_add, Lib.bytesWorld_cell w _ _ _ (by rw [hs]; exact hi)]
    simp [str, List.getD, hx]
  · exact ⟨rfl, rfl, rfl, by rw [Lib.bytesWorld_size]; omega, fun k hk => Lib.bytesWorld_at_old _ _ _ _ hk⟩
  · rw [Lib.bytesWorld_size]; omega

theorem wrapi' (x : Int) (h : -9223372036854775808 ≤ x ∧ x ≤ 9223372036854775807) : IntKind.i64.wrap x = x := by simp [IntKind.wrap, IntKind.bits, IntKind.signed]; omega
/-- A digit's number. -/
def Wi.digN (c : UInt8) : Int := if 48 ≤ c.toNat ∧ c.toNat ≤ 57 then (c.toNat : Int) - 48 else if 97 ≤ c.toNat ∧ c.toNat ≤ 102 then (c.toNat : Int) - 87 else -1
theorem Wi.digN_neg (c : UInt8) : decide (Wi.digN c < 0) = !Wi.dig c := by
  unfold Wi.digN Wi.dig
  split
  · rename_i h; rw [decide_eq_false (by omega)]; simp [h.1, h.2]
  · split
    · rename_i h h2; rw [decide_eq_false (by omega)]; simp [h2.1, h2.2]
    · rename_i h h2; rw [decide_eq_true (by omega)]
      symm
      rw [Bool.not_eq_true', Bool.or_eq_false_iff, Bool.and_eq_false_iff, Bool.and_eq_false_iff]
      simp only [decide_eq_false_iff_not]
      omega
set_option maxHeartbeats 1000000 in
theorem digit_any (w : World) (c : UInt8) : Calls Tryz.prog 59 #[.int .u8 (c.toNat : Int)] w fun e w' => e = .returned (.int .i64 (Wi.digN c)) ∧ w = w' := by
  have hc := c.toNat_lt
  unfold Wi.digN
  by_cases h1 : 48 ≤ c.toNat ∧ c.toNat ≤ 57
  · rw [if_pos h1]
    have a1 : (48 : Int) ≤ (c.toNat : Int) := by omega
    have a2 : (c.toNat : Int) ≤ 57 := by omega
    have w2 : ((c.toNat : Int) - 48) % 256 = (c.toNat : Int) - 48 := by omega
    clear h1
    go_enter Tryz.func59, Tryz.ntmps59
    go_wp2
    go_ret
    exact ⟨by first | rfl | (congr 1), rfl⟩
  · rw [if_neg h1]
    by_cases h2 : 97 ≤ c.toNat ∧ c.toNat ≤ 102
    · rw [if_pos h2]
      have a0 : ¬ (c.toNat : Int) ≤ 57 := by omega
      have a00 : (48 : Int) ≤ (c.toNat : Int) := by omega
      have a1 : (97 : Int) ≤ (c.toNat : Int) := by omega
      have a2 : (c.toNat : Int) ≤ 102 := by omega
      have w2 : ((c.toNat : Int) - 97) % 256 = (c.toNat : Int) - 97 := by omega
      have w3 : IntKind.i64.wrap ((c.toNat : Int) - 97 + 10) = (c.toNat : Int) - 87 := by rw [wrapi' _ (by omega)]; omega
      clear h1 h2
      go_enter Tryz.func59, Tryz.ntmps59
      go_wp2
      all_goals go_ret
      all_goals exact ⟨rfl, rfl⟩
    · rw [if_neg h2]
      have H1 := Lib.hid (And.intro h1 h2)
      clear h1 h2
      go_enter Tryz.func59, Tryz.ntmps59
      go_wp2
      all_goals first | (exfalso; have := H1.out; omega) | (go_ret; exact ⟨rfl, rfl⟩)
theorem isPre_all (l : List UInt8) (h : l.all Wi.dig = true) : Wi.isPre l = (!(str l).toList.isEmpty && decide (((str l).size : Int) ≤ 64)) := by
  unfold Wi.isPre
  have hs : (str l).size = l.length := by simp [str, ByteArray.size]
  rw [h, hs, str_toList, Bool.true_and]
  congr 1
  · cases l <;> rfl
  · rw [decide_eq_decide]; omega
set_option maxHeartbeats 1000000 in
set_option maxRecDepth 100000 in
theorem isPrefix_any (w : World) (l : List UInt8) (hl : l.length ≤ 140737488351232) : Calls Tryz.prog 40 #[.string (str l)] w fun e w' => e = .returned (.bool (Wi.isPre l)) ∧ Below w.heap.size w w' := by
  obtain ⟨c, W1, hcv, hrd, hb, hlt1⟩ := convS w l
  obtain ⟨n, hn⟩ : ∃ n, n = l.length := ⟨_, rfl⟩
  have HN := Lib.hid hn
  have HRD := Lib.hid hrd
  have HB := Lib.hid hb
  rw [← hn] at hcv
  have HL := Lib.hid hl
  have HNL : Hid (n ≤ 140737488351232) := Lib.hid (by omega)
  obtain ⟨r, hr⟩ : ∃ r, r = Wi.isPre l := ⟨_, rfl⟩
  rw [← hr]
  have HR := Lib.hid hr
  clear hr hb hrd hn hl hlt1
  go_enter Tryz.func40, Tryz.ntmps40
  go_wp2
  go_loop [8] (fun kv => ∃ k : Nat, k ≤ n ∧ kv = .int .i64 (k : Int) ∧ Hid ((l.take k).all Wi.dig = true)) (fun kv => n - (intOf kv).toNat)
  case atStart => exact ⟨0, Nat.zero_le _, rfl, Lib.hid rfl⟩
  case round =>
    obtain ⟨k, hk, rfl, HE⟩ := hrel
    by_cases hlt : k < n
    · have d0 : decide ((k : Int) < (n : Int)) = true := decide_eq_true (by omega)
      have d0' : decide (k < n) = true := decide_eq_true hlt
      have d1 : (k : Int) < (n : Int) := by omega
      have hx : l[k]? = some (l[k]'(by have := HN.out; omega)) := List.getElem?_eq_getElem _
      generalize l[k]'(by have := HN.out; omega) = x at hx
      have g1 : W1.cell? ⟨w.heap.size, k, none⟩ = some (.int .u8 (x.toNat : Int)) := by
        obtain ⟨b, o, e, hc⟩ := HRD.out.2 (by have := HN.out; omega)
        simp only [Option.some.injEq, Addr.mk.injEq] at e
        obtain ⟨rfl, rfl, _⟩ := e
        have := hc k x hx
        rwa [Nat.zero_add] at this
      have hw := wrapi' ((k : Int) + 1) (by have := HNL.out; omega)
      have hdg := Wi.digN_neg x
      have HX := Lib.hid hx
      clear hx
      go_wp2_with fail
      refine (digit_any W1 x).mono ?_
      rintro e w' ⟨rfl, rfl⟩
      cases hd : Wi.dig x
      · rw [hd, Bool.not_false] at hdg
        have HD := Lib.hid hd
        clear hd
        go_wp2
        go_ret
        refine ⟨?_, HB.out⟩
        rw [HR.out]
        have : Wi.isPre l = false := by
          unfold Wi.isPre
          have : l.all Wi.dig = false := by
            rw [List.all_eq_false]
            exact ⟨x, List.mem_of_getElem? HX.out, by rw [HD.out]; decide⟩
          rw [this]; rfl
        rw [this]; first | done | rfl
      · rw [hd, Bool.not_true] at hdg
        have HD := Lib.hid hd
        clear hd
        go_wp2
        go_round
        case rel =>
          refine ⟨k + 1, by omega, by go_num, Lib.hid ?_⟩
          rw [List.take_add_one, HX.out, Option.toList_some, List.all_append, HE.out]
          simp [HD.out]
        case measure => simp [intOf]; omega
    · obtain rfl : k = n := by omega
      have d0 : decide ((k : Int) < (k : Int)) = false := decide_eq_false (by omega)
      have hal : l.all Wi.dig = true := by have := HE.out; rwa [List.take_of_length_le (by have := HN.out; omega)] at this
      have HA := Lib.hid hal
      clear hal
      clear hlt hk

      go_wp2
      all_goals go_ret
      all_goals (refine ⟨ret_bool ?_, HB.out⟩; rw [HR.out, isPre_all l HA.out])
      rw [show (str l).toList = [] by assumption]; rfl
end Go.Proofs.YthampbiabkfmoaaGreatDoor
