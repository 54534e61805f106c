/- taprootref1.Text: a hash's digits. -/
import Derived.Test.YthampbiabkfmoaaGreatDoorWiRd
import Derived.BigQuiet
namespace Go
namespace Tap
open Go.RowKit
theorem wpQuiet_run {P : Program} {ops : Array Oper} {rest : List Oper} {o : Oper} {a : Act} {w : World} {Q : Act → Prop} (hw : Region.wanted o (yielded ops a.tmps) = true) (v : Value) (hr : ∀ w', (execOp a.eval o).run P w' = .ok (.value v) w')
    (h : wpQuiet P ops (fun w' => ∃ n, w' = w.drewN n) Q rest (a.put o.dst v)) : wpQuiet P ops (fun w' => ∃ n, w' = w.drewN n) Q (o :: rest) a :=
  BigFrame.wpQuiet_want hw fun K hK => ⟨v, fun w' ⟨n, hn⟩ => by
    unfold Oper.quietAt
    rw [hr w']
    exact ⟨rfl, rfl⟩, hK _ h⟩
theorem wpQuiet_slice {P : Program} {ops : Array Oper} {rest : List Oper} {o : Oper} {a : Act} {w : World} {Q : Act → Prop} (hw : Region.wanted o (yielded ops a.tmps) = true) (T : TypeId) (x lo hi : Operand) (ho : o.op = .slice T x (some lo) (some hi) none) (X L H v : Value) (hx : a.eval x = X) (hl : a.eval lo = L) (hh : a.eval hi = H)
    (hr : ∀ w', (Instr.sliceAt T X (some L) (some H) none).run P w' = .ok v w') (h : wpQuiet P ops (fun w' => ∃ n, w' = w.drewN n) Q rest (a.put o.dst v)) : wpQuiet P ops (fun w' => ∃ n, w' = w.drewN n) Q (o :: rest) a :=
  wpQuiet_run hw v (fun w' => by unfold execOp; simp only [ho, hx, hl, hh, Option.map_some, Option.map_none, Sem.run_bind, hr, Result.andThen_ok, Sem.run_pure]) h
theorem wpQuiet_add {P : Program} {ops : Array Oper} {rest : List Oper} {o : Oper} {a : Act} {w : World} {Q : Act → Prop} (hw : Region.wanted o (yielded ops a.tmps) = true) (T T' : TypeId) (x y : Operand) (ho : o.op = .binOp .add T x y T') (X Y v : Value) (hx : a.eval x = X) (hy : a.eval y = Y)
    (hr : ∀ w', (binOp .add T X Y).run P w' = .ok v w') (h : wpQuiet P ops (fun w' => ∃ n, w' = w.drewN n) Q rest (a.put o.dst v)) : wpQuiet P ops (fun w' => ∃ n, w' = w.drewN n) Q (o :: rest) a :=
  wpQuiet_run hw v (fun w' => by unfold execOp; simp [ho, hx, hy, eqGuard, hr]) h
end Tap
end Go
namespace Go.Proofs.YthampbiabkfmoaaGreatDoor
open Go.RowKit Go.Tap
set_option linter.unusedVariables false
set_option linter.unusedSimpArgs false
/-- A digit of sixteen. -/
def Wi.hexc (k : Nat) : UInt8 := if k < 10 then UInt8.ofNat (48 + k) else UInt8.ofNat (87 + k)
def Wi.hexB (x : UInt8) : List UInt8 := [Wi.hexc (x.toNat / 16), Wi.hexc (x.toNat % 16)]
def Wi.hexT (l : List UInt8) : List UInt8 := (l.map Wi.hexB).flatten
theorem slice_hex (a : Nat) (ha : a < 16) (w : World) : (Instr.sliceAt 9 (.string { data := #[48, 49, 50, 51, 52, 53, 54, 55, 56, 57, 97, 98, 99, 100, 101, 102] }) (some (.int .u8 (a : Int))) (some (.int .u8 ((a : Int) + 1))) none).run Tryz.prog w = .ok (.string (str [Wi.hexc a])) w := by
  have : a = 0 ∨ a = 1 ∨ a = 2 ∨ a = 3 ∨ a = 4 ∨ a = 5 ∨ a = 6 ∨ a = 7 ∨ a = 8 ∨ a = 9 ∨ a = 10 ∨ a = 11 ∨ a = 12 ∨ a = 13 ∨ a = 14 ∨ a = 15 := by omega
  rcases this with rfl | rfl | rfl | rfl | rfl | rfl | rfl | rfl | rfl | rfl | rfl | rfl | rfl | rfl | rfl | rfl <;> (show _ = _; kernel_rfl)
theorem add_str (a b : List UInt8) (h : a.length + b.length ≤ 1000000) (w : World) : (binOp .add 9 (.string (str a)) (.string (str b))).run Tryz.prog w = .ok (.string (str (a ++ b))) w := by
  have h1 : (str a).size = a.length := by simp [str, ByteArray.size]
  have h2 : (str b).size = b.length := by simp [str, ByteArray.size]
  have h3 : str a ++ str b = str (a ++ b) := by
    apply ByteArray.ext
    simp [str]
  simp [go_sem]
  rw [if_neg (by omega), h3]
theorem Wi.hexT_len (l : List UInt8) : (Wi.hexT l).length = 2 * l.length := by
  induction l with
  | nil => rfl
  | cons x r ih => simp only [Wi.hexT, List.map_cons, List.flatten_cons, List.length_append, List.length_cons] at ih ⊢; rw [ih]; simp [Wi.hexB]; omega
theorem Wi.hexT_snoc (l : List UInt8) (x : UInt8) : Wi.hexT (l ++ [x]) = Wi.hexT l ++ Wi.hexB x := by simp [Wi.hexT]
set_option maxHeartbeats 2000000 in
set_option maxRecDepth 100000 in
theorem text_any (w : World) (h : List UInt8) (hl : h.length = 32) : Calls Tryz.prog 32 #[.agg (hashC h)] w fun e w' => e = .returned (.string (str (Wi.hexT h))) ∧ Below w.heap.size w w' := by
  obtain ⟨C, hC⟩ : ∃ C, C = hashC h := ⟨_, rfl⟩
  rw [← hC]
  have HC := Lib.hid hC
  have HL := Lib.hid hl
  clear hC hl
  go_enter Tryz.func32, Tryz.ntmps32
  go_wp2
  go_loopw [3, 5] (fun sv kv wr => ∃ k : Nat, k ≤ 32 ∧ kv = .int .i64 (k : Int) ∧ sv = .string (str (Wi.hexT (h.take k))) ∧ ∃ q, wr = (w.alloc (.cells C 42)).drewN q) (fun _ kv _ => 32 - (intOf kv).toNat)
  case atStart => exact ⟨0, Nat.zero_le _, rfl, rfl, 0, rfl⟩
  case round =>
    obtain ⟨k, hk, rfl, rfl, q, rfl⟩ := hrel
    by_cases hlt : k < 32
    · have d0 : decide ((k : Int) < 32) = true := decide_eq_true (by omega)
      have i0 : (0 : Int) ≤ (k : Int) := by omega
      have i1 : (k : Int) < 32 := by omega
      have hx : h[k]? = some (h[k]'(by have := HL.out; omega)) := List.getElem?_eq_getElem _
      generalize h[k]'(by have := HL.out; omega) = x at hx
      have hcx : C[k]? = some (.int .u8 (x.toNat : Int)) := by rw [HC.out]; simp [hashC, bv_getElem?, hx]
      obtain ⟨a, ha⟩ : ∃ a, a = x.toNat / 16 := ⟨_, rfl⟩
      obtain ⟨b, hb⟩ : ∃ b, b = x.toNat % 16 := ⟨_, rfl⟩
      have hx256 := x.toNat_lt
      have e1 : (x.toNat : Int).tdiv 16 = (a : Int) := by rw [Int.tdiv_eq_ediv_of_nonneg (by omega)]; omega
      have e2 : (x.toNat : Int).tmod 16 = (b : Int) := by rw [Int.tmod_eq_emod_of_nonneg (by omega)]; omega
      have e3 : (x.toNat : Int) / 16 = (a : Int) := by omega
      have e4 : (x.toNat : Int) % 16 = (b : Int) := by omega
      have ha16 : a < 16 := by omega
      have hb16 : b < 16 := by omega
      have w1 : IntKind.u8.wrap ((a : Int) + 1) = (a : Int) + 1 := by simp [IntKind.wrap, IntKind.bits, IntKind.signed]; omega
      have w2 : IntKind.u8.wrap ((b : Int) + 1) = (b : Int) + 1 := by simp [IntKind.wrap, IntKind.bits, IntKind.signed]; omega
      have w3 : ((a : Int) + 1) % 256 = (a : Int) + 1 := by omega
      have w4 : ((b : Int) + 1) % 256 = (b : Int) + 1 := by omega
      have wq : IntKind.u8.wrap ((x.toNat : Int) / 16) = (a : Int) := by rw [e3]; simp [IntKind.wrap, IntKind.bits, IntKind.signed]; omega
      have HLK : Hid (∀ n, n ≤ (Wi.hexT (h.take k)).length → n + ([Wi.hexc a] : List UInt8).length ≤ 1000000) := Lib.hid (fun n hn => by rw [Wi.hexT_len, List.length_take] at hn; simp; omega)
      have HLK2 : Hid ((Wi.hexT (h.take k) ++ [Wi.hexc a]).length + ([Wi.hexc b] : List UInt8).length ≤ 1000000) := Lib.hid (by rw [List.length_append, Wi.hexT_len, List.length_take]; simp; omega)
      have HS : Hid (Wi.hexT (h.take k) ++ [Wi.hexc a] ++ [Wi.hexc b] = Wi.hexT (h.take (k + 1))) := Lib.hid (by rw [List.take_add_one, hx, Option.toList_some, Wi.hexT_snoc, List.append_assoc, ha, hb]; rfl)
      clear hx ha hb
      go_wp2_with fail
      refine wp_region_quiet_lit (by kernel_rfl) (by kernel_rfl) ?_
      iterate 11 (go_big_quiet_step (fail))
      try simp only [Act.put, List.setIfInBounds_toArray, List.set_cons_zero, List.set_cons_succ]
      refine wpQuiet_slice (by kernel_rfl) 9 (.tmp 11) (.tmp 15) (.tmp 20) rfl _ _ _ (.string (str [Wi.hexc a])) rfl rfl rfl (slice_hex a ha16) ?_
      try simp only [Act.put, List.setIfInBounds_toArray, List.set_cons_zero, List.set_cons_succ]
      refine wpQuiet_add (by kernel_rfl) 9 9 (.tmp 10) (.tmp 21) rfl _ _ _ rfl rfl (add_str _ _ (HLK.out _ (Nat.le_refl _))) ?_
      try simp only [Act.put, List.setIfInBounds_toArray, List.set_cons_zero, List.set_cons_succ]
      iterate 10 (go_big_quiet_step (fail))
      try simp only [Act.put, List.setIfInBounds_toArray, List.set_cons_zero, List.set_cons_succ]
      refine wpQuiet_slice (by kernel_rfl) 9 (.tmp 23) (.tmp 27) (.tmp 32) rfl _ _ _ (.string (str [Wi.hexc b])) rfl rfl rfl (slice_hex b hb16) ?_
      try simp only [Act.put, List.setIfInBounds_toArray, List.set_cons_zero, List.set_cons_succ]
      refine wpQuiet_add (by kernel_rfl) 9 9 (.tmp 22) (.tmp 33) rfl _ _ _ rfl rfl (add_str _ _ HLK2.out) ?_
      try simp only [Act.put, List.setIfInBounds_toArray, List.set_cons_zero, List.set_cons_succ]
      repeat (go_big_quiet_step (fail))
      refine wpQuiet_nil ?_
      intro _ hw'
      obtain ⟨nq, hw2⟩ := hw'
      subst hw2
      go_wp2
      go_roundw
      case rel =>
        refine ⟨k + 1, by omega, by go_num, ?_, q + nq, rfl⟩
        rw [HS.out]
      case measure => simp [intOf]; omega
    · obtain rfl : k = 32 := by omega
      have htk : h.take 32 = h := List.take_of_length_le (by have := HL.out; omega)
      rw [htk]
      clear htk
      go_wp2
      go_ret
      exact ⟨rfl, bel_drewN ((Below.refl _ _).alloc (Nat.le_refl _) _) q⟩
end Go.Proofs.YthampbiabkfmoaaGreatDoor
