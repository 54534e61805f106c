/- Contracts of the two Readers, on: numbers. -/
import Derived.Test.YtdlpehlgmfhheaaDoorReader
namespace Go.Proofs.YtdlpehlgmfhheaaDoor
open Go.RowKit Go.Tap
set_option linter.unusedVariables false

theorem shl_or (v : Nat) (x : UInt8) (h : v < 72057594037927936) : bits BinOp.or IntKind.u64 (IntKind.u64.wrap ((v : Int) * 256)) (x.toNat : Int) = ((v * 256 + x.toNat : Nat) : Int) := by
  have hx := x.toNat_lt
  rw [shl8 v h, u64_or_nat _ _ (by omega) (by omega), Oct.or_step _ _ hx]
theorem shl_add (v : Nat) (x : UInt8) (h : v < 72057594037927936) : IntKind.u64.wrap (IntKind.u64.wrap ((v : Int) * 256) + (x.toNat : Int)) = ((v * 256 + x.toNat : Nat) : Int) := by
  have hx := x.toNat_lt
  rw [shl8 v h, IntKind.wrap_u64]; omega
theorem pow256 (k : Nat) (h : k < 8) : 256 ^ k ≤ 72057594037927936 := by
  have : 256 ^ k ≤ 256 ^ 7 := Nat.pow_le_pow_right (by omega) (by omega)
  simpa using this
theorem val_take (x : List UInt8) (k : Nat) (y : UInt8) (h : x[k]? = some y) : Oct.val (x.take (k + 1)) = Oct.val (x.take k) * 256 + y.toNat := by
  rw [List.take_add_one, h]; exact Oct.val_snoc _ _
theorem i64_shows (v : Nat) (h : v < 18446744073709551616) : IntKind.i64.wrap (v : Int) = Oct.i64 v := by
  rw [IntKind.wrap_i64]; unfold Oct.i64; split <;> omega
theorem rdRaw_len (n : Nat) (l : List UInt8) (lack : Bool) : (Oct.rdRaw n l lack).1.length ≤ n := by
  unfold Oct.rdRaw; split
  · exact Nat.zero_le _
  · simp; omega

set_option maxHeartbeats 1000000 in
theorem rGet_any (w : World) (B : Nat) (a : Option Addr) (c : Nat) (lack : Bool) (l : List UInt8) (h : IsR 218 w B a c lack l) (n : Nat) (hn : n ≤ 8) :
    Calls Tryd.prog 117 #[.pointer (some ⟨B, 0, none⟩), .int .i64 (n : Int)] w (RAft 218 w B (.int .u64 ((Oct.rdU n l lack).1 : Nat)) (Oct.rdU n l lack).2) := by
  rw [Oct.rdU_raw]
  have hlen := rdRaw_len n l lack
  have hraw := Lib.hid (qRaw_any w B a c lack l h n (by omega))
  generalize Oct.rdRaw n l lack = q at hlen hraw ⊢
  obtain ⟨x1, l1, lack1⟩ := q
  simp only at hlen ⊢
  go_enter Tryd.func117, Tryd.ntmps117
  go_wp2_with fail
  refine hraw.out.mono ?_
  rintro e w1 ⟨x, cx, rfl, hown, a', c', hR, hS⟩
  simp only at hown hR ⊢
  have hrd := Rds.of_own hown rfl
  have hres : Hid (RAft 218 w B (.int .u64 (Oct.val x1 : Nat)) (l1, lack1) (.returned (.int .u64 (Oct.val x1 : Nat))) w1) := ⟨rfl, a', c', hR, hS⟩
  clear hown hR hS
  go_wp2
  go_loop [5, 12] (fun v i => ∃ k : Nat, k ≤ x1.length ∧ i = .int .i64 k ∧ v = .int .u64 (Oct.val (x1.take k) : Nat)) (fun _ i => x1.length - (intOf i).toNat)
  case atStart => exact ⟨0, Nat.zero_le _, rfl, rfl⟩
  case round =>
    obtain ⟨k, hk, rfl, rfl⟩ := hrel
    by_cases hlt : k < x1.length
    · obtain ⟨b, o, ha, hc⟩ := hrd.2 (by omega)
      have hx : x1[k]? = some (x1[k]'hlt) := List.getElem?_eq_getElem _
      have hcell := hc k _ hx
      generalize (x1[k]'hlt) = y at hx hcell
      have hv := Oct.val_lt (x1.take k)
      rw [List.length_take, Nat.min_eq_left (Nat.le_of_lt hlt)] at hv
      have hp := pow256 k (by omega)
      have HX := Lib.hid (val_take x1 k y hx)
      generalize Oct.val (x1.take k) = V at hv HX
      have hsh := shl_or V y (by omega)
      have hxl := y.toNat_lt
      clear hx hc hrd hv hp
      subst ha
      go_wp2
      go_round
      case rel => exact ⟨k + 1, by omega, by go_num, by rw [HX.out]; exact congrArg (Value.int .u64) (by omega)⟩
      case measure => first | (simp [intOf]; done) | (simp [intOf]; omega)
    · have e : x1.take k = x1 := List.take_of_length_le (by omega)
      rw [e]
      clear e
      go_wp2
      go_ret
      exact hres.out

theorem rU8_any (w : World) (B : Nat) (a : Option Addr) (c : Nat) (lack : Bool) (l : List UInt8) (h : IsR 218 w B a c lack l) :
    Calls Tryd.prog 74 #[.pointer (some ⟨B, 0, none⟩)] w (RAft 218 w B (.int .i64 (Oct.i64 (Oct.rdU 1 l lack).1)) (Oct.rdU 1 l lack).2) := by
  have hb := i64_shows (Oct.rdU 1 l lack).1 (Nat.lt_of_lt_of_le (Oct.rdU_lt 1 l lack) (by decide))
  have hget := Lib.hid (rGet_any w B a c lack l h 1 (by omega))
  generalize Oct.rdU 1 l lack = q at hb hget ⊢
  obtain ⟨v, q⟩ := q
  simp only at hb ⊢
  generalize Oct.i64 v = z at hb ⊢
  go_enter Tryd.func74, Tryd.ntmps74
  go_wp2_with fail
  refine hget.out.mono ?_
  rintro e w1 ⟨rfl, a', c', hR, hS⟩
  have hres : Hid (RAft 218 w B (.int .i64 z) q (.returned (.int .i64 z)) w1) := ⟨rfl, a', c', hR, hS⟩
  clear hR hS
  go_wp2
  go_ret
  exact hres.out

theorem rU32_any (w : World) (B : Nat) (a : Option Addr) (c : Nat) (lack : Bool) (l : List UInt8) (h : IsR 218 w B a c lack l) :
    Calls Tryd.prog 115 #[.pointer (some ⟨B, 0, none⟩)] w (RAft 218 w B (.int .i64 (Oct.i64 (Oct.rdU 4 l lack).1)) (Oct.rdU 4 l lack).2) := by
  have hb := i64_shows (Oct.rdU 4 l lack).1 (Nat.lt_of_lt_of_le (Oct.rdU_lt 4 l lack) (by decide))
  have hget := Lib.hid (rGet_any w B a c lack l h 4 (by omega))
  generalize Oct.rdU 4 l lack = q at hb hget ⊢
  obtain ⟨v, q⟩ := q
  simp only at hb ⊢
  generalize Oct.i64 v = z at hb ⊢
  go_enter Tryd.func115, Tryd.ntmps115
  go_wp2_with fail
  refine hget.out.mono ?_
  rintro e w1 ⟨rfl, a', c', hR, hS⟩
  have hres : Hid (RAft 218 w B (.int .i64 z) q (.returned (.int .i64 z)) w1) := ⟨rfl, a', c', hR, hS⟩
  clear hR hS
  go_wp2
  go_ret
  exact hres.out

set_option maxHeartbeats 1000000 in
theorem sGet_any (w : World) (B : Nat) (a : Option Addr) (c : Nat) (lack : Bool) (l : List UInt8) (h : IsR 160 w B a c lack l) (n : Nat) (hn : n ≤ 8) :
    Calls Tryd.prog 156 #[.pointer (some ⟨B, 0, none⟩), .int .i64 (n : Int)] w (RAft 160 w B (.int .u64 ((Oct.rdU n l lack).1 : Nat)) (Oct.rdU n l lack).2) := by
  rw [Oct.rdU_raw]
  have hlen := rdRaw_len n l lack
  have hraw := Lib.hid (sRaw_any w B a c lack l h n (by omega))
  generalize Oct.rdRaw n l lack = q at hlen hraw ⊢
  obtain ⟨x1, l1, lack1⟩ := q
  simp only at hlen ⊢
  go_enter Tryd.func156, Tryd.ntmps156
  go_wp2_with fail
  refine hraw.out.mono ?_
  rintro e w1 ⟨x, cx, rfl, hown, a', c', hR, hS⟩
  simp only at hown hR ⊢
  have hrd := Rds.of_own hown rfl
  have hres : Hid (RAft 160 w B (.int .u64 (Oct.val x1 : Nat)) (l1, lack1) (.returned (.int .u64 (Oct.val x1 : Nat))) w1) := ⟨rfl, a', c', hR, hS⟩
  clear hown hR hS
  go_wp2
  go_loop [6, 7] (fun v i => ∃ k : Nat, k ≤ x1.length ∧ i = .int .i64 k ∧ v = .int .u64 (Oct.val (x1.take k) : Nat)) (fun _ i => x1.length - (intOf i).toNat)
  case atStart => exact ⟨0, Nat.zero_le _, rfl, rfl⟩
  case round =>
    obtain ⟨k, hk, rfl, rfl⟩ := hrel
    by_cases hlt : k < x1.length
    · obtain ⟨b, o, ha, hc⟩ := hrd.2 (by omega)
      have hx : x1[k]? = some (x1[k]'hlt) := List.getElem?_eq_getElem _
      have hcell := hc k _ hx
      generalize (x1[k]'hlt) = y at hx hcell
      have hv := Oct.val_lt (x1.take k)
      rw [List.length_take, Nat.min_eq_left (Nat.le_of_lt hlt)] at hv
      have hp := pow256 k (by omega)
      have HX := Lib.hid (val_take x1 k y hx)
      generalize Oct.val (x1.take k) = V at hv HX
      have hsh := shl_add V y (by omega)
      have hxl := y.toNat_lt
      clear hx hc hrd hv hp
      subst ha
      go_wp2
      go_round
      case rel => exact ⟨k + 1, by omega, by go_num, by rw [HX.out]; exact congrArg (Value.int .u64) (by omega)⟩
      case measure => first | (simp [intOf]; done) | (simp [intOf]; omega)
    · have e : x1.take k = x1 := List.take_of_length_le (by omega)
      rw [e]
      clear e
      go_wp2
      go_ret
      exact hres.out

theorem sU8_any (w : World) (B : Nat) (a : Option Addr) (c : Nat) (lack : Bool) (l : List UInt8) (h : IsR 160 w B a c lack l) :
    Calls Tryd.prog 125 #[.pointer (some ⟨B, 0, none⟩)] w (RAft 160 w B (.int .i64 (Oct.i64 (Oct.rdU 1 l lack).1)) (Oct.rdU 1 l lack).2) := by
  have hb := i64_shows (Oct.rdU 1 l lack).1 (Nat.lt_of_lt_of_le (Oct.rdU_lt 1 l lack) (by decide))
  have hget := Lib.hid (sGet_any w B a c lack l h 1 (by omega))
  generalize Oct.rdU 1 l lack = q at hb hget ⊢
  obtain ⟨v, q⟩ := q
  simp only at hb ⊢
  generalize Oct.i64 v = z at hb ⊢
  go_enter Tryd.func125, Tryd.ntmps125
  go_wp2_with fail
  refine hget.out.mono ?_
  rintro e w1 ⟨rfl, a', c', hR, hS⟩
  have hres : Hid (RAft 160 w B (.int .i64 z) q (.returned (.int .i64 z)) w1) := ⟨rfl, a', c', hR, hS⟩
  clear hR hS
  go_wp2
  go_ret
  exact hres.out

theorem sU32_any (w : World) (B : Nat) (a : Option Addr) (c : Nat) (lack : Bool) (l : List UInt8) (h : IsR 160 w B a c lack l) :
    Calls Tryd.prog 126 #[.pointer (some ⟨B, 0, none⟩)] w (RAft 160 w B (.int .i64 (Oct.i64 (Oct.rdU 4 l lack).1)) (Oct.rdU 4 l lack).2) := by
  have hb := i64_shows (Oct.rdU 4 l lack).1 (Nat.lt_of_lt_of_le (Oct.rdU_lt 4 l lack) (by decide))
  have hget := Lib.hid (sGet_any w B a c lack l h 4 (by omega))
  generalize Oct.rdU 4 l lack = q at hb hget ⊢
  obtain ⟨v, q⟩ := q
  simp only at hb ⊢
  generalize Oct.i64 v = z at hb ⊢
  go_enter Tryd.func126, Tryd.ntmps126
  go_wp2_with fail
  refine hget.out.mono ?_
  rintro e w1 ⟨rfl, a', c', hR, hS⟩
  have hres : Hid (RAft 160 w B (.int .i64 z) q (.returned (.int .i64 z)) w1) := ⟨rfl, a', c', hR, hS⟩
  clear hR hS
  go_wp2
  go_ret
  exact hres.out

end Go.Proofs.YtdlpehlgmfhheaaDoor
