/- Contracts of the two Writers (octet's and the reference's): what each call lays. -/
import Derived.Test.YthampbiabkfmoaaGreatDoorProg
import Derived.Test.YthampbiabkfmoaaGreatDoorHand
import Derived.Test.YthampbiabkfmoaaGreatDoorOctPlain
import Derived.Deep.AppendLies
import Derived.Deep.RegionLaw
namespace Go.Proofs.YthampbiabkfmoaaGreatDoor
open Go.RowKit Go.Tap
set_option linter.unusedVariables false

/-- A Writer (of type T) at block B that holds the bytes l in the slice v. -/
structure IsW (T : TypeId) (w : World) (B : Nat) (v : Value) (l : List UInt8) : Prop where
  blk : w.heap[B]? = some (.cells #[v] T (0, 0))
  own : w.ownsRow 0 5 1 v l.length (bv l)
/-- What a Writer's call may turn. -/
def WFoot (B : Nat) (v : Value) (k : Nat) : Prop := k = B ∨ v.ownBlock = some k
/-- Behind a Writer's call. -/
def WAft (T : TypeId) (w : World) (B : Nat) (v : Value) (l : List UInt8) (e : Ending) (w' : World) : Prop :=
  e = .returned (.tuple #[]) ∧ ∃ v', IsW T w' B v' l ∧ TStay (WFoot B v) w w' ∧ ∀ k, v'.ownBlock = some k → v.ownBlock = some k ∨ w.heap.size ≤ k

theorem IsW.stored {T : TypeId} {w : World} {B : Nat} {v vn : Value} {l' : List UInt8} (hB : w.heap[B]? = some (.cells #[v] T (0, 0))) (hT : T ≠ 5) (ho : w.ownsRow 0 5 1 vn l'.length (bv l')) : IsW T (w.setCell ⟨B, 0, none⟩ vn) B vn l' :=
  ⟨heap_setCell_same w B 0 _ T vn hB, ownsRow_setCell_other ho (own_ne ho hB hT) vn⟩
theorem WFoot.stay {B : Nat} {v vr vn : Value} {w wr wa w' : World} (ht : TStay (WFoot B v) w wr) (ha : TStay (WFoot B v) wr wa) (hg : wa.grownBy w' vr.ownBlock)
    (hf : ∀ k, vr.ownBlock = some k → v.ownBlock = some k ∨ w.heap.size ≤ k) : TStay (WFoot B v) w (w'.setCell ⟨B, 0, none⟩ vn) :=
  (((ht.trans ha (fun _ _ h => h)).grown hg (fun k hk => (hf k hk).imp .inr id)).setCell (.inl (.inl rfl)) vn)
theorem be_snoc_step (cur l : List UInt8) (n j x : Nat) (h : cur ++ Oct.be (j + 1) x = l ++ Oct.be n x) : cur ++ [UInt8.ofNat (x / 256 ^ j % 256)] ++ Oct.be j x = l ++ Oct.be n x := by
  rw [← h]; simp [Oct.be]
theorem shr_byte (x j : Nat) : IntKind.u8.wrap ((x : Int) / 2 ^ (8 * j)) = ((UInt8.ofNat (x / 256 ^ j % 256)).toNat : Int) := by
  have e2 : ((2 : Int) ^ (8 * j)) = ((256 ^ j : Nat) : Int) := by
    rw [show (256 : Nat) = 2 ^ 8 from rfl, ← Nat.pow_mul]; simp
  rw [e2, IntKind.wrap_u8]
  generalize 256 ^ j = P
  simp

set_option maxHeartbeats 1000000 in
theorem put_any (w : World) (B : Nat) (v : Value) (l : List UInt8) (h : IsW 175 w B v l) (x : Nat) (n : Nat) (hx : x < 18446744073709551616) (hn : n ≤ 8) (hl : l.length + n ≤ 140737488355328) :
    Calls Tryz.prog 88 #[.pointer (some ⟨B, 0, none⟩), .int .u64 (x : Int), .int .i64 (n : Int)] w (WAft 175 w B v (l ++ Oct.be n x)) := by
  obtain ⟨i0, hi, hz0, hz1, hz2⟩ := info_parts Tryz.infoB
  go_enter Tryz.func88, Tryz.ntmps88
  go_wp2
  go_loopw [6] (fun t wr => ∃ (j : Nat) (vr : Value) (cur : List UInt8), j ≤ n ∧ t = .int .i64 ((j : Int) - 1) ∧ Hid (cur ++ Oct.be j x = l ++ Oct.be n x) ∧ Hid (cur.length + j = l.length + n) ∧ IsW 175 wr B vr cur ∧ TStay (WFoot B v) w wr ∧ Hid (∀ k, vr.ownBlock = some k → v.ownBlock = some k ∨ w.heap.size ≤ k)) (fun t _ => (intOf t + 1).toNat)
  case atStart => exact ⟨n, v, l, Nat.le_refl _, rfl, rfl, rfl, h, TStay.refl _ _, fun k hk => .inl hk⟩
  case round =>
    obtain ⟨j, vr, cur, hj, rfl, HB, HL, hw, ht, hf⟩ := hrel
    have hc0 := blk_cell (i := 0) hw.blk rfl
    cases j with
    | zero =>
      go_wp2
      go_end0
      refine ⟨rfl, vr, ?_, ht, hf.out⟩
      have e := HB.out
      rw [Oct.be, List.append_nil] at e
      rw [← e]; exact hw
    | succ j =>
      have hcl : cur.length + 1 ≤ 140737488355328 := by have := HL.out; omega
      have hlt := blk_lt hw.blk
      have ej : ((j + 1 : Nat) : Int) - 1 = (j : Int) := by omega
      rw [ej]
      have hj8 : j < 8 := by omega
      have HBs := Lib.hid (be_snoc_step _ _ _ _ _ HB.out)
      have hsb := shr_byte x j
      generalize (UInt8.ofNat (x / 256 ^ j % 256)) = y at hsb HBs
      clear ej HB
      go_wp2
      have h81 : (0 : Int) ≤ 8 * (j : Int) := by omega
      have h82 : (8 * (j : Int)).toNat = 8 * j := by omega
      have h80 : IntKind.i64.wrap (8 * (j : Int)) = 8 * (j : Int) := IntWalk.i64_in _ (by omega)
      go_region_law (refine step_append_byte rfl (.tmp 17) (.tmp 23) 66 rfl 5 i0 Tryz.underlying66 hi hz0 hz1 hz2 vr cur.length cur rfl (by exact hw.own.alloc _) wr.heap.size 1 rfl y (by simp) hcl ?_; intro g cap w' hown' hg hat; have hB' := (hg.block B (by simp; omega) (fun e => own_ne hw.own hw.blk (by decide) e.symm)).trans (Below.heap_alloc _ _ _ hlt |>.trans hw.blk); have hc' := blk_cell (i := 0) hB' rfl; have hf' := blk_free hB' 0)
      all_goals
        go_wp2
        go_roundw
        case rel =>
          refine ⟨j, _, cur ++ [y], by omega, rfl, HBs, ?_, IsW.stored hB' (by decide) (by simpa using hown'), WFoot.stay ht (((TStay.refl _ _).alloc _ _).drew _) hg hf.out, ?_⟩
          · have := HL.out; exact (show (cur ++ [y]).length + j = l.length + n by simp; omega)
          · intro k hk
            simp [Value.ownBlock] at hk
            subst hk
            rcases hat with h1 | h1
            · exact hf.out _ h1
            · right; have h2 := ht.size; have h3 : g = wr.heap.size + 1 := by simpa using h1
              omega
        case measure => first | (simp [intOf]; done) | (simp [intOf]; omega)

theorem u64_shows (n : Int) : IntKind.u64.wrap n = ((Oct.u64 n : Nat) : Int) := by
  rw [IntKind.wrap_u64]; unfold Oct.u64; omega
theorem or_128 : ∀ b : Nat, b < 256 → b ||| 128 = b % 128 + 128 := by decide +kernel
theorem var_byte (v : Nat) : bits BinOp.or IntKind.u8 (IntKind.u8.wrap (v : Int)) 128 = ((UInt8.ofNat (v % 128 + 128)).toNat : Int) := by
  have e : IntKind.u8.wrap (v : Int) = ((v % 256 : Nat) : Int) := by rw [IntKind.wrap_u8]; omega
  have h := u8_or_nat (v % 256) 128 (by omega) (by omega)
  rw [e]
  rw [show ((128 : Nat) : Int) = 128 from rfl] at h
  rw [h, or_128 _ (by omega), Oct.ofNat_toNat _ (by omega)]
  congr 1; omega
theorem var_byte' (v : Nat) : bits BinOp.or IntKind.u8 ((v : Int) % 256) 128 = ((UInt8.ofNat (v % 128 + 128)).toNat : Int) := by
  have := var_byte v; rwa [IntKind.wrap_u8] at this
theorem var_byte_ref (v : Nat) (hv : v < 18446744073709551616) : bits BinOp.or IntKind.u8 (bits BinOp.and IntKind.u64 (v : Int) 127 % 256) 128 = ((UInt8.ofNat (v % 128 + 128)).toNat : Int) := by
  have h1 : bits BinOp.and IntKind.u64 (v : Int) 127 = ((v % 128 : Nat) : Int) := by
    have := u64_and_nat v 127 hv (by omega)
    rw [show (127 : Nat) = 2 ^ 7 - 1 from rfl, Nat.and_two_pow_sub_one_eq_mod] at this
    exact this
  have := var_byte' (v % 128)
  rw [h1, this, Nat.mod_mod]
theorem last_byte (v : Nat) (h : v < 128) : IntKind.u8.wrap (v : Int) = ((UInt8.ofNat v).toNat : Int) := by
  rw [Oct.ofNat_toNat _ (by omega), IntKind.wrap_u8]; omega

theorem oU8_any (w : World) (B : Nat) (v : Value) (l : List UInt8) (h : IsW 175 w B v l) (n : Int) (hl : l.length + 1 ≤ 140737488355328) :
    Calls Tryz.prog 81 #[.pointer (some ⟨B, 0, none⟩), .int .i64 n] w (WAft 175 w B v (l ++ Oct.be 1 (Oct.u64 n))) := by
  go_enter Tryz.func81, Tryz.ntmps81
  go_wp2_with fail
  rw [u64_shows]
  refine (put_any w B v l h (Oct.u64 n) 1 (Oct.u64_lt n) (by omega) hl).mono ?_
  rintro e w' ⟨rfl, v', h1, h2, h3⟩
  go_wp2
  go_end0
  exact ⟨rfl, v', h1, h2, h3⟩

theorem oU32_any (w : World) (B : Nat) (v : Value) (l : List UInt8) (h : IsW 175 w B v l) (n : Int) (hl : l.length + 4 ≤ 140737488355328) :
    Calls Tryz.prog 82 #[.pointer (some ⟨B, 0, none⟩), .int .i64 n] w (WAft 175 w B v (l ++ Oct.be 4 (Oct.u64 n))) := by
  go_enter Tryz.func82, Tryz.ntmps82
  go_wp2_with fail
  rw [u64_shows]
  refine (put_any w B v l h (Oct.u64 n) 4 (Oct.u64_lt n) (by omega) hl).mono ?_
  rintro e w' ⟨rfl, v', h1, h2, h3⟩
  go_wp2
  go_end0
  exact ⟨rfl, v', h1, h2, h3⟩

set_option maxHeartbeats 1000000 in
theorem oVar_any (w : World) (B : Nat) (v : Value) (l : List UInt8) (h : IsW 175 w B v l) (n : Int) (hl : l.length + 10 ≤ 140737488355328) :
    Calls Tryz.prog 66 #[.pointer (some ⟨B, 0, none⟩), .int .i64 n] w (WAft 175 w B v (l ++ Oct.var (Oct.u64 n))) := by
  obtain ⟨i0, hi, hz0, hz1, hz2⟩ := info_parts Tryz.infoB
  have hw64 := u64_shows n
  have hux := Oct.u64_lt n
  generalize Oct.u64 n = X at hux hw64 ⊢
  have HUX := Lib.hid hux
  clear hux
  go_enter Tryz.func66, Tryz.ntmps66
  go_wp2
  go_loopw [4] (fun t wr => ∃ (f x : Nat) (vr : Value) (cur : List UInt8), f ≤ 9 ∧ Hid (x < 128 ^ f * 2) ∧ Hid (x < 18446744073709551616) ∧ t = .int .u64 (x : Int) ∧ Hid (cur ++ Oct.varF f x = l ++ Oct.var X) ∧ cur.length + f ≤ l.length + 9 ∧ IsW 175 wr B vr cur ∧ TStay (WFoot B v) w wr ∧ Hid (∀ k, vr.ownBlock = some k → v.ownBlock = some k ∨ w.heap.size ≤ k)) (fun t _ => (intOf t).toNat)
  case atStart => exact ⟨9, X, v, l, Nat.le_refl _, (show X < 128 ^ 9 * 2 by have := HUX.out; simpa using this), HUX, rfl, rfl, Nat.le_refl _, h, TStay.refl _ _, fun k hk => .inl hk⟩
  case round =>
    obtain ⟨f, x, vr, cur, hf9, HF, hx, rfl, HB, hcl0, hw, ht, hf⟩ := hrel
    have hc0 := blk_cell (i := 0) hw.blk rfl
    have hlt := blk_lt hw.blk
    have hcl : cur.length + 1 ≤ 140737488355328 := by omega
    by_cases h128 : x < 128
    · have hd1 : decide ((128 : Int) ≤ (x : Int)) = false := decide_eq_false (by omega)
      have hd2 : decide ((127 : Int) < (x : Int)) = false := decide_eq_false (by omega)
      have hy := last_byte x h128
      have e : Oct.varF f x = [UInt8.ofNat x] := by cases f with | zero => rfl | succ f => rw [Oct.varF, if_pos h128]
      have HB2 := HB.out
      rw [e] at HB2
      generalize UInt8.ofNat x = y at hy HB2
      have HB3 := Lib.hid HB2
      clear HB HB2 e
      have hy2 := hy
      rw [IntKind.wrap_u8] at hy2
      have HY := Lib.hid hy2
      clear hy hy2
      go_wp2_with (at_builtin; refine wpList_append_byte_lies rfl (.tmp 27) (.tmp 30) 66 rfl 5 i0 Tryz.underlying66 hi hz0 hz1 hz2 vr cur.length cur rfl (by exact hw.own.alloc _) wr.heap.size 1 rfl y (by have := HY.out; simp [← this]; omega) hcl ?_; intro g cap w' hown' hg hat; have hB' := (hg.block B (by simp; omega) (fun e => own_ne hw.own hw.blk (by decide) e.symm)).trans (Below.heap_alloc _ _ _ hlt |>.trans hw.blk); have hc' := blk_cell (i := 0) hB' rfl; have hf' := blk_free hB' 0)
      go_end0
      refine ⟨rfl, _, by rw [← HB3.out]; exact IsW.stored hB' (by decide) (by simpa using hown'), WFoot.stay ht ((TStay.refl _ _).alloc _ _) hg hf.out, ?_⟩
      intro k hk
      simp [Value.ownBlock] at hk
      subst hk
      rcases hat with h1 | h1
      · exact hf.out _ h1
      · right; have h2 := ht.size; have h3 : g = wr.heap.size + 1 := by simpa using h1
        omega
    · cases f with
      | zero => exfalso; have := HF.out; simp at this; omega
      | succ f =>
        have hd1 : decide ((128 : Int) ≤ (x : Int)) = true := decide_eq_true (by omega)
        have hd2 : decide ((127 : Int) < (x : Int)) = true := decide_eq_true (by omega)
        have hy := var_byte' x
        have HB2 := HB.out
        rw [Oct.varF, if_neg h128] at HB2
        have HF2 : Hid (x / 128 < 128 ^ f * 2) := by have := HF.out; rw [Nat.pow_succ] at this; show x / 128 < 128 ^ f * 2; omega
        generalize UInt8.ofNat (x % 128 + 128) = y at hy HB2
        have HB3 : Hid ((cur ++ [y]) ++ Oct.varF f (x / 128) = l ++ Oct.var X) := by rw [← HB2]; simp [Hid]
        clear HB HB2 HF
        have HY := Lib.hid hy
        clear hy
        have h127 := Lib.hid (show True from trivial)
        go_wp2_with (at_builtin; refine wpList_append_byte_lies rfl (.tmp 13) (.tmp 17) 66 rfl 5 i0 Tryz.underlying66 hi hz0 hz1 hz2 vr cur.length cur rfl (by exact hw.own.alloc _) wr.heap.size 1 rfl y ?hy hcl ?_)
        case hy => rw [World.cell?_alloc_new, HY.out]; rfl
        intro g cap w' hown' hg hat
        have hB' := (hg.block B (by simp; omega) (fun e => own_ne hw.own hw.blk (by decide) e.symm)).trans (Below.heap_alloc _ _ _ hlt |>.trans hw.blk)
        have hc' := blk_cell (i := 0) hB' rfl
        have hf' := blk_free hB' 0
        go_wp2
        go_roundw
        case rel =>
          refine ⟨f, x / 128, _, cur ++ [y], by omega, HF2, (show x / 128 < 18446744073709551616 by have := hx.out; omega), by go_num, HB3, by simp; omega, IsW.stored hB' (by decide) (by simpa using hown'), WFoot.stay ht ((TStay.refl _ _).alloc _ _) hg hf.out, ?_⟩
          intro k hk
          simp [Value.ownBlock] at hk
          subst hk
          rcases hat with h1 | h1
          · exact hf.out _ h1
          · right; have h2 := ht.size; have h3 : g = wr.heap.size + 1 := by simpa using h1
            omega
        case measure => first | (simp [intOf]; done) | (simp [intOf]; omega)

set_option maxHeartbeats 400000 in
theorem oRaw_any (w : World) (B : Nat) (v : Value) (l : List UInt8) (h : IsW 175 w B v l) (a : Option Addr) (n c : Nat) (x : List UInt8) (hr : Rds w a n x) (hz : a = none → c = 0) (hl : l.length + n ≤ 140737488355328) :
    Calls Tryz.prog 65 #[.pointer (some ⟨B, 0, none⟩), .slice a n c] w (WAft 175 w B v (l ++ x)) := by
  obtain ⟨i0, hi, hz0, hz1, hz2⟩ := info_parts Tryz.infoB
  have hc0 := blk_cell (i := 0) h.blk rfl
  have hlt := blk_lt h.blk
  go_enter Tryz.func65, Tryz.ntmps65
  go_wp2_with (at_builtin; refine wpList_append_rds_at rfl (.tmp 8) (.tmp 9) 66 rfl 5 i0 Tryz.underlying66 hi hz0 hz1 hz2 v l.length l rfl h.own a n c rfl hz x hr hl ?_)
  intro v' w' hown' hg hat
  obtain ⟨a', c', rfl, _⟩ := ownsRow_slice hown'
  have hB' := (hg.block B hlt (fun e => own_ne h.own h.blk (by decide) e.symm)).trans h.blk
  have hc' := blk_cell (i := 0) hB' rfl
  have hf' := blk_free hB' 0
  go_wp2
  go_end0
  have hx := hr.1
  refine ⟨rfl, _, IsW.stored hB' (by decide) (by rw [List.length_append, hx]; exact hown'), WFoot.stay (TStay.refl _ _) (TStay.refl _ _) hg (fun k hk => .inl hk), ?_⟩
  intro k hk
  rcases hat with h1 | h1
  · left; rw [← h1]; exact hk
  · right; rw [h1] at hk; simp at hk; omega

end Go.Proofs.YthampbiabkfmoaaGreatDoor
