/- Contracts of the two Readers (octet's and the reference's): what each call takes. -/
import Derived.Test.YthampbiabkfmoaaGreatDoorProg
import Derived.Test.YthampbiabkfmoaaGreatDoorHand
import Derived.Test.YthampbiabkfmoaaGreatDoorOctPlain
namespace Go.Proofs.YthampbiabkfmoaaGreatDoor
open Go.RowKit Go.Tap
set_option linter.unusedVariables false

/-- A Reader (of type T) at block B, its slice at a with capacity c, that has the bytes l left. -/
structure IsR (T : TypeId) (w : World) (B : Nat) (a : Option Addr) (c : Nat) (lack : Bool) (l : List UInt8) : Prop where
  blk : w.heap[B]? = some (.cells #[.slice a l.length c, .bool lack] T (0, 0))
  rds : Rds w a l.length l
  le : l.length ≤ c
  nnil : a = none → c = 0
  cap : l.length ≤ 140737488355328
/-- Behind a Reader's call that answers val. -/
def RAft (T : TypeId) (w : World) (B : Nat) (val : Value) (q : List UInt8 × Bool) (e : Ending) (w' : World) : Prop :=
  e = .returned val ∧ ∃ a c, IsR T w' B a c q.2 q.1 ∧ TStay (fun k => k = B) w w'
/-- Behind a Reader's Raw. -/
def RRaw (T : TypeId) (w : World) (B : Nat) (q : List UInt8 × List UInt8 × Bool) (e : Ending) (w' : World) : Prop :=
  ∃ x c, e = .returned (.slice x q.1.length c) ∧ w'.ownsRow w.heap.size 5 1 (.slice x q.1.length c) q.1.length (bv q.1) ∧ ∃ a c', IsR T w' B a c' q.2.2 q.2.1 ∧ TStay (fun k => k = B) w w'
theorem IsR.ne {T : TypeId} {w : World} {B : Nat} {a : Option Addr} {c : Nat} {lack : Bool} {l : List UInt8} (h : IsR T w B a c lack l) : 0 < l.length → ∀ b o, a = some ⟨b, o, none⟩ → b ≠ B := by
  rintro h0 b o rfl rfl
  obtain ⟨b', o', e, hc⟩ := h.rds.2 h0
  simp only [Option.some.injEq, Addr.mk.injEq] at e
  obtain ⟨rfl, rfl, _⟩ := e
  have := hc 0 (l[0]'h0) (by simp)
  rw [cell_of_row w b _ _ _ _ h.blk] at this
  rcases o with _ | _ | o <;> simp at this
theorem IsR.lt {T : TypeId} {w : World} {B : Nat} {a : Option Addr} {c : Nat} {lack : Bool} {l : List UInt8} (h : IsR T w B a c lack l) : B < w.heap.size := blk_lt h.blk
/-- Raw's end. -/
theorem raw_done {T : TypeId} {w w' : World} {B : Nat} {a : Option Addr} {c : Nat} {l : List UInt8} (h : IsR T w B a c false l) {k : Nat} (hk : k ≤ l.length) {o : Obj} {x : Option Addr} {cx : Nat}
    (hown : w'.ownsRow w.heap.size 5 1 (.slice x k cx) k (bv (l.take k))) (hg : (w.alloc o).grownBy w' (some w.heap.size)) (a2 : Option Addr) (n2 c2 : Nat)
    (hrd : Rds w a2 n2 (l.drop k)) (hle : n2 ≤ c2) (hnn : a2 = none → c2 = 0) (hb : 0 < n2 → ∀ b o, a2 = some ⟨b, o, none⟩ → b ≠ B) :
    RRaw T w B (l.take k, l.drop k, false) (.returned (.slice x k cx)) (w'.setCell ⟨B, 0, none⟩ (.slice a2 n2 c2)) := by
  have hlt := h.lt
  have ht : (l.take k).length = k := by rw [List.length_take]; omega
  have hn2 : (l.drop k).length = n2 := hrd.1
  have hB' := (hg.block B (by simp; omega) (by simp; omega)).trans ((Below.heap_alloc _ _ _ hlt).trans h.blk)
  have hst : TStay (fun k => k = B) w (w'.setCell ⟨B, 0, none⟩ (.slice a2 n2 c2)) :=
    (((TStay.refl (fun k => k = B) w).alloc _ _).grown hg (fun j hj => .inr (by simp at hj; omega))).setCell (p := ⟨B, 0, none⟩) (.inl rfl) _
  have hlo := hown.lt
  refine ⟨x, cx, by rw [ht], ?_, a2, c2, ⟨?_, ?_, ?_, hnn, by have := h.cap; rw [List.length_drop]; omega⟩, hst⟩
  · rw [ht]
    exact ownsRow_setCell_other hown (by rintro e; have := (hlo B e).1; omega) _
  · have := heap_setCell_same w' B 0 _ _ (.slice a2 n2 c2) hB'
    rw [hn2]; exact this
  · rw [hn2]
    refine hrd.keep fun h0 b o e => ?_
    have hne := hb h0 b o e
    exact hst.block b (by subst e; exact hrd.lt h0) hne
  · rw [hn2]; exact hle
theorem shl8 (v : Nat) (h : v < 72057594037927936) : IntKind.u64.wrap ((v : Int) * 256) = ((v * 256 : Nat) : Int) := by
  rw [IntKind.wrap_u64]; omega

theorem fails_any (w : World) (B : Nat) (a : Option Addr) (c : Nat) (lack : Bool) (l : List UInt8) (h : IsR 156 w B a c lack l) :
    Calls Tryz.prog 84 #[.pointer (some ⟨B, 0, none⟩)] w (RAft 156 w B (.tuple #[]) ([], true)) := by
  have hc0 := blk_cell (i := 0) h.blk rfl
  have hc1 := blk_cell (i := 1) h.blk rfl
  have hf0 := blk_free h.blk 0
  have hf1 := blk_free h.blk 1
  go_enter Tryz.func84, Tryz.ntmps84
  go_wp2
  go_end0
  have h1 := heap_setCell_same w B 0 _ 156 (.slice none 0 0) h.blk
  have h2 := heap_setCell_same _ B 1 _ 156 (.bool true) h1
  exact ⟨rfl, none, 0, ⟨h2, Rds.nil _ _, Nat.le_refl _, fun _ => rfl, Nat.zero_le _⟩, ((TStay.refl (fun k => k = B) w).setCell (p := ⟨B, 0, none⟩) (.inl rfl) _).setCell (p := ⟨B, 1, none⟩) (.inl rfl) _⟩

set_option maxHeartbeats 1000000 in
theorem qRaw_any (w : World) (B : Nat) (a : Option Addr) (c : Nat) (lack : Bool) (l : List UInt8) (h : IsR 156 w B a c lack l) (n : Int) (hn : n ≤ 9223372036854775807) :
    Calls Tryz.prog 71 #[.pointer (some ⟨B, 0, none⟩), .int .i64 n] w (RRaw 156 w B (Oct.rdRaw n l lack)) := by
  have hc0 := blk_cell (i := 0) h.blk rfl
  have hc1 := blk_cell (i := 1) h.blk rfl
  have hf0 := blk_free h.blk 0
  have hf1 := blk_free h.blk 1
  have hlt := h.lt
  obtain ⟨i0, hi, hz0, hz1, hz2⟩ := info_parts Tryz.infoB
  by_cases hbad : lack = true ∨ n < 0 ∨ (l.length : Int) < n
  · have e : Oct.rdRaw n l lack = ([], [], true) := by unfold Oct.rdRaw; rw [if_pos hbad]
    rw [e]
    rcases (show lack = true ∨ (lack = false ∧ n < 0) ∨ (lack = false ∧ 0 ≤ n ∧ (l.length : Int) < n) by cases lack <;> simp_all <;> omega) with rfl | ⟨rfl, h0⟩ | ⟨rfl, h0, h1⟩
    all_goals
      go_enter Tryz.func71, Tryz.ntmps71
      go_wp2_with fail
      refine (fails_any _ B a c _ l h).mono ?_
      rintro e w' ⟨rfl, a', c', h1, h2⟩
      go_wp2
      go_ret
      exact ⟨none, 0, rfl, World.ownsRow_nil _ _ _ _, a', c', h1, h2⟩
  · have e : Oct.rdRaw n l lack = (l.take n.toNat, l.drop n.toNat, false) := by unfold Oct.rdRaw; rw [if_neg hbad]
    rw [e]
    have hl : lack = false := by cases lack <;> simp_all
    subst hl
    have h0 : 0 ≤ n := by omega
    have h1 : n ≤ (l.length : Int) := by omega
    obtain ⟨k, rfl⟩ := Int.eq_ofNat_of_zero_le h0
    have hk : k ≤ l.length := by omega
    have hcap := h.le
    have hce := h.cap
    rw [Int.toNat_natCast]
    have ht : (l.take k).length = k := by rw [List.length_take]; omega
    have hd : (l.drop k).length = l.length - k := List.length_drop ..
    have hrd := h.rds.drop hk hcap
    have hne := h.ne
    have hd1 : decide ((k : Int) < 0) = false := decide_eq_false (by omega)
    have hd2 : decide ((l.length : Int) < (k : Int)) = false := decide_eq_false (by omega)
    have hd3 : decide (l.length < k) = false := decide_eq_false (by omega)
    clear e hbad
    have HT := Lib.hid ht
    have HD := Lib.hid hd
    clear ht hd
    by_cases hck : c = k
    · clear hrd HD
      have hdk := Lib.hid (show l.drop k = [] from List.drop_eq_nil_of_le (by omega))
      obtain rfl : k = c := hck.symm
      go_enter Tryz.func71, Tryz.ntmps71
      go_wp2_with (at_builtin; refine wpList_append_rds _ rfl (.tmp 25) (.tmp 31) 66 rfl w.heap.size 5 i0 Tryz.underlying66 hi hz0 hz1 hz2 _ 0 [] rfl (own_empty _ _) _ _ _ rfl h.nnil (l.take k) ((Rds.take h.rds hk).alloc _) (by omega) (by simp) ?_)
      intro v' w' hown hg
      obtain ⟨x, cx, rfl, _⟩ := ownsRow_slice hown
      have hB' := (hg.block B (by simp; omega) (by simp [Value.ownBlock]; omega)).trans ((Below.heap_alloc _ _ _ hlt).trans h.blk)
      have hc0' := blk_cell (i := 0) hB' rfl
      have hf0' := blk_free hB' 0
      go_wp2
      go_ret
      exact raw_done h hk (by simpa using hown) hg a 0 0 (by rw [hdk.out]; exact Rds.nil _ _) (Nat.le_refl _) (fun _ => rfl) (fun h0 => absurd h0 (by omega))
    · rw [if_neg hck] at hrd
      have HRD := Lib.hid hrd
      clear hrd
      go_enter Tryz.func71, Tryz.ntmps71
      go_wp2_with (at_builtin; refine wpList_append_rds _ rfl (.tmp 25) (.tmp 31) 66 rfl w.heap.size 5 i0 Tryz.underlying66 hi hz0 hz1 hz2 _ 0 [] rfl (own_empty _ _) _ _ _ rfl h.nnil (l.take k) ((Rds.take h.rds hk).alloc _) (by omega) (by simp) ?_)
      intro v' w' hown hg
      obtain ⟨x, cx, rfl, _⟩ := ownsRow_slice hown
      have hB' := (hg.block B (by simp; omega) (by simp [Value.ownBlock]; omega)).trans ((Below.heap_alloc _ _ _ hlt).trans h.blk)
      have hc0' := blk_cell (i := 0) hB' rfl
      have hf0' := blk_free hB' 0
      go_wp2
      go_ret
      exact raw_done h hk (by simpa using hown) hg (a.map (·.add k)) (l.length - k) (c - k) HRD.out (by omega) (fun e => by have := h.nnil (by simpa using e); omega) (fun h0 b o e => by obtain ⟨b2, o2, e2, _⟩ := h.rds.2 (by omega); rw [e2] at e; simp [Addr.add_lit] at e; obtain ⟨rfl, _⟩ := e; exact hne (by omega) _ o2 e2)

end Go.Proofs.YthampbiabkfmoaaGreatDoor
/- Contracts of the two Readers, on: numbers. -/
namespace Go.Proofs.YthampbiabkfmoaaGreatDoor
open Go.RowKit Go.Tap
set_option linter.unusedVariables false

theorem shl_or (v : Nat) (x : UInt8) (h : v < 72057594037927936) : bits BinOp.or IntKind.u64 (IntKind.u64.wrap ((v : Int) * 256)) (x.toNat : Int) = ((v * 256 + x.toNat : Nat) : Int) := by
  have hx := x.toNat_lt
  rw [shl8 v h, u64_or_nat _ _ (by omega) (by omega), Oct.or_step _ _ hx]
theorem shl_add (v : Nat) (x : UInt8) (h : v < 72057594037927936) : IntKind.u64.wrap (IntKind.u64.wrap ((v : Int) * 256) + (x.toNat : Int)) = ((v * 256 + x.toNat : Nat) : Int) := by
  have hx := x.toNat_lt
  rw [shl8 v h, IntKind.wrap_u64]; omega
theorem pow256 (k : Nat) (h : k < 8) : 256 ^ k ≤ 72057594037927936 := by
  have : 256 ^ k ≤ 256 ^ 7 := Nat.pow_le_pow_right (by omega) (by omega)
  simpa using this
theorem val_take (x : List UInt8) (k : Nat) (y : UInt8) (h : x[k]? = some y) : Oct.val (x.take (k + 1)) = Oct.val (x.take k) * 256 + y.toNat := by
  rw [List.take_add_one, h]; exact Oct.val_snoc _ _
theorem i64_shows (v : Nat) (h : v < 18446744073709551616) : IntKind.i64.wrap (v : Int) = Oct.i64 v := by
  rw [IntKind.wrap_i64]; unfold Oct.i64; split <;> omega
theorem rdRaw_len (n : Nat) (l : List UInt8) (lack : Bool) : (Oct.rdRaw n l lack).1.length ≤ n := by
  unfold Oct.rdRaw; split
  · exact Nat.zero_le _
  · simp; omega

set_option maxHeartbeats 1000000 in
theorem rGet_any (w : World) (B : Nat) (a : Option Addr) (c : Nat) (lack : Bool) (l : List UInt8) (h : IsR 156 w B a c lack l) (n : Nat) (hn : n ≤ 8) :
    Calls Tryz.prog 76 #[.pointer (some ⟨B, 0, none⟩), .int .i64 (n : Int)] w (RAft 156 w B (.int .u64 ((Oct.rdU n l lack).1 : Nat)) (Oct.rdU n l lack).2) := by
  rw [Oct.rdU_raw]
  have hlen := rdRaw_len n l lack
  have hraw := Lib.hid (qRaw_any w B a c lack l h n (by omega))
  generalize Oct.rdRaw n l lack = q at hlen hraw ⊢
  obtain ⟨x1, l1, lack1⟩ := q
  simp only at hlen ⊢
  go_enter Tryz.func76, Tryz.ntmps76
  go_wp2_with fail
  refine hraw.out.mono ?_
  rintro e w1 ⟨x, cx, rfl, hown, a', c', hR, hS⟩
  simp only at hown hR ⊢
  have hrd := Rds.of_own hown rfl
  have hres : Hid (RAft 156 w B (.int .u64 (Oct.val x1 : Nat)) (l1, lack1) (.returned (.int .u64 (Oct.val x1 : Nat))) w1) := ⟨rfl, a', c', hR, hS⟩
  clear hown hR hS
  go_wp2
  go_loop [5, 12] (fun v i => ∃ k : Nat, k ≤ x1.length ∧ i = .int .i64 k ∧ v = .int .u64 (Oct.val (x1.take k) : Nat)) (fun _ i => x1.length - (intOf i).toNat)
  case atStart => exact ⟨0, Nat.zero_le _, rfl, rfl⟩
  case round =>
    obtain ⟨k, hk, rfl, rfl⟩ := hrel
    by_cases hlt : k < x1.length
    · obtain ⟨b, o, ha, hc⟩ := hrd.2 (by omega)
      have hx : x1[k]? = some (x1[k]'hlt) := List.getElem?_eq_getElem _
      have hcell := hc k _ hx
      generalize (x1[k]'hlt) = y at hx hcell
      have hv := Oct.val_lt (x1.take k)
      rw [List.length_take, Nat.min_eq_left (Nat.le_of_lt hlt)] at hv
      have hp := pow256 k (by omega)
      have HX := Lib.hid (val_take x1 k y hx)
      generalize Oct.val (x1.take k) = V at hv HX
      have hsh := shl_or V y (by omega)
      have hxl := y.toNat_lt
      clear hx hc hrd hv hp
      subst ha
      go_wp2
      go_round
      case rel => exact ⟨k + 1, by omega, by go_num, by rw [HX.out]; exact congrArg (Value.int .u64) (by omega)⟩
      case measure => first | (simp [intOf]; done) | (simp [intOf]; omega)
    · have e : x1.take k = x1 := List.take_of_length_le (by omega)
      rw [e]
      clear e
      go_wp2
      go_ret
      exact hres.out

theorem rU8_any (w : World) (B : Nat) (a : Option Addr) (c : Nat) (lack : Bool) (l : List UInt8) (h : IsR 156 w B a c lack l) :
    Calls Tryz.prog 54 #[.pointer (some ⟨B, 0, none⟩)] w (RAft 156 w B (.int .i64 (Oct.i64 (Oct.rdU 1 l lack).1)) (Oct.rdU 1 l lack).2) := by
  have hb := i64_shows (Oct.rdU 1 l lack).1 (Nat.lt_of_lt_of_le (Oct.rdU_lt 1 l lack) (by decide))
  have hget := Lib.hid (rGet_any w B a c lack l h 1 (by omega))
  generalize Oct.rdU 1 l lack = q at hb hget ⊢
  obtain ⟨v, q⟩ := q
  simp only at hb ⊢
  generalize Oct.i64 v = z at hb ⊢
  go_enter Tryz.func54, Tryz.ntmps54
  go_wp2_with fail
  refine hget.out.mono ?_
  rintro e w1 ⟨rfl, a', c', hR, hS⟩
  have hres : Hid (RAft 156 w B (.int .i64 z) q (.returned (.int .i64 z)) w1) := ⟨rfl, a', c', hR, hS⟩
  clear hR hS
  go_wp2
  go_ret
  exact hres.out

theorem rU32_any (w : World) (B : Nat) (a : Option Addr) (c : Nat) (lack : Bool) (l : List UInt8) (h : IsR 156 w B a c lack l) :
    Calls Tryz.prog 55 #[.pointer (some ⟨B, 0, none⟩)] w (RAft 156 w B (.int .i64 (Oct.i64 (Oct.rdU 4 l lack).1)) (Oct.rdU 4 l lack).2) := by
  have hb := i64_shows (Oct.rdU 4 l lack).1 (Nat.lt_of_lt_of_le (Oct.rdU_lt 4 l lack) (by decide))
  have hget := Lib.hid (rGet_any w B a c lack l h 4 (by omega))
  generalize Oct.rdU 4 l lack = q at hb hget ⊢
  obtain ⟨v, q⟩ := q
  simp only at hb ⊢
  generalize Oct.i64 v = z at hb ⊢
  go_enter Tryz.func55, Tryz.ntmps55
  go_wp2_with fail
  refine hget.out.mono ?_
  rintro e w1 ⟨rfl, a', c', hR, hS⟩
  have hres : Hid (RAft 156 w B (.int .i64 z) q (.returned (.int .i64 z)) w1) := ⟨rfl, a', c', hR, hS⟩
  clear hR hS
  go_wp2
  go_ret
  exact hres.out

end Go.Proofs.YthampbiabkfmoaaGreatDoor
