/- The Readers' calls once more, with the block of their bytes held fast. -/
import Derived.Test.YthampbiabkfmoaaGreatDoorReadVar
namespace Go.Proofs.YthampbiabkfmoaaGreatDoor
open Go.RowKit Go.Tap
set_option linter.unusedVariables false

theorem addr_blk (a : Addr) (k : Nat) : (a.add k).block = a.block := by unfold Addr.add; split <;> rfl
def InB (D : Nat) (a : Option Addr) : Prop := ∀ x, a = some x → x.block = D
theorem InB.nil (D : Nat) : InB D none := fun x e => by cases e
theorem InB.add {D : Nat} {a : Option Addr} (h : InB D a) (k : Nat) : InB D (a.map (·.add k)) := fun x e => by
  cases a with
  | none => cases e
  | some y => simp only [Option.map_some, Option.some.injEq] at e; subst e; rw [addr_blk]; exact h y rfl
structure IsQ (D : Nat) (T : TypeId) (w : World) (B : Nat) (a : Option Addr) (c : Nat) (lack : Bool) (l : List UInt8) : Prop where
  r : IsR T w B a c lack l
  dat : InB D a
theorem IsQ.blk {D : Nat} {T : TypeId} {w : World} {B : Nat} {a : Option Addr} {c : Nat} {lack : Bool} {l : List UInt8} (h : IsQ D T w B a c lack l) : w.heap[B]? = some (.cells #[.slice a l.length c, .bool lack] T (0, 0)) := h.r.blk
theorem IsQ.rds {D : Nat} {T : TypeId} {w : World} {B : Nat} {a : Option Addr} {c : Nat} {lack : Bool} {l : List UInt8} (h : IsQ D T w B a c lack l) : Rds w a l.length l := h.r.rds
theorem IsQ.le {D : Nat} {T : TypeId} {w : World} {B : Nat} {a : Option Addr} {c : Nat} {lack : Bool} {l : List UInt8} (h : IsQ D T w B a c lack l) : l.length ≤ c := h.r.le
theorem IsQ.nnil {D : Nat} {T : TypeId} {w : World} {B : Nat} {a : Option Addr} {c : Nat} {lack : Bool} {l : List UInt8} (h : IsQ D T w B a c lack l) : a = none → c = 0 := h.r.nnil
theorem IsQ.cap {D : Nat} {T : TypeId} {w : World} {B : Nat} {a : Option Addr} {c : Nat} {lack : Bool} {l : List UInt8} (h : IsQ D T w B a c lack l) : l.length ≤ 140737488355328 := h.r.cap
theorem IsQ.ne {D : Nat} {T : TypeId} {w : World} {B : Nat} {a : Option Addr} {c : Nat} {lack : Bool} {l : List UInt8} (h : IsQ D T w B a c lack l) : 0 < l.length → ∀ b o, a = some ⟨b, o, none⟩ → b ≠ B := h.r.ne
theorem IsQ.lt {D : Nat} {T : TypeId} {w : World} {B : Nat} {a : Option Addr} {c : Nat} {lack : Bool} {l : List UInt8} (h : IsQ D T w B a c lack l) : B < w.heap.size := blk_lt h.blk
def QAft (D : Nat) (T : TypeId) (w : World) (B : Nat) (val : Value) (q : List UInt8 × Bool) (e : Ending) (w' : World) : Prop :=
  e = .returned val ∧ ∃ a c, IsQ D T w' B a c q.2 q.1 ∧ TStay (fun k => k = B) w w'
def QRaw (D : Nat) (T : TypeId) (w : World) (B : Nat) (q : List UInt8 × List UInt8 × Bool) (e : Ending) (w' : World) : Prop :=
  ∃ x c, e = .returned (.slice x q.1.length c) ∧ w'.ownsRow w.heap.size 5 1 (.slice x q.1.length c) q.1.length (bv q.1) ∧ ∃ a c', IsQ D T w' B a c' q.2.2 q.2.1 ∧ TStay (fun k => k = B) w w'
/-- Raw's end. -/
theorem q_raw_done {D : Nat} {T : TypeId} {w w' : World} {B : Nat} {a : Option Addr} {c : Nat} {l : List UInt8} (h : IsQ D T w B a c false l) {k : Nat} (hk : k ≤ l.length) {o : Obj} {x : Option Addr} {cx : Nat}
    (hown : w'.ownsRow w.heap.size 5 1 (.slice x k cx) k (bv (l.take k))) (hg : (w.alloc o).grownBy w' (some w.heap.size)) (a2 : Option Addr) (n2 c2 : Nat)
    (hrd : Rds w a2 n2 (l.drop k)) (hle : n2 ≤ c2) (hnn : a2 = none → c2 = 0) (hb : 0 < n2 → ∀ b o, a2 = some ⟨b, o, none⟩ → b ≠ B) (hdt : InB D a2) :
    QRaw D T w B (l.take k, l.drop k, false) (.returned (.slice x k cx)) (w'.setCell ⟨B, 0, none⟩ (.slice a2 n2 c2)) := by
  have hlt := h.lt
  have ht : (l.take k).length = k := by rw [List.length_take]; omega
  have hn2 : (l.drop k).length = n2 := hrd.1
  have hB' := (hg.block B (by simp; omega) (by simp; omega)).trans ((Below.heap_alloc _ _ _ hlt).trans h.blk)
  have hst : TStay (fun k => k = B) w (w'.setCell ⟨B, 0, none⟩ (.slice a2 n2 c2)) :=
    (((TStay.refl (fun k => k = B) w).alloc _ _).grown hg (fun j hj => .inr (by simp at hj; omega))).setCell (p := ⟨B, 0, none⟩) (.inl rfl) _
  have hlo := hown.lt
  refine ⟨x, cx, by rw [ht], ?_, a2, c2, ⟨⟨?_, ?_, ?_, hnn, by have := h.cap; rw [List.length_drop]; omega⟩, hdt⟩, hst⟩
  · rw [ht]
    exact ownsRow_setCell_other hown (by rintro e; have := (hlo B e).1; omega) _
  · have := heap_setCell_same w' B 0 _ _ (.slice a2 n2 c2) hB'
    rw [hn2]; exact this
  · rw [hn2]
    refine hrd.keep fun h0 b o e => ?_
    have hne := hb h0 b o e
    exact hst.block b (by subst e; exact hrd.lt h0) hne
  · rw [hn2]; exact hle
theorem q_fails_any (D : Nat) (w : World) (B : Nat) (a : Option Addr) (c : Nat) (lack : Bool) (l : List UInt8) (h : IsQ D 156 w B a c lack l) :
    Calls Tryz.prog 84 #[.pointer (some ⟨B, 0, none⟩)] w (QAft D 156 w B (.tuple #[]) ([], true)) := by
  have hc0 := blk_cell (i := 0) h.blk rfl
  have hc1 := blk_cell (i := 1) h.blk rfl
  have hf0 := blk_free h.blk 0
  have hf1 := blk_free h.blk 1
  go_enter Tryz.func84, Tryz.ntmps84
  go_wp2
  go_end0
  have h1 := heap_setCell_same w B 0 _ 156 (.slice none 0 0) h.blk
  have h2 := heap_setCell_same _ B 1 _ 156 (.bool true) h1
  exact ⟨rfl, none, 0, ⟨⟨h2, Rds.nil _ _, Nat.le_refl _, fun _ => rfl, Nat.zero_le _⟩, InB.nil D⟩, ((TStay.refl (fun k => k = B) w).setCell (p := ⟨B, 0, none⟩) (.inl rfl) _).setCell (p := ⟨B, 1, none⟩) (.inl rfl) _⟩

set_option maxHeartbeats 1000000 in
theorem q_qRaw_any (D : Nat) (w : World) (B : Nat) (a : Option Addr) (c : Nat) (lack : Bool) (l : List UInt8) (h : IsQ D 156 w B a c lack l) (n : Int) (hn : n ≤ 9223372036854775807) :
    Calls Tryz.prog 71 #[.pointer (some ⟨B, 0, none⟩), .int .i64 n] w (QRaw D 156 w B (Oct.rdRaw n l lack)) := by
  have hc0 := blk_cell (i := 0) h.blk rfl
  have hc1 := blk_cell (i := 1) h.blk rfl
  have hf0 := blk_free h.blk 0
  have hf1 := blk_free h.blk 1
  have hlt := h.lt
  obtain ⟨i0, hi, hz0, hz1, hz2⟩ := info_parts Tryz.infoB
  by_cases hbad : lack = true ∨ n < 0 ∨ (l.length : Int) < n
  · have e : Oct.rdRaw n l lack = ([], [], true) := by unfold Oct.rdRaw; rw [if_pos hbad]
    rw [e]
    rcases (show lack = true ∨ (lack = false ∧ n < 0) ∨ (lack = false ∧ 0 ≤ n ∧ (l.length : Int) < n) by cases lack <;> simp_all <;> omega) with rfl | ⟨rfl, h0⟩ | ⟨rfl, h0, h1⟩
    all_goals
      go_enter Tryz.func71, Tryz.ntmps71
      go_wp2_with fail
      refine (q_fails_any D _ B a c _ l h).mono ?_
      rintro e w' ⟨rfl, a', c', h1, h2⟩
      go_wp2
      go_ret
      exact ⟨none, 0, rfl, World.ownsRow_nil _ _ _ _, a', c', h1, h2⟩
  · have e : Oct.rdRaw n l lack = (l.take n.toNat, l.drop n.toNat, false) := by unfold Oct.rdRaw; rw [if_neg hbad]
    rw [e]
    have hl : lack = false := by cases lack <;> simp_all
    subst hl
    have h0 : 0 ≤ n := by omega
    have h1 : n ≤ (l.length : Int) := by omega
    obtain ⟨k, rfl⟩ := Int.eq_ofNat_of_zero_le h0
    have hk : k ≤ l.length := by omega
    have hcap := h.le
    have hce := h.cap
    rw [Int.toNat_natCast]
    have ht : (l.take k).length = k := by rw [List.length_take]; omega
    have hd : (l.drop k).length = l.length - k := List.length_drop ..
    have hrd := h.rds.drop hk hcap
    have hne := h.ne
    have hd1 : decide ((k : Int) < 0) = false := decide_eq_false (by omega)
    have hd2 : decide ((l.length : Int) < (k : Int)) = false := decide_eq_false (by omega)
    have hd3 : decide (l.length < k) = false := decide_eq_false (by omega)
    clear e hbad
    have HT := Lib.hid ht
    have HD := Lib.hid hd
    clear ht hd
    by_cases hck : c = k
    · clear hrd HD
      have hdk := Lib.hid (show l.drop k = [] from List.drop_eq_nil_of_le (by omega))
      obtain rfl : k = c := hck.symm
      go_enter Tryz.func71, Tryz.ntmps71
      go_wp2_with (at_builtin; refine wpList_append_rds _ rfl (.tmp 25) (.tmp 31) 66 rfl w.heap.size 5 i0 Tryz.underlying66 hi hz0 hz1 hz2 _ 0 [] rfl (own_empty _ _) _ _ _ rfl h.nnil (l.take k) ((Rds.take h.rds hk).alloc _) (by omega) (by simp) ?_)
      intro v' w' hown hg
      obtain ⟨x, cx, rfl, _⟩ := ownsRow_slice hown
      have hB' := (hg.block B (by simp; omega) (by simp [Value.ownBlock]; omega)).trans ((Below.heap_alloc _ _ _ hlt).trans h.blk)
      have hc0' := blk_cell (i := 0) hB' rfl
      have hf0' := blk_free hB' 0
      go_wp2
      go_ret
      exact q_raw_done h hk (by simpa using hown) hg a 0 0 (by rw [hdk.out]; exact Rds.nil _ _) (Nat.le_refl _) (fun _ => rfl) (fun h0 => absurd h0 (by omega)) h.dat
    · rw [if_neg hck] at hrd
      have HRD := Lib.hid hrd
      clear hrd
      go_enter Tryz.func71, Tryz.ntmps71
      go_wp2_with (at_builtin; refine wpList_append_rds _ rfl (.tmp 25) (.tmp 31) 66 rfl w.heap.size 5 i0 Tryz.underlying66 hi hz0 hz1 hz2 _ 0 [] rfl (own_empty _ _) _ _ _ rfl h.nnil (l.take k) ((Rds.take h.rds hk).alloc _) (by omega) (by simp) ?_)
      intro v' w' hown hg
      obtain ⟨x, cx, rfl, _⟩ := ownsRow_slice hown
      have hB' := (hg.block B (by simp; omega) (by simp [Value.ownBlock]; omega)).trans ((Below.heap_alloc _ _ _ hlt).trans h.blk)
      have hc0' := blk_cell (i := 0) hB' rfl
      have hf0' := blk_free hB' 0
      go_wp2
      go_ret
      exact q_raw_done h hk (by simpa using hown) hg (a.map (·.add k)) (l.length - k) (c - k) HRD.out (by omega) (fun e => by have := h.nnil (by simpa using e); omega) (fun h0 b o e => by obtain ⟨b2, o2, e2, _⟩ := h.rds.2 (by omega); rw [e2] at e; simp [Addr.add_lit] at e; obtain ⟨rfl, _⟩ := e; exact hne (by omega) _ o2 e2) (h.dat.add k)

set_option maxHeartbeats 1000000 in
theorem q_rGet_any (D : Nat) (w : World) (B : Nat) (a : Option Addr) (c : Nat) (lack : Bool) (l : List UInt8) (h : IsQ D 156 w B a c lack l) (n : Nat) (hn : n ≤ 8) :
    Calls Tryz.prog 76 #[.pointer (some ⟨B, 0, none⟩), .int .i64 (n : Int)] w (QAft D 156 w B (.int .u64 ((Oct.rdU n l lack).1 : Nat)) (Oct.rdU n l lack).2) := by
  rw [Oct.rdU_raw]
  have hlen := rdRaw_len n l lack
  have hraw := Lib.hid (q_qRaw_any D w B a c lack l h n (by omega))
  generalize Oct.rdRaw n l lack = q at hlen hraw ⊢
  obtain ⟨x1, l1, lack1⟩ := q
  simp only at hlen ⊢
  go_enter Tryz.func76, Tryz.ntmps76
  go_wp2_with fail
  refine hraw.out.mono ?_
  rintro e w1 ⟨x, cx, rfl, hown, a', c', hR, hS⟩
  simp only at hown hR ⊢
  have hrd := Rds.of_own hown rfl
  have hres : Hid (QAft D 156 w B (.int .u64 (Oct.val x1 : Nat)) (l1, lack1) (.returned (.int .u64 (Oct.val x1 : Nat))) w1) := ⟨rfl, a', c', hR, hS⟩
  clear hown hR hS
  go_wp2
  go_loop [5, 12] (fun v i => ∃ k : Nat, k ≤ x1.length ∧ i = .int .i64 k ∧ v = .int .u64 (Oct.val (x1.take k) : Nat)) (fun _ i => x1.length - (intOf i).toNat)
  case atStart => exact ⟨0, Nat.zero_le _, rfl, rfl⟩
  case round =>
    obtain ⟨k, hk, rfl, rfl⟩ := hrel
    by_cases hlt : k < x1.length
    · obtain ⟨b, o, ha, hc⟩ := hrd.2 (by omega)
      have hx : x1[k]? = some (x1[k]'hlt) := List.getElem?_eq_getElem _
      have hcell := hc k _ hx
      generalize (x1[k]'hlt) = y at hx hcell
      have hv := Oct.val_lt (x1.take k)
      rw [List.length_take, Nat.min_eq_left (Nat.le_of_lt hlt)] at hv
      have hp := pow256 k (by omega)
      have HX := Lib.hid (val_take x1 k y hx)
      generalize Oct.val (x1.take k) = V at hv HX
      have hsh := shl_or V y (by omega)
      have hxl := y.toNat_lt
      clear hx hc hrd hv hp
      subst ha
      go_wp2
      go_round
      case rel => exact ⟨k + 1, by omega, by go_num, by rw [HX.out]; exact congrArg (Value.int .u64) (by omega)⟩
      case measure => first | (simp [intOf]; done) | (simp [intOf]; omega)
    · have e : x1.take k = x1 := List.take_of_length_le (by omega)
      rw [e]
      clear e
      go_wp2
      go_ret
      exact hres.out

theorem q_rU8_any (D : Nat) (w : World) (B : Nat) (a : Option Addr) (c : Nat) (lack : Bool) (l : List UInt8) (h : IsQ D 156 w B a c lack l) :
    Calls Tryz.prog 54 #[.pointer (some ⟨B, 0, none⟩)] w (QAft D 156 w B (.int .i64 (Oct.i64 (Oct.rdU 1 l lack).1)) (Oct.rdU 1 l lack).2) := by
  have hb := i64_shows (Oct.rdU 1 l lack).1 (Nat.lt_of_lt_of_le (Oct.rdU_lt 1 l lack) (by decide))
  have hget := Lib.hid (q_rGet_any D w B a c lack l h 1 (by omega))
  generalize Oct.rdU 1 l lack = q at hb hget ⊢
  obtain ⟨v, q⟩ := q
  simp only at hb ⊢
  generalize Oct.i64 v = z at hb ⊢
  go_enter Tryz.func54, Tryz.ntmps54
  go_wp2_with fail
  refine hget.out.mono ?_
  rintro e w1 ⟨rfl, a', c', hR, hS⟩
  have hres : Hid (QAft D 156 w B (.int .i64 z) q (.returned (.int .i64 z)) w1) := ⟨rfl, a', c', hR, hS⟩
  clear hR hS
  go_wp2
  go_ret
  exact hres.out

theorem q_rU32_any (D : Nat) (w : World) (B : Nat) (a : Option Addr) (c : Nat) (lack : Bool) (l : List UInt8) (h : IsQ D 156 w B a c lack l) :
    Calls Tryz.prog 55 #[.pointer (some ⟨B, 0, none⟩)] w (QAft D 156 w B (.int .i64 (Oct.i64 (Oct.rdU 4 l lack).1)) (Oct.rdU 4 l lack).2) := by
  have hb := i64_shows (Oct.rdU 4 l lack).1 (Nat.lt_of_lt_of_le (Oct.rdU_lt 4 l lack) (by decide))
  have hget := Lib.hid (q_rGet_any D w B a c lack l h 4 (by omega))
  generalize Oct.rdU 4 l lack = q at hb hget ⊢
  obtain ⟨v, q⟩ := q
  simp only at hb ⊢
  generalize Oct.i64 v = z at hb ⊢
  go_enter Tryz.func55, Tryz.ntmps55
  go_wp2_with fail
  refine hget.out.mono ?_
  rintro e w1 ⟨rfl, a', c', hR, hS⟩
  have hres : Hid (QAft D 156 w B (.int .i64 z) q (.returned (.int .i64 z)) w1) := ⟨rfl, a', c', hR, hS⟩
  clear hR hS
  go_wp2
  go_ret
  exact hres.out

theorem q_rU8_cons (D : Nat) (w : World) (B : Nat) (a : Option Addr) (c : Nat) (x : UInt8) (r : List UInt8) (h : IsQ D 156 w B a c false (x :: r)) :
    Calls Tryz.prog 54 #[.pointer (some ⟨B, 0, none⟩)] w (QAft D 156 w B (.int .i64 (x.toNat : Int)) (r, false)) := by
  have := q_rU8_any D w B a c false (x :: r) h
  have hx := x.toNat_lt
  have e : Oct.rdU 1 (x :: r) false = (x.toNat, r, false) := by simp [Oct.rdU, Oct.val]
  have e2 : Oct.i64 x.toNat = (x.toNat : Int) := by unfold Oct.i64; rw [if_pos (by omega)]
  rw [e] at this
  simp only [e2] at this
  exact this
theorem q_rU8_none (D : Nat) (w : World) (B : Nat) (a : Option Addr) (c : Nat) (lack : Bool) (l : List UInt8) (h : IsQ D 156 w B a c lack l) (hn : lack = true ∨ l = []) :
    Calls Tryz.prog 54 #[.pointer (some ⟨B, 0, none⟩)] w (QAft D 156 w B (.int .i64 0) ([], true)) := by
  have := q_rU8_any D w B a c lack l h
  have e : Oct.rdU 1 l lack = (0, [], true) := by unfold Oct.rdU; rw [if_pos (by rcases hn with hn | rfl; exact .inl hn; exact .inr (by simp))]
  rw [e] at this
  exact this
set_option maxHeartbeats 2000000 in
theorem q_rVar_any' (D : Nat) (w : World) (B : Nat) (a : Option Addr) (c : Nat) (lack : Bool) (l : List UInt8) (h : IsQ D 156 w B a c lack l) :
    Calls Tryz.prog 72 #[.pointer (some ⟨B, 0, none⟩)] w (QAft D 156 w B (.int .i64 (Oct.rdVar l lack).1) (Oct.rdVar l lack).2) := by
  have hq : Hid (Oct.rdVar l lack = rdCont l lack 0 0) := rfl
  generalize Oct.rdVar l lack = q at hq ⊢
  obtain ⟨Z, q1, q2⟩ := q
  simp only
  go_enter Tryz.func72, Tryz.ntmps72
  go_wp2
  go_loopw [3, 4] (fun v t wr => ∃ (k V : Nat) (a' : Option Addr) (c' : Nat) (lk : Bool) (lr : List UInt8), k ≤ 10 ∧ t = .int .i64 (k : Int) ∧ v = .int .u64 (V : Int) ∧ Hid (V < 128 ^ k) ∧ Hid ((Z, q1, q2) = rdCont lr lk k V) ∧ IsQ D 156 wr B a' c' lk lr ∧ TStay (fun k => k = B) w wr) (fun _ t _ => 11 - (intOf t).toNat)
  case atStart => exact ⟨0, 0, a, c, lack, l, by omega, rfl, rfl, (show 0 < 128 ^ 0 by decide), hq, h, TStay.refl _ _⟩
  case round =>
    obtain ⟨k, V, a', c', lk, lr, hk, rfl, rfl, HV, HQ, hR, hS⟩ := hrel
    have hc1 := blk_cell (i := 1) hR.blk rfl
    by_cases hk10 : k = 10
    · have HK := Lib.hid hk10
      have hk9 : ¬ k ≤ 9 := by omega
      have hd : decide ((k : Int) ≤ 9) = false := decide_eq_false (by omega)
      have hz : (Z, q1, q2) = (0, [], true) := by rw [HQ.out]; exact rdCont_far _ _ _ _ (by omega)
      simp only [Prod.mk.injEq] at hz
      obtain ⟨rfl, rfl, rfl⟩ := hz
      clear HQ hk10
      go_wp2_with fail
      refine (q_fails_any D wr B a' c' lk lr hR).mono ?_
      rintro e w' ⟨rfl, a2, c2, h1, h2⟩
      go_wp2
      go_ret
      exact ⟨rfl, a2, c2, h1, hS.trans h2 (fun _ _ h => h)⟩
    · have hd : decide ((k : Int) ≤ 9) = true := decide_eq_true (by omega)
      by_cases hbad : lk = true ∨ lr = []
      · have hz : (Z, q1, q2) = (0, [], true) := by rw [HQ.out]; exact rdCont_none _ _ _ _ hbad
        simp only [Prod.mk.injEq] at hz
        obtain ⟨rfl, rfl, rfl⟩ := hz
        have HBAD := Lib.hid hbad
        clear HQ hbad hk10
        go_wp2_with fail
        refine (q_rU8_none D wr B a' c' lk lr hR HBAD.out).mono ?_
        rintro e w' ⟨rfl, a2, c2, h1, h2⟩
        have hc1' := blk_cell (i := 1) h1.blk rfl
        go_wp2_with fail
        refine (q_fails_any D w' B a2 c2 _ _ h1).mono ?_
        rintro e w3 ⟨rfl, a3, c3, h3, h4⟩
        go_wp2
        go_ret
        exact ⟨rfl, a3, c3, h3, (hS.trans h2 (fun _ _ h => h)).trans h4 (fun _ _ h => h)⟩
      · obtain ⟨x, r, rfl⟩ : ∃ x r, lr = x :: r := by cases lr with | nil => exact absurd (.inr rfl) hbad | cons x r => exact ⟨x, r, rfl⟩
        obtain rfl : lk = false := by cases lk with | false => rfl | true => exact absurd (.inl rfl) hbad
        clear hbad
        have hxl := x.toNat_lt
        have hu8 := Lib.hid (q_rU8_cons D wr B a' c' x r hR)
        by_cases hbad : (k = 9 ∧ 1 < x.toNat) ∨ (0 < k ∧ x.toNat = 0)
        · have hz : (Z, q1, q2) = (0, [], true) := by rw [HQ.out]; exact rdCont_bad _ _ _ _ (.inr hbad)
          simp only [Prod.mk.injEq] at hz
          obtain ⟨rfl, rfl, rfl⟩ := hz
          have hways : (((k : Int) == 9) = true ∧ decide ((1 : Int) < (x.toNat : Int)) = true) ∨ (((k : Int) == 9) = true ∧ decide ((1 : Int) < (x.toNat : Int)) = false ∧ decide (0 < k) = true ∧ ((x.toNat : Int) == 0) = true) ∨
              (((k : Int) == 9) = false ∧ decide (0 < k) = true ∧ ((x.toNat : Int) == 0) = true) := by
            simp only [beq_iff_eq, beq_eq_false_iff_ne, decide_eq_true_eq, decide_eq_false_iff_not]; omega
          clear HQ hbad hk10 HV
          rcases hways with ⟨b1, b2⟩ | ⟨b1, b2, b3, b4⟩ | ⟨b1, b3, b4⟩
          all_goals
            go_wp2_with fail
            refine hu8.out.mono ?_
            rintro e w' ⟨rfl, a2, c2, h1, h2⟩
            have hc1' := blk_cell (i := 1) h1.blk rfl
            go_wp2_with fail
            refine (q_fails_any D w' B a2 c2 _ _ h1).mono ?_
            rintro e w3 ⟨rfl, a3, c3, h3, h4⟩
            go_wp2
            go_ret
            exact ⟨rfl, a3, c3, h3, (hS.trans h2 (fun _ _ h => h)).trans h4 (fun _ _ h => h)⟩
        · have hn1 : ¬ (k = 9 ∧ 1 < x.toNat) := fun h => hbad (.inl h)
          have hn2 : ¬ (0 < k ∧ x.toNat = 0) := fun h => hbad (.inr h)
          clear hbad
          have hways : (((k : Int) == 9) = true ∧ decide ((1 : Int) < (x.toNat : Int)) = false ∧ decide (0 < k) = true ∧ ((x.toNat : Int) == 0) = false) ∨
              (((k : Int) == 9) = false ∧ decide (0 < k) = true ∧ ((x.toNat : Int) == 0) = false) ∨ (((k : Int) == 9) = false ∧ decide (0 < k) = false) := by
            simp only [beq_iff_eq, beq_eq_false_iff_ne, decide_eq_true_eq, decide_eq_false_iff_not]; omega
          have HN1 := Lib.hid hn1
          have HN2 := Lib.hid hn2
          clear hn1 hn2
          have hk9 : k ≤ 9 := by omega
          clear hk10
          have hlt := grp_lt V x.toNat k HV.out hk9 HN1.out (by omega)
          have ha := and127_i64 x.toNat (by omega)
          have hg := grp_or V x.toNat k HV.out hlt
          rw [← ha] at hg
          have HLT := Lib.hid hlt
          clear ha hlt
          by_cases h128 : x.toNat < 128
          · have hd2 : decide ((x.toNat : Int) < 128) = true := decide_eq_true (by omega)
            have e128 : x.toNat % 128 = x.toNat := Nat.mod_eq_of_lt h128
            have hz : (Z, q1, q2) = (Oct.i64 (V + x.toNat % 128 * 128 ^ k), r, false) := by rw [HQ.out, e128]; exact rdCont_last _ _ _ _ hk9 HN1.out HN2.out h128
            simp only [Prod.mk.injEq] at hz
            obtain ⟨rfl, rfl, rfl⟩ := hz
            generalize V + x.toNat % 128 * 128 ^ k = G at hg HLT ⊢
            clear HQ e128
            rcases hways with ⟨b1, b2, b3, b4⟩ | ⟨b1, b3, b4⟩ | ⟨b1, b3⟩
            all_goals
              go_wp2_with fail
              refine hu8.out.mono ?_
              rintro e w' ⟨rfl, a2, c2, h1, h2⟩
              have hc1' := blk_cell (i := 1) h1.blk rfl
              go_wp2
              go_ret
              exact ⟨ret_int (wrap64_i64 _ HLT.out), a2, c2, h1, hS.trans h2 (fun _ _ h => h)⟩
          · have hd2 : decide ((x.toNat : Int) < 128) = false := decide_eq_false (by omega)
            have e128 : x.toNat - 128 = x.toNat % 128 := by omega
            have HQ2 : Hid ((Z, q1, q2) = rdCont r false (k + 1) (V + x.toNat % 128 * 128 ^ k)) := by
              have := HQ.out
              rw [rdCont_step _ _ _ _ hk9 HN1.out HN2.out h128, e128] at this
              exact this
            have HV2 : Hid (V + x.toNat % 128 * 128 ^ k < 128 ^ (k + 1)) := by
              have h1 := HV.out
              have h2 : x.toNat % 128 * 128 ^ k ≤ 127 * 128 ^ k := Nat.mul_le_mul_right _ (by omega)
              show _ < _
              rw [Nat.pow_succ]; omega
            generalize V + x.toNat % 128 * 128 ^ k = G at hg HLT HQ2 HV2
            clear HQ e128 HV
            rcases hways with ⟨b1, b2, b3, b4⟩ | ⟨b1, b3, b4⟩ | ⟨b1, b3⟩
            all_goals
              go_wp2_with fail
              refine hu8.out.mono ?_
              rintro e w' ⟨rfl, a2, c2, h1, h2⟩
              have hc1' := blk_cell (i := 1) h1.blk rfl
              go_wp2
              go_roundw
              case rel => exact ⟨k + 1, G, a2, c2, false, r, by omega, by go_num, rfl, HV2, HQ2, h1, hS.trans h2 (fun _ _ h => h)⟩
              case measure => first | (simp [intOf]; done) | (simp [intOf]; omega)

end Go.Proofs.YthampbiabkfmoaaGreatDoor
