/- The reference's log: its records, Length, Cut, Add. -/
import Derived.Test.YtkalpkmnelgieaaGreatDoorDpOps
import Derived.Test.YtkalpkmnelgieaaGreatDoorLogCut
import Derived.Test.YtkalpkmnelgieaaGreatDoorRefFrame
import Derived.Deep.RegionHeld3
import Derived.Deep.Cut
import Derived.Deep.CutRange
namespace Go.Proofs.YtkalpkmnelgieaaGreatDoor
open Go.RowKit Go.Tap Go.Maps
set_option linter.unusedVariables false
set_option linter.unusedSimpArgs false
attribute [local go_sem ↓] Go.wp_at_zero Go.wp_at_succ

theorem infoRecR : (Tryz.prog.info? 46).map (fun i => (i.zero, i.size, i.bytes)) = some (some (.agg #[.int .i64 0, .slice none 0 0]), 2, 32) := by kernel_rfl
/-- Records of the reference in memory. -/
structure Lr where
  x : Nat × List UInt8
  a : Option Addr
  c : Nat
def Lr.cells (p : Lr) : List Value := [.int .i64 (p.x.1 : Int), .slice p.a p.x.2.length p.c]
theorem Lr.len (p : Lr) : p.cells.length = 2 := rfl
theorem Lr.one (ps : List Lr) : ∀ u ∈ ps.flatMap Lr.cells, u.oneCell' = true := by
  intro u hu
  obtain ⟨p, _, hp⟩ := List.mem_flatMap.1 hu
  simp only [Lr.cells, List.mem_cons, List.not_mem_nil, or_false] at hp
  rcases hp with rfl | rfl <;> rfl
structure LRow (w : World) (a : Option Addr) (n c : Nat) (its : List (Nat × List UInt8)) : Prop where
  row : ∃ ps : List Lr, ps.map Lr.x = its ∧ (∀ p ∈ ps, Keeps w p.a p.x.2.length p.c p.x.2) ∧ Src w a n 2 (ps.flatMap Lr.cells)
  len : its.length = n
  le : n ≤ c
  nn : a = none → c = 0
  ty : 0 < n → ∃ g xs fr, a = some ⟨g, 0, none⟩ ∧ w.heap[g]? = some (Obj.cells xs 46 fr)
def KeepRec (w w' : World) : Prop := ∀ (k : Nat) (xs : Array Value) (t : TypeId) (fr : Nat × Nat), w.heap[k]? = some (Obj.cells xs t fr) → (t = 5 ∨ t = 46) → w'.heap[k]? = w.heap[k]?
theorem KeepRec.ku {w w' : World} (h : KeepRec w w') : KeepU w w' := fun k xs fr hk => h k xs _ fr hk (.inl rfl)
theorem KeepRec.below {w w' : World} {B : Nat} (hb : Below B w w') (h : w.heap.size ≤ B) : KeepRec w w' := fun k xs t fr hk _ => hb.block k (Nat.lt_of_lt_of_le (blk_lt hk) h)
theorem KeepRec.ofG {w w' : World} (h : KeepG w w') : KeepRec w w' := fun k xs t fr hk ht => by
  refine h k xs t fr hk ?_ ?_ ?_ ?_ <;> rcases ht with rfl | rfl <;> decide
theorem KeepRec.ofT {w w' : World} (h : KeepT w w') : KeepRec w w' := KeepRec.ofG (KeepG.ofT h)
theorem KeepRec.stay {S : Nat → Prop} {w w' : World} (ht : TStay S w w') (hs : ∀ k, S k → ∃ xs t fr, w.heap[k]? = some (Obj.cells xs t fr) ∧ t ≠ 5 ∧ t ≠ 46) : KeepRec w w' := fun k xs t fr hk h => by
  refine ht.block k (blk_lt hk) (fun e => ?_)
  obtain ⟨xs', t', fr', h1, h2, h3⟩ := hs k e
  rw [hk] at h1
  simp only [Option.some.injEq, Obj.cells.injEq] at h1
  rcases h with h | h
  · exact h2 (h1.2.1 ▸ h)
  · exact h3 (h1.2.1 ▸ h)
theorem LRow.keep {w w' : World} {a : Option Addr} {n c : Nat} {its : List (Nat × List UInt8)} (h : LRow w a n c its) (hk : KeepRec w w') : LRow w' a n c its := by
  obtain ⟨ps, h1, h2, h3⟩ := h.row
  refine ⟨⟨ps, h1, fun p hp => (h2 p hp).stay hk.ku, h3.keep (fun h0 b o e => ?_)⟩, h.len, h.le, h.nn, fun h0 => ?_⟩
  · obtain ⟨g, xs, fr, e1, e2⟩ := h.ty h0
    rw [e1] at e
    simp only [Option.some.injEq, Addr.mk.injEq] at e
    rw [← e.1]
    exact hk g xs _ fr e2 (.inr rfl)
  · obtain ⟨g, xs, fr, e1, e2⟩ := h.ty h0
    exact ⟨g, xs, fr, e1, (hk g xs _ fr e2 (.inr rfl)).trans e2⟩
theorem LRow.elem {w : World} {a : Option Addr} {n c : Nat} {its : List (Nat × List UInt8)} (h : LRow w a n c its) {j : Nat} {x : Nat × List UInt8} (hj : its[j]? = some x) :
    ∃ g a' c', a = some ⟨g, 0, none⟩ ∧ Keeps w a' x.2.length c' x.2 ∧ w.cell? ⟨g, j * 2, none⟩ = some (.int .i64 (x.1 : Int)) ∧ w.cell? ⟨g, j * 2 + 1, none⟩ = some (.slice a' x.2.length c') := by
  have hlt : j < its.length := (List.getElem?_eq_some_iff.1 hj).1
  obtain ⟨ps, h1, h2, h3⟩ := h.row
  obtain ⟨g, xs, fr, e1, e2⟩ := h.ty (by rw [← h.len]; omega)
  rw [← h1, List.getElem?_map, Option.map_eq_some_iff] at hj
  obtain ⟨p, hp, rfl⟩ := hj
  obtain ⟨b, o, e3, e4⟩ := h3.2 (by rw [← h.len]; omega)
  rw [e1] at e3
  simp only [Option.some.injEq, Addr.mk.injEq] at e3
  obtain ⟨rfl, rfl, _⟩ := e3
  refine ⟨g, p.a, p.c, e1, h2 p (List.mem_of_getElem? hp), ?_, ?_⟩
  · have := e4 (j * 2 + 0) _ ((flatK Lr.cells 2 Lr.len ps j 0 p hp (by omega)).trans rfl)
    rw [Nat.zero_add] at this; exact this
  · have := e4 (j * 2 + 1) _ ((flatK Lr.cells 2 Lr.len ps j 1 p hp (by omega)).trans rfl)
    rw [Nat.zero_add] at this; exact this
theorem LRow.take {w : World} {a : Option Addr} {n c : Nat} {its : List (Nat × List UInt8)} (h : LRow w a n c its) {k : Nat} (hk : k ≤ n) : LRow w a k c (its.take k) := by
  obtain ⟨ps, h1, h2, h3⟩ := h.row
  refine ⟨⟨ps.take k, by rw [List.map_take, h1], fun p hp => h2 p (List.mem_of_mem_take hp), ?_⟩, by rw [List.length_take, h.len]; omega, Nat.le_trans hk h.le, h.nn, fun h0 => h.ty (by omega)⟩
  rw [flatK_take Lr.cells 2 Lr.len]
  exact h3.take hk
theorem LRow.nil (w : World) : LRow w none 0 0 [] := ⟨⟨[], rfl, (fun p hp => by cases hp), Src.nil _ _ _⟩, rfl, Nat.le_refl _, fun _ => rfl, fun h => absurd h (by omega)⟩
theorem LRow.of_own {w : World} {lo : Nat} {a : Option Addr} {n c : Nat} {its : List (Nat × List UInt8)} {ps : List Lr} (h1 : ps.map Lr.x = its) (h2 : ∀ p ∈ ps, Keeps w p.a p.x.2.length p.c p.x.2) (h3 : w.ownsRow lo 46 2 (.slice a n c) n (ps.flatMap Lr.cells)) (hn : its.length = n) : LRow w a n c its := by
  obtain ⟨_, _, e, hle, _, hno, _⟩ := ownsRow_slice h3
  simp only [Value.slice.injEq] at e
  obtain ⟨rfl, _, rfl⟩ := e
  refine ⟨⟨ps, h1, h2, Src.of_own h3⟩, hn, hle, hno, fun h0 => ?_⟩
  rcases h3.2 with ⟨hn, hx⟩ | ⟨g, cap, cur, e, _, hg, _⟩
  · simp only [Value.slice.injEq] at hn; omega
  · simp only [Value.slice.injEq] at e
    exact ⟨g, cur, _, e.1, hg⟩
/-- A log of the reference. -/
def RLog (w : World) (LB B : Nat) (its : List (Nat × List UInt8)) : Prop :=
  ∃ a c, w.heap[LB]? = some (.cells #[.pointer (some ⟨B, 0, none⟩), .string (str [102]), .slice a its.length c] 44 (0, 0)) ∧ LRow w a its.length c its
theorem RLog.keep {w w' : World} {LB B : Nat} {its : List (Nat × List UInt8)} (h : RLog w LB B its) (hB : w'.heap[LB]? = w.heap[LB]?) (hk : KeepRec w w') : RLog w' LB B its := by
  obtain ⟨a, c, h1, h2⟩ := h
  exact ⟨a, c, hB.trans h1, h2.keep hk⟩
theorem RLog.lt {w : World} {LB B : Nat} {its : List (Nat × List UInt8)} (h : RLog w LB B its) : LB < w.heap.size := by
  obtain ⟨a, c, h1, _⟩ := h
  exact blk_lt h1
theorem RLog.below {w w' : World} {LB B : Nat} {its : List (Nat × List UInt8)} (h : RLog w LB B its) (hb : Below w.heap.size w w') : RLog w' LB B its := h.keep (hb.block LB h.lt) (KeepRec.below hb (Nat.le_refl _))
theorem RLog.keepG {w w' : World} {LB B : Nat} {its : List (Nat × List UInt8)} (h : RLog w LB B its) (hk : KeepG w w') : RLog w' LB B its := by
  obtain ⟨a, c, h1, h2⟩ := h
  exact ⟨a, c, (hk _ _ _ _ h1 (by decide) (by decide) (by decide) (by decide)).trans h1, h2.keep (KeepRec.ofG hk)⟩
theorem RLog.ne {w : World} {LB B B' : Nat} {its : List (Nat × List UInt8)} {r : Ref.Rd} (h : RLog w LB B' its) (hr : IsRd w B r) : LB ≠ B := by
  obtain ⟨a, c, h1, _⟩ := h
  obtain ⟨kv, pv, hv⟩ := hr
  rintro rfl
  rw [hv.blk] at h1
  simp only [Option.some.injEq, Obj.cells.injEq] at h1
  exact absurd h1.2.1 (by decide)
theorem RLog.stay {w w' : World} {LB B B' : Nat} {its : List (Nat × List UInt8)} {r : Ref.Rd} (h : RLog w LB B' its) (hr : IsRd w B r) (ht : TStay (fun k => k = B) w w') : RLog w' LB B' its := by
  refine h.keep (ht.block LB h.lt (h.ne hr)) (KeepRec.stay ht (fun k e => ?_))
  obtain ⟨kv, pv, hv⟩ := hr
  exact ⟨_, _, _, by rw [e]; exact hv.blk, by decide, by decide⟩
theorem RLog.cells {w : World} {LB B : Nat} {its : List (Nat × List UInt8)} (h : RLog w LB B its) : ∃ a c, w.heap[LB]? = some (.cells #[.pointer (some ⟨B, 0, none⟩), .string (str [102]), .slice a its.length c] 44 (0, 0)) ∧ LRow w a its.length c its ∧ w.cell? ⟨LB, 0, none⟩ = some (.pointer (some ⟨B, 0, none⟩)) ∧ w.cell? ⟨LB, 1, none⟩ = some (.string (str [102])) ∧ w.cell? ⟨LB, 2, none⟩ = some (.slice a its.length c) := by
  obtain ⟨a, c, h1, h2⟩ := h
  exact ⟨a, c, h1, h2, blk_cell (i := 0) h1 rfl, blk_cell (i := 1) h1 rfl, blk_cell (i := 2) h1 rfl⟩
theorem frs_take_succ {its : List (Nat × List UInt8)} {j : Nat} {x : Nat × List UInt8} (h : its[j]? = some x) : (frs (its.take (j + 1))).length = (frs (its.take j)).length + (9 + x.2.length) := by
  have e : its.take (j + 1) = its.take j ++ [x] := by rw [List.take_add_one, h]; rfl
  rw [e, frs_snoc, List.length_append, frm_length]
set_option maxHeartbeats 4000000 in
set_option maxRecDepth 100000 in
theorem rlen_any (w : World) (LB B : Nat) (its : List (Nat × List UInt8)) (h : RLog w LB B its) (hn : its.length ≤ 1000000) (hs : (frs its).length ≤ 1099511627776) :
    Calls Tryz.prog 16 #[.pointer (some ⟨LB, 0, none⟩)] w fun e w' => e = .returned (.int .i64 ((frs its).length : Int)) ∧ w = w' := by
  obtain ⟨a, c, h1, h2, c0, c1, c2⟩ := h.cells
  obtain ⟨m, hm⟩ : ∃ m, m = its.length := ⟨_, rfl⟩
  rw [← hm] at c2 hn
  have HM := Lib.hid hm
  have H2 := Lib.hid h2
  have HC : Hid (m ≤ c) := Lib.hid (by rw [hm]; exact h2.le)
  have HS := Lib.hid hs
  clear h h1 h2 hm c0 c1 hs
  go_enter Tryz.func16, Tryz.ntmps16
  go_wp2
  go_loop [3, 4] (fun nv iv => ∃ j : Nat, j ≤ m ∧ iv = .int .i64 (j : Int) ∧ nv = .int .i64 ((frs (its.take j)).length : Int)) (fun _ iv => m - (intOf iv).toNat)
  case atStart => exact ⟨0, Nat.zero_le _, rfl, rfl⟩
  case round =>
    obtain ⟨j, hj, rfl, rfl⟩ := hrel
    have hle := frs_take_le its j
    have hsz := HS.out
    by_cases hlt : j < m
    · have d0 : decide ((j : Int) < (m : Int)) = true := decide_eq_true (by omega)
      have d0' : decide (j < m) = true := decide_eq_true hlt
      have hx : its[j]? = some (its[j]'(by have := HM.out; omega)) := List.getElem?_eq_getElem _
      generalize its[j]'(by have := HM.out; omega) = x at hx
      obtain ⟨g, a', c', rfl, k1, k2, k3⟩ := H2.out.elem hx
      have hsu := frs_take_succ hx
      have hle2 := frs_take_le its (j + 1)
      obtain ⟨X, hX⟩ : ∃ X, X = (frs (its.take j)).length := ⟨_, rfl⟩
      obtain ⟨Y, hY⟩ : ∃ Y, Y = x.2.length := ⟨_, rfl⟩
      rw [← hX] at hsu hle ⊢
      rw [← hY] at hsu k3
      have w1 := wrapi' ((X : Int) + 9) (by omega)
      have w2 := wrapi' ((X : Int) + 9 + (Y : Int)) (by omega)
      have w3 := wrapi' ((j : Int) + 1) (by omega)
      have HSU := Lib.hid hsu
      clear hx k1 k2 hsu hle2 hX hY
      go_wp2
      go_round
      case rel => exact ⟨j + 1, by omega, by go_num, by rw [HSU.out]; go_num⟩
      case measure => simp [intOf]; omega
    · obtain rfl : j = m := by omega
      have d0 : decide ((j : Int) < (j : Int)) = false := decide_eq_false (by omega)
      have htk : its.take j = its := List.take_of_length_le (by have := HM.out; omega)
      rw [htk]
      clear htk
      go_wp2
      go_ret
      exact ⟨rfl, rfl⟩
end Go.Proofs.YtkalpkmnelgieaaGreatDoor
/- The reference's log: Cut, Add. -/
namespace Go.Proofs.YtkalpkmnelgieaaGreatDoor
open Go.RowKit Go.Tap Go.Maps
set_option linter.unusedVariables false
set_option linter.unusedSimpArgs false
attribute [local go_sem ↓] Go.wp_at_zero Go.wp_at_succ

/-- Behind a call of the reference's log. -/
structure RLOp (w : World) (RB LB : Nat) (q : Ref.Rd × Nat) (its : List (Nat × List UInt8)) (e : Ending) (w' : World) : Prop where
  e : e = .returned (.int .i64 (q.2 : Int))
  rd : IsRd w' RB q.1
  lg : RLog w' LB RB its
  st : TStay (fun k => k = RB ∨ k = LB) w w'
/-- What Cut does to the disk. -/
def Ref.Rd.cutd (r : Ref.Rd) (T : Nat) : Ref.Rd × Nat := if r.has [102] = true ∨ 0 < T then r.trunc [102] (T : Int) else (r, 0)
theorem ts_or {w w' : World} {RB LB : Nat} (h : TStay (fun k => k = RB) w w') : TStay (fun k => k = RB ∨ k = LB) w w' := h.mono (fun i _ h => .inl h)
theorem ts_two {w X Y : World} {RB LB : Nat} (h1 : TStay (fun k => k = RB) w X) (h2 : TStay (fun k => k = LB) X Y) : TStay (fun k => k = RB ∨ k = LB) w Y := (ts_or (LB := LB) h1).trans h2 (fun _ _ h => .inr h)
theorem IsRd.stayL {X Y : World} {LB RB : Nat} {r : Ref.Rd} (h : IsRd X RB r) (hne : LB ≠ RB) {cs : Array Value} (hL : X.heap[LB]? = some (.cells cs 44 (0, 0))) (ht : TStay (fun k => k = LB) X Y) : IsRd Y RB r := by
  obtain ⟨kv, pv, hv⟩ := h
  refine ⟨kv, pv, hv.keep (ht.block RB (blk_lt hv.blk) (fun e => hne e.symm)) (fun k xs t fr hk h => ht.block k (blk_lt hk) (fun e => ?_))⟩
  subst e
  rw [hL] at hk
  simp only [Option.some.injEq, Obj.cells.injEq] at hk
  rcases h with h | h | h <;> (rw [h] at hk; exact absurd hk.2.1 (by decide))
theorem rcut_set {X : World} {LB RB : Nat} {a : Option Addr} {c k : Nat} {its : List (Nat × List UInt8)} (h1 : X.heap[LB]? = some (.cells #[.pointer (some ⟨RB, 0, none⟩), .string (str [102]), .slice a its.length c] 44 (0, 0))) (h2 : LRow X a its.length c its) (hk : k ≤ its.length) :
    RLog (X.setCell ⟨LB, 2, none⟩ (.slice a k c)) LB RB (its.take k) ∧ TStay (fun j => j = LB) X (X.setCell ⟨LB, 2, none⟩ (.slice a k c)) := by
  have st := (TStay.refl (fun j => j = LB) X).setCell (p := ⟨LB, 2, none⟩) (.inl rfl) (.slice a k c)
  have hl : (its.take k).length = k := by rw [List.length_take]; omega
  refine ⟨⟨a, c, ?_, ?_⟩, st⟩
  · rw [hl]
    exact heap_setCell_same X LB 2 _ _ _ h1
  · rw [hl]
    exact (h2.take hk).keep (KeepRec.stay st (fun j e => by subst e; exact ⟨_, _, _, h1, by decide, by decide⟩))
set_option maxHeartbeats 8000000 in
set_option maxRecDepth 100000 in
theorem rcut_yes (w : World) (LB RB : Nat) (r : Ref.Rd) (its : List (Nat × List UInt8)) (h : IsRd w RB r) (hr : Rok r) (hg : RLog w LB RB its) (hn : its.length ≤ 1000000) (hs : (frs its).length ≤ 1099511627776) (k : Nat) (hk : k ≤ its.length) (q : Ref.Rd × Nat) (hq : q = r.cutd (frs (its.take k)).length) :
    Calls Tryz.prog 15 #[.pointer (some ⟨LB, 0, none⟩), .int .i64 ((frs (its.take k)).length : Int)] w (RLOp w RB LB q (if q.2 = 0 then its.take k else its)) := by
  obtain ⟨a, c, h1, h2, c0, c1, c2⟩ := hg.cells
  obtain ⟨m, hm⟩ : ∃ m, m = its.length := ⟨_, rfl⟩
  rw [← hm] at c2 hn hk
  obtain ⟨T, hT⟩ : ∃ T, T = (frs (its.take k)).length := ⟨_, rfl⟩
  rw [← hT] at hq ⊢
  have hTs : T ≤ 1099511627776 := by rw [hT]; have := frs_take_le its k; omega
  have HM := Lib.hid hm
  have HG := Lib.hid hg
  have HR := Lib.hid h
  have HRK := Lib.hid hr
  have HC : Hid (m ≤ c) := Lib.hid (by rw [hm]; exact h2.le)
  have HS := Lib.hid hs
  have HT := Lib.hid hT
  have HQ := Lib.hid hq
  obtain ⟨J, hJ⟩ : ∃ J, J = (if q.2 = 0 then its.take k else its) := ⟨_, rfl⟩
  rw [← hJ]
  have HJ := Lib.hid hJ
  have HBK := Lib.hid h1
  have HLR := Lib.hid h2
  have HEL : Hid (∀ j x, its[j]? = some x → ∃ g c', a = some ⟨g, 0, none⟩ ∧ ∃ a', w.cell? ⟨g, j * 2 + 1, none⟩ = some (.slice a' x.2.length c')) := Lib.hid (fun j x hj => by obtain ⟨g, a', c', e1, e2, e3, e4⟩ := h2.elem hj; exact ⟨g, c', e1, a', e4⟩)
  clear h hg h1 h2 hm hs hT hr hq hJ
  go_enter Tryz.func15, Tryz.ntmps15
  go_wp2
  go_loop [5, 6] (fun nv iv => ∃ j : Nat, j ≤ k ∧ iv = .int .i64 (j : Int) ∧ nv = .int .i64 ((frs (its.take j)).length : Int)) (fun _ iv => k - (intOf iv).toNat)
  case atStart => exact ⟨0, Nat.zero_le _, rfl, rfl⟩
  case round =>
    obtain ⟨j, hj, rfl, rfl⟩ := hrel
    have hle := frs_take_le its j
    have hsz := HS.out
    by_cases hlt : j < k
    · have d0 : decide ((j : Int) < (m : Int)) = true := decide_eq_true (by omega)
      have d0' : decide (j < m) = true := decide_eq_true (by omega)
      have hjT : (frs (its.take j)).length < T := by rw [HT.out]; exact frs_take_lt its j k hlt (by have := HM.out; omega)
      have hx : its[j]? = some (its[j]'(by have := HM.out; omega)) := List.getElem?_eq_getElem _
      generalize its[j]'(by have := HM.out; omega) = x at hx
      obtain ⟨g, c', rfl, a', k3⟩ := HEL.out j x hx
      have hsu := frs_take_succ hx
      have hle2 := frs_take_le its (j + 1)
      obtain ⟨X, hX⟩ : ∃ X, X = (frs (its.take j)).length := ⟨_, rfl⟩
      obtain ⟨Y, hY⟩ : ∃ Y, Y = x.2.length := ⟨_, rfl⟩
      rw [← hX] at hsu hle hjT ⊢
      rw [← hY] at hsu k3
      have d1 : decide ((X : Int) < (T : Int)) = true := decide_eq_true (by omega)
      have d1' : decide (X < T) = true := decide_eq_true hjT
      have w1 := wrapi' ((X : Int) + 9) (by omega)
      have w2 := wrapi' ((X : Int) + 9 + (Y : Int)) (by omega)
      have w3 := wrapi' ((j : Int) + 1) (by omega)
      have hjm : j < m := by omega
      have HSU := Lib.hid hsu
      clear hx hsu hle2 hX hY
      go_wp2
      go_round
      case rel => exact ⟨j + 1, by omega, by go_num, by rw [HSU.out]; go_num⟩
      case measure => simp [intOf]; omega
    · obtain rfl : j = k := by omega
      rw [← HT.out]
      have dT : decide ((T : Int) < (T : Int)) = false := decide_eq_false (by omega)
      have dT' : decide (T < T) = false := decide_eq_false (by omega)
      have dd : ∃ t0 : Bool, decide ((j : Int) < (m : Int)) = t0 ∧ decide (j < m) = t0 := by
        by_cases hh : j < m
        · exact ⟨true, decide_eq_true (by omega), decide_eq_true hh⟩
        · exact ⟨false, decide_eq_false (by omega), decide_eq_false hh⟩
      obtain ⟨t0, q0, q0'⟩ := dd
      have hrd := fun X (hX : IsRd X RB r) => rreadd_any X RB r hX HRK.out [102]
      obtain ⟨hv, hhv⟩ : ∃ hv, hv = r.has [102] := ⟨_, rfl⟩
      obtain ⟨vl, hvl⟩ : ∃ vl, vl = (r.vals [102]).length := ⟨_, rfl⟩
      rw [← hhv, ← hvl] at hrd
      have HHV := Lib.hid hhv
      have FRD : Hid (∀ X, Below w.heap.size w X → Calls Tryz.prog 39 #[.pointer (some ⟨RB, 0, none⟩), .string (str [102])] X fun e Y => ∃ a c, e = .returned (.tuple #[.slice a vl c, .bool hv]) ∧ Hid (Below w.heap.size w Y)) := Lib.hid (fun X hX => (hrd X (HR.out.below hX)).mono fun e Y ⟨a, c, q1, q2, q3⟩ => ⟨a, c, q1, Lib.hid (hX.trans (q3.mono hX.size))⟩)
      have SC : Hid (∀ X, Below w.heap.size w X → X.cell? ⟨LB, 0, none⟩ = some (.pointer (some ⟨RB, 0, none⟩)) ∧ X.cell? ⟨LB, 1, none⟩ = some (.string (str [102]))) := Lib.hid (fun X hX => by
        have q := blk_same (hX.block LB HG.out.lt)
        exact ⟨(q 0).trans c0, (q 1).trans c1⟩)
      have D0 : Hid (Below w.heap.size w w.drew) := Lib.hid ⟨rfl, rfl, rfl, Nat.le_refl _, fun _ _ => rfl⟩
      clear hhv hvl hrd
      cases t0
      all_goals
        go_wp2_with fail
        go_region_held3 (fun w' => w'.cell? ⟨LB, 0, none⟩ = some (.pointer (some ⟨RB, 0, none⟩)) ∧ w'.cell? ⟨LB, 1, none⟩ = some (.string (str [102])))
          (exact SC.out _ D0.out)
          ((go_at_call 39; refine (FRD.out _ D0.out).mono ?_; clear D0; rintro e Y ⟨_, _, rfl, D0⟩))
        have H3 := Lib.hid (HR.out.below D0.out)
        have G3 := Lib.hid (HG.out.below D0.out)
        have TW : Hid (TStay (fun k => k = RB) w Y) := Lib.hid (TStay.of_below D0.out _)
        have B3 := Lib.hid ((D0.out.block LB HG.out.lt).trans HBK.out)
        have L3 := Lib.hid (HLR.out.keep (KeepRec.below D0.out (Nat.le_refl _)))
        have hkc : (j : Int) ≤ (c : Int) := by have := HC.out; omega
        have hkc' : j ≤ c := by have := HC.out; omega
        have hj0 : (0 : Int) ≤ (j : Int) := by omega
        have hjm : j ≤ its.length := by have := HM.out; omega
        have HNN := Lib.hid HLR.out.nn
        clear FRD SC D0 HG HR c0 c1 c2
        by_cases hgo : hv = true ∨ 0 < T
        · have hq2 : q = r.trunc [102] (T : Int) := by rw [HQ.out]; unfold Ref.Rd.cutd; rw [← show hv = _ from HHV.out, if_pos hgo]
          have hex : hv = true ∨ (hv = false ∧ decide ((0 : Int) < (T : Int)) = true ∧ decide (0 < T) = true) := by
            cases hv
            · refine .inr ⟨rfl, ?_⟩
              rcases hgo with h | h
              · cases h
              · exact ⟨decide_eq_true (by omega), decide_eq_true h⟩
            · exact .inl rfl
          have FT : Hid (∀ X, IsRd X RB r → Calls Tryz.prog 41 #[.pointer (some ⟨RB, 0, none⟩), .string (str [102]), .int .i64 (T : Int)] X (ROp X RB q)) := Lib.hid (fun X h => by rw [hq2]; exact rtrunc_any X RB r h HRK.out [102] T (by omega))
          have SC2 : Hid (∀ X, TStay (fun k => k = RB) Y X → X.cell? ⟨LB, 0, none⟩ = some (.pointer (some ⟨RB, 0, none⟩)) ∧ X.cell? ⟨LB, 1, none⟩ = some (.string (str [102]))) := Lib.hid (fun X hX => by
            have hb := (hX.block LB (blk_lt B3.out) (G3.out.ne H3.out)).trans B3.out
            exact ⟨blk_cell (i := 0) hb rfl, blk_cell (i := 1) hb rfl⟩)
          have T0 : Hid (TStay (fun k => k = RB) Y Y.drew) := Lib.hid ((TStay.refl _ _).drew _)
          have H3d : Hid (IsRd Y.drew RB r) := Lib.hid (H3.out.below (bel_drew3 (Below.refl _ _)))
          obtain ⟨r', j'⟩ := q
          clear hgo hq2 HQ HHV
          rcases hex with rfl | ⟨rfl, t0, t0'⟩
          all_goals
            go_wp2_with fail
            go_region_held3 (fun w' => w'.cell? ⟨LB, 0, none⟩ = some (.pointer (some ⟨RB, 0, none⟩)) ∧ w'.cell? ⟨LB, 1, none⟩ = some (.string (str [102])))
              (exact SC2.out _ T0.out)
              ((go_at_call 41; refine (FT.out _ H3d.out).mono ?_; rintro e Z ⟨rfl, k1, k2⟩; have T1 := Lib.hid (T0.out.trans k2 (fun _ _ h => h)); clear T0; have T0 := T1; clear T1))
            have K1 := Lib.hid k1
            have BZ := Lib.hid ((T0.out.block LB (blk_lt B3.out) (G3.out.ne H3.out)).trans B3.out)
            have LZ : Hid (LRow Z a its.length c its) := Lib.hid (L3.out.keep (KeepRec.stay T0.out (fun k e => by
              obtain ⟨kv, pv, hv⟩ := H3.out
              subst e
              exact ⟨_, _, _, hv.blk, by decide, by decide⟩)))
            have GZ := Lib.hid (G3.out.stay H3.out T0.out)
            have TZ := Lib.hid (TW.out.trans T0.out (fun _ _ h => h))
            have z2 : Z.cell? ⟨LB, 2, none⟩ = some (.slice a m c) := by rw [HM.out]; exact blk_cell (i := 2) BZ.out rfl
            have f2 := blk_free BZ.out 2
            clear k1 k2 FT SC2 T0 H3d
            by_cases hj0' : j' = 0
            · subst hj0'
              obtain ⟨p1, p2⟩ := rcut_set BZ.out LZ.out hjm
              have P1 := Lib.hid p1
              have P2 := Lib.hid p2
              have KZ := Lib.hid (K1.out.stayL (G3.out.ne H3.out) BZ.out P2.out)
              have HJ1 : Hid (J = its.take j) := Lib.hid (by rw [HJ.out, if_pos rfl])
              have PT := Lib.hid (ts_two TZ.out P2.out)
              clear p1 p2
              cases a with
              | none =>
                obtain rfl : c = 0 := HNN.out rfl
                obtain rfl : j = 0 := by omega
                go_wp2
                go_ret
                exact ⟨rfl, KZ.out, by rw [HJ1.out]; exact P1.out, PT.out⟩
              | some ad =>
                go_wp2
                go_ret
                exact ⟨rfl, KZ.out, by rw [HJ1.out]; exact P1.out, PT.out⟩
            · have e0 : ((j' : Int) != 0) = true := bne_iff_ne.2 (by omega)
              have e1 : ((j' : Int) == 0) = false := beq_eq_false_iff_ne.2 (by omega)
              have HJ1 : Hid (J = its) := Lib.hid (by rw [HJ.out, if_neg hj0'])
              go_wp2
              go_ret
              exact ⟨rfl, K1.out, by rw [HJ1.out]; exact GZ.out, ts_or TZ.out⟩
        · obtain rfl : T = 0 := by omega
          have hvf : hv = false := by cases hv; rfl; exact absurd (.inl rfl) hgo
          have hq2 : q = (r, 0) := by rw [HQ.out]; unfold Ref.Rd.cutd; rw [← show hv = _ from HHV.out, if_neg hgo]
          subst hvf
          subst hq2
          clear HQ hgo
          have z2 : Y.cell? ⟨LB, 2, none⟩ = some (.slice a m c) := by rw [HM.out]; exact blk_cell (i := 2) B3.out rfl
          have f2 := blk_free B3.out 2
          obtain ⟨p1, p2⟩ := rcut_set B3.out L3.out hjm
          have P1 := Lib.hid p1
          have P2 := Lib.hid p2
          have KZ := Lib.hid (H3.out.stayL (G3.out.ne H3.out) B3.out P2.out)
          have HJ1 : Hid (J = its.take j) := Lib.hid (by rw [HJ.out, if_pos rfl])
          have PT := Lib.hid (ts_two TW.out P2.out)
          clear p1 p2
          cases a with
          | none =>
            obtain rfl : c = 0 := HNN.out rfl
            obtain rfl : j = 0 := by omega
            go_wp2
            go_ret
            exact ⟨rfl, KZ.out, by rw [HJ1.out]; exact P1.out, PT.out⟩
          | some ad =>
            go_wp2
            go_ret
            exact ⟨rfl, KZ.out, by rw [HJ1.out]; exact P1.out, PT.out⟩
end Go.Proofs.YtkalpkmnelgieaaGreatDoor
/- The reference's log: Cut that goes nowhere, Add. -/
namespace Go.Proofs.YtkalpkmnelgieaaGreatDoor
open Go.RowKit Go.Tap Go.Maps
set_option linter.unusedVariables false
set_option linter.unusedSimpArgs false
attribute [local go_sem ↓] Go.wp_at_zero Go.wp_at_succ

set_option maxHeartbeats 8000000 in
set_option maxRecDepth 100000 in
theorem rcut_no (w : World) (LB RB : Nat) (its : List (Nat × List UInt8)) (hg : RLog w LB RB its) (hn : its.length ≤ 1000000) (hs : (frs its).length ≤ 1099511627776) (T : Nat) (hT : T ≤ 1099511627776) (hno : ∀ k, k ≤ its.length → (frs (its.take k)).length ≠ T) :
    Calls Tryz.prog 15 #[.pointer (some ⟨LB, 0, none⟩), .int .i64 (T : Int)] w fun e w' => e = .returned (.int .i64 1) ∧ w = w' := by
  obtain ⟨a, c, h1, h2, c0, c1, c2⟩ := hg.cells
  obtain ⟨m, hm⟩ : ∃ m, m = its.length := ⟨_, rfl⟩
  rw [← hm] at c2 hn
  have HM := Lib.hid hm
  have HC : Hid (m ≤ c) := Lib.hid (by rw [hm]; exact h2.le)
  have HS := Lib.hid hs
  have HNO := Lib.hid hno
  have HEL : Hid (∀ j x, its[j]? = some x → ∃ g c', a = some ⟨g, 0, none⟩ ∧ ∃ a', w.cell? ⟨g, j * 2 + 1, none⟩ = some (.slice a' x.2.length c')) := Lib.hid (fun j x hj => by obtain ⟨g, a', c', e1, e2, e3, e4⟩ := h2.elem hj; exact ⟨g, c', e1, a', e4⟩)
  clear hg h1 h2 hm hs hno
  go_enter Tryz.func15, Tryz.ntmps15
  go_wp2
  go_loop [5, 6] (fun nv iv => ∃ j : Nat, j ≤ m ∧ iv = .int .i64 (j : Int) ∧ nv = .int .i64 ((frs (its.take j)).length : Int)) (fun _ iv => m - (intOf iv).toNat)
  case atStart => exact ⟨0, Nat.zero_le _, rfl, rfl⟩
  case round =>
    obtain ⟨j, hj, rfl, rfl⟩ := hrel
    have hle := frs_take_le its j
    have hsz := HS.out
    have hne := HNO.out j (by have := HM.out; omega)
    obtain ⟨X, hX⟩ : ∃ X, X = (frs (its.take j)).length := ⟨_, rfl⟩
    rw [← hX] at hle hne ⊢
    have HX := Lib.hid hX
    clear hX
    by_cases hgo : j < m ∧ X < T
    · have d0 : decide ((j : Int) < (m : Int)) = true := decide_eq_true (by omega)
      have d0' : decide (j < m) = true := decide_eq_true (by omega)
      have d1 : decide ((X : Int) < (T : Int)) = true := decide_eq_true (by omega)
      have d1' : decide (X < T) = true := decide_eq_true hgo.2
      have hx : its[j]? = some (its[j]'(by have := HM.out; omega)) := List.getElem?_eq_getElem _
      generalize its[j]'(by have := HM.out; omega) = x at hx
      obtain ⟨g, c', rfl, a', k3⟩ := HEL.out j x hx
      have hsu := frs_take_succ hx
      have hle2 := frs_take_le its (j + 1)
      obtain ⟨Y, hY⟩ : ∃ Y, Y = x.2.length := ⟨_, rfl⟩
      rw [← show X = _ from HX.out] at hsu
      rw [← hY] at hsu k3
      have w1 := wrapi' ((X : Int) + 9) (by omega)
      have w2 := wrapi' ((X : Int) + 9 + (Y : Int)) (by omega)
      have w3 := wrapi' ((j : Int) + 1) (by omega)
      have hjm : j < m := hgo.1
      have HSU := Lib.hid hsu
      clear hx hsu hle2 hY hgo hne
      go_wp2
      go_round
      case rel => exact ⟨j + 1, by omega, by go_num, by rw [HSU.out]; go_num⟩
      case measure => simp [intOf]; omega
    · have dd : ∃ t0 : Bool, decide ((j : Int) < (m : Int)) = t0 ∧ decide (j < m) = t0 ∧ (t0 = true → decide ((X : Int) < (T : Int)) = false ∧ decide (X < T) = false) := by
        by_cases hh : j < m
        · exact ⟨true, decide_eq_true (by omega), decide_eq_true hh, fun _ => ⟨decide_eq_false (by omega), decide_eq_false (by omega)⟩⟩
        · exact ⟨false, decide_eq_false (by omega), decide_eq_false hh, fun e => by cases e⟩
      obtain ⟨t0, q0, q0', q1⟩ := dd
      have e0 : ((X : Int) != (T : Int)) = true := bne_iff_ne.2 (by omega)
      have e0' : ((X : Int) == (T : Int)) = false := beq_eq_false_iff_ne.2 (by omega)
      have e1 : (X != T) = true := bne_iff_ne.2 hne
      have e1' : (X == T) = false := beq_eq_false_iff_ne.2 hne
      clear hgo hne
      cases t0 with
      | true =>
        obtain ⟨q2, q2'⟩ := q1 rfl
        clear q1
        go_wp2
        go_ret
        exact ⟨rfl, rfl⟩
      | false =>
        clear q1
        go_wp2
        go_ret
        exact ⟨rfl, rfl⟩
theorem radd_bad (w : World) (LB : Nat) (k : Int) (a : Option Addr) (n c : Nat) (h : k < 1 ∨ 255 < k) (hn : n ≤ 140737488355328) :
    Calls Tryz.prog 24 #[.pointer (some ⟨LB, 0, none⟩), .int .i64 k, .slice a n c] w fun e w' => e = .returned (.int .i64 1) ∧ w = w' := by
  by_cases h1 : k < 1
  · have d0 : decide (k < 1) = true := decide_eq_true h1
    go_enter Tryz.func24, Tryz.ntmps24
    go_wp2
    go_ret
    exact ⟨rfl, rfl⟩
  · have d0 : decide (k < 1) = false := decide_eq_false h1
    have d1 : decide (255 < k) = true := decide_eq_true (by omega)
    go_enter Tryz.func24, Tryz.ntmps24
    go_wp2
    go_ret
    exact ⟨rfl, rfl⟩
theorem src_new2L (w : World) (u v : Value) (t : TypeId) : Src (w.alloc (.cells #[u, v] t)) (some ⟨w.heap.size, 0, none⟩) 1 2 [u, v] := src_new2 w u v t
set_option maxHeartbeats 8000000 in
set_option maxRecDepth 100000 in
theorem radd_any (w : World) (LB RB : Nat) (r : Ref.Rd) (its : List (Nat × List UInt8)) (h : IsRd w RB r) (hr : Rok r) (hg : RLog w LB RB its) (hil : its.length ≤ 1000000) (k : Nat) (hk : 1 ≤ k ∧ k ≤ 255) (a : Option Addr) (n c : Nat) (l : List UInt8) (hkk : Keeps w a n c l) (hn : n ≤ 1048576)
    (q : Ref.Rd × Nat) (hq : q = r.append [102] (frm (k : Int) l)) (J : List (Nat × List UInt8)) (hJ : J = if q.2 = 0 then its ++ [(k, l)] else its) :
    Calls Tryz.prog 24 #[.pointer (some ⟨LB, 0, none⟩), .int .i64 (k : Int), .slice a n c] w (RLOp w RB LB q J) := by
  obtain ⟨la, lc, h1, h2, c0, c1, c2⟩ := hg.cells
  obtain ⟨m, hm⟩ : ∃ m, m = its.length := ⟨_, rfl⟩
  have hl := hkk.rds.1
  have d0 : decide ((k : Int) < 1) = false := decide_eq_false (by omega)
  have d1 : decide (255 < (k : Int)) = false := decide_eq_false (by omega)
  have d2 : decide (1048576 < (n : Int)) = false := decide_eq_false (by omega)
  have HG := Lib.hid hg
  have HR := Lib.hid h
  have HRK := Lib.hid hr
  have HBK := Lib.hid h1
  have HLR := Lib.hid h2
  have HK := Lib.hid hkk
  have HM := Lib.hid hm
  have HL := Lib.hid hl
  have HQ := Lib.hid hq
  have HJ := Lib.hid hJ
  have hml : m ≤ 1000000 := by rw [hm]; exact hil
  have FF : Hid (∀ X, Below w.heap.size w X → Calls Tryz.prog 52 #[.int .i64 (k : Int), .slice a n c] X fun e Y => ∃ av cv, e = .returned (.slice av (9 + n) cv) ∧ Hid (Keeps Y av (9 + n) cv (frm (k : Int) l)) ∧ Hid (Below w.heap.size w Y)) := Lib.hid (fun X hX => (refFrame_any X k a n c l (HK.out.below hX).rds HK.out.none hn).mono fun e Y ⟨v, q1, q2, q3⟩ => by
    obtain ⟨av, cv, rfl, _⟩ := ownsRow_slice q2
    have e9 : (frm (k : Int) l).length = 9 + n := by rw [frm_length, HL.out]
    rw [e9] at q1
    exact ⟨av, cv, q1, Lib.hid (Keeps.of_own (by rw [e9] at q2 ⊢; exact q2) e9), Lib.hid (hX.trans (q3.mono hX.size))⟩)
  have D0 : Hid (Below w.heap.size w w.drew) := Lib.hid (bel_drew3 (Below.refl _ _))
  have FA : Hid (∀ X av cv, Below w.heap.size w X → Keeps X av (9 + n) cv (frm (k : Int) l) → Calls Tryz.prog 51 #[.pointer (some ⟨RB, 0, none⟩), .string (str [102]), .slice av (9 + n) cv] X (ROp X RB q)) := Lib.hid (fun X av cv hX hK => by rw [hq]; exact rappend_any X RB r (HR.out.below hX) HRK.out [102] av (9 + n) cv _ hK.rds hK.none (by omega))
  have SC : Hid (∀ X : World, X.heap[LB]? = w.heap[LB]? → X.cell? ⟨LB, 0, none⟩ = some (.pointer (some ⟨RB, 0, none⟩)) ∧ X.cell? ⟨LB, 1, none⟩ = some (.string (str [102]))) := Lib.hid (fun X hX => ⟨(blk_same hX 0).trans c0, (blk_same hX 1).trans c1⟩)
  have E0 : Hid (w.drew.heap[LB]? = w.heap[LB]?) := Lib.hid rfl
  clear h hr hg h1 h2 hm hq hJ hkk hl hil
  go_enter Tryz.func24, Tryz.ntmps24
  go_wp2_with fail
  go_region_held3 (fun w' => w'.cell? ⟨LB, 0, none⟩ = some (.pointer (some ⟨RB, 0, none⟩)) ∧ w'.cell? ⟨LB, 1, none⟩ = some (.string (str [102])))
    (exact SC.out _ E0.out)
    (first
      | (go_at_call 52; refine (FF.out _ D0.out).mono ?_; clear D0 E0; rintro e Y ⟨av, cv, rfl, KY, D0⟩; have E0 := Lib.hid (D0.out.block LB HG.out.lt))
      | (go_at_call 51; refine (FA.out _ _ _ D0.out KY.out).mono ?_; clear E0; rintro e Z ⟨rfl, k1, k2⟩; have E0 := Lib.hid ((k2.block LB (Nat.lt_of_lt_of_le HG.out.lt D0.out.size) (HG.out.ne HR.out)).trans (D0.out.block LB HG.out.lt))))
  have RY := Lib.hid (HR.out.below D0.out)
  have K1 := Lib.hid k1
  have TW := Lib.hid ((TStay.of_below D0.out (fun k => k = RB)).trans k2 (fun _ _ h => h))
  have KB := Lib.hid (keeps_rd RY.out k2 (HK.out.below D0.out))
  have BZ := Lib.hid (E0.out.trans HBK.out)
  have GZ := Lib.hid ((HG.out.below D0.out).stay RY.out k2)
  have LZ : Hid (LRow Z la its.length lc its) := Lib.hid ((HLR.out.keep (KeepRec.below D0.out (Nat.le_refl _))).keep (KeepRec.stay k2 (fun j e => by
    obtain ⟨kv, pv, hv⟩ := RY.out
    subst e
    exact ⟨_, _, _, hv.blk, by decide, by decide⟩)))
  obtain ⟨r', j'⟩ := q
  clear k1 k2 FF FA SC D0 E0 KY c0 c1 c2 HR HG HK RY HBK HLR
  by_cases hj0 : j' = 0
  · subst hj0
    have HJ1 : Hid (J = its ++ [(k, l)]) := Lib.hid (by rw [HJ.out, if_pos rfl])
    have z2 : Z.cell? ⟨LB, 2, none⟩ = some (.slice la m lc) := by rw [HM.out]; exact blk_cell (i := 2) BZ.out rfl
    have hLz : LB < Z.heap.size := blk_lt BZ.out
    obtain ⟨i0, hi, hz0, hz1, hz2⟩ := info_parts infoRecR
    obtain ⟨iB, hb, hy0, hy1, hy2⟩ := info_parts Tryz.infoB
    obtain ⟨ps, hps, hkp, hsrc⟩ := LZ.out.row
    rw [← show m = _ from HM.out] at hsrc
    have HPS := Lib.hid hps
    have HKP := Lib.hid hkp
    have HSRC := Lib.hid (hsrc.alloc (by omega) (.cells #[] 46))
    have HNL := Lib.hid LZ.out.nn
    have HNB := Lib.hid KB.out.none
    clear hps hkp hsrc
    go_wp2_with (at_builtin; go_must (refine wpList_append_src _ rfl (.tmp 35) (.tmp 39) 42 rfl Z.heap.size 46 i0 _ 2 32 Tryz.underlying42 hi hz0 hz1 hz2 rfl (by omega) _ 0 [] rfl (World.ownsRow_made Z #[] 0 (Nat.le_refl _) (Nat.zero_le _) rfl) _ m lc rfl HNL.out _ HSRC.out (Lr.one _) (by omega) (by omega) (by first | (simp; done) | (simp; omega)) ?_))
    intro a3 c3 w3 hown3 hg3
    have X3 : Hid (Below Z.heap.size Z w3) := Lib.hid (((Below.refl _ _).alloc (Nat.le_refl _) _).grown hg3 (by simp) (fun j hj => by simp only [Value.ownBlock, Option.some.injEq] at hj; omega))
    have O3 : Hid (w3.ownsRow Z.heap.size 46 2 (.slice a3 m c3) m (ps.flatMap Lr.cells)) := Lib.hid (by simpa using hown3)
    have KB3 := Lib.hid (KB.out.below X3.out)
    have HSB := Lib.hid ((Src.of_rds KB3.out.rds).alloc (by omega) (.cells #[] 5))
    try rw [show 0 + m = m from Nat.zero_add m]
    clear hown3 hg3 HSRC
    go_wp2_with (at_builtin; go_must (refine wpList_append_src _ rfl (.tmp 42) (.tmp 43) 38 rfl w3.heap.size 5 iB _ 1 1 Tryz.underlying38 hb hy0 hy1 hy2 rfl (by omega) _ 0 [] rfl (World.ownsRow_made w3 #[] 0 (Nat.le_refl _) (Nat.zero_le _) rfl) _ n c rfl HNB.out (bv l) HSB.out (bv_one _) (by omega) (by omega) (by first | (simp; done) | (simp; omega)) ?_))
    intro a4 c4 w4 hown4 hg4
    have X4 : Hid (Below w3.heap.size w3 w4) := Lib.hid (((Below.refl _ _).alloc (Nat.le_refl _) _).grown hg4 (by simp) (fun j hj => by simp only [Value.ownBlock, Option.some.injEq] at hj; omega))
    have KN : Hid (Keeps w4 a4 n c4 l) := Lib.hid (Keeps.of_own (by rw [HL.out]; simpa using hown4) HL.out)
    try rw [show 0 + n = n from Nat.zero_add n]
    obtain ⟨A4, hA4⟩ : ∃ A4, A4 = w4.alloc (.cells #[.int .i64 (k : Int), .slice a4 n c4] 46) := ⟨_, rfl⟩
    have hbA : Below w4.heap.size w4 A4 := by rw [hA4]; exact (Below.refl _ _).alloc (Nat.le_refl _) _
    have XA : Hid (Below Z.heap.size Z A4) := Lib.hid ((X3.out.trans (X4.out.mono X3.out.size)).trans (hbA.mono (Nat.le_trans X3.out.size X4.out.size)))
    have OA : Hid (A4.ownsRow Z.heap.size 46 2 (.slice a3 m c3) m (ps.flatMap Lr.cells)) := Lib.hid (own_blw (own_blw O3.out X4.out) hbA)
    have SA : Hid (Src A4 (some ⟨w4.heap.size, 0, none⟩) 1 2 [.int .i64 (k : Int), .slice a4 n c4]) := Lib.hid (by rw [hA4]; exact src_new2L _ _ _ _)
    have KA := Lib.hid (KN.out.below hbA)
    have HA4 := Lib.hid hA4
    have hk1 : (m + 1) * 32 ≤ 140737488355328 := by omega
    have hsz := XA.out.size
    clear hown4 hg4 hA4 hbA HSB
    go_wp2_with (at_builtin; rw [← HA4.out]; go_must (refine wpList_append_src _ rfl (.tmp 40) (.tmp 46) 42 rfl Z.heap.size 46 i0 _ 2 32 Tryz.underlying42 hi hz0 hz1 hz2 rfl (by omega) _ m _ rfl OA.out _ 1 1 rfl (by intro h; cases h) _ SA.out (by intro u hu; simp only [List.mem_cons, List.not_mem_nil, or_false] at hu; rcases hu with rfl | rfl <;> rfl) (by omega) hk1 hsz ?_))
    intro a5 c5 w5 hown5 hg5
    have X5 : Hid (Below Z.heap.size Z w5) := Lib.hid (XA.out.grown hg5 hsz (fun j hj => (OA.out.lt j hj).1))
    have B5 := Lib.hid ((X5.out.block LB (blk_lt BZ.out)).trans BZ.out)
    have z5 : w5.cell? ⟨LB, 2, none⟩ = some (.slice la m lc) := by rw [HM.out]; exact blk_cell (i := 2) B5.out rfl
    have f5 := blk_free B5.out 2
    have K5 : ∀ p ∈ ps ++ [⟨(k, l), a4, c4⟩], Keeps w5 p.a p.x.2.length p.c p.x.2 := by
      intro p hp
      rcases List.mem_append.1 hp with hp | hp
      · exact (HKP.out p hp).below X5.out
      · rw [List.mem_singleton.1 hp]
        show Keeps w5 a4 l.length c4 l
        rw [HL.out]
        exact KA.out.stay (KeepU.grown hg5 (fun j xs fr e hx => own_ne' OA.out hx (by decide) e))
    have st5 := (TStay.refl (fun j => j = LB) w5).setCell (p := ⟨LB, 2, none⟩) (.inl rfl) (.slice a5 (m + 1) c5)
    have L5 : LRow w5 a5 (m + 1) c5 (its ++ [(k, l)]) := LRow.of_own (ps := ps ++ [⟨(k, l), a4, c4⟩]) (by rw [List.map_append, HPS.out]; rfl) K5 (by
      rw [List.flatMap_append]
      have : ([⟨(k, l), a4, c4⟩] : List Lr).flatMap Lr.cells = [.int .i64 (k : Int), .slice a4 n c4] := by simp [Lr.cells, HL.out]
      rw [this]; exact hown5) (by rw [List.length_append, ← show m = _ from HM.out]; rfl)
    have FIN : Hid (RLOp w RB LB (r', 0) J (.returned (.int .i64 0)) (w5.setCell ⟨LB, 2, none⟩ (.slice a5 (m + 1) c5))) := by
      refine Lib.hid ⟨rfl, (K1.out.below X5.out).stayL (GZ.out.ne K1.out) B5.out st5, ?_, ts_two (TW.out.trans (TStay.of_below X5.out _) (fun _ _ h => h)) st5⟩
      rw [HJ1.out]
      have e9 : (its ++ [(k, l)]).length = m + 1 := by rw [List.length_append, ← show m = _ from HM.out]; rfl
      refine ⟨a5, c5, ?_, ?_⟩
      · rw [e9]; exact heap_setCell_same w5 LB 2 _ _ _ B5.out
      · rw [e9]; exact L5.keep (KeepRec.stay st5 (fun j e => by subst e; exact ⟨_, _, _, B5.out, by decide, by decide⟩))
    clear hown5 hg5 K5 st5 L5 OA SA
    go_wp2
    go_ret
    exact FIN.out
  · have e0 : ((j' : Int) != 0) = true := bne_iff_ne.2 (by omega)
    have e1 : ((j' : Int) == 0) = false := beq_eq_false_iff_ne.2 (by omega)
    have HJ1 : Hid (J = its) := Lib.hid (by rw [HJ.out, if_neg hj0])
    go_wp2
    go_ret
    exact ⟨rfl, K1.out, by rw [HJ1.out]; exact GZ.out, ts_or TW.out⟩
end Go.Proofs.YtkalpkmnelgieaaGreatDoor
/- The reference's log: OpenLog. -/
namespace Go.Proofs.YtkalpkmnelgieaaGreatDoor
open Go.RowKit Go.Tap Go.Maps
set_option linter.unusedVariables false
set_option linter.unusedSimpArgs false
attribute [local go_sem ↓] Go.wp_at_zero Go.wp_at_succ

def itsOf (rs : List Rec) : List (Nat × List UInt8) := rs.map fun x => (x.kind, x.body)
theorem itsOf_recs : ∀ (l : List (Nat × List UInt8)) (at_ : Nat), itsOf (recsAt at_ l) = l
  | [], at_ => rfl
  | p :: r, at_ => by
    have := itsOf_recs r (at_ + (9 + p.2.length))
    unfold itsOf at this ⊢
    rw [recsAt, List.map_cons, this]
theorem scanG_recs : ∀ (f : Nat) (l : List UInt8) (at_ : Nat), (scanG f l at_).1 = recsAt at_ (itsOf (scanG f l at_).1)
  | 0, l, at_ => rfl
  | f + 1, l, at_ => by
    unfold scanG
    split
    · rfl
    · cases hq : nxt l with
      | error k => rfl
      | ok q =>
        have h1 := (nxt_ok hq).1
        have ih := scanG_recs f (l.drop q.2.2) (at_ + q.2.2)
        simp only
        show _ = recsAt at_ ((q.1, q.2.1) :: itsOf (scanG f (l.drop q.2.2) (at_ + q.2.2)).1)
        rw [recsAt, ← h1, ← ih]
theorem scanG_size : ∀ (f : Nat) (l : List UInt8) (at_ : Nat), (frs (itsOf (scanG f l at_).1)).length ≤ l.length
  | 0, l, at_ => Nat.zero_le _
  | f + 1, l, at_ => by
    unfold scanG
    split
    · exact Nat.zero_le _
    · cases hq : nxt l with
      | error k => exact Nat.zero_le _
      | ok q =>
        obtain ⟨h1, h2, h3⟩ := nxt_ok hq
        have ih := scanG_size f (l.drop q.2.2) (at_ + q.2.2)
        simp only
        show (frm (q.1 : Int) q.2.1 ++ frs (itsOf (scanG f (l.drop q.2.2) (at_ + q.2.2)).1)).length ≤ _
        rw [List.length_append, frm_length]
        rw [List.length_drop] at ih
        omega
/-- What OpenLog does, and answers. -/
def Ref.Rd.opn (r : Ref.Rd) (len : Nat) : Ref.Rd × Except Nat (List (Nat × List UInt8)) :=
  if r.has [102] = false then (if 0 < len then (r, .error 3) else (r, .ok []))
  else if (r.vals [102]).length < len then (r, .error 3)
  else if (scanF ((r.vals [102]).take len)).2 ≠ 0 then (r, .error (scanF ((r.vals [102]).take len)).2)
  else if len < (r.vals [102]).length then (if (r.trunc [102] (len : Int)).2 = 0 then ((r.trunc [102] (len : Int)).1, .ok (itsOf (scanF ((r.vals [102]).take len)).1)) else ((r.trunc [102] (len : Int)).1, .error (r.trunc [102] (len : Int)).2))
  else (r, .ok (itsOf (scanF ((r.vals [102]).take len)).1))
structure RLOpen (w : World) (RB : Nat) (q : Ref.Rd × Except Nat (List (Nat × List UInt8))) (e : Ending) (w' : World) : Prop where
  rd : IsRd w' RB q.1
  st : TStay (fun k => k = RB) w w'
  res : match q.2 with
    | .error k => e = .returned (.tuple #[.pointer none, .int .i64 (k : Int)])
    | .ok its => ∃ LB, e = .returned (.tuple #[.pointer (some ⟨LB, 0, none⟩), .int .i64 0]) ∧ w.heap.size ≤ LB ∧ RLog w' LB RB its
set_option maxHeartbeats 8000000 in
set_option maxRecDepth 100000 in
theorem ropen_any (w : World) (RB : Nat) (r : Ref.Rd) (h : IsRd w RB r) (hr : Rok r) (len : Nat) (hlen : len ≤ 1099511627776) (q : Ref.Rd × Except Nat (List (Nat × List UInt8))) (hq : q = r.opn len) :
    Calls Tryz.prog 11 #[.pointer (some ⟨RB, 0, none⟩), .string (str [102]), .int .i64 (len : Int)] w (RLOpen w RB q) := by
  obtain ⟨LB, hLB⟩ : ∃ LB, LB = w.heap.size := ⟨_, rfl⟩
  obtain ⟨W1, hW1⟩ : ∃ W1, W1 = w.alloc (.cells #[.pointer (some ⟨RB, 0, none⟩), .string (str [102]), .slice none 0 0] 44) := ⟨_, rfl⟩
  have hT1 : W1.heap[LB]? = some (.cells #[.pointer (some ⟨RB, 0, none⟩), .string (str [102]), .slice none 0 0] 44 (0, 0)) := by rw [hW1, hLB]; exact heap_alloc_new _ _
  have hB1 : Below w.heap.size w W1 := by rw [hW1]; exact (Below.refl _ _).alloc (Nat.le_refl _) _
  have hrd := rreadd_any W1 RB r (h.below hB1) hr [102]
  have hvl := (show (r.vals [102]).length ≤ 16777216 by
    have := hr.now
    unfold Ref.Rd.vals
    split
    · simp
    · exact Nat.le_trans (apart_used _) this.2)
  obtain ⟨L, hL⟩ : ∃ L, L = r.vals [102] := ⟨_, rfl⟩
  obtain ⟨n, hn⟩ : ∃ n, n = L.length := ⟨_, rfl⟩
  obtain ⟨hv, hhv⟩ : ∃ hv, hv = r.has [102] := ⟨_, rfl⟩
  unfold Ref.Rd.opn at hq
  rw [← hL, ← hn] at hvl
  rw [← hL, ← hhv, ← hn] at hrd hq
  have HR := Lib.hid h
  have HRK := Lib.hid hr
  have HQ := Lib.hid hq
  have HT1 := Lib.hid hT1
  have HB1 := Lib.hid hB1
  have HN := Lib.hid hn
  have HW1 := Lib.hid hW1
  have HLB := Lib.hid hLB
  clear h hr hq hT1 hB1 hhv hL hn hW1 hLB
  have dz : decide ((len : Int) < 0) = false := decide_eq_false (by omega)
  go_enter Tryz.func11, Tryz.ntmps11
  go_wp2_with fail
  rw [← HW1.out, ← HLB.out]
  refine hrd.mono ?_
  clear hrd
  rintro e w2 ⟨a2, c2, rfl, hk2, hb2⟩
  have BW : Hid (Below w.heap.size w w2) := Lib.hid (HB1.out.trans (hb2.mono HB1.out.size))
  have T2 : Hid (w2.heap[LB]? = some (.cells #[.pointer (some ⟨RB, 0, none⟩), .string (str [102]), .slice none 0 0] 44 (0, 0))) := Lib.hid ((hb2.block LB (blk_lt HT1.out)).trans HT1.out)
  have H2 : Hid (IsRd w2 RB r) := Lib.hid (HR.out.below BW.out)
  have K2 := Lib.hid hk2
  have S2 : Hid (TStay (fun k => k = RB) w w2) := Lib.hid (TStay.of_below BW.out _)
  clear hb2 hk2
  cases hv
  · by_cases hl0 : 0 < len
    · have d0 : decide ((0 : Int) < (len : Int)) = true := decide_eq_true (by omega)
      have d0' : decide (0 < len) = true := decide_eq_true hl0
      have HE : Hid (q = (r, .error 3)) := Lib.hid (by rw [HQ.out, if_pos rfl, if_pos hl0])
      go_wp2
      go_ret2
      rw [HE.out]
      exact ⟨H2.out, S2.out, rfl⟩
    · obtain rfl : len = 0 := by omega
      have HE : Hid (q = (r, .ok [])) := Lib.hid (by rw [HQ.out, if_pos rfl, if_neg hl0])
      go_wp2
      go_ret2
      rw [HE.out]
      exact ⟨H2.out, S2.out, LB, rfl, by rw [HLB.out]; exact Nat.le_refl _, none, 0, T2.out, LRow.nil _⟩
  · by_cases hsh : n < len
    · have d0 : decide ((n : Int) < (len : Int)) = true := decide_eq_true (by omega)
      have d0' : decide (n < len) = true := decide_eq_true hsh
      have HE : Hid (q = (r, .error 3)) := Lib.hid (by rw [HQ.out, if_neg (by simp), if_pos hsh])
      go_wp2
      go_ret2
      rw [HE.out]
      exact ⟨H2.out, S2.out, rfl⟩
    · have d0 : decide ((n : Int) < (len : Int)) = false := decide_eq_false (by omega)
      have d0' : decide (n < len) = false := decide_eq_false hsh
      obtain ⟨M, hM⟩ : ∃ M, M = L.take len := ⟨_, rfl⟩
      obtain ⟨i0, hi, hz0, hz1, hz2⟩ := info_parts infoRecR
      have HQ2 : Hid (q = if (scanF M).2 ≠ 0 then (r, .error (scanF M).2) else if len < n then (if (r.trunc [102] (len : Int)).2 = 0 then ((r.trunc [102] (len : Int)).1, .ok (itsOf (scanF M).1)) else ((r.trunc [102] (len : Int)).1, .error (r.trunc [102] (len : Int)).2)) else (r, .ok (itsOf (scanF M).1))) := Lib.hid (by rw [HQ.out, if_neg (by simp), if_neg hsh, hM])
      have hML : M.length = len := by rw [hM, List.length_take, ← HN.out]; omega
      have HM := Lib.hid hM
      have HML := Lib.hid hML
      have hle2 := K2.out.le
      clear HQ hM hML
      go_wp2_with fail
      go_loopw [11, 12, 13, 14, 15] (fun pv _ _ _ _ wr => ∃ (p f : Nat) (ps : List Lr) (a c : _), pv = .int .i64 (p : Int) ∧ p ≤ len ∧ ps.length * 9 ≤ p ∧ Hid (Below w.heap.size w wr) ∧ Hid (wr.heap[LB]? = some (.cells #[.pointer (some ⟨RB, 0, none⟩), .string (str [102]), .slice a ps.length c] 44 (0, 0))) ∧ Hid (∀ p ∈ ps, Keeps wr p.a p.x.2.length p.c p.x.2) ∧ Hid (wr.ownsRow w.heap.size 46 2 (.slice a ps.length c) ps.length (ps.flatMap Lr.cells)) ∧ Hid ((frs (ps.map Lr.x)).length = p) ∧ Hid (len - p < f) ∧ Hid (scanF M = (recsAt 0 (ps.map Lr.x) ++ (scanG f (M.drop p) p).1, (scanG f (M.drop p) p).2)) ∧ Hid (Keeps wr a2 n c2 L)) (fun pv _ _ _ _ _ => len - (intOf pv).toNat)
      case atStart => exact ⟨0, len + 1, [], none, 0, rfl, Nat.zero_le _, Nat.le_refl _, BW, T2, Lib.hid (fun p hp => (by cases hp)), Lib.hid (World.ownsRow_nil _ _ _ _), Lib.hid rfl, Lib.hid (by omega), Lib.hid (by rw [List.drop_zero]; show scanG (M.length + 1) M 0 = _; rw [HML.out]; rfl), K2⟩
      case round =>
        obtain ⟨p, f, ps, a, c, rfl, hp, hp9, HB, HT, HKP, HOW, HFR, HF, HSC, HK⟩ := hrel
        obtain ⟨f, rfl⟩ : ∃ f', f = f' + 1 := ⟨f - 1, by have := HF.out; omega⟩
        by_cases hpl : p < len
        · have e0 : decide ((p : Int) < (len : Int)) = true := decide_eq_true (by omega)
          have e0' : decide (p < len) = true := decide_eq_true hpl
          have hne : M.drop p ≠ [] := fun e => by have := congrArg List.length e; rw [List.length_drop, HML.out] at this; simp at this; omega
          have hq0 : (0 : Int) ≤ (p : Int) := by omega
          have hq1 : (p : Int) ≤ (len : Int) := by omega
          have hq2 : (len : Int) ≤ (c2 : Int) := by omega
          have hq3 : len ≤ c2 := by omega
          obtain ⟨b, o, rfl, _⟩ := HK.out.rds.2 (by omega)
          have hrd := (HK.out.rds.take (k := len) (by omega)).drop (c := c2) (k := p) hp (by omega)
          rw [if_neg (by omega), ← show M = L.take len from HM.out] at hrd
          have hrd2 : Rds wr (some ⟨b, o + p, none⟩) (len - p) (M.drop p) := by simpa [Addr.add_lit] using hrd
          have hce : (c2 == p) = false := beq_eq_false_iff_ne.2 (by omega)
          have hce' : ¬ c2 = p := by omega
          have hce2 : decide (c2 = p) = false := decide_eq_false hce'
          have hnx := refNext_any wr (some ⟨b, o + p, none⟩) (len - p) (c2 - p) (M.drop p) hrd2 (by omega) (by intro h; cases h) (by omega)
          clear hrd hrd2
          go_wp2_with fail
          refine hnx.mono ?_
          clear hnx
          cases hq : nxt (M.drop p) with
          | error k =>
            rintro e w3 ⟨hb3, rfl⟩
            have hk0 := nxt_pos hq
            have hfin : (scanF M).2 = k := by rw [show scanF M = _ from HSC.out, scanG, if_neg hne, hq]
            have HE : Hid (q = (r, .error k)) := Lib.hid (by rw [HQ2.out, if_pos (by rw [hfin]; omega), hfin])
            have B3 := Lib.hid (HB.out.trans (hb3.mono HB.out.size))
            have z0 : ((k : Int) != 0) = true := bne_iff_ne.2 (by omega)
            have z1 : ((k : Int) == 0) = false := beq_eq_false_iff_ne.2 (by omega)
            clear hq hfin hne hb3 HSC HKP HOW
            go_wp2
            go_ret2
            rw [HE.out]
            exact ⟨HR.out.below B3.out, TStay.of_below B3.out _, rfl⟩
          | ok qq =>
            rintro e w3 ⟨hb3, v3, rfl, ho3⟩
            obtain ⟨x3, y3, rfl, _⟩ := ownsRow_slice ho3
            obtain ⟨hsz, hsl, hk256⟩ := nxt_ok hq
            rw [List.length_drop, HML.out] at hsl
            have KB := Lib.hid (Keeps.of_own ho3 rfl)
            have B3 := Lib.hid (HB.out.trans (hb3.mono HB.out.size))
            have hnew : scanF M = (recsAt 0 (ps.map Lr.x) ++ (⟨qq.1, qq.2.1, p + qq.2.2⟩ :: (scanG f (M.drop (p + qq.2.2)) (p + qq.2.2)).1), (scanG f (M.drop (p + qq.2.2)) (p + qq.2.2)).2) := by
              rw [show scanF M = _ from HSC.out, scanG, if_neg hne, hq]
              simp [List.drop_drop]
            obtain ⟨q1, q2, q3⟩ := qq
            simp only at hsz hsl hk256 hnew KB ho3
            have hnew2 : scanF M = (recsAt 0 ((ps ++ [Lr.mk (q1, q2) x3 y3]).map Lr.x) ++ (scanG f (M.drop (p + q3)) (p + q3)).1, (scanG f (M.drop (p + q3)) (p + q3)).2) := by
              rw [hnew, List.map_append, List.map_singleton, recsAt_snoc, Nat.zero_add, HFR.out, ← hsz]
              simp
            obtain ⟨E, hE⟩ : ∃ E, E = p + q3 := ⟨_, rfl⟩
            rw [← hE] at hnew2
            have hwe : IntKind.i64.wrap ((p : Int) + (q3 : Int)) = (E : Int) := by rw [hE]; push_cast; exact wrapi' _ (by omega)
            have T3 := Lib.hid ((hb3.block LB (blk_lt HT.out)).trans HT.out)
            have t2 : w3.cell? ⟨LB, 2, none⟩ = some (.slice a ps.length c) := blk_cell (i := 2) T3.out rfl
            have hLw : LB < w3.heap.size := blk_lt T3.out
            have O3 := Lib.hid (own_blw HOW.out hb3)
            have KP3 : Hid (∀ p ∈ ps, Keeps w3 p.a p.x.2.length p.c p.x.2) := Lib.hid (fun p hp => (HKP.out p hp).below hb3)
            have K3 := Lib.hid (HK.out.below hb3)
            have HNEW := Lib.hid hnew2
            have HE := Lib.hid hE
            have HSZ := Lib.hid hsz
            have hEn : E ≤ len := by omega
            have hq9 : 9 ≤ q3 := by omega
            have hb3s := B3.out.size
            have hpl6 : ps.length ≤ 16777216 := by omega
            clear hq hne hnew hnew2 ho3 hsz hsl hb3 HSC HT HOW HKP HK
            go_wp2_with (at_builtin; go_must (refine wpList_append_src _ rfl (.tmp 58) (.tmp 62) 42 rfl w.heap.size 46 i0 _ 2 32 Tryz.underlying42 hi hz0 hz1 hz2 rfl (by omega) _ ps.length _ rfl (O3.out.alloc _) _ 1 1 rfl (by intro h; cases h) _ (src_new2L w3 (.int .i64 (q1 : Int)) (.slice x3 q2.length y3) 46) (by intro u hu; simp only [List.mem_cons, List.not_mem_nil, or_false] at hu; rcases hu with rfl | rfl <;> rfl) (by omega) (by omega) (by simp; omega) ?_))
            intro a5 c5 w5 hown5 hg5
            have TA : (w3.alloc (.cells #[.int .i64 (q1 : Int), .slice x3 q2.length y3] 46)).heap[LB]? = some (.cells #[.pointer (some ⟨RB, 0, none⟩), .string (str [102]), .slice a ps.length c] 44 (0, 0)) := (heap_alloc_old _ _ hLw).trans T3.out
            have T5 := Lib.hid ((hg5.block LB (by simp; omega) (fun e => own_ne' (O3.out.alloc _) TA (by decide) e.symm)).trans TA)
            have B5 := Lib.hid ((B3.out.alloc hb3s _).grown hg5 (by simp; omega) (fun j hj => (O3.out.lt j hj).1))
            have hku : KeepU w3 w5 := (KeepU.alloc w3 _).trans (KeepU.grown hg5 (fun j xs fr e hx => own_ne' (O3.out.alloc _) hx (by decide) e))
            have st5 := (TStay.refl (fun j => j = LB) w5).setCell (p := ⟨LB, 2, none⟩) (.inl rfl) (.slice a5 (ps.length + 1) c5)
            have hku5 : KeepU w3 (w5.setCell ⟨LB, 2, none⟩ (.slice a5 (ps.length + 1) c5)) := hku.trans (KeepU.setCell (p := ⟨LB, 2, none⟩) T5.out (by decide) _)
            have t5 : w5.cell? ⟨LB, 2, none⟩ = some (.slice a ps.length c) := blk_cell (i := 2) T5.out rfl
            have f5 := blk_free T5.out 2
            have R1 := Lib.hid (B5.out.setCell (p := ⟨LB, 2, none⟩) (by rw [HLB.out]; exact Nat.le_refl _) (.slice a5 (ps.length + 1) c5))
            have e9 : (ps ++ [Lr.mk (q1, q2) x3 y3]).length = ps.length + 1 := by simp
            have R2 : Hid ((w5.setCell ⟨LB, 2, none⟩ (.slice a5 (ps.length + 1) c5)).heap[LB]? = some (.cells #[.pointer (some ⟨RB, 0, none⟩), .string (str [102]), .slice a5 (ps ++ [Lr.mk (q1, q2) x3 y3]).length c5] 44 (0, 0))) := Lib.hid (by rw [e9]; exact heap_setCell_same w5 LB 2 _ _ _ T5.out)
            have R3 : Hid (∀ p ∈ ps ++ [Lr.mk (q1, q2) x3 y3], Keeps (w5.setCell ⟨LB, 2, none⟩ (.slice a5 (ps.length + 1) c5)) p.a p.x.2.length p.c p.x.2) := Lib.hid (fun p hp => by
              rcases List.mem_append.1 hp with hp | hp
              · exact (KP3.out p hp).stay hku5
              · rw [List.mem_singleton.1 hp]; exact KB.out.stay hku5)
            have R4 : Hid ((w5.setCell ⟨LB, 2, none⟩ (.slice a5 (ps.length + 1) c5)).ownsRow w.heap.size 46 2 (.slice a5 (ps ++ [Lr.mk (q1, q2) x3 y3]).length c5) (ps ++ [Lr.mk (q1, q2) x3 y3]).length ((ps ++ [Lr.mk (q1, q2) x3 y3] : List Lr).flatMap Lr.cells)) := Lib.hid (by
              rw [e9, List.flatMap_append]
              have e8 : ([Lr.mk (q1, q2) x3 y3] : List Lr).flatMap Lr.cells = [.int .i64 (q1 : Int), .slice x3 q2.length y3] := by simp [Lr.cells]
              rw [e8]
              exact ownsRow_stay hown5 st5 (fun k e e' => by subst e'; exact own_ne' hown5 T5.out (by decide) e))
            have R5 : Hid ((frs ((ps ++ [Lr.mk (q1, q2) x3 y3]).map Lr.x)).length = E) := Lib.hid (by
              rw [List.map_append, List.map_singleton, frs_snoc, List.length_append, frm_length, HFR.out, show E = _ from HE.out, HSZ.out])
            have R6 := Lib.hid (K3.out.stay hku5)
            have RF : Hid (len - E < f) := Lib.hid (by have := HF.out; have := HE.out; omega)
            clear TA hown5 hg5 hku hku5 st5 O3 KP3
            go_wp2
            go_roundw
            case rel => exact ⟨E, f, ps ++ [Lr.mk (q1, q2) x3 y3], a5, c5, (by rw [show E = p + q3 from HE.out]; go_num), hEn, by rw [e9]; have := HE.out; omega, R1, R2, R3, R4, R5, RF, HNEW, R6⟩
            case measure => have hEE : E = p + q3 := HE.out; first | (simp [intOf]; omega) | omega
        · obtain rfl : p = len := by omega
          have e0 : decide ((p : Int) < (p : Int)) = false := decide_eq_false (by omega)
          have hnil : M.drop p = [] := List.drop_eq_nil_of_le (by rw [HML.out]; exact Nat.le_refl _)
          have hfin : scanF M = (recsAt 0 (ps.map Lr.x), 0) := by rw [show scanF M = _ from HSC.out, scanG, if_pos hnil]; simp
          have hits : itsOf (scanF M).1 = ps.map Lr.x := by rw [hfin]; exact itsOf_recs _ _
          have LR : Hid (RLog wr LB RB (ps.map Lr.x)) := Lib.hid ⟨a, c, by rw [List.length_map]; exact HT.out, by rw [List.length_map]; exact LRow.of_own rfl HKP.out HOW.out (by rw [List.length_map])⟩
          have HRr := Lib.hid (HR.out.below HB.out)
          have SR : Hid (TStay (fun k => k = RB) w wr) := Lib.hid (TStay.of_below HB.out _)
          have HLBw : Hid (w.heap.size ≤ LB) := Lib.hid (by rw [HLB.out]; exact Nat.le_refl _)
          by_cases hln : p < n
          · have d1 : decide ((p : Int) < (n : Int)) = true := decide_eq_true (by omega)
            have d1' : decide (p < n) = true := decide_eq_true hln
            have htr := rtrunc_any wr RB r HRr.out HRK.out [102] (p : Int) (by omega)
            obtain ⟨qt, hqt⟩ : ∃ qt, qt = r.trunc [102] (p : Int) := ⟨_, rfl⟩
            have HQ3 : Hid (q = if qt.2 = 0 then (qt.1, .ok (ps.map Lr.x)) else (qt.1, .error qt.2)) := Lib.hid (by rw [HQ2.out, if_neg (by rw [hfin]; simp), if_pos hln, ← hqt, hits])
            rw [← hqt] at htr
            obtain ⟨r', j'⟩ := qt
            clear hnil hfin hits hqt HSC HOW HKP HT
            go_wp2_with fail
            refine htr.mono ?_
            clear htr
            rintro e w5 ⟨rfl, k1, k2⟩
            have K1 := Lib.hid k1
            have S5 := Lib.hid (SR.out.trans k2 (fun _ _ h => h))
            have L5 := Lib.hid (LR.out.stay HRr.out k2)
            clear k1 k2
            by_cases hj : j' = 0
            · subst hj
              have HE : Hid (q = (r', .ok (ps.map Lr.x))) := Lib.hid (by rw [HQ3.out, if_pos rfl])
              go_wp2
              go_ret2
              rw [HE.out]
              exact ⟨K1.out, S5.out, LB, rfl, HLBw.out, L5.out⟩
            · have z0 : ((j' : Int) != 0) = true := bne_iff_ne.2 (by omega)
              have z1 : ((j' : Int) == 0) = false := beq_eq_false_iff_ne.2 (by omega)
              have HE : Hid (q = (r', .error j')) := Lib.hid (by rw [HQ3.out, if_neg hj])
              go_wp2
              go_ret2
              rw [HE.out]
              exact ⟨K1.out, S5.out, rfl⟩
          · have d1 : decide ((p : Int) < (n : Int)) = false := decide_eq_false (by omega)
            have d1' : decide (p < n) = false := decide_eq_false hln
            have HE : Hid (q = (r, .ok (ps.map Lr.x))) := Lib.hid (by rw [HQ2.out, if_neg (by rw [hfin]; simp), if_neg hln, hits])
            clear hnil hfin hits HSC HOW HKP HT
            go_wp2
            go_ret2
            rw [HE.out]
            exact ⟨HRr.out, SR.out, LB, rfl, HLBw.out, LR.out⟩
end Go.Proofs.YtkalpkmnelgieaaGreatDoor
