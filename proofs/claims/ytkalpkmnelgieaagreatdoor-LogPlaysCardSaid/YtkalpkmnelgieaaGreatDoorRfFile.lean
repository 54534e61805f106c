/- The reference's lists of files: as they stand in memory; used, find, drop, put. -/
import Derived.Test.YtkalpkmnelgieaaGreatDoorRowK
import Derived.Test.YtkalpkmnelgieaaGreatDoorAid
import Derived.Test.YtkalpkmnelgieaaGreatDoorRfPlain
import Derived.BigQuiet
import Derived.Deep.QuietTactic
namespace Go.Proofs.YtkalpkmnelgieaaGreatDoor
open Go.RowKit Go.Tap Go.Maps
set_option linter.unusedVariables false
attribute [local go_sem ↓] Go.wp_at_zero Go.wp_at_succ

theorem infoFile : (Tryz.prog.info? 178).map (fun i => (i.zero, i.size, i.bytes)) = some (some (.agg #[.string ⟨#[]⟩, .slice none 0 0]), 2, 40) := by kernel_rfl
structure Fc where
  s : Dsk.Name
  a : Option Addr
  c : Nat
  b : List UInt8
def Fc.file (p : Fc) : Dsk.Name × List UInt8 := (p.s, p.b)
def Fc.cells (p : Fc) : List Value := [.string (str p.s), .slice p.a p.b.length p.c]
theorem Fc.cells_length (p : Fc) : p.cells.length = 2 := rfl
theorem Fc.cells_one (ps : List Fc) : ∀ u ∈ ps.flatMap Fc.cells, u.oneCell' = true := by
  intro u hu
  obtain ⟨p, _, hp⟩ := List.mem_flatMap.1 hu
  simp [Fc.cells] at hp
  rcases hp with rfl | rfl <;> rfl
def FRow (w : World) (v : Value) (l : Dsk.Files) : Prop :=
  ∃ ps : List Fc, ps.map Fc.file = l ∧ (∀ p ∈ ps, Keeps w p.a p.b.length p.c p.b) ∧ w.ownsRow 0 178 2 v l.length (ps.flatMap Fc.cells)
theorem FRow.nil (w : World) : FRow w (.slice none 0 0) [] := ⟨[], rfl, by simp, World.ownsRow_nil _ _ _ _⟩
theorem FRow.slice {w : World} {v : Value} {l : Dsk.Files} (h : FRow w v l) : ∃ a c, v = .slice a l.length c ∧ l.length ≤ c ∧ (a = none → c = 0) := by
  obtain ⟨ps, h1, _, h3⟩ := h
  obtain ⟨a, c, rfl, h4, _, h5, _⟩ := ownsRow_slice h3
  exact ⟨a, c, rfl, h4, h5⟩
/-- No block of files or of bytes has turned. -/
def KeepF (w w' : World) : Prop := ∀ (k : Nat) (xs : Array Value) (t : TypeId) (fr : Nat × Nat), w.heap[k]? = some (Obj.cells xs t fr) → (t = 5 ∨ t = 178 ∨ t = 115) → w'.heap[k]? = w.heap[k]?
theorem KeepF.ku {w w' : World} (h : KeepF w w') : KeepU w w' := fun k xs fr hk => h k xs _ fr hk (.inl rfl)
theorem KeepF.refl (w : World) : KeepF w w := fun _ _ _ _ _ _ => rfl
theorem KeepF.trans {a b c : World} (h : KeepF a b) (k : KeepF b c) : KeepF a c := fun i xs t fr hi ht => by
  have e1 := h i xs t fr hi ht
  rw [← e1]
  exact k i xs t fr (e1.trans hi) ht
theorem KeepF.below {w w' : World} {B : Nat} (hb : Below B w w') (h : w.heap.size ≤ B) : KeepF w w' := fun k xs t fr hk _ => hb.block k (Nat.lt_of_lt_of_le (blk_lt hk) h)
theorem KeepF.ofT {w w' : World} (h : KeepT w w') : KeepF w w' := fun k xs t fr hk ht => h k xs t fr hk (by rcases ht with rfl | rfl | rfl <;> decide) (by rcases ht with rfl | rfl | rfl <;> decide)
theorem own_keep {w w' : World} {base e size : Nat} {v : Value} {n : Nat} {xs : List Value} (h : w.ownsRow base e size v n xs) (hk : ∀ (k : Nat) (cur : Array Value), w.heap[k]? = some (Obj.cells cur e (0, 0)) → w'.heap[k]? = w.heap[k]?) : w'.ownsRow base e size v n xs := by
  refine ⟨h.1, ?_⟩
  rcases h.2 with hn | ⟨g, cap, cur, rfl, hb, hg, r⟩
  · exact .inl hn
  · exact .inr ⟨g, cap, cur, rfl, hb, (hk g cur hg).trans hg, r⟩
theorem FRow.keep {w w' : World} {v : Value} {l : Dsk.Files} (h : FRow w v l) (hk : KeepF w w') : FRow w' v l := by
  obtain ⟨ps, h1, h2, h3⟩ := h
  exact ⟨ps, h1, fun p hp => (h2 p hp).stay hk.ku, own_keep h3 (fun k cur hc => hk k cur _ _ hc (.inr (.inl rfl)))⟩
theorem FRow.below {w w' : World} {v : Value} {l : Dsk.Files} (h : FRow w v l) (hb : Below w.heap.size w w') : FRow w' v l := h.keep (KeepF.below hb (Nat.le_refl _))
/-- An element's cells. -/
theorem FRow.elem {w : World} {v : Value} {l : Dsk.Files} (h : FRow w v l) {j : Nat} {x : Dsk.Name × List UInt8} (hj : l[j]? = some x) :
    ∃ g cap a c, v = .slice (some ⟨g, 0, none⟩) l.length cap ∧ Keeps w a x.2.length c x.2 ∧ w.cell? ⟨g, j * 2, none⟩ = some (.string (str x.1)) ∧ w.cell? ⟨g, j * 2 + 1, none⟩ = some (.slice a x.2.length c) := by
  obtain ⟨ps, rfl, h2, h3⟩ := h
  rw [List.getElem?_map, Option.map_eq_some_iff] at hj
  obtain ⟨p, hp, rfl⟩ := hj
  have hlt : j < ps.length := (List.getElem?_eq_some_iff.1 hp).1
  rw [List.length_map] at h3 ⊢
  rcases h3.2 with ⟨_, hx⟩ | ⟨g, cap, cur, rfl, _⟩
  · omega
  · refine ⟨g, cap, p.a, p.c, rfl, h2 p (List.mem_of_getElem? hp), ?_⟩
    have key : ∀ i, i < 2 → w.cell? ⟨g, j * 2 + i, none⟩ = p.cells[i]? := fun i hi => by
      have hc : p.cells[i]? = some (p.cells[i]'(by simpa [Fc.cells] using hi)) := List.getElem?_eq_getElem _
      rw [hc]
      have := h3.cells (g := g) rfl (j * 2 + i) _ ((flatK Fc.cells 2 Fc.cells_length ps j i p hp hi).trans hc)
      rw [Addr.add_lit, Nat.zero_add] at this
      exact this
    exact ⟨key 0 (by omega), key 1 (by omega)⟩
theorem get_here (l : Dsk.Files) (s : Dsk.Name) (j : Nat) (x : Dsk.Name × List UInt8) (hj : l[j]? = some x) (hx : x.1 = s) (hno : ∀ (i : Nat) (y : Dsk.Name × List UInt8), i < j → l[i]? = some y → y.1 ≠ s) : Dsk.get l s = some x.2 := by
  induction l generalizing j with
  | nil => simp at hj
  | cons p r ih =>
    unfold Dsk.get
    rw [List.find?_cons]
    cases j with
    | zero => simp at hj; subst hj; rw [show (p.1 == s) = true by simpa using hx]; rfl
    | succ j =>
      rw [show (p.1 == s) = false by simpa using hno 0 p (by omega) rfl]
      exact ih j (by simpa using hj) (fun i y hi hy => hno (i + 1) y (by omega) (by simpa using hy))
theorem get_not (l : Dsk.Files) (s : Dsk.Name) (hno : ∀ (i : Nat) (y : Dsk.Name × List UInt8), l[i]? = some y → y.1 ≠ s) : Dsk.get l s = none := by
  unfold Dsk.get
  rw [List.find?_eq_none.2 (fun p hp => by
    obtain ⟨i, hi⟩ := List.getElem?_of_mem hp
    simpa using hno i p hi)]
  rfl
def FindAft (w : World) (l : Dsk.Files) (s : Dsk.Name) (e : Ending) (w' : World) : Prop :=
  ∃ a c, e = .returned (.tuple #[.slice a (Dsk.val l s).length c, .bool (Dsk.get l s).isSome]) ∧ Keeps w a (Dsk.val l s).length c (Dsk.val l s) ∧ w = w'
set_option maxHeartbeats 1000000 in
set_option maxRecDepth 100000 in
theorem find_any (w : World) (v : Value) (l : Dsk.Files) (h : FRow w v l) (s : Dsk.Name) (hn : l.length ≤ 1000000) :
    Calls Tryz.prog 73 #[v, .string (str s)] w (FindAft w l s) := by
  obtain ⟨a0, c0, rfl, hlc, hz⟩ := h.slice
  have H := Lib.hid h
  obtain ⟨n, hnl⟩ : ∃ n, n = l.length := ⟨_, rfl⟩
  rw [← hnl] at hn hlc ⊢
  have HN := Lib.hid hnl
  clear h hnl hz
  go_enter Tryz.func73, Tryz.ntmps73
  go_wp2
  go_loop [6] (fun iv => ∃ i : Nat, i ≤ n ∧ iv = .int .i64 (i : Int) ∧ Hid (∀ (k : Nat) (y : Dsk.Name × List UInt8), k < i → l[k]? = some y → y.1 ≠ s)) (fun iv => n - (intOf iv).toNat)
  case atStart => exact ⟨0, Nat.zero_le _, rfl, fun k y hk => by omega⟩
  case round =>
    obtain ⟨i, hi, rfl, HNO⟩ := hrel
    by_cases hlt : i < n
    · have d0 : decide ((i : Int) < (n : Int)) = true := decide_eq_true (by omega)
      have d0' : decide (i < n) = true := decide_eq_true hlt
      have d1 : (i : Int) < (n : Int) := by omega
      have hx : l[i]? = some (l[i]'(by have := HN.out; omega)) := List.getElem?_eq_getElem _
      generalize l[i]'(by have := HN.out; omega) = x at hx
      obtain ⟨g, cap, a, c, hsl, hk, e0, e1⟩ := H.out.elem hx
      simp only [Value.slice.injEq] at hsl
      obtain ⟨rfl, _, rfl⟩ := hsl
      have HK := Lib.hid hk
      have HX := Lib.hid hx
      have hw := wrapi' ((i : Int) + 1) (by omega)
      obtain ⟨t, q0, hT⟩ : ∃ t : Bool, ((str x.1).toList == (str s).toList) = t ∧ (t = true ↔ x.1 = s) := by
        rw [str_toList, str_toList]
        exact ⟨x.1 == s, rfl, by simp⟩
      have HT := Lib.hid hT
      clear hk hx hT
      cases t with
      | true =>
        go_wp2
        go_ret2
        have hxs : x.1 = s := by have := HT.out; simpa using this
        have hg := get_here l s i x HX.out hxs HNO.out
        have hv : Dsk.val l s = x.2 := by unfold Dsk.val; rw [hg]; rfl
        refine ⟨a, c, ?_, ?_, rfl⟩
        · rw [hv, hg]; rfl
        · rw [hv]; exact HK.out
      | false =>
        have hne : x.1 ≠ s := by have := HT.out; simpa using this
        have HNE := Lib.hid hne
        clear hne
        go_wp2
        go_round
        case rel => exact ⟨i + 1, by omega, by go_num, fun k y hk hy => by
          rcases (show k < i ∨ k = i by omega) with hk' | rfl
          · exact HNO.out k y hk' hy
          · rw [HX.out] at hy; simp only [Option.some.injEq] at hy; subst hy; exact HNE.out⟩
        case measure => simp [intOf]; omega
    · obtain rfl : i = n := by omega
      have d0 : decide ((i : Int) < (i : Int)) = false := decide_eq_false (by omega)
      go_wp2
      go_ret2
      have hg := get_not l s (fun k y hy => HNO.out k y (by have := (List.getElem?_eq_some_iff.1 hy).1; have := HN.out; omega) hy)
      have hv : Dsk.val l s = [] := by unfold Dsk.val; rw [hg]; rfl
      exact ⟨none, 0, by rw [hv, hg]; rfl, by rw [hv]; exact Keeps.nil w, rfl⟩
/-- The same, in memory of one's own. -/
def FOwn (w : World) (lo : Nat) (v : Value) (l : Dsk.Files) : Prop :=
  ∃ ps : List Fc, ps.map Fc.file = l ∧ (∀ p ∈ ps, Keeps w p.a p.b.length p.c p.b) ∧ w.ownsRow lo 178 2 v l.length (ps.flatMap Fc.cells)
theorem FOwn.row {w : World} {lo : Nat} {v : Value} {l : Dsk.Files} (h : FOwn w lo v l) : FRow w v l := by
  obtain ⟨ps, h1, h2, h3⟩ := h
  exact ⟨ps, h1, h2, ownsRow_base h3 (Nat.zero_le _)⟩
theorem FOwn.nil (w : World) (lo : Nat) : FOwn w lo (.slice none 0 0) [] := ⟨[], rfl, by simp, World.ownsRow_nil _ _ _ _⟩
theorem FOwn.snoc {w : World} {lo : Nat} {v : Value} {l : Dsk.Files} {ps : List Fc} (h1 : ps.map Fc.file = l) (h2 : ∀ p ∈ ps, Keeps w p.a p.b.length p.c p.b) (p : Fc) (hp : Keeps w p.a p.b.length p.c p.b) (h3 : w.ownsRow lo 178 2 v (l.length + 1) (ps.flatMap Fc.cells ++ p.cells)) : FOwn w lo v (l ++ [p.file]) := by
  refine ⟨ps ++ [p], by rw [List.map_append, h1]; rfl, fun q hq => ?_, ?_⟩
  · rcases List.mem_append.1 hq with hq | hq
    · exact h2 q hq
    · simp only [List.mem_singleton] at hq; subst hq; exact hp
  · rw [List.flatMap_append, List.length_append]
    simpa using h3
theorem del_take_eq {l : Dsk.Files} {s : Dsk.Name} {i : Nat} {x : Dsk.Name × List UInt8} (h : l[i]? = some x) (hx : x.1 = s) : Dsk.del (l.take (i + 1)) s = Dsk.del (l.take i) s := by
  unfold Dsk.del
  rw [List.take_add_one, h, List.filter_append]
  simp [hx]
theorem del_take_ne {l : Dsk.Files} {s : Dsk.Name} {i : Nat} {x : Dsk.Name × List UInt8} (h : l[i]? = some x) (hx : x.1 ≠ s) : Dsk.del (l.take (i + 1)) s = Dsk.del (l.take i) s ++ [x] := by
  unfold Dsk.del
  rw [List.take_add_one, h, List.filter_append]
  simp [hx]
theorem del_take_len (l : Dsk.Files) (s : Dsk.Name) (i : Nat) : (Dsk.del (l.take i) s).length ≤ i := by
  have h1 := Dsk.len_del (l.take i) s
  have h2 : (l.take i).length ≤ i := List.length_take_le _ _
  omega
def RowAft (w : World) (l : Dsk.Files) (e : Ending) (w' : World) : Prop := ∃ v, e = .returned v ∧ FOwn w' w.heap.size v l ∧ Below w.heap.size w w'
set_option maxHeartbeats 2000000 in
set_option maxRecDepth 100000 in
theorem drop_any (w : World) (v : Value) (l : Dsk.Files) (h : FRow w v l) (s : Dsk.Name) (hn : l.length ≤ 1000000) :
    Calls Tryz.prog 86 #[v, .string (str s)] w (RowAft w (Dsk.del l s)) := by
  obtain ⟨i0, hi, hz0, hz1, hz2⟩ := info_parts infoFile
  obtain ⟨a0, c0, rfl, hlc, hz⟩ := h.slice
  have H := Lib.hid h
  obtain ⟨n, hnl⟩ : ∃ n, n = l.length := ⟨_, rfl⟩
  rw [← hnl] at hn hlc ⊢
  have HN := Lib.hid hnl
  clear h hnl hz
  go_enter Tryz.func86, Tryz.ntmps86
  go_wp2
  go_loopw [5, 6] (fun ov iv wr => ∃ i : Nat, i ≤ n ∧ iv = .int .i64 (i : Int) ∧ Hid (FOwn wr w.heap.size ov (Dsk.del (l.take i) s)) ∧ Below w.heap.size w wr) (fun _ iv _ => n - (intOf iv).toNat)
  case atStart => exact ⟨0, Nat.zero_le _, rfl, FOwn.nil _ _, Below.refl _ _⟩
  case round =>
    obtain ⟨i, hin, rfl, HF, hb⟩ := hrel
    by_cases hlt : i < n
    · have d0 : decide ((i : Int) < (n : Int)) = true := decide_eq_true (by omega)
      have d0' : decide (i < n) = true := decide_eq_true hlt
      have d1 : (i : Int) < (n : Int) := by omega
      have hx : l[i]? = some (l[i]'(by have := HN.out; omega)) := List.getElem?_eq_getElem _
      generalize l[i]'(by have := HN.out; omega) = x at hx
      obtain ⟨g, cap, a, c, hsl, hk, e0, e1⟩ := (H.out.below hb).elem hx
      simp only [Value.slice.injEq] at hsl
      obtain ⟨rfl, _, rfl⟩ := hsl
      have hw := wrapi' ((i : Int) + 1) (by omega)
      have hlen := del_take_len l s i
      by_cases hxs : x.1 = s
      · have q0 : ((str x.1).toList == (str s).toList) = true := by rw [hxs]; simp
        have q1 : ((str x.1).toList != (str s).toList) = false := by rw [hxs]; simp
        have HF2 := HF
        have hde := del_take_eq hx hxs
        rw [← hde] at HF2
        clear hk hx hxs hde HF hlen
        go_wp2
        go_roundw
        case rel => exact ⟨i + 1, by omega, by go_num, HF2, hb⟩
        case measure => simp [intOf]; omega
      · have q0 : ((str x.1).toList == (str s).toList) = false := by rw [str_toList, str_toList]; exact beq_eq_false_iff_ne.2 hxs
        have q1 : ((str x.1).toList != (str s).toList) = true := by rw [bne, q0]; rfl
        have hde := del_take_ne hx hxs
        obtain ⟨ps, hp1, hp2, hp3⟩ := HF.out
        obtain ⟨ra, rc, rfl, _⟩ := ownsRow_slice hp3
        obtain ⟨m, hm⟩ : ∃ m, m = (Dsk.del (l.take i) s).length := ⟨_, rfl⟩
        rw [← hm] at hp3 hlen ⊢
        have hblk : ∀ k, (Value.slice ra m rc).ownBlock = some k → w.heap.size ≤ k ∧ k < wr.heap.size := fun k e => hp3.lt k e
        have hku : ∀ k xs fr, (Value.slice ra m rc).ownBlock = some k → wr.heap[k]? ≠ some (Obj.cells xs 5 fr) := fun k xs fr e hx => own_ne' hp3 hx (by decide) e
        have HP1 := Lib.hid hp1
        have HP2 := Lib.hid hp2
        have HP3 := Lib.hid hp3
        have HK := Lib.hid hk
        have HDE := Lib.hid hde
        have HM := Lib.hid hm
        have HBK := Lib.hid hblk
        have HKU := Lib.hid hku
        clear hk hx hxs hde HF hp1 hp2 hp3 hm hblk hku
        go_wp2_with (at_builtin; refine wpList_append_one _ rfl (.tmp 20) (.tmp 25) 87 rfl w.heap.size 178 i0 _ 2 40 Tryz.underlying87 hi hz0 hz1 hz2 rfl (by omega) _ m _ rfl (HP3.out.alloc _) wr.heap.size 1 (Fc.cells ⟨x.1, a, c, x.2⟩).toArray 178 rfl (heap_alloc_new wr _) rfl (by simp [Fc.cells, Value.oneCell']) (by omega) (by omega) (by have := hb.size; simp; omega) ?_)
        intro v' w' hown hg
        have hkw : KeepU wr w' := (KeepU.alloc wr _).trans (KeepU.grown hg (fun k xs fr e hx => HKU.out k xs fr e (((MapKept.heap_alloc wr _).2 k (HBK.out k e).2).symm.trans hx)))
        have hb' : Below w.heap.size w w' := (hb.alloc hb.size _).grown hg (by have := hb.size; simp; omega) (fun j hj => (HBK.out j hj).1)
        have hfo : FOwn w' w.heap.size v' (Dsk.del (l.take (i + 1)) s) := by
          rw [HDE.out]
          refine FOwn.snoc HP1.out (fun p hp => (HP2.out p hp).stay hkw) ⟨x.1, a, c, x.2⟩ (HK.out.stay hkw) ?_
          rw [← HM.out]; exact hown
        have HFO := Lib.hid hfo
        clear hown hg hkw hfo
        go_wp2
        go_roundw
        case rel => exact ⟨i + 1, by omega, by go_num, HFO, hb'⟩
        case measure => simp [intOf]; omega
    · obtain rfl : i = n := by omega
      have d0 : decide ((i : Int) < (i : Int)) = false := decide_eq_false (by omega)
      have HF2 := HF
      rw [List.take_of_length_le (by have := HN.out; omega)] at HF2
      clear HF
      go_wp2
      go_ret
      exact ⟨_, rfl, HF2.out, hb⟩
theorem used_take_succ {l : Dsk.Files} {i : Nat} {x : Dsk.Name × List UInt8} (h : l[i]? = some x) : Dsk.used (l.take (i + 1)) = Dsk.used (l.take i) + x.2.length := by
  unfold Dsk.used
  rw [List.take_add_one, h, List.map_append, List.sum_append]
  simp
theorem used_take_le (l : Dsk.Files) (i : Nat) : Dsk.used (l.take i) ≤ Dsk.used l := by
  have : l = l.take i ++ l.drop i := (List.take_append_drop i l).symm
  conv => rhs; rw [this]
  unfold Dsk.used
  rw [List.map_append, List.sum_append]
  omega
set_option maxHeartbeats 1000000 in
set_option maxRecDepth 100000 in
theorem rused_any (w : World) (v : Value) (l : Dsk.Files) (h : FRow w v l) (hn : l.length ≤ 1000000) (hu : Dsk.used l ≤ 1099511627776) :
    Calls Tryz.prog 94 #[v] w fun e w' => e = .returned (.int .i64 (Dsk.used l : Int)) ∧ w = w' := by
  obtain ⟨a0, c0, rfl, hlc, hz⟩ := h.slice
  have H := Lib.hid h
  have HU := Lib.hid hu
  obtain ⟨n, hnl⟩ : ∃ n, n = l.length := ⟨_, rfl⟩
  rw [← hnl] at hn hlc ⊢
  have HN := Lib.hid hnl
  clear h hnl hz hu
  go_enter Tryz.func94, Tryz.ntmps94
  go_wp2
  go_loop [3, 4] (fun uv iv => ∃ i : Nat, i ≤ n ∧ iv = .int .i64 (i : Int) ∧ uv = .int .i64 (Dsk.used (l.take i) : Int)) (fun _ iv => n - (intOf iv).toNat)
  case atStart => exact ⟨0, Nat.zero_le _, rfl, by simp [Dsk.used]⟩
  case round =>
    obtain ⟨i, hin, rfl, rfl⟩ := hrel
    by_cases hlt : i < n
    · have d0 : decide ((i : Int) < (n : Int)) = true := decide_eq_true (by omega)
      have d0' : decide (i < n) = true := decide_eq_true hlt
      have d1 : (i : Int) < (n : Int) := by omega
      have hx : l[i]? = some (l[i]'(by have := HN.out; omega)) := List.getElem?_eq_getElem _
      generalize l[i]'(by have := HN.out; omega) = x at hx
      obtain ⟨g, cap, a, c, hsl, hk, e0, e1⟩ := H.out.elem hx
      simp only [Value.slice.injEq] at hsl
      obtain ⟨rfl, _, rfl⟩ := hsl
      have hw := wrapi' ((i : Int) + 1) (by omega)
      have hus := used_take_succ hx
      have hul := used_take_le l (i + 1)
      obtain ⟨U, hU⟩ : ∃ U, U = Dsk.used (l.take i) := ⟨_, rfl⟩
      obtain ⟨U2, hU2⟩ : ∃ U2, U2 = Dsk.used (l.take (i + 1)) := ⟨_, rfl⟩
      obtain ⟨xl, hxl⟩ : ∃ xl, xl = x.2.length := ⟨_, rfl⟩
      have hw2 : IntKind.i64.wrap ((U : Int) + (xl : Int)) = (U2 : Int) := by
        have := HU.out
        rw [← hU, ← hU2, ← hxl] at hus
        rw [← hU2] at hul
        rw [hus]; push_cast; exact wrapi' _ (by omega)
      rw [← hxl] at e1
      rw [← hU]
      have HU2 := Lib.hid hU2
      clear hk hx hus hul hU hU2 hxl
      go_wp2
      go_round
      case rel => exact ⟨i + 1, by omega, by go_num, by rw [← show U2 = _ from HU2.out]⟩
      case measure => simp [intOf]; omega
    · obtain rfl : i = n := by omega
      have d0 : decide ((i : Int) < (i : Int)) = false := decide_eq_false (by omega)
      have ht : l.take i = l := List.take_of_length_le (by have := HN.out; omega)
      rw [ht]
      clear ht
      go_wp2
      go_ret
      exact ⟨rfl, rfl⟩
end Go.Proofs.YtkalpkmnelgieaaGreatDoor
