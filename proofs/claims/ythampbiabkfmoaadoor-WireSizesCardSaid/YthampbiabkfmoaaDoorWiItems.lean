/- taprootplay.Items: what it answers. -/
import Derived.Test.YthampbiabkfmoaaDoorWiText
import Derived.Test.YthampbiabkfmoaaDoorWiRpSt
import Derived.Deep.RegionHeld3
import Derived.Test.YthampbiabkfmoaaDoorOpen
set_option linter.unusedSimpArgs false
namespace Go
namespace Tap
open Go.RowKit
set_option linter.unusedVariables false
/-- A slice of ints that is only read. -/
def RdZ (w : World) (a : Option Addr) (n : Nat) (l : List Int) : Prop :=
  l.length = n ∧ (∀ z ∈ l, In64 z) ∧ (0 < n → ∃ b o, a = some ⟨b, o, none⟩ ∧ b < w.heap.size ∧ ∀ i z, l[i]? = some z → w.cell? ⟨b, o + i, none⟩ = some (.int .i64 z))
theorem RdZ.below {w w' : World} {a : Option Addr} {n : Nat} {l : List Int} (h : RdZ w a n l) (hb : Below w.heap.size w w') : RdZ w' a n l :=
  ⟨h.1, h.2.1, fun h0 => by
    obtain ⟨b, o, e, hl, hc⟩ := h.2.2 h0
    exact ⟨b, o, e, Nat.lt_of_lt_of_le hl hb.size, fun i z hz => (World.cell?_of_block (w := w) (hb.block b hl)).trans (hc i z hz)⟩⟩
section
variable {P : Program} {ops : Array Oper} {Q : Exit → Act → World → Prop} {md : Region.Mode} {S : World → Prop}
theorem takeH {i : Nat} {oi : Oper} (v : Value) {fuel : Nat} {listed : Array Bool} {a : Act} {w : World} (hi : ops[i]? = some oi)
    (hs : Region.noSelect ops = true) (hf : Region.free md ops listed i = true) (hr : (Region.ready md ops listed).contains i = true)
    (hQ : ∀ c a w, Q (.panic c) (a.put oi.dst v) w → Q (.panic c) a w) (hw : Region.wanted oi (yielded ops a.tmps) = true) (hy : ∀ w, S w → (execOp a.eval oi).run P w = .ok (.value v) w) (hS : S w)
    (h : wpAnyH P md ops Q S fuel (listed.setIfInBounds i true) (a.put oi.dst v) w) : wpAnyH P md ops Q S (fuel + 1) listed a w :=
  wpAnyH_take hi hs hf hr hQ (.inl ⟨hw, hy⟩) hS h
theorem ex_load {o : Oper} {a : Act} (ty : TypeId) (x : Operand) (ho : o.op = .load ty x) (g of : Nat) (hx : a.eval x = .pointer (some ⟨g, of, none⟩)) (cs : Array Value) (d : TypeDesc) {w : World} (hc : Part w g of cs)
    (hu : P.underlying ty = some d) (hd : isAggDesc d = true) (hi : (P.info? ty).map (·.size) = some cs.size) : (execOp a.eval o).run P w = .ok (.value (.agg cs)) w := by
  unfold execOp
  simp only [ho, hx, Instr.loadAt, Instr.sureAddr, Sem.run_bind, Sem.run_pure, Result.andThen_ok, run_loadVar_at hc hu hd hi]
theorem ex_mk {o : Oper} {a : Act} {w : World} (t : TypeId) (parts : Array (Nat × Operand)) (ho : o.op = .build t parts) (vals : List (Nat × Value)) (hv : parts.toList.map (fun p => (p.1, a.eval p.2)) = vals) (cells : Array Value) (hb : P.built t vals = some cells) :
    (execOp a.eval o).run P w = .ok (.value (.agg cells)) w := by
  unfold execOp
  simp only [ho, Sem.run_bind]
  rw [run_build w t _ cells (by rw [Array.toList_map, ← hb, ← hv])]
  simp
theorem ex_move {o : Oper} {a : Act} {w : World} (x : Operand) (ho : o.op = .move x) : (execOp a.eval o).run P w = .ok (.value (a.eval x)) w := by
  unfold execOp; simp [ho]
theorem ex_assign {o : Oper} {a : Act} {w : World} (x : Operand) (ho : o.op = .assign x) : (execOp a.eval o).run P w = .ok (.value (a.eval x)) w := by
  unfold execOp; simp [ho]
theorem ex_bin {o : Oper} {a : Act} {w : World} (op : BinOp) (T T' : TypeId) (x y : Operand) (ho : o.op = .binOp op T x y T') (k : IntKind) (X Y Z : Int) (hx : a.eval x = .int k X) (hy : a.eval y = .int k Y) (hr : (binOp op T (.int k X) (.int k Y)).run P w = .ok (.int k Z) w) :
    (execOp a.eval o).run P w = .ok (.value (.int k Z)) w := by
  unfold execOp
  cases op <;> simp [ho, hx, hy, eqGuard, hr, run_program]
theorem step_rowOne {w : World} {o : Oper} {a : Act} {K : Act → World → Prop} {E : Prop} (hgd : o.guard = none) (t e : TypeId) (x : Operand) (ho : o.op = .buildSlice t 1 #[(0, x)])
    (d : Tmp) (hdst : o.dst = some d) (hu : P.underlying t = some (.slice e)) (cs : Array Value) (hx : a.eval x = .agg cs) (z : Value) (sz : Nat) (hi : (P.info? e).map (fun i => (i.zero, i.size)) = some (some z, sz)) (h0 : ¬ (1 * sz > 2 ^ 24 ∨ 1 * sz = 0)) (hs : cs.size = sz)
    (h : K (a.put (some d) (.slice (some ⟨w.heap.size, 0, none⟩) 1 1)) (w.alloc (.cells cs e))) : if Region.wanted o (yielded ops a.tmps) = true then Oper.wp P o a w K Q else E := by
  have hw : Region.wanted o (yielded ops a.tmps) = true := by simp [Region.wanted, hgd]
  rw [if_pos hw]
  have hb := built_one (P := P) hi h0 cs hs
  rw [built_slice hi h0] at hb
  cases hq : P.info? e with
  | none => simp [hq] at hi
  | some ie =>
    simp only [hq, Option.map_some, Option.some.injEq, Prod.mk.injEq] at hi
    obtain ⟨e1, e2⟩ := hi
    subst e2
    refine wp_buildSlice t e 1 #[(0, x)] ho cs ie z hu hq e1 (fun h => h0 (.inl h)) (fun h => h0 (.inr h)) (by simpa [hx] using hb) ?_
    rw [hdst]; exact h
/-- A call of a Go function that leaves the world, at a step of a drawn region. -/
theorem step_pure {w : World} {o : Oper} {a : Act} {K : Act → World → Prop} {E : Prop} (hgd : o.guard = none) (f : FuncId) (args : Array Operand) (tys : Array TypeId)
    (ho : o.op = .call { callee := .value (.func f), args := args, argTypes := tys }) (fn : Func) (hf : P.funcs[f]? = some fn) (vs : Array Value) (r : Value) (hx : args.map a.eval = vs) (hc : Calls P f vs w fun e w' => e = .returned r ∧ w = w')
    (hen : (execOp a.eval o).run P w = .ok (.enter f vs) w) (h : K (a.put o.dst r) w) :
    if Region.wanted o (yielded ops a.tmps) = true then Oper.wp P o a w K Q else E := by
  have hw : Region.wanted o (yielded ops a.tmps) = true := by simp [Region.wanted, hgd]
  rw [if_pos hw]
  unfold Oper.wp
  rw [hen, Oper.upon_enter]
  refine hc.mono ?_
  rintro e w' ⟨rfl, rfl⟩
  exact h
end
end Tap
end Go

namespace Go.Proofs.YthampbiabkfmoaaDoor
open Go.RowKit Go.Tap
set_option linter.unusedVariables false
set_option linter.unusedSimpArgs false
theorem slice_to (l : List UInt8) (k : Nat) (h : k ≤ l.length) (w : World) : (Instr.sliceAt 9 (.string (str l)) none (some (.int .i64 (k : Int))) none).run Tryd.prog w = .ok (.string (str (l.take k))) w := by
  have hs : (str l).size = l.length := by simp [str, ByteArray.size]
  have he : (str l).extract 0 k = str (l.take k) := by
    apply ByteArray.ext
    simp [str]
  simp [go_sem]
  rw [if_pos (by omega), he]
theorem ex_slice_to {o : Oper} {a : Act} {w : World} (x hi : Operand) (ho : o.op = .slice 9 x none (some hi) none) (l : List UInt8) (k : Nat) (hx : a.eval x = .string (str l)) (hh : a.eval hi = .int .i64 (k : Int)) (h : k ≤ l.length) :
    (execOp a.eval o).run Tryd.prog w = .ok (.value (.string (str (l.take k)))) w := by
  unfold execOp
  simp only [ho, hx, hh, Option.map_some, Option.map_none, Sem.run_bind, slice_to l k h, Result.andThen_ok, Sem.run_pure]
theorem step_appI {w : World} {ops : Array Oper} {o : Oper} {a : Act} {K : Act → World → Prop} {Q : Exit → Act → World → Prop} {E : Prop} (hgd : o.guard = none) (s x : Operand)
    (ho : o.op = .call { callee := .builtin .append, args := #[s, x], argTypes := #[26, 26] })
    (base : Nat) (v : Value) (l : List Wi.It) (hs : a.eval s = v) (hown : OwnI w base v l) (B : Nat) (i : Wi.It) (hi : i.ok) (hx : a.eval x = .slice (some ⟨B, 0, none⟩) 1 1) (hb : w.heap[B]? = some (.cells (itC i) 44 (0, 0)))
    (hl : l.length ≤ 1000000) (hbase : base ≤ w.heap.size)
    (h : ∀ v' w', OwnI w' base v' (l ++ [i]) → w.grownBy w' v.ownBlock → K (a.put o.dst v') w') : if Region.wanted o (yielded ops a.tmps) = true then Oper.wp Tryd.prog o a w K Q else E := by
  obtain ⟨i0, hi0, hz0, hz1, hz2⟩ := info_parts in_item
  refine step_append_lies w hgd s x 26 ho base 44 i0 _ 34 56 Tryd.underlying26 hi0 hz0 hz1 hz2 (by decide) (by omega) v l.length (flatC itC l) hs hown ⟨B, 0, none⟩ 1 1 (itC i).toList hx (by rw [Array.length_toList, itC_size i hi]) (World.news_of_block hb) (itC_one' i) (by omega) (by unfold maxLen; omega) (by omega) hbase _ rfl ?_
  intro g cap w' h1 h2 h3 h4
  refine h _ w' ?_ h2
  have : OwnI w' base (.slice (some ⟨g, 0, none⟩) (l.length + 1) cap) (l ++ [i]) := by
    show w'.ownsRow base _ _ _ (l ++ [i]).length (flatC itC (l ++ [i]))
    rw [flatC_snoc, List.length_append]; exact h1
  exact this
/-- An item of a number. -/
def Wi.itOf (kind : Int) (z : Int) : Wi.It :=
  if kind = 1 then ⟨Hs.of (z % 60).toNat, z.tdiv 60 % 9, []⟩ else ⟨Wi.z32, 0, (Wi.hexT (Hs.of (z % 60).toNat)).take (1 + (z.tdiv 60 % 64).toNat)⟩
def Wi.itemsOf (kind : Int) (l : List Int) : List Wi.It := (l.take 17).map (Wi.itOf kind)
theorem itOf_ok (kind z : Int) : (Wi.itOf kind z).ok := by
  unfold Wi.itOf
  split
  · refine ⟨rfl, ?_, by simp⟩
    show Wi.i64ok (z.tdiv 60 % 9)
    unfold Wi.i64ok
    omega
  · refine ⟨rfl, by show Wi.i64ok 0; unfold Wi.i64ok; omega, ?_⟩
    show ((Wi.hexT (Hs.of (z % 60).toNat)).take _).length ≤ _
    rw [List.length_take, Wi.hexT_len, Hs.len]
    omega
set_option maxHeartbeats 4000000 in
set_option maxRecDepth 100000 in
theorem items_any (w : World) (M : Array Value) (hM : M.size = M.size) (kind : Int) (a : Option Addr) (n c : Nat) (l : List Int) (hr : RdZ w a n l) (hn : n ≤ 140737488351232) :
    Calls Tryd.prog 26 #[.agg M, .int .i64 kind, .slice a n c] w fun e w' => ∃ v, e = .returned v ∧ OwnI w' w.heap.size v (Wi.itemsOf kind l) ∧ Below w.heap.size w w' := by
  have b1 : Below w.heap.size w (w.alloc (.cells M 80)) := (Below.refl _ _).alloc (Nat.le_refl _) _
  have R0 := Lib.hid hr
  have B1 := Lib.hid b1
  have HL := Lib.hid hr.1
  have HZ := Lib.hid hr.2.1
  have HN := Lib.hid hn
  obtain ⟨IT, hIT⟩ : ∃ IT, IT = Wi.itemsOf kind l := ⟨_, rfl⟩
  rw [← hIT]
  have HIT := Lib.hid hIT
  clear hr hn hM b1 hIT
  go_enter Tryd.func26, Tryd.ntmps26
  go_wp2
  go_loopw [7, 8] (fun ov kv wr => ∃ k : Nat, k ≤ n ∧ k ≤ 17 ∧ kv = .int .i64 (k : Int) ∧ Hid (OwnI wr w.heap.size ov ((l.take k).map (Wi.itOf kind))) ∧ Hid (Below w.heap.size w wr)) (fun _ kv _ => 17 - (intOf kv).toNat)
  case atStart => exact ⟨0, Nat.zero_le _, Nat.zero_le _, rfl, Lib.hid (World.ownsRow_nil _ _ _ _), B1⟩
  case round =>
    obtain ⟨k, hk, hk17, rfl, HO, BR⟩ := hrel
    by_cases hgo : k < n ∧ k < 17
    · obtain ⟨hlt, hlt17⟩ := hgo
      have d0 : decide ((k : Int) < (n : Int)) = true := decide_eq_true (by omega)
      have d1 : decide ((k : Int) < 17) = true := decide_eq_true (by omega)
      have i0 : (0 : Int) ≤ (k : Int) := by omega
      have i1 : (k : Int) < (n : Int) := by omega
      have i2 : (k : Int) < 17 := by omega
      have hx : l[k]? = some (l[k]'(by have := HL.out; omega)) := List.getElem?_eq_getElem _
      generalize l[k]'(by have := HL.out; omega) = z at hx
      obtain ⟨b, o, rfl, hb, hc⟩ := R0.out.2.2 (by omega)
      have hz64 := HZ.out z (List.mem_of_getElem? hx)
      have CZ : Hid (w.cell? ⟨b, o + k, none⟩ = some (.int .i64 z)) := Lib.hid (hc k z hx)
      have hcz : wr.cell? ⟨b, o + k, none⟩ = some (.int .i64 z) := (World.cell?_of_block (w := w) (BR.out.block b hb)).trans CZ.out
      have hh := hash32_any wr z hz64.1 hz64.2
      obtain ⟨H, hH⟩ : ∃ H, H = Hs.of (z % 60).toNat := ⟨_, rfl⟩
      rw [← hH] at hh
      have HH : Hid (H.length = 32) := Lib.hid (by rw [hH]; rfl)
      obtain ⟨zq, hzq⟩ : ∃ zq, zq = z.tdiv 60 := ⟨_, rfl⟩
      have hzq64 : -9223372036854775808 ≤ zq ∧ zq ≤ 9223372036854775807 := by
        have := hz64.1; have := hz64.2
        rw [hzq]
        rcases Int.le_total 0 z with h0 | h0
        · rw [Int.tdiv_eq_ediv_of_nonneg h0]; omega
        · have h1 : z.tdiv 60 = - ((-z).tdiv 60) := by rw [Int.neg_tdiv]; omega
          rw [h1, Int.tdiv_eq_ediv_of_nonneg (by omega)]; omega
      have HHE := Lib.hid hH
      have HZQ := Lib.hid hzq
      have HZ64 := Lib.hid hzq64
      have hqw : IntKind.i64.wrap (z.tdiv 60) = zq := by rw [← hzq]; exact wrapi' _ hzq64
      have hq6 : wrap64 (z.tdiv 60) = zq := by rw [← hzq]; simp only [wrap64]; omega
      have HBL : Hid (b < w.heap.size) := Lib.hid hb
      have HX := Lib.hid hx
      have hw := wrapi' ((k : Int) + 1) (by omega)
      have HSN : Hid ((l.take (k + 1)).map (Wi.itOf kind) = (l.take k).map (Wi.itOf kind) ++ [Wi.itOf kind z]) := Lib.hid (by rw [List.take_add_one, hx, Option.toList_some, List.map_append]; rfl)
      have HLL : Hid (((l.take k).map (Wi.itOf kind)).length ≤ 17) := Lib.hid (by rw [List.length_map, List.length_take]; omega)
      clear hx hc hb hH hzq hz64 hzq64
      go_wp2_with fail
      refine hh.mono ?_
      clear hh
      rintro e w5 ⟨rfl, b5⟩
      have B5 := Lib.hid (BR.out.trans (b5.mono BR.out.size))
      have O5 := Lib.hid (ownsRow_stay HO.out (TStay.of_below b5 (fun _ => False)) (fun _ _ h => h))
      clear b5 HO BR hcz
      obtain ⟨W, hW⟩ : ∃ W, W = w5.alloc (.cells (hashC H) 40) := ⟨_, rfl⟩
      have bw : Below w5.heap.size w5 W := by rw [hW]; exact (Below.refl _ _).alloc (Nat.le_refl _) _
      have OW := Lib.hid (ownsRow_stay O5.out (TStay.of_below bw (fun _ => False)) (fun _ _ h => h))
      have BW := Lib.hid (B5.out.trans (bw.mono B5.out.size))
      have TW : Hid (W.heap[w5.heap.size]? = some (.cells (hashC H) 40 (0, 0))) := Lib.hid (by rw [hW]; exact heap_alloc_new _ _)
      have N9 : Hid (∀ j, u7.ownBlock = some j → j ≠ w5.heap.size ∧ w.heap.size ≤ j) := Lib.hid (fun j hj => by have := O5.out.lt j hj; omega)
      have HW := Lib.hid hW
      have PW : Hid (∀ w', TStay (fun j => u7.ownBlock = some j) W w' → Part w' w5.heap.size 0 (hashC H)) := Lib.hid (fun w' h => Part.of_blk ((h.block _ (blk_lt TW.out) (fun e => (N9.out _ e).1 rfl)).trans TW.out))
      have CW : Hid (∀ w', TStay (fun j => u7.ownBlock = some j) W w' → w'.cell? ⟨b, o + k, none⟩ = some (.int .i64 z)) := Lib.hid (fun w' h =>
        (World.cell?_of_block (w := W) (h.block b (by have := BW.out.size; have := HBL.out; omega) (fun e => by have := (N9.out _ e).2; have := HBL.out; omega))).trans ((World.cell?_of_block (w := w) (BW.out.block b HBL.out)).trans CZ.out))
      clear hW bw
      by_cases hk1 : kind = 1
      · subst hk1
        have HIX : Hid (Wi.itOf 1 z = ⟨H, zq % 9, []⟩) := Lib.hid (by rw [Wi.itOf, if_pos rfl, HHE.out, HZQ.out])
        go_upto_region 7 with (refine wpL_var 40 24 9 (hashC Wi.z32) rfl rfl rfl rfl rfl rfl (hashC H) (by rfl) (by rw [hashC_size _ HH.out]; exact zi_hash) (by rw [hashC_size _ HH.out]; rfl) (hashC_one _) (by decide) (by kernel_rfl) ?_)
        rw [← HW.out]
        refine wp_region_held_drew (S := fun w' => TStay (fun j => u7.ownBlock = some j) W w') (by kernel_rfl) ((TStay.refl _ _).drew _) (fun hS0 => ?_)
        refine takeH (i := 0) u7 rfl (by kernel_rfl) (by kernel_rfl) (by kernel_rfl) (fun _ _ _ h => h) (by kernel_rfl) (fun w' _ => ex_move (.tmp 7) rfl) hS0 ?_
        simp only [Act.put, List.setIfInBounds_toArray, List.set_cons_zero, List.set_cons_succ]
        refine takeH (i := 1) (.agg (hashC H)) rfl (by kernel_rfl) (by kernel_rfl) (by kernel_rfl) (fun _ _ _ h => h) (by kernel_rfl) (fun w' h => ex_load 40 (.tmp 9) rfl w5.heap.size 0 rfl (hashC H) _ (PW.out w' h) Tryd.underlying40 rfl (by rw [hashC_size _ HH.out]; exact sz_hash)) hS0 ?_
        simp only [Act.put, List.setIfInBounds_toArray, List.set_cons_zero, List.set_cons_succ]
        refine takeH (i := 2) (.slice (some ⟨b, o, none⟩) n c) rfl (by kernel_rfl) (by kernel_rfl) (by kernel_rfl) (fun _ _ _ h => h) (by kernel_rfl) (fun w' _ => ex_move (.tmp 2) rfl) hS0 ?_
        simp only [Act.put, List.setIfInBounds_toArray, List.set_cons_zero, List.set_cons_succ]
        refine takeH (i := 3) (.int .i64 (k : Int)) rfl (by kernel_rfl) (by kernel_rfl) (by kernel_rfl) (fun _ _ _ h => h) (by kernel_rfl) (fun w' _ => ex_move (.tmp 8) rfl) hS0 ?_
        simp only [Act.put, List.setIfInBounds_toArray, List.set_cons_zero, List.set_cons_succ]
        refine takeH (i := 4) (.pointer (some ⟨b, o + k, none⟩)) rfl (by kernel_rfl) (by kernel_rfl) (by kernel_rfl) (fun _ _ _ h => h) (by kernel_rfl) (fun w' _ => by go_simp) hS0 ?_
        simp only [Act.put, List.setIfInBounds_toArray, List.set_cons_zero, List.set_cons_succ]
        refine takeH (i := 5) (.int .i64 z) rfl (by kernel_rfl) (by kernel_rfl) (by kernel_rfl) (fun _ _ _ h => h) (by kernel_rfl) (fun w' h => by have hcz := CW.out w' h; go_simp) hS0 ?_
        simp only [Act.put, List.setIfInBounds_toArray, List.set_cons_zero, List.set_cons_succ]
        refine takeH (i := 6) (.int .i64 zq) rfl (by kernel_rfl) (by kernel_rfl) (by kernel_rfl) (fun _ _ _ h => h) (by kernel_rfl) (fun w' _ => by go_simp) hS0 ?_
        simp only [Act.put, List.setIfInBounds_toArray, List.set_cons_zero, List.set_cons_succ]
        refine wpAnyH_ready (rs := [7]) (by kernel_rfl) (by simp) ?_
        refine AllReadyH.cons rfl (fun K hK => ?_) AllReadyH.nil
        rw [if_pos (by kernel_rfl)]
        have hpk := fun X => pick_any X zq 9 HZ64.out.1 HZ64.out.2 (by omega) (by omega)
        go_simp
        refine (hpk _).mono ?_
        clear hpk
        rintro e w' ⟨rfl, rfl⟩
        refine hK.out _ _ hS0 (fun hS0 => ?_)
        clear hK K
        refine takeH (i := 8) (.agg (pathC H (zq % 9))) rfl (by kernel_rfl) (by kernel_rfl) (by kernel_rfl) (fun _ _ _ h => h) (by kernel_rfl) (fun w' _ => ex_mk 42 #[(0, .tmp 28), (1, .tmp 34)] rfl [(0, .agg (hashC H)), (1, .int .i64 (zq % 9))] rfl (pathC H (zq % 9)) (bt_path H (zq % 9) HH.out)) hS0 ?_
        simp only [Act.put, List.setIfInBounds_toArray, List.set_cons_zero, List.set_cons_succ]
        refine takeH (i := 9) (.agg (itC ⟨H, zq % 9, []⟩)) rfl (by kernel_rfl) (by kernel_rfl) (by kernel_rfl) (fun _ _ _ h => h) (by kernel_rfl) (fun w' _ => ex_mk 44 #[(0, .tmp 35)] rfl [(0, .agg (pathC H (zq % 9)))] rfl (itC ⟨H, zq % 9, []⟩) (bt_item_path H (zq % 9) HH.out)) hS0 ?_
        simp only [Act.put, List.setIfInBounds_toArray, List.set_cons_zero, List.set_cons_succ]
        have HOKI : Hid ((⟨H, zq % 9, []⟩ : Wi.It).ok) := Lib.hid (by rw [← HIX.out]; exact itOf_ok _ _)
        have OD : Hid (OwnI W.drew w.heap.size u7 ((l.take k).map (Wi.itOf 1))) := Lib.hid (ownsRow_stay OW.out ((TStay.refl (fun _ => False) W).drew _) (fun _ _ h => h))
        refine wpAnyH_ready (rs := [10]) (by kernel_rfl) (by simp) ?_
        refine AllReadyH.cons rfl (fun K hK => ?_) AllReadyH.nil
        refine step_rowOne rfl 26 44 (.tmp 36) rfl 37 rfl Tryd.underlying26 (itC ⟨H, zq % 9, []⟩) rfl (.agg (itC ⟨Wi.z32, 0, []⟩)) 34 zi_item (by decide) (itC_size _ HOKI.out) ?_
        simp only [Act.put, List.setIfInBounds_toArray, List.set_cons_zero, List.set_cons_succ]
        have bA : Below W.drew.heap.size W.drew (W.drew.alloc (.cells (itC ⟨H, zq % 9, []⟩) 44)) := (Below.refl _ _).alloc (Nat.le_refl _) _
        have OA := Lib.hid (ownsRow_stay OD.out (TStay.of_below bA (fun _ => False)) (fun _ _ h => h))
        have LA : Hid (w.heap.size ≤ (W.drew.alloc (.cells (itC ⟨H, zq % 9, []⟩) 44)).heap.size) := Lib.hid (Nat.le_trans BW.out.size bA.size)
        have SA := TStay.alloc (fun j => u7.ownBlock = some j) hS0 (Obj.cells (itC ⟨H, zq % 9, []⟩) 44)
        refine hK.out _ _ SA (fun hS1 => ?_)
        clear hK K SA bA
        refine wpAnyH_ready (rs := [11]) (by kernel_rfl) (by simp) ?_
        refine AllReadyH.cons rfl (fun K hK => ?_) AllReadyH.nil
        refine step_appI rfl (.tmp 27) (.tmp 37) rfl w.heap.size u7 _ rfl OA.out W.drew.heap.size ⟨H, zq % 9, []⟩ HOKI.out rfl (heap_alloc_new _ _) (by have := HLL.out; omega) LA.out ?_
        intro v' w8 O8 G8
        have S8 := hS1.grown G8 (fun j hj => .inl hj)
        rw [← HIX.out, ← HSN.out] at O8
        have HO8 := Lib.hid O8
        have B8 := Lib.hid (BW.out.trans (S8.below BW.out.size (fun j hj e => by have := (N9.out _ e).2; omega)))
        simp only [Act.put, List.setIfInBounds_toArray, List.set_cons_zero, List.set_cons_succ]
        refine hK.out _ _ S8 (fun hS8 => ?_)
        clear hK K O8 G8 S8 hS0 hS1
        refine takeH (i := 12) v' rfl (by kernel_rfl) (by kernel_rfl) (by kernel_rfl) (fun _ _ _ h => h) (by kernel_rfl) (fun w' _ => ex_assign (.tmp 38) rfl) hS8 ?_
        simp only [Act.put, List.setIfInBounds_toArray, List.set_cons_zero, List.set_cons_succ]
        refine wpAnyH_done (by kernel_rfl) ?_ _
        clear hS8 OA OD LA
        go_wp2
        go_roundw
        case rel => exact ⟨k + 1, by omega, by omega, by go_num, HO8, B8⟩
        case measure => simp [intOf]; omega
      · as_aux_lemma =>
        obtain ⟨r, hr⟩ : ∃ r : Nat, zq % 64 = (r : Int) := Int.eq_ofNat_of_zero_le (Int.emod_nonneg _ (by omega))
        have hr64 : r < 64 := by have := Int.emod_lt_of_pos zq (show (0 : Int) < 64 by omega); omega
        have HIX : Hid (Wi.itOf kind z = ⟨Wi.z32, 0, (Wi.hexT H).take (1 + r)⟩) := Lib.hid (by rw [Wi.itOf, if_neg hk1, ← HHE.out, ← HZQ.out, hr, Int.toNat_natCast])
        have HRL : Hid (1 + r ≤ (Wi.hexT H).length) := Lib.hid (by rw [Wi.hexT_len, HH.out]; omega)
        have HOKI : Hid ((⟨Wi.z32, 0, (Wi.hexT H).take (1 + r)⟩ : Wi.It).ok) := Lib.hid (by rw [← HIX.out]; exact itOf_ok _ _)
        have hr1 : IntKind.i64.wrap (1 + (r : Int)) = ((1 + r : Nat) : Int) := by rw [wrapi' _ (by omega)]; omega
        have hr2 : IntKind.i64.wrap (1 + (r : Int)) = 1 + (r : Int) := by rw [wrapi' _ (by omega)]
        have dk : (kind == 1) = false := by simp [hk1]
        have FP : Hid (∀ X, Calls Tryd.prog 10 #[.int .i64 zq, .int .i64 64] X fun e w' => e = .returned (.int .i64 (r : Int)) ∧ X = w') := Lib.hid (fun X => by have := pick_any X zq 64 HZ64.out.1 HZ64.out.2 (by omega) (by omega); rwa [hr] at this)
        have FT : Hid (∀ X, Calls Tryd.prog 52 #[.agg (hashC H)] X fun e w' => e = .returned (.string (str (Wi.hexT H))) ∧ Below X.heap.size X w') := Lib.hid (fun X => text_any X H HH.out)
        clear hk1 hr hr64
        go_upto_region 8 with (refine wpL_var 40 24 9 (hashC Wi.z32) rfl rfl rfl rfl rfl rfl (hashC H) (by rfl) (by rw [hashC_size _ HH.out]; exact zi_hash) (by rw [hashC_size _ HH.out]; rfl) (hashC_one _) (by decide) (by kernel_rfl) ?_)
        rw [← HW.out]
        refine wp_region_held_drew (S := fun w' => TStay (fun j => u7.ownBlock = some j) W w') (by kernel_rfl) ((TStay.refl _ _).drew _) (fun hS0 => ?_)
        refine takeH (i := 0) u7 rfl (by kernel_rfl) (by kernel_rfl) (by kernel_rfl) (fun _ _ _ h => h) (by kernel_rfl) (fun w' _ => ex_move (.tmp 7) rfl) hS0 ?_
        simp only [Act.put, List.setIfInBounds_toArray, List.set_cons_zero, List.set_cons_succ]
        refine takeH (i := 1) (.agg (hashC H)) rfl (by kernel_rfl) (by kernel_rfl) (by kernel_rfl) (fun _ _ _ h => h) (by kernel_rfl) (fun w' h => ex_load 40 (.tmp 9) rfl w5.heap.size 0 rfl (hashC H) _ (PW.out w' h) Tryd.underlying40 rfl (by rw [hashC_size _ HH.out]; exact sz_hash)) hS0 ?_
        simp only [Act.put, List.setIfInBounds_toArray, List.set_cons_zero, List.set_cons_succ]
        refine takeH (i := 3) (.slice (some ⟨b, o, none⟩) n c) rfl (by kernel_rfl) (by kernel_rfl) (by kernel_rfl) (fun _ _ _ h => h) (by kernel_rfl) (fun w' _ => ex_move (.tmp 2) rfl) hS0 ?_
        simp only [Act.put, List.setIfInBounds_toArray, List.set_cons_zero, List.set_cons_succ]
        refine takeH (i := 4) (.int .i64 (k : Int)) rfl (by kernel_rfl) (by kernel_rfl) (by kernel_rfl) (fun _ _ _ h => h) (by kernel_rfl) (fun w' _ => ex_move (.tmp 8) rfl) hS0 ?_
        simp only [Act.put, List.setIfInBounds_toArray, List.set_cons_zero, List.set_cons_succ]
        refine takeH (i := 5) (.pointer (some ⟨b, o + k, none⟩)) rfl (by kernel_rfl) (by kernel_rfl) (by kernel_rfl) (fun _ _ _ h => h) (by kernel_rfl) (fun w' _ => by go_simp) hS0 ?_
        simp only [Act.put, List.setIfInBounds_toArray, List.set_cons_zero, List.set_cons_succ]
        refine takeH (i := 6) (.int .i64 z) rfl (by kernel_rfl) (by kernel_rfl) (by kernel_rfl) (fun _ _ _ h => h) (by kernel_rfl) (fun w' h => by have hcz := CW.out w' h; go_simp) hS0 ?_
        simp only [Act.put, List.setIfInBounds_toArray, List.set_cons_zero, List.set_cons_succ]
        refine takeH (i := 7) (.int .i64 zq) rfl (by kernel_rfl) (by kernel_rfl) (by kernel_rfl) (fun _ _ _ h => h) (by kernel_rfl) (fun w' _ => by go_simp) hS0 ?_
        simp only [Act.put, List.setIfInBounds_toArray, List.set_cons_zero, List.set_cons_succ]
        refine wpAnyH_ready (rs := [2]) (by kernel_rfl) (by simp) ?_
        refine AllReadyH.cons rfl (fun K hK => ?_) AllReadyH.nil
        · as_aux_lemma =>
          rw [if_pos (by kernel_rfl)]
          go_simp
          refine (FT.out _).mono ?_
          rintro e X1 ⟨rfl, bX⟩
          have hS1 := hS0.trans (TStay.of_below bX (fun j => u7.ownBlock = some j)) (fun _ _ h => h)
          have OX : Hid (OwnI X1 w.heap.size u7 ((l.take k).map (Wi.itOf kind))) := Lib.hid (ownsRow_stay (ownsRow_stay OW.out ((TStay.refl (fun _ => False) W).drew _) (fun _ _ h => h)) (TStay.of_below bX (fun _ => False)) (fun _ _ h => h))
          have LX : Hid (w.heap.size ≤ X1.heap.size) := Lib.hid (Nat.le_trans BW.out.size bX.size)
          refine hK.out _ _ hS1 (fun hS1 => ?_)
          clear hK K bX
          refine wpAnyH_ready (rs := [8]) (by kernel_rfl) (by simp) ?_
          refine AllReadyH.cons rfl (fun K hK => ?_) AllReadyH.nil
          rw [if_pos (by kernel_rfl)]
          go_simp
          refine (FP.out _).mono ?_
          rintro e w' ⟨rfl, rfl⟩
          refine hK.out _ _ hS1 (fun hSP => ?_)
          clear hK K
          refine takeH (i := 9) (.int .i64 ((1 + r : Nat) : Int)) rfl (by kernel_rfl) (by kernel_rfl) (by kernel_rfl) (fun _ _ _ h => h) (by kernel_rfl) (fun w' _ => by go_simp) hS1 ?_
          simp only [Act.put, List.setIfInBounds_toArray, List.set_cons_zero, List.set_cons_succ]
          refine takeH (i := 10) (.string (str ((Wi.hexT H).take (1 + r)))) rfl (by kernel_rfl) (by kernel_rfl) (by kernel_rfl) (fun _ _ _ h => h) (by kernel_rfl) (fun w' _ => ex_slice_to (.tmp 41) (.tmp 48) rfl (Wi.hexT H) (1 + r) rfl rfl HRL.out) hS1 ?_
          simp only [Act.put, List.setIfInBounds_toArray, List.set_cons_zero, List.set_cons_succ]
          refine takeH (i := 11) (.agg (itC ⟨Wi.z32, 0, (Wi.hexT H).take (1 + r)⟩)) rfl (by kernel_rfl) (by kernel_rfl) (by kernel_rfl) (fun _ _ _ h => h) (by kernel_rfl) (fun w' _ => ex_mk 44 #[(1, .tmp 49)] rfl [(1, .string (str ((Wi.hexT H).take (1 + r))))] rfl (itC ⟨Wi.z32, 0, (Wi.hexT H).take (1 + r)⟩) (bt_item_text _)) hS1 ?_
          simp only [Act.put, List.setIfInBounds_toArray, List.set_cons_zero, List.set_cons_succ]
          refine wpAnyH_ready (rs := [12]) (by kernel_rfl) (by simp) ?_
          refine AllReadyH.cons rfl (fun K hK => ?_) AllReadyH.nil
          refine step_rowOne rfl 26 44 (.tmp 50) rfl 51 rfl Tryd.underlying26 (itC ⟨Wi.z32, 0, (Wi.hexT H).take (1 + r)⟩) rfl (.agg (itC ⟨Wi.z32, 0, []⟩)) 34 zi_item (by decide) (itC_size _ HOKI.out) ?_
          simp only [Act.put, List.setIfInBounds_toArray, List.set_cons_zero, List.set_cons_succ]
          have bA : Below X1.heap.size X1 (X1.alloc (.cells (itC ⟨Wi.z32, 0, (Wi.hexT H).take (1 + r)⟩) 44)) := (Below.refl _ _).alloc (Nat.le_refl _) _
          have OA := Lib.hid (ownsRow_stay OX.out (TStay.of_below bA (fun _ => False)) (fun _ _ h => h))
          have LA : Hid (w.heap.size ≤ (X1.alloc (.cells (itC ⟨Wi.z32, 0, (Wi.hexT H).take (1 + r)⟩) 44)).heap.size) := Lib.hid (Nat.le_trans LX.out bA.size)
          have SA := TStay.alloc (fun j => u7.ownBlock = some j) hS1 (Obj.cells (itC ⟨Wi.z32, 0, (Wi.hexT H).take (1 + r)⟩) 44)
          refine hK.out _ _ SA (fun hS2 => ?_)
          clear hK K SA bA
          refine wpAnyH_ready (rs := [13]) (by kernel_rfl) (by simp) ?_
          refine AllReadyH.cons rfl (fun K hK => ?_) AllReadyH.nil
          refine step_appI rfl (.tmp 39) (.tmp 51) rfl w.heap.size u7 _ rfl OA.out X1.heap.size ⟨Wi.z32, 0, (Wi.hexT H).take (1 + r)⟩ HOKI.out rfl (heap_alloc_new _ _) (by have := HLL.out; omega) LA.out ?_
          intro v' w8 O8 G8
          have S8 := hS2.grown G8 (fun j hj => .inl hj)
          rw [← HIX.out, ← HSN.out] at O8
          have HO8 := Lib.hid O8
          have B8 := Lib.hid (BW.out.trans (S8.below BW.out.size (fun j hj e => by have := (N9.out _ e).2; omega)))
          simp only [Act.put, List.setIfInBounds_toArray, List.set_cons_zero, List.set_cons_succ]
          refine hK.out _ _ S8 (fun hS8 => ?_)
          clear hK K O8 G8 S8 hS0 hS1 hS2
          refine takeH (i := 14) v' rfl (by kernel_rfl) (by kernel_rfl) (by kernel_rfl) (fun _ _ _ h => h) (by kernel_rfl) (fun w' _ => ex_assign (.tmp 52) rfl) hS8 ?_
          simp only [Act.put, List.setIfInBounds_toArray, List.set_cons_zero, List.set_cons_succ]
          refine wpAnyH_done (by kernel_rfl) ?_ _
          clear hS8 OA LA OX LX
          go_wp2
          go_roundw
          case rel => exact ⟨k + 1, by omega, by omega, by go_num, HO8, B8⟩
          case measure => simp [intOf]; omega
    · as_aux_lemma =>
      have hcase : k = n ∨ (k < n ∧ k = 17) := by omega
      have HFI : Hid (OwnI wr w.heap.size u7 IT) := Lib.hid (by
        have : IT = (l.take k).map (Wi.itOf kind) := by
          rw [HIT.out, Wi.itemsOf]
          rcases hcase with h | h
          · rw [List.take_of_length_le (i := 17) (by have := HL.out; omega), List.take_of_length_le (i := k) (by have := HL.out; omega)]
          · rw [h.2]
        rw [this]; exact HO.out)
      clear hgo HO
      rcases hcase with rfl | ⟨h1, rfl⟩
      · have d0 : decide ((k : Int) < (k : Int)) = false := decide_eq_false (by omega)
        go_wp2
        go_ret
        exact ⟨_, rfl, HFI.out, BR.out⟩
      · have d0 : decide ((17 : Int) < (n : Int)) = true := decide_eq_true (by omega)
        have d0' : decide (17 < n) = true := decide_eq_true (by omega)
        clear h1
        go_wp2
        go_ret
        exact ⟨_, rfl, HFI.out, BR.out⟩
end Go.Proofs.YthampbiabkfmoaaDoor
