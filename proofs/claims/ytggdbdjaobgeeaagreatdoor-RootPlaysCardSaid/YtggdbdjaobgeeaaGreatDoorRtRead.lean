/- root.Read: what it answers. -/
import Derived.Test.YtggdbdjaobgeeaaGreatDoorRtLay
import Derived.Test.YtggdbdjaobgeeaaGreatDoorReadQ
namespace Go.Proofs.YtggdbdjaobgeeaaGreatDoor
open Go.RowKit Go.Tap Go.Maps
set_option linter.unusedVariables false
attribute [local go_sem ↓] Go.wp_at_zero Go.wp_at_succ

theorem varGo_good : ∀ (l : List UInt8) (k a v : Nat) (r : List UInt8), Oct.varGo l k a = some (v, r) → a < 128 ^ k → v < 18446744073709551616 ∧ r.length < l.length
  | [], k, a, v, r, h, _ => by simp [Oct.varGo] at h
  | c :: s, k, a, v, r, h, ha => by
    have hc : c.toNat < 256 := c.toNat_lt
    rw [Oct.varGo] at h
    by_cases hb : 9 < k ∨ (k = 9 ∧ 1 < c.toNat) ∨ (0 < k ∧ c.toNat = 0)
    · rw [if_pos hb] at h; cases h
    · rw [if_neg hb] at h
      by_cases hl : c.toNat < 128
      · rw [if_pos hl] at h
        simp only [Option.some.injEq, Prod.mk.injEq] at h
        obtain ⟨rfl, rfl⟩ := h
        have := grp_lt a c.toNat k ha (by omega) (by omega) hc
        rw [Nat.mod_eq_of_lt hl] at this
        exact ⟨this, by simp⟩
      · rw [if_neg hl] at h
        have h1 : (c.toNat - 128) * 128 ^ k ≤ 127 * 128 ^ k := Nat.mul_le_mul_right _ (by omega)
        have := varGo_good s (k + 1) _ v r h (by rw [Nat.pow_succ]; omega)
        exact ⟨this.1, by simp only [List.length_cons]; omega⟩
theorem i64_bnd (v : Nat) (h : v < 18446744073709551616) : -9223372036854775808 ≤ Oct.i64 v ∧ Oct.i64 v ≤ 9223372036854775807 := by
  unfold Oct.i64; split <;> omega
theorem rdVar_good (l : List UInt8) (k : Bool) : (-9223372036854775808 ≤ (Oct.rdVar l k).1 ∧ (Oct.rdVar l k).1 ≤ 9223372036854775807) ∧ (Oct.rdVar l k).2.1.length ≤ l.length ∧ ((Oct.rdVar l k).2.2 = false → (Oct.rdVar l k).2.1.length < l.length) := by
  unfold Oct.rdVar
  split
  · exact ⟨⟨by show (-9223372036854775808 : Int) ≤ 0; omega, by show (0 : Int) ≤ 9223372036854775807; omega⟩, Nat.zero_le _, fun h => by cases h⟩
  · split
    · exact ⟨⟨by show (-9223372036854775808 : Int) ≤ 0; omega, by show (0 : Int) ≤ 9223372036854775807; omega⟩, Nat.zero_le _, fun h => by cases h⟩
    · rename_i v r hv
      obtain ⟨h1, h2⟩ := varGo_good l 0 0 v r hv (by omega)
      exact ⟨i64_bnd v h1, by show r.length ≤ _; omega, fun _ => h2⟩
/-- Reader.Var called at a step of a region that draws its order. -/
theorem step_rvar {w : World} {ops : Array Oper} {o : Oper} {a : Act} {K : Act → World → Prop} {Q : Exit → Act → World → Prop} {E : Prop} (hgd : o.guard = none) (t : Nat) (ty : TypeId)
    (ho : o.op = .call { callee := .value (.func 135), args := #[.tmp t], argTypes := #[ty] }) (v r : Value) (hx : a.tmps[t]?.getD undef = v) (R : World → Prop)
    (hc : Calls Tryz.prog 135 #[v] w fun e w' => e = .returned r ∧ R w') (h : ∀ w', R w' → K (a.put o.dst r) w') :
    if Region.wanted o (yielded ops a.tmps) = true then Oper.wp Tryz.prog o a w K Q else E := by
  have hw : Region.wanted o (yielded ops a.tmps) = true := by simp [Region.wanted, hgd]
  rw [if_pos hw]
  obtain ⟨dst, op, type, pos, after, guard⟩ := o
  simp only at ho hgd
  subst ho hgd
  clear hw
  have hf := Tryz.func135
  go_simp
  refine hc.mono ?_
  rintro e w' ⟨rfl, h2⟩
  simpa [Act.put] using h w' h2
theorem load_root {X : World} {b : Nat} {x y z : Value} (h : X.heap[b]? = some (.cells #[x, y, z] 67 (0, 0))) : (loadVar 67 ⟨b, 0, none⟩).run Tryz.prog X = .ok (.agg #[x, y, z]) X := by
  have c0 : X.cell? ⟨b, 0, none⟩ = some x := blk_cell (i := 0) h rfl
  have c1 : X.cell? ⟨b, 1, none⟩ = some y := blk_cell (i := 1) h rfl
  have c2 : X.cell? ⟨b, 2, none⟩ = some z := blk_cell (i := 2) h rfl
  have a1 := Tryz.isAgg67
  have z1 := Tryz.sizeOf67
  clear h
  unfold loadVar
  go_simp
theorem ret_root {fn : Func} {p u : Tmp} (hf : fn.results = #[.cell p 67, .tmp u]) {tmps : Array Value} {X : World} {b : Nat} {x y z : Value} (hp : tmps.getD p undef = .pointer (some ⟨b, 0, none⟩)) (h : X.heap[b]? = some (.cells #[x, y, z] 67 (0, 0))) :
    (results fn tmps).run Tryz.prog X = .ok (.tuple #[.agg #[x, y, z], tmps.getD u undef]) X := by
  rw [results_cell_tmp hf, hp]
  have := load_root h
  simp only [asAddr, Sem.run_pure, Result.andThen]
  rw [this]
theorem set3 {w : World} {b : Nat} {t : TypeId} {x y z : Value} (h : w.heap[b]? = some (.cells #[x, y, z] t (0, 0))) (x' y' z' : Value) : (((w.setCell ⟨b, 0, none⟩ x').setCell ⟨b, 1, none⟩ y').setCell ⟨b, 2, none⟩ z').heap[b]? = some (.cells #[x', y', z'] t (0, 0)) :=
  heap_setCell_same _ b 2 _ _ _ (heap_setCell_same _ b 1 _ _ _ (heap_setCell_same w b 0 _ _ _ h))
theorem IsQ.stay {D : Nat} {T : TypeId} {w w' : World} {B : Nat} {a : Option Addr} {c : Nat} {lk : Bool} {l : List UInt8} (h : IsQ D T w B a c lk l) (hB : w'.heap[B]? = w.heap[B]?) (hD : 0 < l.length → w'.heap[D]? = w.heap[D]?) : IsQ D T w' B a c lk l :=
  ⟨⟨hB.trans h.blk, h.rds.keep (fun h0 b o e => by have := h.dat _ e; simp only at this; subst this; exact hD h0), h.le, h.nnil, h.cap⟩, h.dat⟩
theorem own_blw {w : World} {base e size : Nat} {v : Value} {n : Nat} {xs : List Value} (h : w.ownsRow base e size v n xs) {w' : World} (hb : Below w.heap.size w w') : w'.ownsRow base e size v n xs :=
  ownsRow_stay h (TStay.of_below hb (fun _ => False)) (fun _ _ h => h)
theorem src_new (w : World) (u : Value) (t : TypeId) : Src (w.alloc (.cells #[u] t)) (some ⟨w.heap.size, 0, none⟩) 1 1 [u] :=
  ⟨rfl, fun _ => ⟨_, 0, rfl, fun j v hv => by
    rw [Nat.zero_add, cell_of_row _ _ j #[u] t (0, 0) (heap_alloc_new w _)]
    simpa using hv⟩⟩
theorem inb_of (w : World) (a : Option Addr) (n : Nat) (l : List UInt8) (hr : Rds w a n l) : ∃ D, InB D a ∧ (0 < l.length → D < w.heap.size) := by
  cases a with
  | none => exact ⟨0, InB.nil 0, fun h => by obtain ⟨_, _, e, _⟩ := hr.2 (by have := hr.1; omega); cases e⟩
  | some x =>
    refine ⟨x.block, fun y e => by cases e; rfl, fun h => ?_⟩
    obtain ⟨b, o, e, _⟩ := hr.2 (by have := hr.1; omega)
    simp only [Option.some.injEq] at e
    subst e
    exact hr.lt (by have := hr.1; omega)
theorem nxt_body {l : List UInt8} {q : Nat × List UInt8 × Nat} (h : nxt l = .ok q) : q.2.1.length ≤ 1048576 := by
  unfold nxt at h
  split at h
  · cases h
  · split at h
    · cases h
    · rename_i h0
      split at h
      · cases h
      · split at h
        · cases h
        · simp only [Except.ok.injEq] at h
          subst h
          show (List.take _ _).length ≤ _
          have := List.length_take_le (Oct.rdU 4 (Oct.rdU 1 (l.take 9) false).2.1 false).1 (l.drop 9)
          omega
def root0 : Value := .agg #[.int .i64 0, .slice none 0 0, .int .i64 0]
def RtReadAft (w : World) (l : List UInt8) (e : Ending) (w' : World) : Prop :=
  Below w.heap.size w w' ∧ match Rt.read l with
  | .error k => e = .returned (.tuple #[root0, .iface 35 (.int .i64 (k : Int))])
  | .ok r => ∃ a n c, e = .returned (.tuple #[.agg #[.int .i64 r.gen, .slice a n c, .int .i64 r.idx], .nilIface]) ∧ w'.ownsRow w.heap.size 3 1 (.slice a n c) n (iv r.logs) ∧ n ≤ 8
set_option maxHeartbeats 8000000 in
set_option maxRecDepth 100000 in
theorem rtRead_any (w : World) (a : Option Addr) (n c : Nat) (l : List UInt8) (hr : Rds w a n l) (hnc : n ≤ c) (hz : a = none → c = 0) (hn : n ≤ 140737488355328) :
    Calls Tryz.prog 87 #[.slice a n c] w (RtReadAft w l) := by
  obtain ⟨i0, hi, hz0, hz1, hz2⟩ := info_parts infoInt
  have hl := hr.1
  obtain ⟨W1, hW1⟩ : ∃ W1, W1 = w.alloc (.cells #[.int .i64 0, .slice none 0 0, .int .i64 0] 67) := ⟨_, rfl⟩
  have hT1 : W1.heap[w.heap.size]? = some (.cells #[.int .i64 0, .slice none 0 0, .int .i64 0] 67 (0, 0)) := by rw [hW1]; exact heap_alloc_new _ _
  have hB1 : Below w.heap.size w W1 := by rw [hW1]; exact (Below.refl _ _).alloc (Nat.le_refl _) _
  have hs1 : W1.heap.size = w.heap.size + 1 := by rw [hW1]; simp
  have hr1 := hr.below hB1 (fun h0 b o e => by subst e; exact hr.lt h0)
  have hnx := next_any W1 a n c l hr1 hnc hz (by omega)
  have HR := Lib.hid hr
  have HT1 := Lib.hid hT1
  have HB1 := Lib.hid hB1
  have HS1 := Lib.hid hs1
  clear hr hT1 hB1 hs1 hr1
  go_enter Tryz.func87, Tryz.ntmps87
  go_wp2_with fail
  rw [← hW1]
  clear hW1
  refine hnx.mono ?_
  clear hnx
  cases hq : nxt l with
  | error k =>
    rintro e w2 ⟨hb2, rfl⟩
    have hT2 := (hb2.block w.heap.size (by rw [HS1.out]; omega)).trans HT1.out
    have bw2 := HB1.out.trans (hb2.mono HB1.out.size)
    have c0 : w2.cell? ⟨w.heap.size, 0, none⟩ = some (.int .i64 0) := blk_cell (i := 0) hT2 rfl
    have c1 : w2.cell? ⟨w.heap.size, 1, none⟩ = some (.slice none 0 0) := blk_cell (i := 1) hT2 rfl
    have c2 : w2.cell? ⟨w.heap.size, 2, none⟩ = some (.int .i64 0) := blk_cell (i := 2) hT2 rfl
    have f0 := blk_free hT2 0
    have f1 := blk_free hT2 1
    have f2 := blk_free hT2 2
    have hfin : Rt.read l = .error k := by unfold Rt.read; rw [hq]
    have HFI := Lib.hid hfin
    have HT2 := Lib.hid hT2
    clear hb2 hT2 hq hfin
    go_wp2
    (try simp only [Exit.inBlock, Exit.then])
    refine bodyPost_ret (ret_root (by rfl) (by rfl) (set3 HT2.out _ _ _)) rfl ⟨((bw2.setCell (Nat.le_refl _) _).setCell (Nat.le_refl _) _).setCell (Nat.le_refl _) _, ?_⟩
    rw [HFI.out]
    rfl
  | ok q =>
    obtain ⟨kk, lb, sz⟩ := q
    have hnk := nxt_ok hq
    simp only at hnk
    rintro e w2 ⟨hb2, v2, rfl, hown2⟩
    simp only at hown2
    obtain ⟨a2, c2, rfl, hle2, _, hz2', _⟩ := ownsRow_slice hown2
    have hrd := newReader_any w2 a2 lb.length c2 lb (Rds.of_own hown2 rfl) hz2' (by omega)
    have bw2 := HB1.out.trans (hb2.mono HB1.out.size)
    have hT2 := (hb2.block w.heap.size (by rw [HS1.out]; omega)).trans HT1.out
    have HT2 := Lib.hid hT2
    have hsz2 := blk_lt hT2
    have HQ := Lib.hid hq
    have hbl : lb.length ≤ 1048576 := nxt_body hq
    clear hown2 hb2 hq hT2 HT1 HB1 HS1 hnk
    go_wp2_with fail
    refine hrd.mono ?_
    clear hrd
    rintro e w3 ⟨B, a3, c3, rfl, hB, h3, _, hb3⟩
    obtain ⟨D, hD, hDl⟩ := inb_of w3 a3 _ lb h3.rds
    have h3' : IsQ D 267 w3 B a3 c3 false lb := ⟨h3, hD⟩
    have hv3 := q_rVar_any' D w3 B a3 c3 false lb h3'
    have g1 := rdVar_good lb false
    obtain ⟨Q1, hQ1⟩ : ∃ Q1, Q1 = Oct.rdVar lb false := ⟨_, rfl⟩
    rw [← hQ1] at hv3 g1
    obtain ⟨v1, l1, k1⟩ := Q1
    have HQ1 := Lib.hid hQ1
    clear h3 hQ1 h3' hD
    go_wp2_with fail
    refine hv3.mono ?_
    clear hv3
    rintro e w4 ⟨rfl, a4, c4, h4, t4⟩
    simp only at h4 g1
    have b4 : Below w2.heap.size w2 w4 := Below.trans_stay hb3 t4 (Nat.le_refl _) (fun k hk e => by omega)
    have hs34 := t4.size
    have hv4 := q_rVar_any' D w4 B a4 c4 k1 l1 h4
    have g2 := rdVar_good l1 k1
    obtain ⟨Q2, hQ2⟩ : ∃ Q2, Q2 = Oct.rdVar l1 k1 := ⟨_, rfl⟩
    rw [← hQ2] at hv4 g2
    obtain ⟨v2, l2, k2⟩ := Q2
    have HQ2 := Lib.hid hQ2
    clear h4 hQ2 hb3 t4
    go_wp2_with fail
    refine hv4.mono ?_
    clear hv4
    rintro e w5 ⟨rfl, a5, c5, h5, t5⟩
    simp only at h5 g2
    have b5 : Below w2.heap.size w2 w5 := Below.trans_stay b4 t5 (Nat.le_refl _) (fun k hk e => by omega)
    have hs45 := t5.size
    have H5 := Lib.hid h5
    clear h5 b4 t5
    go_wp2_with fail
    obtain ⟨W6, hW6⟩ : ∃ W6, W6 = w5.alloc (.cells #[.int .i64 v1, .slice none 0 0, .int .i64 v2] 67) := ⟨_, rfl⟩
    rw [← hW6]
    have hT6 : W6.heap[w5.heap.size]? = some (.cells #[.int .i64 v1, .slice none 0 0, .int .i64 v2] 67 (0, 0)) := by rw [hW6]; exact heap_alloc_new _ _
    have b6 : Below w2.heap.size w2 W6 := by rw [hW6]; exact b5.alloc b5.size _
    have hs6 : W6.heap.size = w5.heap.size + 1 := by rw [hW6]; simp
    have hlB := H5.out.lt
    have h6 : IsQ D 267 W6 B a5 c5 k2 l2 := H5.out.stay (by rw [hW6]; exact (MapKept.heap_alloc w5 _).2 _ hlB) (fun h0 => by
      have := hDl (by omega)
      rw [hW6]; exact (MapKept.heap_alloc w5 _).2 _ (by omega))
    obtain ⟨OB, hOB⟩ : ∃ OB, OB = w5.heap.size := ⟨_, rfl⟩
    rw [← hOB] at hT6 hs6 ⊢
    have hBO : B < OB := by omega
    have hDO : 0 < lb.length → D < OB := fun h => by have := hDl h; omega
    have hwO : w2.heap.size ≤ OB := by have := b5.size; omega
    have hv6 := q_rVar_any' D W6 B a5 c5 k2 l2 h6
    have g3 := rdVar_good l2 k2
    obtain ⟨Q3, hQ3⟩ : ∃ Q3, Q3 = Oct.rdVar l2 k2 := ⟨_, rfl⟩
    rw [← hQ3] at hv6 g3
    obtain ⟨v3, l3, k3⟩ := Q3
    have HQ3 := Lib.hid hQ3
    clear h6 hQ3 hW6 H5 b5 hOB hDl hlB hs34 hs45
    refine hv6.mono ?_
    clear hv6
    rintro e w7 ⟨rfl, a7, c7, h7, t7⟩
    simp only at h7 g3
    have b7 : Below w2.heap.size w2 w7 := Below.trans_stay b6 t7 (Nat.le_refl _) (fun k hk e => by omega)
    have hT7 := (t7.block OB (blk_lt hT6) (by omega)).trans hT6
    have hs7 := t7.size
    have H7 := Lib.hid h7
    have HT7 := Lib.hid hT7
    obtain ⟨hl3, hk3⟩ : l3.length ≤ lb.length ∧ (k3 = false → l3.length < lb.length + 1) := ⟨by omega, fun _ => by omega⟩
    obtain ⟨hv3a, hv3b⟩ := g3.1
    have HGO := Lib.hid (And.intro hDO (And.intro hBO hs6))
    clear h7 t7 hT7 hT6 b6 g1 g2 g3 hDO
    go_wp2_with fail
    go_loopw [10] (fun nv wr => ∃ (nn : Int) (f : Nat) (l' : List UInt8) (k' : Bool) (a' : Option Addr) (c' : Nat) (acc : List Int) (rv : Value),
      nv = .int .i64 nn ∧ (-9223372036854775808 ≤ nn ∧ nn ≤ 9223372036854775807) ∧ Hid (IsQ D 267 wr B a' c' k' l') ∧ Hid (wr.heap[OB]? = some (.cells #[.int .i64 v1, rv, .int .i64 v2] 67 (0, 0))) ∧ Hid (wr.ownsRow W6.heap.size 3 1 rv acc.length (iv acc)) ∧ Below w2.heap.size w2 wr ∧ W6.heap.size ≤ wr.heap.size ∧
      acc.length + l'.length ≤ lb.length + (if k' = true then 1 else 0) ∧ (k' = false → l'.length < f) ∧ Hid (Rt.logsF (lb.length + 1) v3 l3 k3 = (acc ++ (Rt.logsF f nn l' k').1, (Rt.logsF f nn l' k').2))) (fun nv _ => (intOf nv).toNat)
    case atStart => exact ⟨v3, lb.length + 1, l3, k3, a7, c7, [], .slice none 0 0, rfl, ⟨hv3a, hv3b⟩, H7, HT7, World.ownsRow_nil _ _ _ _, b7, by omega, by simp only [List.length_nil]; omega, hk3, rfl⟩
    case round =>
      obtain ⟨nn, f, l', k', a', c', acc, rv, rfl, hnn, HRQ, HT, HOW, hb, hsw, hal, hlf, HLG⟩ := hrel
      by_cases hgo : 0 < nn ∧ k' = false
      · obtain ⟨hgo, rfl⟩ := hgo
        simp only [Bool.false_eq_true, if_false, Nat.add_zero] at hal
        obtain ⟨f, rfl⟩ : ∃ f', f = f' + 1 := ⟨f - 1, by have := hlf rfl; omega⟩
        have hlf' := hlf rfl
        have d0 : decide (0 < nn) = true := decide_eq_true hgo
        have hw := wrapi' (nn - 1) (by omega)
        have hlk := lack_any wr B a' c' false l' HRQ.out.r
        obtain ⟨ra, rc, rfl, _⟩ := ownsRow_slice HOW.out
        obtain ⟨m, hm⟩ : ∃ m, m = acc.length := ⟨_, rfl⟩
        have HOW1 : Hid (wr.ownsRow W6.heap.size 3 1 (.slice ra m rc) m (iv acc)) := by rw [hm]; exact HOW
        have HT1 : Hid (wr.heap[OB]? = some (.cells #[.int .i64 v1, .slice ra m rc, .int .i64 v2] 67 (0, 0))) := by rw [hm]; exact HT
        rw [← hm] at hal
        have hmb : m ≤ 1048577 := by omega
        have HM := Lib.hid hm
        have hv := q_rVar_any' D wr.drew B a' c' false l' (HRQ.out.stay rfl (fun _ => rfl))
        have g := rdVar_good l' false
        have hst : Rt.logsF (f + 1) nn l' false = ((Oct.rdVar l' false).1 :: (Rt.logsF f (nn - 1) (Oct.rdVar l' false).2.1 (Oct.rdVar l' false).2.2).1, (Rt.logsF f (nn - 1) (Oct.rdVar l' false).2.1 (Oct.rdVar l' false).2.2).2) := by rw [Rt.logsF, if_pos ⟨hgo, rfl⟩]
        obtain ⟨Q, hQ⟩ : ∃ Q, Q = Oct.rdVar l' false := ⟨_, rfl⟩
        rw [← hQ] at hv g hst
        obtain ⟨z, l4, k4⟩ := Q
        simp only at g hst
        have HST := Lib.hid hst
        have G := Lib.hid g
        have c1 : wr.cell? ⟨OB, 1, none⟩ = some (.slice ra m rc) := blk_cell (i := 1) HT1.out rfl
        have hne := own_ne' HOW1.out HRQ.out.blk (by decide)
        have HNE := Lib.hid hne
        have hltO := blk_lt HT1.out
        have hltB := HRQ.out.lt
        have HLT := Lib.hid (And.intro hltO hltB)
        have HLF := Lib.hid hlf'
        clear hm hQ HOW HT hst g hne hltO hltB hlf hlf'
        go_wp2_with (go_at_call 136; refine hlk.mono ?_; rintro e wq ⟨rfl, hh⟩; obtain rfl := hh)
        clear hlk
        go_region_law (first
          | (refine step_rvar (by rfl) 44 230 (by rfl) (.pointer (some ⟨B, 0, none⟩)) (.int .i64 z) (by rfl) _ hv ?_; rintro w4 ⟨a4, c4, h4, t4⟩; have t4' : TStay (fun k => k = B) wr w4 := ⟨t4.os, t4.tape, t4.output, t4.size, t4.block⟩; have hT4 := Lib.hid ((t4'.block OB HLT.out.1 (fun e => by have := HGO.out.2.1; omega)).trans HT1.out); have ho4 := Lib.hid (ownsRow_stay HOW1.out t4' (fun k hk e => HNE.out (by rw [hk, e]))); have c14 : w4.cell? ⟨OB, 1, none⟩ = some (.slice ra m rc) := blk_cell (i := 1) hT4.out rfl; have hs4 := t4'.size; have c14' : ∀ o, (w4.alloc o).cell? ⟨OB, 1, none⟩ = some (.slice ra m rc) := (fun o => (World.cell?_of_block ((MapKept.heap_alloc w4 o).2 OB (by have := HLT.out.1; omega))).trans c14))
          | (refine step_append_src (by rfl) (.tmp 43) (.tmp 46) 58 (by rfl) W6.heap.size 3 i0 _ 1 8 Tryz.underlying58 hi hz0 hz1 hz2 (by rfl) (by omega) _ m (iv acc) (by rfl) (ho4.out.alloc _) (some ⟨w4.heap.size, 0, none⟩) 1 1 (by rfl) (by intro h; cases h) [.int .i64 z] (src_new w4 _ _) (by intro u hu; simp only [List.mem_singleton] at hu; subst hu; rfl) (by omega) (by omega) (by simp; omega) ?_; intro a5 c5 w5 hown5 hg5; have hT5 := Lib.hid ((hg5.block OB (by have := HLT.out.1; simp; omega) (fun e => by have := (ho4.out.lt OB e.symm).1; have := HGO.out.2.2; omega)).trans (((MapKept.heap_alloc w4 _).2 OB (by have := HLT.out.1; omega)).trans hT4.out)); have c15 : w5.cell? ⟨OB, 1, none⟩ = some (.slice ra m rc) := blk_cell (i := 1) hT5.out rfl; have f15 := blk_free hT5.out 1))
        all_goals
          obtain ⟨W9, hW9⟩ : ∃ W9, W9 = w5.setCell ⟨OB, 1, none⟩ (.slice a5 (m + 1) c5) := ⟨_, rfl⟩
          rw [← hW9]
          have hother : ∀ k, k < w4.heap.size → k ≠ OB → (Value.slice ra m rc).ownBlock ≠ some k → W9.heap[k]? = w4.heap[k]? := fun k h1 h2 h3 => by
            rw [hW9]
            have q1 := ((TStay.refl (fun k => k = OB) w5).setCell (p := ⟨OB, 1, none⟩) (.inl rfl) (.slice a5 (m + 1) c5)).block k (by have := hg5.size; simp at this; omega) h2
            rw [q1]
            exact (hg5.block k (by simp; omega) (fun e => h3 e.symm)).trans ((MapKept.heap_alloc w4 _).2 k h1)
          have hT9 := Lib.hid (show W9.heap[OB]? = some (.cells #[.int .i64 v1, .slice a5 (m + 1) c5, .int .i64 v2] 67 (0, 0)) by rw [hW9]; exact heap_setCell_same w5 OB 1 _ _ _ hT5.out)
          have hQ9 := Lib.hid (h4.stay (hother B h4.lt (by have := HGO.out.2.1; omega) HNE.out) (fun h0 => by
            have hDl := HGO.out.1 (by have := G.out.2.1; simp only at h0; omega)
            have := HGO.out.2
            exact hother D (by have := HLT.out.1; omega) (by omega) (fun e => by have := (ho4.out.lt D e).1; omega)))
          have ho9 := Lib.hid (show W9.ownsRow W6.heap.size 3 1 (.slice a5 (m + 1) c5) (acc ++ [z]).length (iv (acc ++ [z])) by
            rw [hW9, iv_app, List.length_append, ← show m = _ from HM.out]
            exact ownsRow_setCell_below hown5 (by show OB < _; omega) _)
          have b4' : Below w2.heap.size w2 w4 := Below.trans_stay hb t4' (Nat.le_refl _) (fun k hk e => by omega)
          have b9 : Below w2.heap.size w2 W9 := by
            rw [hW9]
            exact ((b4'.alloc b4'.size _).grown hg5 (by have := b4'.size; simp; omega) (fun j hj => by have := (ho4.out.lt j hj).1; omega)).setCell hwO _
          have hs9 : W6.heap.size ≤ W9.heap.size := by rw [hW9]; have := hg5.size; simp at this ⊢; omega
          have hlg9 := Lib.hid (show Rt.logsF (lb.length + 1) v3 l3 k3 = ((acc ++ [z]) ++ (Rt.logsF f (nn - 1) l4 k4).1, (Rt.logsF f (nn - 1) l4 k4).2) by
            rw [show Rt.logsF (lb.length + 1) v3 l3 k3 = _ from HLG, HST.out]; simp)
          obtain ⟨_, hg2, hg3⟩ := G.out
          have hal9 : (acc ++ [z]).length + l4.length ≤ lb.length + (if k4 = true then 1 else 0) := by
            rw [List.length_append, ← show m = _ from HM.out]
            simp only [List.length_cons, List.length_nil]
            cases k4 with
            | true => rw [if_pos rfl]; omega
            | false => have := hg3 rfl; rw [if_neg (by simp)]; omega
          have hlf9 : k4 = false → l4.length < f := fun e => by have := hg3 e; have := HLF.out; omega
          have HA9 := Lib.hid hal9
          have HLF9 := Lib.hid hlf9
          clear hother hg2 hg3 hal9 hlf9 hown5 hg5 b4' t4' t4 h4 c14 c14' c15 f15 hW9 hv c1
          go_wp2
          go_roundw
          case rel => exact ⟨nn - 1, f, l4, k4, a4, c4, acc ++ [z], _, by go_num, ⟨by omega, by omega⟩, hQ9, hT9, ho9, b9, hs9, HA9.out, HLF9.out, hlg9⟩
          case measure => simp [intOf]; omega
      · have hout : Rt.logsF f nn l' k' = ([], k') := by
          cases f with
          | zero => rfl
          | succ f => rw [Rt.logsF, if_neg hgo]
        have htot : Rt.logsF (lb.length + 1) v3 l3 k3 = (acc, k') := by rw [show Rt.logsF (lb.length + 1) v3 l3 k3 = _ from HLG, hout, List.append_nil]
        have hun : Rt.unlay lb = ⟨v1, acc, v2⟩ := by
          have e1 : Rt.q1 lb = (v1, l1, k1) := HQ1.out.symm
          have e2 : Rt.q2 lb = (v2, l2, k2) := by unfold Rt.q2; rw [e1]; exact HQ2.out.symm
          have e3 : Rt.q3 lb = (v3, l3, k3) := by unfold Rt.q3; rw [e2]; exact HQ3.out.symm
          unfold Rt.unlay
          rw [e3, e1, e2]
          simp only
          rw [htot]
        have hread : Rt.read l = if Rt.may ⟨v1, acc, v2⟩ = true ∧ Rt.lay ⟨v1, acc, v2⟩ = l then .ok ⟨v1, acc, v2⟩ else .error 2 := by
          unfold Rt.read
          rw [HQ.out]
          simp only
          rw [hun]
        have HRD := Lib.hid hread
        obtain ⟨ra, rc, rfl, _⟩ := ownsRow_slice HOW.out
        obtain ⟨m, hm⟩ : ∃ m, m = acc.length := ⟨_, rfl⟩
        have HOW1 : Hid (wr.ownsRow W6.heap.size 3 1 (.slice ra m rc) m (iv acc)) := by rw [hm]; exact HOW
        have HT1 : Hid (wr.heap[OB]? = some (.cells #[.int .i64 v1, .slice ra m rc, .int .i64 v2] 67 (0, 0))) := by rw [hm]; exact HT
        have hmb : m ≤ 2097152 := by
          rw [hm]
          have h1 : acc.length + l'.length ≤ lb.length + 1 := by
            split at hal <;> omega
          omega
        have HM := Lib.hid hm
        have hltO := blk_lt HT1.out
        have c0 : wr.cell? ⟨OB, 0, none⟩ = some (.int .i64 v1) := blk_cell (i := 0) HT1.out rfl
        have c1 : wr.cell? ⟨OB, 1, none⟩ = some (.slice ra m rc) := blk_cell (i := 1) HT1.out rfl
        have c2 : wr.cell? ⟨OB, 2, none⟩ = some (.int .i64 v2) := blk_cell (i := 2) HT1.out rfl
        have hlay := rtLay_any wr ⟨v1, acc, v2⟩ ra m rc (Ints.of_own HOW1.out) hmb
        have hlk := lack_any wr B a' c' k' l' HRQ.out.r
        have bw := bw2.trans (hb.mono bw2.size)
        have hTR := Lib.hid ((hb.block w.heap.size hsz2).trans HT2.out)
        have hways : decide (0 < nn) = false ∨ (decide (0 < nn) = true ∧ k' = true) := by
          by_cases h : 0 < nn
          · exact .inr ⟨decide_eq_true h, by cases k' with | true => rfl | false => exact absurd ⟨h, rfl⟩ hgo⟩
          · exact .inl (decide_eq_false h)
        clear hm HOW HT hread hun htot hout HLG hgo hlf hal HRQ
        rcases hways with d0 | ⟨d0, rfl⟩
        all_goals
          go_wp2_with (go_at_call 136; refine hlk.mono ?_; rintro e wq ⟨rfl, hh⟩; obtain rfl := hh)
          refine hlay.mono ?_
          clear hlay hlk
          rintro e w8 ⟨hb8, hla⟩
          have bw8 := bw.trans (hb8.mono bw.size)
          have hTR8 := Lib.hid ((hb8.block w.heap.size (by have := hb.size; omega)).trans hTR.out)
          have hTO8 := Lib.hid ((hb8.block OB hltO).trans HT1.out)
          have hrow8 := Lib.hid (own_blw HOW1.out hb8)
          have r0 : w8.cell? ⟨w.heap.size, 0, none⟩ = some (.int .i64 0) := blk_cell (i := 0) hTR8.out rfl
          have r1 : w8.cell? ⟨w.heap.size, 1, none⟩ = some (.slice none 0 0) := blk_cell (i := 1) hTR8.out rfl
          have r2 : w8.cell? ⟨w.heap.size, 2, none⟩ = some (.int .i64 0) := blk_cell (i := 2) hTR8.out rfl
          have e0 := blk_free hTR8.out 0
          have e1 := blk_free hTR8.out 1
          have e2 := blk_free hTR8.out 2
          by_cases hmay : Rt.may ⟨v1, acc, v2⟩ = true
          · rw [if_pos hmay] at hla
            obtain ⟨v8, rfl, ho8⟩ := hla
            obtain ⟨a8, c8, rfl, _⟩ := ownsRow_slice ho8
            have hll := Rt.lay_length _ hmay
            have hr8 : Rds w8 a n l := HR.out.below bw8 (fun h0 b o e => by subst e; exact HR.out.lt h0)
            have heq := equal_any w8 a8 _ c8 _ (Rds.of_own ho8 rfl) a n c l hr8 (by omega) (by omega)
            have HMAY := Lib.hid hmay
            clear ho8 hb8 c0 c1 c2 hll hr8 hmay
            go_wp2_with fail
            refine heq.mono ?_
            clear heq
            rintro e w9 ⟨rfl, hb9⟩
            have bw9 := bw8.trans (hb9.mono bw8.size)
            have hTR9 := Lib.hid ((hb9.block w.heap.size (blk_lt hTR8.out)).trans hTR8.out)
            have hTO9 := Lib.hid ((hb9.block OB (blk_lt hTO8.out)).trans hTO8.out)
            have hrow9 := Lib.hid (own_blw hrow8.out hb9)
            have r0 : w9.cell? ⟨w.heap.size, 0, none⟩ = some (.int .i64 0) := blk_cell (i := 0) hTR9.out rfl
            have r1 : w9.cell? ⟨w.heap.size, 1, none⟩ = some (.slice none 0 0) := blk_cell (i := 1) hTR9.out rfl
            have r2 : w9.cell? ⟨w.heap.size, 2, none⟩ = some (.int .i64 0) := blk_cell (i := 2) hTR9.out rfl
            have e0 := blk_free hTR9.out 0
            have e1 := blk_free hTR9.out 1
            have e2 := blk_free hTR9.out 2
            have c0 : w9.cell? ⟨OB, 0, none⟩ = some (.int .i64 v1) := blk_cell (i := 0) hTO9.out rfl
            have c1 : w9.cell? ⟨OB, 1, none⟩ = some (.slice ra m rc) := blk_cell (i := 1) hTO9.out rfl
            have c2 : w9.cell? ⟨OB, 2, none⟩ = some (.int .i64 v2) := blk_cell (i := 2) hTO9.out rfl
            by_cases hly : Rt.lay ⟨v1, acc, v2⟩ = l
            · have hfin : Rt.read l = .ok ⟨v1, acc, v2⟩ := by rw [HRD.out, if_pos ⟨HMAY.out, hly⟩]
              have hm8 : m ≤ 8 := by have := ((Rt.may_iff _).1 HMAY.out).2.2.2; simp only at this; have := HM.out; omega
              have HFI := Lib.hid hfin
              rw [decide_eq_true hly]
              clear hfin hb9 hly
              go_wp2
              (try simp only [Exit.inBlock, Exit.then])
              refine bodyPost_ret (ret_root (by rfl) (by rfl) (set3 hTR9.out _ _ _)) rfl ⟨((bw9.setCell (Nat.le_refl _) _).setCell (Nat.le_refl _) _).setCell (Nat.le_refl _) _, ?_⟩
              rw [HFI.out]
              refine ⟨ra, m, rc, rfl, ?_, hm8⟩
              have hwW : w.heap.size < W6.heap.size := by omega
              exact ownsRow_base (ownsRow_setCell_below (ownsRow_setCell_below (ownsRow_setCell_below hrow9.out hwW _) hwW _) hwW _) (by omega)
            · have hfin : Rt.read l = .error 2 := by rw [HRD.out, if_neg (fun h => hly h.2)]
              have HFI := Lib.hid hfin
              rw [decide_eq_false hly]
              clear hfin hb9 hly
              go_wp2
              (try simp only [Exit.inBlock, Exit.then])
              refine bodyPost_ret (ret_root (by rfl) (by rfl) (set3 hTR9.out _ _ _)) rfl ⟨((bw9.setCell (Nat.le_refl _) _).setCell (Nat.le_refl _) _).setCell (Nat.le_refl _) _, ?_⟩
              rw [HFI.out]
              rfl
          · rw [if_neg hmay] at hla
            subst hla
            have hfin : Rt.read l = .error 2 := by rw [HRD.out, if_neg (fun h => hmay h.1)]
            have HFI := Lib.hid hfin
            clear hfin hb8 c0 c1 c2
            go_wp2
            (try simp only [Exit.inBlock, Exit.then])
            refine bodyPost_ret (ret_root (by rfl) (by rfl) (set3 hTR8.out _ _ _)) rfl ⟨((bw8.setCell (Nat.le_refl _) _).setCell (Nat.le_refl _) _).setCell (Nat.le_refl _) _, ?_⟩
            rw [HFI.out]
            rfl
end Go.Proofs.YtggdbdjaobgeeaaGreatDoor
