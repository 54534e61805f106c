/- log.scan: what it answers. -/
import Derived.Test.YtkalpkmnelgieaaGreatDoorLogSt
import Derived.Test.YtkalpkmnelgieaaGreatDoorNext
namespace Go.Proofs.YtkalpkmnelgieaaGreatDoor
open Go.RowKit Go.Tap Go.Maps
set_option linter.unusedVariables false
attribute [local go_sem ↓] Go.wp_at_zero Go.wp_at_succ

theorem infoRec : (Tryz.prog.info? 104).map (fun i => (i.zero, i.size, i.bytes)) = some (some (.agg #[.int .i64 0, .slice none 0 0, .int .i64 0]), 3, 40) := by kernel_rfl
/-- One record appended to a row of them. -/
theorem run_append_rec {w : World} {lo : Nat} {v : Value} {n : Nat} {xs : List Value} (h : RRow w lo v n xs) (hlo : lo ≤ w.heap.size) (ty : TypeId) (BB c : Nat) (cs : Array Value) (hb : w.heap[BB]? = some (.cells cs 104 (0, 0))) (hcs : cs.toList.length = 3)
    (h1 : ∀ u ∈ cs.toList, u.oneCell' = true) (hn : n ≤ 1073741824) :
    ∃ a' c' w', (Builtin.append_ #[93, 93] ty #[v, .slice (some ⟨BB, 0, none⟩) 1 c]).run Tryz.prog w = .ok (.slice a' (n + 1) c') w' ∧ w'.ownsRow lo 104 3 (.slice a' (n + 1) c') (n + 1) (xs ++ cs.toList) ∧ w.grownBy w' v.ownBlock := by
  obtain ⟨i, hi, hz, hs, hby⟩ := info_parts infoRec
  have hnews : ∀ j u, cs.toList[j]? = some u → w.cell? ((⟨BB, 0, none⟩ : Addr).add j) = some u := World.news_of_block hb
  rcases h with h | ⟨g, cur, rfl, hg1, hg2, hg3, hg4, hg5⟩
  · obtain ⟨v', w', hr, h2, h3, h4⟩ := run_append_own (P := Tryz.prog) w lo 93 ty 104 i _ 3 40 Tryz.underlying93 hi hz hs hby rfl (by omega) v n xs h ⟨BB, 0, none⟩ 1 c cs.toList (by omega) hnews h1 (by unfold maxLen; omega) (by omega) hlo
    rcases h2.2 with ⟨_, e⟩ | ⟨g, cap, cur, rfl, _⟩
    · omega
    · exact ⟨_, _, w', hr, h2, h3⟩
  · have hr := run_append_grow (P := Tryz.prog) w 93 ty 104 i _ Tryz.underlying93 hi hz ⟨g, 0, none⟩ n n xs (by rw [hs]; exact hg3) (RRow.cells (lo := lo) (.inr ⟨g, cur, rfl, hg1, hg2, hg3, hg4, hg5⟩) rfl) ⟨BB, 0, none⟩ 1 c cs.toList (by rw [hs]; omega) hnews (by omega) (by omega) (growslice_fits (by omega) (by rw [hby]; omega))
    have hge := grownCap_ge w (n + 1) n 104
    have hcm : grownCap w (n + 1) n 104 ≤ maxLen := grownCap_le_maxLen w (n + 1) n 104 (by unfold maxLen; omega)
    have hlen : (xs ++ cs.toList).length = (n + 1) * 3 := by rw [List.length_append, hg3, hcs]; omega
    refine ⟨_, _, _, hr, ⟨hlen, .inr ⟨w.heap.size, _, _, rfl, hlo, heap_alloc_new w.drew _, hge, hcm, ?_, ?_⟩⟩, ⟨rfl, rfl, rfl, by simp, fun k hk _ => (MapKept.heap_alloc w.drew _).2 k hk⟩⟩
    · have hs3 : (#[Value.int IntKind.i64 0, Value.slice none 0 0, Value.int IntKind.i64 0] : Array Value).size = 3 := rfl
      simp only [Array.size_append, List.size_toArray, size_zeroCells, hg3, hcs]
      show n * 3 + 3 + (grownCap w (n + 1) n 104 - (n + 1)) * 3 = _
      omega
    · simp only [Array.toList_append, List.append_assoc]
      rw [← List.append_assoc, ← hlen]
      exact List.take_left
theorem wpList_append_rec {w : World} {ops : Array Oper} {rest : List Oper} {o : Oper} {a : Act} {Q : Exit → Act → World → Prop} (hgd : o.guard = none) (s x : Operand)
    (ho : o.op = .call { callee := .builtin .append, args := #[s, x], argTypes := #[93, 93] })
    (lo : Nat) (v : Value) (n : Nat) (xs : List Value) (hs : a.eval s = v) (h : RRow w lo v n xs) (hlo : lo ≤ w.heap.size) (BB c : Nat) (hx : a.eval x = .slice (some ⟨BB, 0, none⟩) 1 c) (cs : Array Value) (hb : w.heap[BB]? = some (.cells cs 104 (0, 0))) (hcs : cs.toList.length = 3)
    (h1 : ∀ u ∈ cs.toList, u.oneCell' = true) (hn : n ≤ 1073741824)
    (hK : ∀ a' c' w', w'.ownsRow lo 104 3 (.slice a' (n + 1) c') (n + 1) (xs ++ cs.toList) → w.grownBy w' v.ownBlock → wpList Tryz.prog ops Q rest (a.put o.dst (.slice a' (n + 1) c')) w') : wpList Tryz.prog ops Q (o :: rest) a w := by
  refine wpList_plain hgd fun K hK' => ?_
  obtain ⟨a', c', w', hrun, h2, h3⟩ := run_append_rec h hlo o.type BB c cs hb hcs h1 hn
  unfold Oper.wp execOp
  simp only [ho, resolve, invoke, builtin, Sem.run_bind, Sem.run_pure, Result.andThen_ok, List.map_toArray, List.map_cons, List.map_nil, hs, hx, hrun]
  exact hK' _ _ (hK a' c' w' h2 h3)
theorem step_append_rec {w : World} {ops : Array Oper} {o : Oper} {a : Act} {K : Act → World → Prop} {Q : Exit → Act → World → Prop} {E : Prop} (hgd : o.guard = none) (s x : Operand)
    (ho : o.op = .call { callee := .builtin .append, args := #[s, x], argTypes := #[93, 93] })
    (lo : Nat) (v : Value) (n : Nat) (xs : List Value) (hs : a.eval s = v) (h : RRow w lo v n xs) (hlo : lo ≤ w.heap.size) (BB c : Nat) (hx : a.eval x = .slice (some ⟨BB, 0, none⟩) 1 c) (cs : Array Value) (hb : w.heap[BB]? = some (.cells cs 104 (0, 0))) (hcs : cs.toList.length = 3)
    (h1 : ∀ u ∈ cs.toList, u.oneCell' = true) (hn : n ≤ 1073741824)
    (hK : ∀ a' c' w', w'.ownsRow lo 104 3 (.slice a' (n + 1) c') (n + 1) (xs ++ cs.toList) → w.grownBy w' v.ownBlock → K (a.put o.dst (.slice a' (n + 1) c')) w') : if Region.wanted o (yielded ops a.tmps) = true then Oper.wp Tryz.prog o a w K Q else E := by
  have hw : Region.wanted o (yielded ops a.tmps) = true := by simp [Region.wanted, hgd]
  rw [if_pos hw]
  obtain ⟨a', c', w', hrun, h2, h3⟩ := run_append_rec h hlo o.type BB c cs hb hcs h1 hn
  unfold Oper.wp execOp
  simp only [ho, resolve, invoke, builtin, Sem.run_bind, Sem.run_pure, Result.andThen_ok, List.map_toArray, List.map_cons, List.map_nil, hs, hx, hrun]
  exact hK a' c' w' h2 h3
theorem recs_snoc {w : World} {lo : Nat} {v : Value} {ps : List Rp} {x : Rec} {a : Option Addr} {c : Nat} (h2 : ∀ p ∈ ps, Keeps w p.a p.x.body.length p.c p.x.body) (hk : Keeps w a x.body.length c x.body)
    (ho : w.ownsRow lo 104 3 v (ps.length + 1) (ps.flatMap Rp.cells ++ (Rp.mk x a c).cells)) : RecsIs w lo v (ps.map Rp.x ++ [x]) := by
  refine ⟨ps ++ [⟨x, a, c⟩], by rw [List.map_append]; rfl, fun p hp => ?_, .inl ?_⟩
  · rcases List.mem_append.1 hp with h1 | h1
    · exact h2 p h1
    · simp only [List.mem_singleton] at h1; subst h1; exact hk
  · rw [List.length_append, List.flatMap_append]
    have e1 : List.flatMap Rp.cells [(⟨x, a, c⟩ : Rp)] = (Rp.mk x a c).cells := by simp
    rw [e1]
    exact ho

/-! The plain law. -/
def scanG : Nat → List UInt8 → Nat → List Rec × Nat
  | 0, _, _ => ([], 0)
  | f + 1, l, at_ => if l = [] then ([], 0) else match nxt l with
    | .error k => ([], k)
    | .ok q => (⟨q.1, q.2.1, at_ + q.2.2⟩ :: (scanG f (l.drop q.2.2) (at_ + q.2.2)).1, (scanG f (l.drop q.2.2) (at_ + q.2.2)).2)
def scanF (l : List UInt8) : List Rec × Nat := scanG (l.length + 1) l 0
set_option maxHeartbeats 4000000 in
set_option maxRecDepth 100000 in
theorem scan_any (w : World) (a : Option Addr) (n c : Nat) (l : List UInt8) (hr : Rds w a n l) (hnc : n ≤ c) (hz : a = none → c = 0) (hn : n ≤ 16777216) :
    Calls Tryz.prog 36 #[.slice a n c] w fun e w' => ∃ rv, e = .returned (.tuple #[rv, errv (scanF l).2]) ∧ RecsIs w' w.heap.size rv (scanF l).1 ∧ Below w.heap.size w w' := by
  have hl := hr.1
  have HR := Lib.hid hr
  have HN := Lib.hid (And.intro hnc hz)
  clear hr hz
  go_enter Tryz.func36, Tryz.ntmps36
  go_wp2_with fail
  go_loopw [4, 5] (fun ov ev wr => ∃ (at_ f : Nat) (rs : List Rec), ev = .int .i64 (at_ : Int) ∧ at_ ≤ n ∧ rs.length * 9 ≤ at_ ∧ Hid (RecsIs wr w.heap.size ov rs) ∧ Below w.heap.size w wr ∧ n - at_ < f ∧ Hid (scanF l = (rs ++ (scanG f (l.drop at_) at_).1, (scanG f (l.drop at_) at_).2))) (fun _ ev _ => n - (intOf ev).toNat)
  case atStart => exact ⟨0, l.length + 1, [], rfl, Nat.zero_le _, Nat.le_refl _, RecsIs.nil _ _, Below.refl _ _, by omega, by show scanF l = _; rw [List.drop_zero]; rfl⟩
  case round =>
    obtain ⟨at_, f, rs, rfl, hat, hrs, HRS, hb, hf, HSC⟩ := hrel
    obtain ⟨f, rfl⟩ : ∃ f', f = f' + 1 := ⟨f - 1, by omega⟩
    by_cases hend : at_ < n
    · have d0 : decide ((at_ : Int) < (n : Int)) = true := decide_eq_true (by omega)
      have d0' : decide (at_ < n) = true := decide_eq_true hend
      have hne : l.drop at_ ≠ [] := fun e => by have := congrArg List.length e; rw [List.length_drop] at this; simp at this; omega
      have hq0 : (0 : Int) ≤ (at_ : Int) := by omega
      have hq1 : (at_ : Int) ≤ (n : Int) := by omega
      have hq2 : at_ ≤ n := hat
      obtain ⟨b, o, rfl, _⟩ := HR.out.2 (by omega)
      have hrd := HR.out.drop (k := at_) hat hnc
      rw [if_neg (by omega)] at hrd
      have hrd2 : Rds wr (some ⟨b, o + at_, none⟩) (n - at_) (l.drop at_) := Rds.below (B := w.heap.size) (w := w) (by simpa [Addr.add_lit] using hrd) hb (fun h0 b' o' e => by simp only [Option.some.injEq, Addr.mk.injEq] at e; have := HR.out.lt (by omega); omega)
      have hce : (c == at_) = false := beq_eq_false_iff_ne.2 (by omega)
      have hce' : ¬ c = at_ := by omega
      have hce2 : decide (c = at_) = false := decide_eq_false hce'
      have hnx := next_any wr (some ⟨b, o + at_, none⟩) (n - at_) (c - at_) (l.drop at_) hrd2 (by omega) (by intro h; cases h) (by omega)
      have HRD := Lib.hid hrd2
      clear hrd hrd2
      go_wp2_with fail
      refine hnx.mono ?_
      clear hnx
      cases hq : nxt (l.drop at_) with
      | error k =>
        rintro e w3 ⟨hb3, rfl⟩
        have hfin : scanF l = (rs, k) := by rw [show scanF l = _ from HSC.out, scanG, if_neg hne, hq]; simp
        have HRS3 := Lib.hid (HRS.out.stay (KeepU.below hb3 (Nat.le_refl _)) (fun k' e => by
          obtain ⟨ps, _, _, h4⟩ := HRS.out
          obtain ⟨_, _, _, _, _, h5⟩ := h4.form
          obtain ⟨_, _, cur, hc⟩ := h5 k' e
          exact hb3.block k' (blk_lt hc)))
        have b3 := hb.trans (hb3.mono hb.size)
        have hk0 : k ≠ 0 := by
          intro e; subst e
          unfold nxt at hq
          split at hq
          · simp at hq
          · split at hq
            · simp at hq
            · split at hq
              · simp at hq
              · split at hq
                · simp at hq
                · cases hq
        have HFIN := Lib.hid hfin
        have HK0 := Lib.hid hk0
        clear hq hfin hk0 hb3 hne HRS HSC
        go_wp2
        go_ret2
        have e1 : errv (scanF l).2 = .iface 35 (.int .i64 (k : Int)) := by rw [HFIN.out]; exact if_neg HK0.out
        have e2 := HRS3.out
        rw [show rs = (scanF l).1 by rw [HFIN.out]] at e2
        rw [e1]
        exact ⟨_, rfl, e2, b3⟩
      | ok q =>
        rintro e w3 ⟨hb3, v3, rfl, ho3⟩
        obtain ⟨x3, y3, rfl, _⟩ := ownsRow_slice ho3
        obtain ⟨hsz, hsl, hk256⟩ := nxt_ok hq
        rw [List.length_drop, hl] at hsl
        have KB := Keeps.of_own ho3 rfl
        have HRS3 := HRS.out.stay (KeepU.below hb3 (Nat.le_refl _)) (fun k' e => by
          obtain ⟨ps, _, _, h4⟩ := HRS.out
          obtain ⟨_, _, _, _, _, h5⟩ := h4.form
          obtain ⟨_, _, cur, hc⟩ := h5 k' e
          exact hb3.block k' (blk_lt hc))
        have b3 := hb.trans (hb3.mono hb.size)
        have hnew : scanF l = ((rs ++ [⟨q.1, q.2.1, at_ + q.2.2⟩]) ++ (scanG f (l.drop (at_ + q.2.2)) (at_ + q.2.2)).1, (scanG f (l.drop (at_ + q.2.2)) (at_ + q.2.2)).2) := by
          rw [show scanF l = _ from HSC.out, scanG, if_neg hne, hq]
          simp [List.drop_drop]
        obtain ⟨ps, hps, hpk, hpr⟩ := HRS3
        obtain ⟨ra, rc, rfl, _, _, hrb⟩ := hpr.form
        obtain ⟨q1, q2, q3⟩ := q
        simp only at hsz hsl hk256 hnew KB ho3
        have hq9 : 9 ≤ q3 := by omega
        obtain ⟨E, hE⟩ : ∃ E, E = at_ + q3 := ⟨_, rfl⟩
        have hwe : IntKind.i64.wrap ((at_ : Int) + (q3 : Int)) = (E : Int) := by rw [hE]; push_cast; exact wrapi' _ (by omega)
        rw [← hE] at hnew
        have HE := Lib.hid hE
        have hEn : E ≤ n := by omega
        have hpl : ps.length * 9 ≤ at_ := by rw [← hps, List.length_map] at hrs; exact hrs
        have HNEW := Lib.hid hnew
        have HPK := Lib.hid hpk
        have HPR := Lib.hid hpr
        have HPS := Lib.hid hps
        have HKB := Lib.hid KB
        have hsz3 := b3.size
        clear hq hnew hpk hpr hps KB ho3 hb3 hne HRS HSC HRD hrs hE hsl hsz
        go_wp2_with (at_builtin; refine wpList_append_rec rfl (.tmp 30) (.tmp 35) rfl w.heap.size _ ps.length _ rfl (HPR.out.stay (w' := w3.alloc (.cells (Rp.mk ⟨q1, q2, E⟩ x3 y3).cells.toArray 104)) (fun k' e => by obtain ⟨_, _, cur, hc⟩ := hrb k' e; exact (MapKept.heap_alloc w3 _).2 k' (blk_lt hc))) (by simp; omega) w3.heap.size 1 rfl (Rp.mk ⟨q1, q2, E⟩ x3 y3).cells.toArray (heap_alloc_new w3 _) rfl (by simp [Rp.cells, Value.oneCell']) (by omega) ?_)
        intro a5 c5 w5 ho5 hg5
        have hk5 : KeepU w3 w5 := (KeepU.alloc w3 _).trans (KeepU.grown hg5 (fun k' xs' fr e hx => by
          obtain ⟨_, _, cur, hc⟩ := hrb k' e
          rw [(MapKept.heap_alloc w3 _).2 k' (blk_lt hc), hc] at hx
          simp at hx))
        have b5 : Below w.heap.size w w5 := (b3.alloc hsz3 _).grown hg5 (by simp; omega) (fun j hj => (hrb j hj).2.1)
        have hrec : RecsIs w5 w.heap.size (.slice a5 (ps.length + 1) c5) (rs ++ [⟨q1, q2, E⟩]) := by
          rw [← show _ = rs from HPS.out]
          exact recs_snoc (fun p hp => (HPK.out p hp).stay hk5) (HKB.out.stay hk5) ho5
        have HREC := Lib.hid hrec
        clear ho5 hg5 hk5 hrec
        go_wp2
        go_roundw
        case rel =>
          have hEE : E = at_ + q3 := HE.out
          exact ⟨E, f, rs ++ [⟨q1, q2, E⟩], rfl, hEn, by rw [List.length_append]; simp only [List.length_singleton]; have := congrArg List.length (show _ = rs from HPS.out); rw [List.length_map] at this; have := HE.out; omega, HREC, b5, by have := HE.out; omega, HNEW⟩
        case measure => have hEE : E = at_ + q3 := HE.out; first | (simp [intOf]; omega) | omega
    · obtain rfl : at_ = n := by omega
      have d0 : decide ((at_ : Int) < (at_ : Int)) = false := decide_eq_false (by omega)
      have hnil : l.drop at_ = [] := List.drop_eq_nil_of_le (by omega)
      have hfin : scanF l = (rs, 0) := by rw [show scanF l = _ from HSC.out, scanG, if_pos hnil]; simp
      have HFIN := Lib.hid hfin
      clear hfin hnil HSC
      go_wp2
      go_ret2
      have e1 : errv (scanF l).2 = .nilIface := by rw [HFIN.out]; rfl
      have e2 := HRS.out
      rw [show rs = (scanF l).1 by rw [HFIN.out]] at e2
      rw [e1]
      exact ⟨_, rfl, e2, hb⟩
end Go.Proofs.YtkalpkmnelgieaaGreatDoor
