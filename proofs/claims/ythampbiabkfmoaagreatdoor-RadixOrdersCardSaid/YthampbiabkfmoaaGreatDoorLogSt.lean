/- A log as it stands in memory; Length, Count, Record. -/
import Derived.Test.YthampbiabkfmoaaGreatDoorDskKn
import Derived.Test.YthampbiabkfmoaaGreatDoorNext
namespace Go.Proofs.YthampbiabkfmoaaGreatDoor
open Go.RowKit Go.Tap Go.Maps
set_option linter.unusedVariables false
attribute [local go_sem ↓] Go.wp_at_zero Go.wp_at_succ

/-- A record of a log. -/
structure Rec where
  kind : Nat
  body : List UInt8
  fin : Nat
structure Rp where
  x : Rec
  a : Option Addr
  c : Nat
def Rp.cells (p : Rp) : List Value := [.int .i64 (p.x.kind : Int), .slice p.a p.x.body.length p.c, .int .i64 (p.x.fin : Int)]
/-- A row of records that may be read, and be appended to. -/
def RRow (w : World) (lo : Nat) (v : Value) (n : Nat) (xs : List Value) : Prop :=
  w.ownsRow lo 103 3 v n xs ∨ ∃ g cur, v = .slice (some ⟨g, 0, none⟩) n n ∧ lo ≤ g ∧ w.heap[g]? = some (.cells cur 103 (0, 0)) ∧ xs.length = n * 3 ∧ cur.toList.take (n * 3) = xs ∧ n ≤ maxLen
def RecsIs (w : World) (lo : Nat) (v : Value) (l : List Rec) : Prop :=
  ∃ ps : List Rp, ps.map Rp.x = l ∧ (∀ p ∈ ps, Keeps w p.a p.x.body.length p.c p.x.body) ∧ RRow w lo v ps.length (ps.flatMap Rp.cells)
theorem RecsIs.nil (w : World) (lo : Nat) : RecsIs w lo (.slice none 0 0) [] := ⟨[], rfl, by simp, .inl (World.ownsRow_nil _ _ _ _)⟩
theorem RRow.form {w : World} {lo : Nat} {v : Value} {n : Nat} {xs : List Value} (h : RRow w lo v n xs) : ∃ a c, v = .slice a n c ∧ n ≤ c ∧ (a = none → c = 0) ∧ (∀ g, v.ownBlock = some g → a = some ⟨g, 0, none⟩ ∧ lo ≤ g ∧ ∃ cur, w.heap[g]? = some (.cells cur 103 (0, 0))) := by
  rcases h with h | ⟨g, cur, rfl, h1, h2, _⟩
  · rcases h.2 with ⟨rfl, rfl⟩ | ⟨g, cap, cur, rfl, hb, hg, h1, _⟩
    · exact ⟨none, 0, rfl, Nat.le_refl _, fun _ => rfl, fun g e => by simp [Value.ownBlock] at e⟩
    · exact ⟨_, _, rfl, h1, (by intro e; cases e), fun g' e => by simp [Value.ownBlock] at e; subst e; exact ⟨rfl, hb, cur, hg⟩⟩
  · exact ⟨_, _, rfl, Nat.le_refl _, (by intro e; cases e), fun g' e => by simp [Value.ownBlock] at e; subst e; exact ⟨rfl, h1, cur, h2⟩⟩
theorem RRow.stay {w w' : World} {lo : Nat} {v : Value} {n : Nat} {xs : List Value} (h : RRow w lo v n xs) (hb : ∀ k, v.ownBlock = some k → w'.heap[k]? = w.heap[k]?) : RRow w' lo v n xs := by
  rcases h with h | ⟨g, cur, rfl, h1, h2, h3⟩
  · left
    refine ⟨h.1, ?_⟩
    rcases h.2 with hn | ⟨g, cap, cur, rfl, hb', hg, r⟩
    · exact .inl hn
    · exact .inr ⟨g, cap, cur, rfl, hb', (hb g rfl).trans hg, r⟩
  · exact .inr ⟨g, cur, rfl, h1, (hb g rfl).trans h2, h3⟩
theorem RRow.cells {w : World} {lo : Nat} {v : Value} {n g : Nat} {xs : List Value} (h : RRow w lo v n xs) (hg : v.ownBlock = some g) : ∀ j u, xs[j]? = some u → w.cell? ((⟨g, 0, none⟩ : Addr).add j) = some u := by
  rcases h with h | ⟨g', cur, rfl, h1, h2, h3, h4, _⟩
  · exact h.cells hg
  · intro j u hj
    simp [Value.ownBlock] at hg
    subst hg
    rw [Addr.add_lit, Nat.zero_add]
    have hl : j < xs.length := (List.getElem?_eq_some_iff.1 hj).1
    rw [← h4, List.getElem?_take_of_lt (by omega)] at hj
    rw [cell_of_row w g' j cur _ _ h2]
    simpa using hj
theorem RecsIs.stay {w w' : World} {lo : Nat} {v : Value} {l : List Rec} (h : RecsIs w lo v l) (hk : KeepU w w') (hb : ∀ k, v.ownBlock = some k → w'.heap[k]? = w.heap[k]?) : RecsIs w' lo v l := by
  obtain ⟨ps, h1, h2, h3⟩ := h
  exact ⟨ps, h1, fun p hp => (h2 p hp).stay hk, h3.stay hb⟩
theorem flat3 : ∀ (ps : List Rp) (j i : Nat) (p : Rp), ps[j]? = some p → i < 3 → (ps.flatMap Rp.cells)[j * 3 + i]? = p.cells[i]?
  | [], j, i, p, h, _ => by simp at h
  | u :: r, 0, i, p, h, hi => by
    simp at h; subst h
    rw [List.flatMap_cons, Nat.zero_mul, Nat.zero_add, List.getElem?_append_left (by simpa [Rp.cells] using hi)]
  | u :: r, j + 1, i, p, h, hi => by
    have := flat3 r j i p (by simpa using h) hi
    rw [List.flatMap_cons, List.getElem?_append_right (by simp [Rp.cells]; omega), ← this]
    congr 1
    simp [Rp.cells]; omega
theorem RecsIs.elem {w : World} {lo : Nat} {v : Value} {l : List Rec} (h : RecsIs w lo v l) {j : Nat} {x : Rec} (hj : l[j]? = some x) :
    ∃ g cap a c, v = .slice (some ⟨g, 0, none⟩) l.length cap ∧ Keeps w a x.body.length c x.body ∧
      w.cell? ⟨g, j * 3, none⟩ = some (.int .i64 (x.kind : Int)) ∧ w.cell? ⟨g, j * 3 + 1, none⟩ = some (.slice a x.body.length c) ∧ w.cell? ⟨g, j * 3 + 2, none⟩ = some (.int .i64 (x.fin : Int)) := by
  obtain ⟨ps, rfl, h2, h3⟩ := h
  rw [List.getElem?_map, Option.map_eq_some_iff] at hj
  obtain ⟨p, hp, rfl⟩ := hj
  have hlt : j < ps.length := (List.getElem?_eq_some_iff.1 hp).1
  have hform : ∃ g cap, v = .slice (some ⟨g, 0, none⟩) ps.length cap := by
    rcases h3 with h | ⟨g, cur, rfl, _⟩
    · rcases h.2 with ⟨_, hx⟩ | ⟨g, cap, cur, rfl, _⟩
      · omega
      · exact ⟨_, _, rfl⟩
    · exact ⟨_, _, rfl⟩
  obtain ⟨g, cap, rfl⟩ := hform
  refine ⟨g, cap, p.a, p.c, by rw [List.length_map], h2 p (List.mem_of_getElem? hp), ?_⟩
  have key : ∀ i, i < 3 → w.cell? ⟨g, j * 3 + i, none⟩ = p.cells[i]? := fun i hi => by
    have hc : p.cells[i]? = some (p.cells[i]'(by simpa [Rp.cells] using hi)) := List.getElem?_eq_getElem _
    rw [hc]
    have := h3.cells (g := g) rfl (j * 3 + i) _ ((flat3 ps j i p hp hi).trans hc)
    rw [Addr.add_lit, Nat.zero_add] at this
    exact this
  exact ⟨key 0 (by omega), key 1 (by omega), key 2 (by omega)⟩
def LogIs (w : World) (lo LB B : Nat) (nm : Dsk.Name) (l : List Rec) : Prop :=
  ∃ rv, w.heap[LB]? = some (.cells #[.pointer (some ⟨B, 0, none⟩), .string (str nm), rv] 71 (0, 0)) ∧ lo ≤ LB ∧ RecsIs w lo rv l
/-- No block has turned but a log's own. -/
def KeepN (w w' : World) : Prop := ∀ (k : Nat) (o : Obj), w.heap[k]? = some o → (∀ xs t fr, o = .cells xs t fr → t ≠ 71 ∧ t ≠ 103) → w'.heap[k]? = w.heap[k]?
theorem KeepN.ku {w w' : World} (h : KeepN w w') : KeepU w w' := fun k xs fr hk => h k _ hk (fun xs t fr e => by cases e; exact ⟨by decide, by decide⟩)
theorem KeepN.dk {w w' : World} {lo B : Nat} {d : Dsk.Dk} (h : IsDk w lo B d) (hk : KeepN w w') : IsDk w' lo B d := by
  obtain ⟨bd, bn, pv, h1, h2⟩ := h
  refine ⟨bd, bn, pv, h1.stay hk.ku ?_, h2⟩
  rintro k (rfl | rfl | rfl | e)
  · exact hk _ _ h1.blk (fun xs t fr e => by cases e; exact ⟨by decide, by decide⟩)
  · obtain ⟨es, cl, hb⟩ := h1.done.blk; exact hk _ _ hb (fun xs t fr e => by cases e)
  · obtain ⟨es, cl, hb⟩ := h1.now.blk; exact hk _ _ hb (fun xs t fr e => by cases e)
  · obtain ⟨xs, ho⟩ := h1.pend.own
    rcases ho.2 with ⟨rfl, _⟩ | ⟨g, cap, cur, rfl, _, hg, _⟩
    · simp [Value.ownBlock] at e
    · simp [Value.ownBlock] at e
      subst e
      exact hk _ _ hg (fun xs t fr e => by cases e; exact ⟨by decide, by decide⟩)
theorem KeepN.below {w w' : World} {B : Nat} (hb : Below B w w') (h : w.heap.size ≤ B) : KeepN w w' := fun k o hk _ => hb.block k (Nat.lt_of_lt_of_le (blk_lt hk) h)
theorem KeepN.trans {a b c : World} (h : KeepN a b) (k : KeepN b c) : KeepN a c := fun i o hi hn => by
  have e1 := h i o hi hn
  rw [← e1]
  exact k i o (e1.trans hi) hn
theorem LogIs.keep {w w' : World} {lo LB B : Nat} {nm : Dsk.Name} {l : List Rec} (h : LogIs w lo LB B nm l) (hk : KeepT w w') : LogIs w' lo LB B nm l := by
  obtain ⟨rv, h1, h2, h3⟩ := h
  refine ⟨rv, (hk _ _ _ _ h1 (by decide) (by decide)).trans h1, h2, h3.stay hk.ku (fun k e => ?_)⟩
  obtain ⟨ps, _, _, h4⟩ := h3
  obtain ⟨a, c, _, _, _, h5⟩ := h4.form
  obtain ⟨_, _, cur, hc⟩ := h5 k e
  exact hk _ _ _ _ hc (by decide) (by decide)
theorem LogIs.below {w w' : World} {lo LB B : Nat} {nm : Dsk.Name} {l : List Rec} (h : LogIs w lo LB B nm l) (hb : Below w.heap.size w w') : LogIs w' lo LB B nm l := h.keep (KeepT.below hb (Nat.le_refl _))
/-- What is no disk's and no log's. -/
def KeepG (w w' : World) : Prop := ∀ (k : Nat) (xs : Array Value) (t : TypeId) (fr : Nat × Nat), w.heap[k]? = some (Obj.cells xs t fr) → t ≠ 64 → t ≠ 110 → t ≠ 71 → t ≠ 103 → w'.heap[k]? = w.heap[k]?
theorem KeepG.trans {a b c : World} (h : KeepG a b) (k : KeepG b c) : KeepG a c := fun i xs t fr hi h1 h2 h3 h4 => by
  have e1 := h i xs t fr hi h1 h2 h3 h4
  rw [← e1]
  exact k i xs t fr (e1.trans hi) h1 h2 h3 h4
theorem KeepG.ofT {w w' : World} (h : KeepT w w') : KeepG w w' := fun k xs t fr hk h1 h2 _ _ => h k xs t fr hk h1 h2
theorem KeepG.ofN {w w' : World} (h : KeepN w w') : KeepG w w' := fun k xs t fr hk _ _ h3 h4 => h k _ hk (fun xs t fr e => by cases e; exact ⟨h3, h4⟩)
theorem KeepG.ku {w w' : World} (h : KeepG w w') : KeepU w w' := fun k xs fr hk => h k xs _ fr hk (by decide) (by decide) (by decide) (by decide)
theorem KeepG.below {w w' : World} {B : Nat} (hb : Below B w w') (h : w.heap.size ≤ B) : KeepG w w' := .ofT (KeepT.below hb h)
theorem own_ng {w : World} {base e size : Nat} {v : Value} {n : Nat} {xs : List Value} (h : w.ownsRow base e size v n xs) {w' : World} (hk : KeepG w w') (h1 : e ≠ 64) (h2 : e ≠ 110) (h3 : e ≠ 71) (h4 : e ≠ 103) : w'.ownsRow base e size v n xs := by
  refine ⟨h.1, ?_⟩
  rcases h.2 with hn | ⟨g, cap, cur, rfl, hb, hg, r⟩
  · exact .inl hn
  · exact .inr ⟨g, cap, cur, rfl, hb, (hk g cur e (0, 0) hg h1 h2 h3 h4).trans hg, r⟩

/-! What is told. -/
def lenOf (l : List Rec) : Nat := match l.getLast? with | some r => r.fin | none => 0
theorem length_any (w : World) (lo LB B : Nat) (nm : Dsk.Name) (l : List Rec) (h : LogIs w lo LB B nm l) (hn : l.length ≤ 1048576) :
    Calls Tryz.prog 70 #[.pointer (some ⟨LB, 0, none⟩)] w fun e w' => e = .returned (.int .i64 (lenOf l : Int)) ∧ w' = w := by
  obtain ⟨rv, h1, h2, h3⟩ := h
  have c2 : w.cell? ⟨LB, 2, none⟩ = some rv := blk_cell (i := 2) h1 rfl
  rcases Nat.eq_zero_or_pos l.length with h0 | h0
  · have hl : l = [] := List.eq_nil_of_length_eq_zero h0
    subst hl
    obtain ⟨ps, hp, _, h4⟩ := h3
    have hp0 : ps = [] := by cases ps; rfl; simp at hp
    subst hp0
    obtain ⟨a, c, rfl, _⟩ := h4.form
    clear h1 h4 hp
    go_enter Tryz.func70, Tryz.ntmps70
    go_wp2
    go_ret
    exact ⟨rfl, rfl⟩
  · obtain ⟨x, hx⟩ : ∃ x, l[l.length - 1]? = some x := ⟨_, List.getElem?_eq_getElem (by omega)⟩
    obtain ⟨g, cap, a, c, rfl, _, e0, e1, e2⟩ := h3.elem hx
    have hlast : lenOf l = x.fin := by unfold lenOf; rw [List.getLast?_eq_getElem?, hx]
    rw [hlast]
    obtain ⟨n, hn'⟩ : ∃ n, n = l.length := ⟨_, rfl⟩
    rw [← hn'] at c2 e2 h0 hn
    have d0 : decide ((0 : Int) < (n : Int)) = true := decide_eq_true (by omega)
    have d0' : decide (0 < n) = true := decide_eq_true h0
    have hw := wrapi' ((n : Int) - 1) (by omega)
    have hq : (n : Int) - 1 = ((n - 1 : Nat) : Int) := by omega
    rw [hq] at hw
    have hlt : ((n - 1 : Nat) : Int) < (n : Int) := by omega
    have hw' : IntKind.i64.wrap ((n : Int) - 1) = ((n - 1 : Nat) : Int) := by rw [hq]; exact hw
    clear h1 e0 e1 hx hlast hn' hq hw h3
    go_enter Tryz.func70, Tryz.ntmps70
    go_wp2
    go_ret
    exact ⟨rfl, rfl⟩
theorem count_any (w : World) (lo LB B : Nat) (nm : Dsk.Name) (l : List Rec) (h : LogIs w lo LB B nm l) :
    Calls Tryz.prog 13 #[.pointer (some ⟨LB, 0, none⟩)] w fun e w' => e = .returned (.int .i64 (l.length : Int)) ∧ w' = w := by
  obtain ⟨rv, h1, h2, h3⟩ := h
  have c2 : w.cell? ⟨LB, 2, none⟩ = some rv := blk_cell (i := 2) h1 rfl
  obtain ⟨ps, hp, _, h4⟩ := h3
  obtain ⟨a, c, rfl, _⟩ := h4.form
  have hl : ps.length = l.length := by rw [← hp, List.length_map]
  rw [hl] at c2
  clear h1 h4 hp hl
  go_enter Tryz.func13, Tryz.ntmps13
  go_wp2
  go_ret
  exact ⟨rfl, rfl⟩
end Go.Proofs.YthampbiabkfmoaaGreatDoor
/- log.scan: what it answers. -/
namespace Go.Proofs.YthampbiabkfmoaaGreatDoor
open Go.RowKit Go.Tap Go.Maps
set_option linter.unusedVariables false
attribute [local go_sem ↓] Go.wp_at_zero Go.wp_at_succ

theorem infoRec : (Tryz.prog.info? 103).map (fun i => (i.zero, i.size, i.bytes)) = some (some (.agg #[.int .i64 0, .slice none 0 0, .int .i64 0]), 3, 40) := by kernel_rfl
/-- One record appended to a row of them. -/
theorem run_append_rec {w : World} {lo : Nat} {v : Value} {n : Nat} {xs : List Value} (h : RRow w lo v n xs) (hlo : lo ≤ w.heap.size) (ty : TypeId) (BB c : Nat) (cs : Array Value) (hb : w.heap[BB]? = some (.cells cs 103 (0, 0))) (hcs : cs.toList.length = 3)
    (h1 : ∀ u ∈ cs.toList, u.oneCell' = true) (hn : n ≤ 1073741824) :
    ∃ a' c' w', (Builtin.append_ #[69, 69] ty #[v, .slice (some ⟨BB, 0, none⟩) 1 c]).run Tryz.prog w = .ok (.slice a' (n + 1) c') w' ∧ w'.ownsRow lo 103 3 (.slice a' (n + 1) c') (n + 1) (xs ++ cs.toList) ∧ w.grownBy w' v.ownBlock := by
  obtain ⟨i, hi, hz, hs, hby⟩ := info_parts infoRec
  have hnews : ∀ j u, cs.toList[j]? = some u → w.cell? ((⟨BB, 0, none⟩ : Addr).add j) = some u := World.news_of_block hb
  rcases h with h | ⟨g, cur, rfl, hg1, hg2, hg3, hg4, hg5⟩
  · obtain ⟨v', w', hr, h2, h3, h4⟩ := run_append_own (P := Tryz.prog) w lo 69 ty 103 i _ 3 40 Tryz.underlying69 hi hz hs hby rfl (by omega) v n xs h ⟨BB, 0, none⟩ 1 c cs.toList (by omega) hnews h1 (by unfold maxLen; omega) (by omega) hlo
    rcases h2.2 with ⟨_, e⟩ | ⟨g, cap, cur, rfl, _⟩
    · omega
    · exact ⟨_, _, w', hr, h2, h3⟩
  · have hr := run_append_grow (P := Tryz.prog) w 69 ty 103 i _ Tryz.underlying69 hi hz ⟨g, 0, none⟩ n n xs (by rw [hs]; exact hg3) (RRow.cells (lo := lo) (.inr ⟨g, cur, rfl, hg1, hg2, hg3, hg4, hg5⟩) rfl) ⟨BB, 0, none⟩ 1 c cs.toList (by rw [hs]; omega) hnews (by omega) (by omega) (growslice_fits (by omega) (by rw [hby]; omega))
    have hge := grownCap_ge w (n + 1) n 103
    have hcm : grownCap w (n + 1) n 103 ≤ maxLen := grownCap_le_maxLen w (n + 1) n 103 (by unfold maxLen; omega)
    have hlen : (xs ++ cs.toList).length = (n + 1) * 3 := by rw [List.length_append, hg3, hcs]; omega
    refine ⟨_, _, _, hr, ⟨hlen, .inr ⟨w.heap.size, _, _, rfl, hlo, heap_alloc_new w.drew _, hge, hcm, ?_, ?_⟩⟩, ⟨rfl, rfl, rfl, by simp, fun k hk _ => (MapKept.heap_alloc w.drew _).2 k hk⟩⟩
    · have hs3 : (#[Value.int IntKind.i64 0, Value.slice none 0 0, Value.int IntKind.i64 0] : Array Value).size = 3 := rfl
      simp only [Array.size_append, List.size_toArray, size_zeroCells, hg3, hcs]
      show n * 3 + 3 + (grownCap w (n + 1) n 103 - (n + 1)) * 3 = _
      omega
    · simp only [Array.toList_append, List.append_assoc]
      rw [← List.append_assoc, ← hlen]
      exact List.take_left
theorem wpList_append_rec {w : World} {ops : Array Oper} {rest : List Oper} {o : Oper} {a : Act} {Q : Exit → Act → World → Prop} (hgd : o.guard = none) (s x : Operand)
    (ho : o.op = .call { callee := .builtin .append, args := #[s, x], argTypes := #[69, 69] })
    (lo : Nat) (v : Value) (n : Nat) (xs : List Value) (hs : a.eval s = v) (h : RRow w lo v n xs) (hlo : lo ≤ w.heap.size) (BB c : Nat) (hx : a.eval x = .slice (some ⟨BB, 0, none⟩) 1 c) (cs : Array Value) (hb : w.heap[BB]? = some (.cells cs 103 (0, 0))) (hcs : cs.toList.length = 3)
    (h1 : ∀ u ∈ cs.toList, u.oneCell' = true) (hn : n ≤ 1073741824)
    (hK : ∀ a' c' w', w'.ownsRow lo 103 3 (.slice a' (n + 1) c') (n + 1) (xs ++ cs.toList) → w.grownBy w' v.ownBlock → wpList Tryz.prog ops Q rest (a.put o.dst (.slice a' (n + 1) c')) w') : wpList Tryz.prog ops Q (o :: rest) a w := by
  refine wpList_plain hgd fun K hK' => ?_
  obtain ⟨a', c', w', hrun, h2, h3⟩ := run_append_rec h hlo o.type BB c cs hb hcs h1 hn
  unfold Oper.wp execOp
  simp only [ho, resolve, invoke, builtin, Sem.run_bind, Sem.run_pure, Result.andThen_ok, List.map_toArray, List.map_cons, List.map_nil, hs, hx, hrun]
  exact hK' _ _ (hK a' c' w' h2 h3)
theorem step_append_rec {w : World} {ops : Array Oper} {o : Oper} {a : Act} {K : Act → World → Prop} {Q : Exit → Act → World → Prop} {E : Prop} (hgd : o.guard = none) (s x : Operand)
    (ho : o.op = .call { callee := .builtin .append, args := #[s, x], argTypes := #[69, 69] })
    (lo : Nat) (v : Value) (n : Nat) (xs : List Value) (hs : a.eval s = v) (h : RRow w lo v n xs) (hlo : lo ≤ w.heap.size) (BB c : Nat) (hx : a.eval x = .slice (some ⟨BB, 0, none⟩) 1 c) (cs : Array Value) (hb : w.heap[BB]? = some (.cells cs 103 (0, 0))) (hcs : cs.toList.length = 3)
    (h1 : ∀ u ∈ cs.toList, u.oneCell' = true) (hn : n ≤ 1073741824)
    (hK : ∀ a' c' w', w'.ownsRow lo 103 3 (.slice a' (n + 1) c') (n + 1) (xs ++ cs.toList) → w.grownBy w' v.ownBlock → K (a.put o.dst (.slice a' (n + 1) c')) w') : if Region.wanted o (yielded ops a.tmps) = true then Oper.wp Tryz.prog o a w K Q else E := by
  have hw : Region.wanted o (yielded ops a.tmps) = true := by simp [Region.wanted, hgd]
  rw [if_pos hw]
  obtain ⟨a', c', w', hrun, h2, h3⟩ := run_append_rec h hlo o.type BB c cs hb hcs h1 hn
  unfold Oper.wp execOp
  simp only [ho, resolve, invoke, builtin, Sem.run_bind, Sem.run_pure, Result.andThen_ok, List.map_toArray, List.map_cons, List.map_nil, hs, hx, hrun]
  exact hK a' c' w' h2 h3
theorem recs_snoc {w : World} {lo : Nat} {v : Value} {ps : List Rp} {x : Rec} {a : Option Addr} {c : Nat} (h2 : ∀ p ∈ ps, Keeps w p.a p.x.body.length p.c p.x.body) (hk : Keeps w a x.body.length c x.body)
    (ho : w.ownsRow lo 103 3 v (ps.length + 1) (ps.flatMap Rp.cells ++ (Rp.mk x a c).cells)) : RecsIs w lo v (ps.map Rp.x ++ [x]) := by
  refine ⟨ps ++ [⟨x, a, c⟩], by rw [List.map_append]; rfl, fun p hp => ?_, .inl ?_⟩
  · rcases List.mem_append.1 hp with h1 | h1
    · exact h2 p h1
    · simp only [List.mem_singleton] at h1; subst h1; exact hk
  · rw [List.length_append, List.flatMap_append]
    have e1 : List.flatMap Rp.cells [(⟨x, a, c⟩ : Rp)] = (Rp.mk x a c).cells := by simp
    rw [e1]
    exact ho

/-! The plain law. -/
def scanG : Nat → List UInt8 → Nat → List Rec × Nat
  | 0, _, _ => ([], 0)
  | f + 1, l, at_ => if l = [] then ([], 0) else match nxt l with
    | .error k => ([], k)
    | .ok q => (⟨q.1, q.2.1, at_ + q.2.2⟩ :: (scanG f (l.drop q.2.2) (at_ + q.2.2)).1, (scanG f (l.drop q.2.2) (at_ + q.2.2)).2)
def scanF (l : List UInt8) : List Rec × Nat := scanG (l.length + 1) l 0
set_option maxHeartbeats 4000000 in
set_option maxRecDepth 100000 in
theorem scan_any (w : World) (a : Option Addr) (n c : Nat) (l : List UInt8) (hr : Rds w a n l) (hnc : n ≤ c) (hz : a = none → c = 0) (hn : n ≤ 16777216) :
    Calls Tryz.prog 18 #[.slice a n c] w fun e w' => ∃ rv, e = .returned (.tuple #[rv, errv (scanF l).2]) ∧ RecsIs w' w.heap.size rv (scanF l).1 ∧ Below w.heap.size w w' := by
  have hl := hr.1
  have HR := Lib.hid hr
  have HN := Lib.hid (And.intro hnc hz)
  clear hr hz
  go_enter Tryz.func18, Tryz.ntmps18
  go_wp2_with fail
  go_loopw [4, 5] (fun ov ev wr => ∃ (at_ f : Nat) (rs : List Rec), ev = .int .i64 (at_ : Int) ∧ at_ ≤ n ∧ rs.length * 9 ≤ at_ ∧ Hid (RecsIs wr w.heap.size ov rs) ∧ Below w.heap.size w wr ∧ n - at_ < f ∧ Hid (scanF l = (rs ++ (scanG f (l.drop at_) at_).1, (scanG f (l.drop at_) at_).2))) (fun _ ev _ => n - (intOf ev).toNat)
  case atStart => exact ⟨0, l.length + 1, [], rfl, Nat.zero_le _, Nat.le_refl _, RecsIs.nil _ _, Below.refl _ _, by omega, by show scanF l = _; rw [List.drop_zero]; rfl⟩
  case round =>
    obtain ⟨at_, f, rs, rfl, hat, hrs, HRS, hb, hf, HSC⟩ := hrel
    obtain ⟨f, rfl⟩ : ∃ f', f = f' + 1 := ⟨f - 1, by omega⟩
    by_cases hend : at_ < n
    · have d0 : decide ((at_ : Int) < (n : Int)) = true := decide_eq_true (by omega)
      have d0' : decide (at_ < n) = true := decide_eq_true hend
      have hne : l.drop at_ ≠ [] := fun e => by have := congrArg List.length e; rw [List.length_drop] at this; simp at this; omega
      have hq0 : (0 : Int) ≤ (at_ : Int) := by omega
      have hq1 : (at_ : Int) ≤ (n : Int) := by omega
      have hq2 : at_ ≤ n := hat
      obtain ⟨b, o, rfl, _⟩ := HR.out.2 (by omega)
      have hrd := HR.out.drop (k := at_) hat hnc
      rw [if_neg (by omega)] at hrd
      have hrd2 : Rds wr (some ⟨b, o + at_, none⟩) (n - at_) (l.drop at_) := Rds.below (B := w.heap.size) (w := w) (by simpa [Addr.add_lit] using hrd) hb (fun h0 b' o' e => by simp only [Option.some.injEq, Addr.mk.injEq] at e; have := HR.out.lt (by omega); omega)
      have hce : (c == at_) = false := beq_eq_false_iff_ne.2 (by omega)
      have hce' : ¬ c = at_ := by omega
      have hce2 : decide (c = at_) = false := decide_eq_false hce'
      have hnx := next_any wr (some ⟨b, o + at_, none⟩) (n - at_) (c - at_) (l.drop at_) hrd2 (by omega) (by intro h; cases h) (by omega)
      have HRD := Lib.hid hrd2
      clear hrd hrd2
      go_wp2_with fail
      refine hnx.mono ?_
      clear hnx
      cases hq : nxt (l.drop at_) with
      | error k =>
        rintro e w3 ⟨hb3, rfl⟩
        have hfin : scanF l = (rs, k) := by rw [show scanF l = _ from HSC.out, scanG, if_neg hne, hq]; simp
        have HRS3 := Lib.hid (HRS.out.stay (KeepU.below hb3 (Nat.le_refl _)) (fun k' e => by
          obtain ⟨ps, _, _, h4⟩ := HRS.out
          obtain ⟨_, _, _, _, _, h5⟩ := h4.form
          obtain ⟨_, _, cur, hc⟩ := h5 k' e
          exact hb3.block k' (blk_lt hc)))
        have b3 := hb.trans (hb3.mono hb.size)
        have hk0 : k ≠ 0 := by
          intro e; subst e
          unfold nxt at hq
          split at hq
          · simp at hq
          · split at hq
            · simp at hq
            · split at hq
              · simp at hq
              · split at hq
                · simp at hq
                · cases hq
        have HFIN := Lib.hid hfin
        have HK0 := Lib.hid hk0
        clear hq hfin hk0 hb3 hne HRS HSC
        go_wp2
        go_ret2
        have e1 : errv (scanF l).2 = .iface 65 (.int .i64 (k : Int)) := by rw [HFIN.out]; exact if_neg HK0.out
        have e2 := HRS3.out
        rw [show rs = (scanF l).1 by rw [HFIN.out]] at e2
        rw [e1]
        exact ⟨_, rfl, e2, b3⟩
      | ok q =>
        rintro e w3 ⟨hb3, v3, rfl, ho3⟩
        obtain ⟨x3, y3, rfl, _⟩ := ownsRow_slice ho3
        obtain ⟨hsz, hsl, hk256⟩ := nxt_ok hq
        rw [List.length_drop, hl] at hsl
        have KB := Keeps.of_own ho3 rfl
        have HRS3 := HRS.out.stay (KeepU.below hb3 (Nat.le_refl _)) (fun k' e => by
          obtain ⟨ps, _, _, h4⟩ := HRS.out
          obtain ⟨_, _, _, _, _, h5⟩ := h4.form
          obtain ⟨_, _, cur, hc⟩ := h5 k' e
          exact hb3.block k' (blk_lt hc))
        have b3 := hb.trans (hb3.mono hb.size)
        have hnew : scanF l = ((rs ++ [⟨q.1, q.2.1, at_ + q.2.2⟩]) ++ (scanG f (l.drop (at_ + q.2.2)) (at_ + q.2.2)).1, (scanG f (l.drop (at_ + q.2.2)) (at_ + q.2.2)).2) := by
          rw [show scanF l = _ from HSC.out, scanG, if_neg hne, hq]
          simp [List.drop_drop]
        obtain ⟨ps, hps, hpk, hpr⟩ := HRS3
        obtain ⟨ra, rc, rfl, _, _, hrb⟩ := hpr.form
        obtain ⟨q1, q2, q3⟩ := q
        simp only at hsz hsl hk256 hnew KB ho3
        have hq9 : 9 ≤ q3 := by omega
        obtain ⟨E, hE⟩ : ∃ E, E = at_ + q3 := ⟨_, rfl⟩
        have hwe : IntKind.i64.wrap ((at_ : Int) + (q3 : Int)) = (E : Int) := by rw [hE]; push_cast; exact wrapi' _ (by omega)
        rw [← hE] at hnew
        have HE := Lib.hid hE
        have hEn : E ≤ n := by omega
        have hpl : ps.length * 9 ≤ at_ := by rw [← hps, List.length_map] at hrs; exact hrs
        have HNEW := Lib.hid hnew
        have HPK := Lib.hid hpk
        have HPR := Lib.hid hpr
        have HPS := Lib.hid hps
        have HKB := Lib.hid KB
        have hsz3 := b3.size
        clear hq hnew hpk hpr hps KB ho3 hb3 hne HRS HSC HRD hrs hE hsl hsz
        go_wp2_with (at_builtin; refine wpList_append_rec rfl (.tmp 30) (.tmp 35) rfl w.heap.size _ ps.length _ rfl (HPR.out.stay (w' := w3.alloc (.cells (Rp.mk ⟨q1, q2, E⟩ x3 y3).cells.toArray 103)) (fun k' e => by obtain ⟨_, _, cur, hc⟩ := hrb k' e; exact (MapKept.heap_alloc w3 _).2 k' (blk_lt hc))) (by simp; omega) w3.heap.size 1 rfl (Rp.mk ⟨q1, q2, E⟩ x3 y3).cells.toArray (heap_alloc_new w3 _) rfl (by simp [Rp.cells, Value.oneCell']) (by omega) ?_)
        intro a5 c5 w5 ho5 hg5
        have hk5 : KeepU w3 w5 := (KeepU.alloc w3 _).trans (KeepU.grown hg5 (fun k' xs' fr e hx => by
          obtain ⟨_, _, cur, hc⟩ := hrb k' e
          rw [(MapKept.heap_alloc w3 _).2 k' (blk_lt hc), hc] at hx
          simp at hx))
        have b5 : Below w.heap.size w w5 := (b3.alloc hsz3 _).grown hg5 (by simp; omega) (fun j hj => (hrb j hj).2.1)
        have hrec : RecsIs w5 w.heap.size (.slice a5 (ps.length + 1) c5) (rs ++ [⟨q1, q2, E⟩]) := by
          rw [← show _ = rs from HPS.out]
          exact recs_snoc (fun p hp => (HPK.out p hp).stay hk5) (HKB.out.stay hk5) ho5
        have HREC := Lib.hid hrec
        clear ho5 hg5 hk5 hrec
        go_wp2
        go_roundw
        case rel =>
          have hEE : E = at_ + q3 := HE.out
          exact ⟨E, f, rs ++ [⟨q1, q2, E⟩], rfl, hEn, by rw [List.length_append]; simp only [List.length_singleton]; have := congrArg List.length (show _ = rs from HPS.out); rw [List.length_map] at this; have := HE.out; omega, HREC, b5, by have := HE.out; omega, HNEW⟩
        case measure => have hEE : E = at_ + q3 := HE.out; first | (simp [intOf]; omega) | omega
    · obtain rfl : at_ = n := by omega
      have d0 : decide ((at_ : Int) < (at_ : Int)) = false := decide_eq_false (by omega)
      have hnil : l.drop at_ = [] := List.drop_eq_nil_of_le (by omega)
      have hfin : scanF l = (rs, 0) := by rw [show scanF l = _ from HSC.out, scanG, if_pos hnil]; simp
      have HFIN := Lib.hid hfin
      clear hfin hnil HSC
      go_wp2
      go_ret2
      have e1 : errv (scanF l).2 = .nilIface := by rw [HFIN.out]; rfl
      have e2 := HRS.out
      rw [show rs = (scanF l).1 by rw [HFIN.out]] at e2
      rw [e1]
      exact ⟨_, rfl, e2, hb⟩
end Go.Proofs.YthampbiabkfmoaaGreatDoor
/- Records laid one behind the other are scanned as they were laid. -/
namespace Go.Proofs.YthampbiabkfmoaaGreatDoor
open Go.RowKit Go.Tap Go.Maps
set_option linter.unusedVariables false

def Ok1 (p : Nat × List UInt8) : Prop := (1 ≤ p.1 ∧ p.1 ≤ 255) ∧ p.2.length ≤ 1048576
def frs (l : List (Nat × List UInt8)) : List UInt8 := l.flatMap fun p => frm (p.1 : Int) p.2
def recsAt : Nat → List (Nat × List UInt8) → List Rec
  | _, [] => []
  | at_, p :: r => ⟨p.1, p.2, at_ + (9 + p.2.length)⟩ :: recsAt (at_ + (9 + p.2.length)) r
theorem scanG_frs : ∀ (l : List (Nat × List UInt8)) (f at_ : Nat), (∀ p ∈ l, Ok1 p) → (frs l).length < f → scanG f (frs l) at_ = (recsAt at_ l, 0)
  | [], f, at_, _, hf => by
    obtain ⟨f, rfl⟩ : ∃ f', f = f' + 1 := ⟨f - 1, by omega⟩
    simp [frs, scanG, recsAt]
  | p :: r, f, at_, h, hf => by
    obtain ⟨f, rfl⟩ : ∃ f', f = f' + 1 := ⟨f - 1, by omega⟩
    have hp := h p (List.mem_cons_self ..)
    have e : frs (p :: r) = frm (p.1 : Int) p.2 ++ frs r := by simp [frs]
    have hl : (frs (p :: r)).length = 9 + p.2.length + (frs r).length := by rw [e, List.length_append, frm_length]
    have hne : frs (p :: r) ≠ [] := fun e => by rw [e] at hl; simp at hl; omega
    have hn := nxt_frm p.1 hp.1 p.2 (frs r) hp.2
    have hd : (frs (p :: r)).drop (9 + p.2.length) = frs r := by rw [e, List.drop_append_of_le_length (by rw [frm_length]; omega), List.drop_eq_nil_of_le (by rw [frm_length]; omega)]; rfl
    rw [scanG, if_neg hne, e, hn]
    simp only
    rw [← e, hd, scanG_frs r f _ (fun q hq => h q (List.mem_cons_of_mem _ hq)) (by omega)]
    rfl
theorem scan_frs (l : List (Nat × List UInt8)) (h : ∀ p ∈ l, Ok1 p) : scanF (frs l) = (recsAt 0 l, 0) := scanG_frs l _ 0 h (Nat.lt_succ_self _)
theorem recsAt_length : ∀ (l : List (Nat × List UInt8)) (at_ : Nat), (recsAt at_ l).length = l.length
  | [], _ => rfl
  | p :: r, at_ => by simp [recsAt, recsAt_length r]
theorem frs_snoc (l : List (Nat × List UInt8)) (p : Nat × List UInt8) : frs (l ++ [p]) = frs l ++ frm (p.1 : Int) p.2 := by simp [frs]
theorem recsAt_snoc : ∀ (l : List (Nat × List UInt8)) (at_ : Nat) (p : Nat × List UInt8), recsAt at_ (l ++ [p]) = recsAt at_ l ++ [⟨p.1, p.2, at_ + (frs l).length + (9 + p.2.length)⟩]
  | [], at_, p => by simp [recsAt, frs]
  | q :: r, at_, p => by
    have e : (frs (q :: r)).length = 9 + q.2.length + (frs r).length := by simp [frs, frm_length]
    rw [List.cons_append, recsAt, recsAt_snoc r, recsAt, List.cons_append, e]
    congr 3
    · congr 1; omega
theorem lenOf_recs : ∀ (l : List (Nat × List UInt8)) , lenOf (recsAt 0 l) = (frs l).length := by
  intro l
  rcases List.eq_nil_or_concat l with rfl | ⟨r, p, rfl⟩
  · rfl
  · rw [List.concat_eq_append, recsAt_snoc, frs_snoc]
    unfold lenOf
    rw [List.getLast?_append]
    show 0 + (frs r).length + (9 + p.2.length) = _
    rw [List.length_append, frm_length]; omega
theorem recsAt_get : ∀ (l : List (Nat × List UInt8)) (at_ i : Nat) (p : Nat × List UInt8), l[i]? = some p → ∃ x, (recsAt at_ l)[i]? = some x ∧ x.kind = p.1 ∧ x.body = p.2 ∧ x.fin = at_ + (frs (l.take (i + 1))).length
  | [], _, _, _, h => by simp at h
  | q :: r, at_, 0, p, h => by
    simp at h; subst h
    exact ⟨_, rfl, rfl, rfl, by simp [frs, frm_length]⟩
  | q :: r, at_, i + 1, p, h => by
    obtain ⟨x, h1, h2, h3, h4⟩ := recsAt_get r (at_ + (9 + q.2.length)) i p (by simpa using h)
    refine ⟨x, by simpa [recsAt] using h1, h2, h3, ?_⟩
    rw [h4, List.take_succ_cons]
    simp [frs, frm_length]; omega
end Go.Proofs.YthampbiabkfmoaaGreatDoor
/- Record, Open (where it goes well), Add. -/
namespace Go.Proofs.YthampbiabkfmoaaGreatDoor
open Go.RowKit Go.Tap Go.Maps
set_option linter.unusedVariables false
attribute [local go_sem ↓] Go.wp_at_zero Go.wp_at_succ

theorem grown_undrew {w w' : World} {r : Option Nat} (h : w.drew.grownBy w' r) : w.grownBy w' r := ⟨h.os, h.tape, h.output, h.size, h.block⟩
set_option maxHeartbeats 2000000 in
set_option maxRecDepth 100000 in
theorem record_any (w : World) (lo LB B : Nat) (nm : Dsk.Name) (l : List Rec) (h : LogIs w lo LB B nm l) (j : Nat) (x : Rec) (hj : l[j]? = some x) (hn : l.length ≤ 1048576) (hx : x.body.length ≤ 1048576) :
    Calls Tryz.prog 45 #[.pointer (some ⟨LB, 0, none⟩), .int .i64 (j : Int)] w fun e w' => ∃ a c, e = .returned (.tuple #[.int .i64 (x.kind : Int), .slice a x.body.length c, .bool true]) ∧
      w'.ownsRow w.heap.size 5 1 (.slice a x.body.length c) x.body.length (bv x.body) ∧ Below w.heap.size w w' := by
  obtain ⟨i0, hi, hz0, hz1, hz2'⟩ := info_parts Tryz.infoB
  obtain ⟨rv, h1, h2, h3⟩ := h
  have c2 : w.cell? ⟨LB, 2, none⟩ = some rv := blk_cell (i := 2) h1 rfl
  obtain ⟨g, cap, a, c, rfl, hk, e0, e1, e2⟩ := h3.elem hj
  have hlt : j < l.length := (List.getElem?_eq_some_iff.1 hj).1
  obtain ⟨n, hn'⟩ : ∃ n, n = l.length := ⟨_, rfl⟩
  rw [← hn'] at c2 hlt hn
  have d0 : decide ((j : Int) < 0) = false := decide_eq_false (by omega)
  have d1 : decide ((n : Int) ≤ (j : Int)) = false := decide_eq_false (by omega)
  have d1' : decide (n ≤ j) = false := decide_eq_false (by omega)
  have d2 : decide ((j : Int) < (n : Int)) = true := decide_eq_true (by omega)
  have d3 : (j : Int) < (n : Int) := by omega
  obtain ⟨W1, hW1⟩ : ∃ W1, W1 = w.alloc (.cells #[.int .i64 (x.kind : Int), .slice a x.body.length c, .int .i64 (x.fin : Int)] 103) := ⟨_, rfl⟩
  have hT1 : W1.heap[w.heap.size]? = some (.cells #[.int .i64 (x.kind : Int), .slice a x.body.length c, .int .i64 (x.fin : Int)] 103 (0, 0)) := by rw [hW1]; exact heap_alloc_new _ _
  have hB1 : Below w.heap.size w W1 := by rw [hW1]; exact (Below.refl _ _).alloc (Nat.le_refl _) _
  have hK1 := hk.stay (KeepU.below hB1 (Nat.le_refl _))
  have HT1 := Lib.hid hT1
  have HK1 := Lib.hid hK1
  have HB1 := Lib.hid hB1
  have hxz := hk.none
  clear h1 h3 hj hn' hT1 hK1 hB1 hk
  go_enter Tryz.func45, Tryz.ntmps45
  go_wp2_with fail
  rw [← hW1]
  clear hW1 e0 e1 e2
  have k0 : W1.cell? ⟨w.heap.size, 0, none⟩ = some (.int .i64 (x.kind : Int)) := blk_cell (i := 0) HT1.out rfl
  have k1 : W1.cell? ⟨w.heap.size, 1, none⟩ = some (.slice a x.body.length c) := blk_cell (i := 1) HT1.out rfl
  have hlt1 := blk_lt HT1.out
  have k0' : ∀ o, (W1.alloc o).cell? ⟨w.heap.size, 0, none⟩ = some (.int .i64 (x.kind : Int)) := fun o => (World.cell?_of_block ((MapKept.heap_alloc W1 o).2 _ hlt1)).trans k0
  have k1' : ∀ o, (W1.alloc o).cell? ⟨w.heap.size, 1, none⟩ = some (.slice a x.body.length c) := fun o => (World.cell?_of_block ((MapKept.heap_alloc W1 o).2 _ hlt1)).trans k1
  go_region_law ((refine step_append_rds (by rfl) (.tmp 28) (.tmp 30) 66 (by rfl) W1.heap.size 5 i0 Tryz.underlying66 hi hz0 hz1 hz2' _ 0 [] (by rfl) (own_empty W1 _) a x.body.length c (by rfl) hxz x.body ((HK1.out.stay (KeepU.alloc W1 _)).rds) (by omega) (by simp) ?_; intro a3 c3 w3 hown3 hg3; have k03 : w3.cell? ⟨w.heap.size, 0, none⟩ = some (.int .i64 (x.kind : Int)) := (World.cell?_of_block (hg3.block w.heap.size (by simp; omega) (by intro e; simp [Value.ownBlock] at e; omega))).trans (k0' _)))
  all_goals
    have b3 : Below w.heap.size w w3 := (HB1.out.alloc HB1.out.size _).grown (grown_undrew hg3) (by have := HB1.out.size; simp; omega) (by intro j hj; simp [Value.ownBlock] at hj; have := HB1.out.size; omega)
    have ho3 := ownsRow_base hown3 HB1.out.size
    have HO := Lib.hid ho3
    clear hown3 hg3 ho3 k0 k1 k0' k1'
    go_wp2
    go_ret3
    refine ⟨a3, c3, ?_, by simpa using HO.out, b3⟩
    first | rfl | (rw [Nat.zero_add]; done) | (rw [Nat.zero_add]; rfl) | trace_state
end Go.Proofs.YthampbiabkfmoaaGreatDoor
