/- A log as it stands in memory; Length, Count, Record. -/
import Derived.Test.YtkalpkmnelgieaaGreatDoorDskOrd
import Derived.Test.YtkalpkmnelgieaaGreatDoorNext
namespace Go.Proofs.YtkalpkmnelgieaaGreatDoor
open Go.RowKit Go.Tap Go.Maps
set_option linter.unusedVariables false
attribute [local go_sem ↓] Go.wp_at_zero Go.wp_at_succ

/-- A record of a log. -/
structure Rec where
  kind : Nat
  body : List UInt8
  fin : Nat
structure Rp where
  x : Rec
  a : Option Addr
  c : Nat
def Rp.cells (p : Rp) : List Value := [.int .i64 (p.x.kind : Int), .slice p.a p.x.body.length p.c, .int .i64 (p.x.fin : Int)]
/-- A row of records that may be read, and be appended to. -/
def RRow (w : World) (lo : Nat) (v : Value) (n : Nat) (xs : List Value) : Prop :=
  w.ownsRow lo 104 3 v n xs ∨ ∃ g cur, v = .slice (some ⟨g, 0, none⟩) n n ∧ lo ≤ g ∧ w.heap[g]? = some (.cells cur 104 (0, 0)) ∧ xs.length = n * 3 ∧ cur.toList.take (n * 3) = xs ∧ n ≤ maxLen
def RecsIs (w : World) (lo : Nat) (v : Value) (l : List Rec) : Prop :=
  ∃ ps : List Rp, ps.map Rp.x = l ∧ (∀ p ∈ ps, Keeps w p.a p.x.body.length p.c p.x.body) ∧ RRow w lo v ps.length (ps.flatMap Rp.cells)
theorem RecsIs.nil (w : World) (lo : Nat) : RecsIs w lo (.slice none 0 0) [] := ⟨[], rfl, by simp, .inl (World.ownsRow_nil _ _ _ _)⟩
theorem RRow.form {w : World} {lo : Nat} {v : Value} {n : Nat} {xs : List Value} (h : RRow w lo v n xs) : ∃ a c, v = .slice a n c ∧ n ≤ c ∧ (a = none → c = 0) ∧ (∀ g, v.ownBlock = some g → a = some ⟨g, 0, none⟩ ∧ lo ≤ g ∧ ∃ cur, w.heap[g]? = some (.cells cur 104 (0, 0))) := by
  rcases h with h | ⟨g, cur, rfl, h1, h2, _⟩
  · rcases h.2 with ⟨rfl, rfl⟩ | ⟨g, cap, cur, rfl, hb, hg, h1, _⟩
    · exact ⟨none, 0, rfl, Nat.le_refl _, fun _ => rfl, fun g e => by simp [Value.ownBlock] at e⟩
    · exact ⟨_, _, rfl, h1, (by intro e; cases e), fun g' e => by simp [Value.ownBlock] at e; subst e; exact ⟨rfl, hb, cur, hg⟩⟩
  · exact ⟨_, _, rfl, Nat.le_refl _, (by intro e; cases e), fun g' e => by simp [Value.ownBlock] at e; subst e; exact ⟨rfl, h1, cur, h2⟩⟩
theorem RRow.stay {w w' : World} {lo : Nat} {v : Value} {n : Nat} {xs : List Value} (h : RRow w lo v n xs) (hb : ∀ k, v.ownBlock = some k → w'.heap[k]? = w.heap[k]?) : RRow w' lo v n xs := by
  rcases h with h | ⟨g, cur, rfl, h1, h2, h3⟩
  · left
    refine ⟨h.1, ?_⟩
    rcases h.2 with hn | ⟨g, cap, cur, rfl, hb', hg, r⟩
    · exact .inl hn
    · exact .inr ⟨g, cap, cur, rfl, hb', (hb g rfl).trans hg, r⟩
  · exact .inr ⟨g, cur, rfl, h1, (hb g rfl).trans h2, h3⟩
theorem RRow.cells {w : World} {lo : Nat} {v : Value} {n g : Nat} {xs : List Value} (h : RRow w lo v n xs) (hg : v.ownBlock = some g) : ∀ j u, xs[j]? = some u → w.cell? ((⟨g, 0, none⟩ : Addr).add j) = some u := by
  rcases h with h | ⟨g', cur, rfl, h1, h2, h3, h4, _⟩
  · exact h.cells hg
  · intro j u hj
    simp [Value.ownBlock] at hg
    subst hg
    rw [Addr.add_lit, Nat.zero_add]
    have hl : j < xs.length := (List.getElem?_eq_some_iff.1 hj).1
    rw [← h4, List.getElem?_take_of_lt (by omega)] at hj
    rw [cell_of_row w g' j cur _ _ h2]
    simpa using hj
theorem RecsIs.stay {w w' : World} {lo : Nat} {v : Value} {l : List Rec} (h : RecsIs w lo v l) (hk : KeepU w w') (hb : ∀ k, v.ownBlock = some k → w'.heap[k]? = w.heap[k]?) : RecsIs w' lo v l := by
  obtain ⟨ps, h1, h2, h3⟩ := h
  exact ⟨ps, h1, fun p hp => (h2 p hp).stay hk, h3.stay hb⟩
theorem flat3 : ∀ (ps : List Rp) (j i : Nat) (p : Rp), ps[j]? = some p → i < 3 → (ps.flatMap Rp.cells)[j * 3 + i]? = p.cells[i]?
  | [], j, i, p, h, _ => by simp at h
  | u :: r, 0, i, p, h, hi => by
    simp at h; subst h
    rw [List.flatMap_cons, Nat.zero_mul, Nat.zero_add, List.getElem?_append_left (by simpa [Rp.cells] using hi)]
  | u :: r, j + 1, i, p, h, hi => by
    have := flat3 r j i p (by simpa using h) hi
    rw [List.flatMap_cons, List.getElem?_append_right (by simp [Rp.cells]; omega), ← this]
    congr 1
    simp [Rp.cells]; omega
theorem RecsIs.elem {w : World} {lo : Nat} {v : Value} {l : List Rec} (h : RecsIs w lo v l) {j : Nat} {x : Rec} (hj : l[j]? = some x) :
    ∃ g cap a c, v = .slice (some ⟨g, 0, none⟩) l.length cap ∧ Keeps w a x.body.length c x.body ∧
      w.cell? ⟨g, j * 3, none⟩ = some (.int .i64 (x.kind : Int)) ∧ w.cell? ⟨g, j * 3 + 1, none⟩ = some (.slice a x.body.length c) ∧ w.cell? ⟨g, j * 3 + 2, none⟩ = some (.int .i64 (x.fin : Int)) := by
  obtain ⟨ps, rfl, h2, h3⟩ := h
  rw [List.getElem?_map, Option.map_eq_some_iff] at hj
  obtain ⟨p, hp, rfl⟩ := hj
  have hlt : j < ps.length := (List.getElem?_eq_some_iff.1 hp).1
  have hform : ∃ g cap, v = .slice (some ⟨g, 0, none⟩) ps.length cap := by
    rcases h3 with h | ⟨g, cur, rfl, _⟩
    · rcases h.2 with ⟨_, hx⟩ | ⟨g, cap, cur, rfl, _⟩
      · omega
      · exact ⟨_, _, rfl⟩
    · exact ⟨_, _, rfl⟩
  obtain ⟨g, cap, rfl⟩ := hform
  refine ⟨g, cap, p.a, p.c, by rw [List.length_map], h2 p (List.mem_of_getElem? hp), ?_⟩
  have key : ∀ i, i < 3 → w.cell? ⟨g, j * 3 + i, none⟩ = p.cells[i]? := fun i hi => by
    have hc : p.cells[i]? = some (p.cells[i]'(by simpa [Rp.cells] using hi)) := List.getElem?_eq_getElem _
    rw [hc]
    have := h3.cells (g := g) rfl (j * 3 + i) _ ((flat3 ps j i p hp hi).trans hc)
    rw [Addr.add_lit, Nat.zero_add] at this
    exact this
  exact ⟨key 0 (by omega), key 1 (by omega), key 2 (by omega)⟩
def LogIs (w : World) (lo LB B : Nat) (nm : Dsk.Name) (l : List Rec) : Prop :=
  ∃ rv, w.heap[LB]? = some (.cells #[.pointer (some ⟨B, 0, none⟩), .string (str nm), rv] 95 (0, 0)) ∧ lo ≤ LB ∧ RecsIs w lo rv l
/-- No block has turned but a log's own. -/
def KeepN (w w' : World) : Prop := ∀ (k : Nat) (o : Obj), w.heap[k]? = some o → (∀ xs t fr, o = .cells xs t fr → t ≠ 95 ∧ t ≠ 104) → w'.heap[k]? = w.heap[k]?
theorem KeepN.ku {w w' : World} (h : KeepN w w') : KeepU w w' := fun k xs fr hk => h k _ hk (fun xs t fr e => by cases e; exact ⟨by decide, by decide⟩)
theorem KeepN.dk {w w' : World} {lo B : Nat} {d : Dsk.Dk} (h : IsDk w lo B d) (hk : KeepN w w') : IsDk w' lo B d := by
  obtain ⟨bd, bn, pv, h1, h2⟩ := h
  refine ⟨bd, bn, pv, h1.stay hk.ku ?_, h2⟩
  rintro k (rfl | rfl | rfl | e)
  · exact hk _ _ h1.blk (fun xs t fr e => by cases e; exact ⟨by decide, by decide⟩)
  · obtain ⟨es, cl, hb⟩ := h1.done.blk; exact hk _ _ hb (fun xs t fr e => by cases e)
  · obtain ⟨es, cl, hb⟩ := h1.now.blk; exact hk _ _ hb (fun xs t fr e => by cases e)
  · obtain ⟨xs, ho⟩ := h1.pend.own
    rcases ho.2 with ⟨rfl, _⟩ | ⟨g, cap, cur, rfl, _, hg, _⟩
    · simp [Value.ownBlock] at e
    · simp [Value.ownBlock] at e
      subst e
      exact hk _ _ hg (fun xs t fr e => by cases e; exact ⟨by decide, by decide⟩)
theorem KeepN.below {w w' : World} {B : Nat} (hb : Below B w w') (h : w.heap.size ≤ B) : KeepN w w' := fun k o hk _ => hb.block k (Nat.lt_of_lt_of_le (blk_lt hk) h)
theorem KeepN.trans {a b c : World} (h : KeepN a b) (k : KeepN b c) : KeepN a c := fun i o hi hn => by
  have e1 := h i o hi hn
  rw [← e1]
  exact k i o (e1.trans hi) hn
theorem LogIs.keep {w w' : World} {lo LB B : Nat} {nm : Dsk.Name} {l : List Rec} (h : LogIs w lo LB B nm l) (hk : KeepT w w') : LogIs w' lo LB B nm l := by
  obtain ⟨rv, h1, h2, h3⟩ := h
  refine ⟨rv, (hk _ _ _ _ h1 (by decide) (by decide)).trans h1, h2, h3.stay hk.ku (fun k e => ?_)⟩
  obtain ⟨ps, _, _, h4⟩ := h3
  obtain ⟨a, c, _, _, _, h5⟩ := h4.form
  obtain ⟨_, _, cur, hc⟩ := h5 k e
  exact hk _ _ _ _ hc (by decide) (by decide)
theorem LogIs.below {w w' : World} {lo LB B : Nat} {nm : Dsk.Name} {l : List Rec} (h : LogIs w lo LB B nm l) (hb : Below w.heap.size w w') : LogIs w' lo LB B nm l := h.keep (KeepT.below hb (Nat.le_refl _))
/-- What is no disk's and no log's. -/
def KeepG (w w' : World) : Prop := ∀ (k : Nat) (xs : Array Value) (t : TypeId) (fr : Nat × Nat), w.heap[k]? = some (Obj.cells xs t fr) → t ≠ 86 → t ≠ 110 → t ≠ 95 → t ≠ 104 → w'.heap[k]? = w.heap[k]?
theorem KeepG.trans {a b c : World} (h : KeepG a b) (k : KeepG b c) : KeepG a c := fun i xs t fr hi h1 h2 h3 h4 => by
  have e1 := h i xs t fr hi h1 h2 h3 h4
  rw [← e1]
  exact k i xs t fr (e1.trans hi) h1 h2 h3 h4
theorem KeepG.ofT {w w' : World} (h : KeepT w w') : KeepG w w' := fun k xs t fr hk h1 h2 _ _ => h k xs t fr hk h1 h2
theorem KeepG.ofN {w w' : World} (h : KeepN w w') : KeepG w w' := fun k xs t fr hk _ _ h3 h4 => h k _ hk (fun xs t fr e => by cases e; exact ⟨h3, h4⟩)
theorem KeepG.ku {w w' : World} (h : KeepG w w') : KeepU w w' := fun k xs fr hk => h k xs _ fr hk (by decide) (by decide) (by decide) (by decide)
theorem KeepG.below {w w' : World} {B : Nat} (hb : Below B w w') (h : w.heap.size ≤ B) : KeepG w w' := .ofT (KeepT.below hb h)
theorem own_ng {w : World} {base e size : Nat} {v : Value} {n : Nat} {xs : List Value} (h : w.ownsRow base e size v n xs) {w' : World} (hk : KeepG w w') (h1 : e ≠ 86) (h2 : e ≠ 110) (h3 : e ≠ 95) (h4 : e ≠ 104) : w'.ownsRow base e size v n xs := by
  refine ⟨h.1, ?_⟩
  rcases h.2 with hn | ⟨g, cap, cur, rfl, hb, hg, r⟩
  · exact .inl hn
  · exact .inr ⟨g, cap, cur, rfl, hb, (hk g cur e (0, 0) hg h1 h2 h3 h4).trans hg, r⟩

/-! What is told. -/
def lenOf (l : List Rec) : Nat := match l.getLast? with | some r => r.fin | none => 0
theorem length_any (w : World) (lo LB B : Nat) (nm : Dsk.Name) (l : List Rec) (h : LogIs w lo LB B nm l) (hn : l.length ≤ 1048576) :
    Calls Tryz.prog 12 #[.pointer (some ⟨LB, 0, none⟩)] w fun e w' => e = .returned (.int .i64 (lenOf l : Int)) ∧ w' = w := by
  obtain ⟨rv, h1, h2, h3⟩ := h
  have c2 : w.cell? ⟨LB, 2, none⟩ = some rv := blk_cell (i := 2) h1 rfl
  rcases Nat.eq_zero_or_pos l.length with h0 | h0
  · have hl : l = [] := List.eq_nil_of_length_eq_zero h0
    subst hl
    obtain ⟨ps, hp, _, h4⟩ := h3
    have hp0 : ps = [] := by cases ps; rfl; simp at hp
    subst hp0
    obtain ⟨a, c, rfl, _⟩ := h4.form
    clear h1 h4 hp
    go_enter Tryz.func12, Tryz.ntmps12
    go_wp2
    go_ret
    exact ⟨rfl, rfl⟩
  · obtain ⟨x, hx⟩ : ∃ x, l[l.length - 1]? = some x := ⟨_, List.getElem?_eq_getElem (by omega)⟩
    obtain ⟨g, cap, a, c, rfl, _, e0, e1, e2⟩ := h3.elem hx
    have hlast : lenOf l = x.fin := by unfold lenOf; rw [List.getLast?_eq_getElem?, hx]
    rw [hlast]
    obtain ⟨n, hn'⟩ : ∃ n, n = l.length := ⟨_, rfl⟩
    rw [← hn'] at c2 e2 h0 hn
    have d0 : decide ((0 : Int) < (n : Int)) = true := decide_eq_true (by omega)
    have d0' : decide (0 < n) = true := decide_eq_true h0
    have hw := wrapi' ((n : Int) - 1) (by omega)
    have hq : (n : Int) - 1 = ((n - 1 : Nat) : Int) := by omega
    rw [hq] at hw
    have hlt : ((n - 1 : Nat) : Int) < (n : Int) := by omega
    have hw' : IntKind.i64.wrap ((n : Int) - 1) = ((n - 1 : Nat) : Int) := by rw [hq]; exact hw
    clear h1 e0 e1 hx hlast hn' hq hw h3
    go_enter Tryz.func12, Tryz.ntmps12
    go_wp2
    go_ret
    exact ⟨rfl, rfl⟩
theorem count_any (w : World) (lo LB B : Nat) (nm : Dsk.Name) (l : List Rec) (h : LogIs w lo LB B nm l) :
    Calls Tryz.prog 31 #[.pointer (some ⟨LB, 0, none⟩)] w fun e w' => e = .returned (.int .i64 (l.length : Int)) ∧ w' = w := by
  obtain ⟨rv, h1, h2, h3⟩ := h
  have c2 : w.cell? ⟨LB, 2, none⟩ = some rv := blk_cell (i := 2) h1 rfl
  obtain ⟨ps, hp, _, h4⟩ := h3
  obtain ⟨a, c, rfl, _⟩ := h4.form
  have hl : ps.length = l.length := by rw [← hp, List.length_map]
  rw [hl] at c2
  clear h1 h4 hp hl
  go_enter Tryz.func31, Tryz.ntmps31
  go_wp2
  go_ret
  exact ⟨rfl, rfl⟩
end Go.Proofs.YtkalpkmnelgieaaGreatDoor
