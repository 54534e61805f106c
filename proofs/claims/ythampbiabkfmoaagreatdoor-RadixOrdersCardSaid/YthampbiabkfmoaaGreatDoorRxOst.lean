/- What RadixOrders keeps: a tree, its log, what was put, and what is left to put. -/
import Derived.Test.YthampbiabkfmoaaGreatDoorRxSst
namespace Rx
/-- A hash's number. -/
def fv (h : List UInt8) : Int := 1 + ((h.getD 2 0).toNat : Int)
theorem fv_le (h : List UInt8) : 0 ≤ fv h ∧ fv h ≤ 256 := by
  have := (h.getD 2 0).toNat_lt
  unfold fv; omega
end Rx
namespace Go.Proofs.YthampbiabkfmoaaGreatDoor
open Go.RowKit Go.Tap
set_option linter.unusedVariables false
set_option linter.unusedSimpArgs false
/-- All that is kept is in the tree, or left. -/
structure Rx.Lf (k km : Rx.K) (ps : List Rx.Pr) : Prop where
  pv : ∀ p ∈ ps, p.v = Rx.fv (Rx.hashOf p)
  kv : ∀ x ∈ k, x.2 = Rx.fv x.1
  mv : ∀ x ∈ km, x.2 = Rx.fv x.1
  cover : ∀ x, x ∈ k.map (·.1) ↔ x ∈ km.map (·.1) ∨ ∃ p ∈ ps, Rx.hashOf p = x
  nd : (k.map (·.1)).Nodup
  ndm : (km.map (·.1)).Nodup
  h32 : ∀ x ∈ k, x.1.length = 32
theorem Rx.Lf.nil : Rx.Lf [] [] [] := ⟨fun p h => (by cases h), fun p h => (by cases h), fun p h => (by cases h), fun x => by simp, by simp, by simp, fun p h => (by cases h)⟩
theorem Rx.Lf.push {k : Rx.K} {ps : List Rx.Pr} (h : Rx.Lf k [] ps) (p : Rx.Pr) (hv : p.v = Rx.fv (Rx.hashOf p)) (hl : (Rx.hashOf p).length = 32) : Rx.Lf (Rx.kput k (Rx.hashOf p) p.v) [] (ps ++ [p]) where
  pv := fun q hq => by
    rcases List.mem_append.1 hq with hq | hq
    · exact h.pv q hq
    · simp only [List.mem_singleton] at hq; subst hq; exact hv
  kv := fun x hx => by
    have := (Rx.kput_mem k _ _ h.nd x.1 x.2).1 hx
    split at this
    · next e => rw [this, hv, e]
    · exact h.kv _ this
  mv := fun x hx => by cases hx
  cover := fun x => by
    rw [Rx.kput_keys, h.cover x]
    constructor
    · rintro (rfl | h1 | ⟨q, hq, rfl⟩)
      · exact .inr ⟨p, by simp, rfl⟩
      · exact .inl h1
      · exact .inr ⟨q, by simp [hq], rfl⟩
    · rintro (h1 | ⟨q, hq, rfl⟩)
      · exact .inr (.inl h1)
      · rcases List.mem_append.1 hq with hq | hq
        · exact .inr (.inr ⟨q, hq, rfl⟩)
        · simp only [List.mem_singleton] at hq; subst hq; exact .inl rfl
  nd := Rx.kput_nd k _ _ h.nd
  ndm := h.ndm
  h32 := fun x hx => by
    have := (Rx.kput_mem k _ _ h.nd x.1 x.2).1 hx
    split at this
    · next e => rw [e]; exact hl
    · exact h.h32 _ this
theorem Rx.Lf.put {k km : Rx.K} {ps : List Rx.Pr} (h : Rx.Lf k km ps) {j : Nat} {p : Rx.Pr} (hj : ps[j]? = some p) : Rx.Lf k (Rx.kput km (Rx.hashOf p) p.v) (ps.take j ++ ps.drop (j + 1)) := by
  have hm : ∀ q, q ∈ ps ↔ q = p ∨ q ∈ ps.take j ++ ps.drop (j + 1) := fun q => by
    have h1 := List.getElem?_eq_some_iff.1 hj
    have e : ps = ps.take j ++ (p :: ps.drop (j + 1)) := by
      have e2 : ps.drop j = p :: ps.drop (j + 1) := by rw [List.drop_eq_getElem_cons h1.1, h1.2]
      rw [← e2, List.take_append_drop]
    conv => lhs; rw [e]
    simp only [List.mem_append, List.mem_cons]
    constructor
    · rintro (a | a | a); exact .inr (.inl a); exact .inl a; exact .inr (.inr a)
    · rintro (a | a | a); exact .inr (.inl a); exact .inl a; exact .inr (.inr a)
  have hp : p.v = Rx.fv (Rx.hashOf p) := h.pv p (List.mem_of_getElem? hj)
  refine ⟨fun q hq => h.pv q ((hm q).2 (.inr hq)), h.kv, fun x hx => ?_, fun x => ?_, h.nd, Rx.kput_nd km _ _ h.ndm, h.h32⟩
  · have := (Rx.kput_mem km _ _ h.ndm x.1 x.2).1 hx
    split at this
    · next e => rw [this, hp, e]
    · exact h.mv _ this
  · rw [h.cover x, Rx.kput_keys]
    constructor
    · rintro (h1 | ⟨q, hq, rfl⟩)
      · exact .inl (.inr h1)
      · rcases (hm q).1 hq with rfl | hq
        · exact .inl (.inl rfl)
        · exact .inr ⟨q, hq, rfl⟩
    · rintro ((rfl | h1) | ⟨q, hq, rfl⟩)
      · exact .inr ⟨p, List.mem_of_getElem? hj, rfl⟩
      · exact .inl h1
      · exact .inr ⟨q, (hm q).2 (.inr hq), rfl⟩
theorem Rx.Lf.done {k km : Rx.K} {t : Rx.T} (h : Rx.Lf k km []) (hM : Rx.Mt t km) : Rx.Mt t k := by
  refine ⟨fun x n hx => ?_, h.nd, h.h32⟩
  rw [hM.mem x n hx]
  have hc : x ∈ k.map (·.1) ↔ x ∈ km.map (·.1) := by rw [h.cover x]; simp
  constructor
  · intro h1
    obtain ⟨y, hy, rfl⟩ := List.mem_map.1 (hc.2 (List.mem_map.2 ⟨_, h1, rfl⟩))
    have e1 := h.mv _ h1
    have e2 := h.kv _ hy
    simp only at e1
    rw [e1, ← e2]; exact hy
  · intro h1
    obtain ⟨y, hy, rfl⟩ := List.mem_map.1 (hc.1 (List.mem_map.2 ⟨_, h1, rfl⟩))
    have e1 := h.kv _ h1
    have e2 := h.mv _ hy
    simp only at e1
    rw [e1, ← e2]; exact hy
abbrev OwnL (w : World) (base : Nat) (v : Value) (ps : List Rx.Pr) : Prop := w.ownsRow base 44 35 v ps.length (flatC prC ps)
structure OSt (w wr : World) (TB LB B KB : Nat) (t : Rx.T) (I : Rx.Its) (k km : Rx.K) (vh vn vl : Value) (ps : List Rx.Pr) : Prop where
  st : RSt w wr TB LB B 4194304 t I
  kept : KeptAt wr w.heap.size KB k vh vn
  mt : Rx.Mt t km
  left : OwnL wr w.heap.size vl ps
  ok : ∀ p ∈ ps, Rx.prOk p
section
variable {w wr w' : World} {TB LB B KB : Nat} {t : Rx.T} {I : Rx.Its} {k km : Rx.K} {vh vn vl : Value} {ps : List Rx.Pr}
theorem OSt.step (h : OSt w wr TB LB B KB t I k km vh vn vl ps) (hb : Below wr.heap.size wr w') : OSt w w' TB LB B KB t I k km vh vn vl ps :=
  ⟨h.st.step hb, h.kept.below hb, h.mt, ownsRow_stay h.left (TStay.of_below hb (fun _ => False)) (fun _ _ h => h), h.ok⟩
theorem OSt.put {x : List UInt8} {n : Int} (h : OSt w wr TB LB B KB t I k km vh vn vl ps) (hx : x.length = 32) (hp : PutT wr w.heap.size TB x n t w') : ∃ t', OSt w w' TB LB B KB t' I k (Rx.kput km x n) vh vn vl ps ∧ Rx.uns t' ≤ Rx.uns t + 65 := by
  obtain ⟨t1, f1, _, _, h3⟩ := id hp
  obtain ⟨t', f, r1, q1⟩ := h.st.put hp
  refine ⟨t', ⟨r1, h.kept.tree h.st.tree h3, h.mt.put q1 hx, own_tree (lo' := 0) h.left h.st.tree h3 (by decide) (by decide), h.ok⟩, ?_⟩
  have := q1.uns
  simpa using this
theorem OSt.kput {k' : Rx.K} {vh' vn' : Value} (h : OSt w wr TB LB B KB t I k km vh vn vl ps) (h2 : KeptAt w' w.heap.size KB k' vh' vn') (h3 : TStay (KX KB vh vn) wr w') : OSt w w' TB LB B KB t I k' km vh' vn' vl ps := by
  have hx : ∀ j, KX KB vh vn j → ∃ cs T, wr.heap[j]? = some (.cells cs T (0, 0)) ∧ (T = 37 ∨ T = 42 ∨ T = 3) ∧ w.heap.size ≤ j := by
    rintro j (rfl | e | e)
    · exact ⟨_, _, h.kept.top, .inl rfl, h.kept.lo_⟩
    · obtain ⟨h1, _, cs, h2⟩ := own_at h.kept.hs e
      exact ⟨_, _, h2, .inr (.inl rfl), h1⟩
    · obtain ⟨h1, _, cs, h2⟩ := own_at h.kept.ns e
      exact ⟨_, _, h2, .inr (.inr rfl), h1⟩
  have hne : ∀ {j : Nat} {cs : Array Value} {T : TypeId} {fr : Nat × Nat}, wr.heap[j]? = some (.cells cs T fr) → T ≠ 37 → T ≠ 42 → T ≠ 3 → ¬ KX KB vh vn j := fun hj n1 n2 n3 e => by
    obtain ⟨cs2, T2, e2, e3, _⟩ := hx _ e
    rw [e2] at hj; cases hj
    rcases e3 with e3 | e3 | e3
    · exact n1 e3
    · exact n2 e3
    · exact n3 e3
  refine ⟨⟨h.st.tree.stay h3 (fun x hx2 => ?_), h.st.ls.keep (KeepL.tstay h3 (fun j hj _ => ?_)), h.st.sv, h.st.big, Below.trans_stay h.st.bel h3 (Nat.le_refl _) (fun j hj e => ?_)⟩, h2, h.mt, ownsRow_stay h.left h3 (fun j hj => by obtain ⟨_, _, cs, hc⟩ := own_at h.left hj; exact hne hc (by decide) (by decide) (by decide)), h.ok⟩
  · rcases hx2 with rfl | hm
    · exact hne h.st.tree.top (by decide) (by decide) (by decide)
    · obtain ⟨cs, hc⟩ := h.st.tree.at_.ty x hm
      exact hne hc (by decide) (by decide) (by decide)
  · obtain ⟨cs2, T2, e2, e3, _⟩ := hx _ hj
    refine ⟨_, _, _, e2, ?_⟩
    rcases e3 with rfl | rfl | rfl <;> exact ⟨by decide, by decide, by decide, by decide, by decide⟩
  · obtain ⟨_, _, _, _, e4⟩ := hx _ e; omega
theorem OSt.save {e : Ending} (h : OSt w wr TB LB B KB t I k km vh vn vl ps) (hs : STree wr w.heap.size LB B 4194304 TB t I e w') :
    ∃ t' I', e = .returned (.tuple #[.int .i64 t'.saved, .nilIface]) ∧ OSt w w' TB LB B KB t' I' k km vh vn vl ps ∧ Rx.Saves t I t' I' := by
  obtain ⟨t', I', rfl, r1, s1, k1⟩ := h.st.save hs
  exact ⟨t', I', rfl, ⟨r1, h.kept.keepM h.st.tree k1, ⟨fun x n hx => by rw [Rx.er_has s1.sm]; exact h.mt.mem x n hx, h.mt.nd, h.mt.h32⟩, own_keepM h.left k1 (by decide) (by decide) (by decide) (by decide) (fun j hj e => by obtain ⟨_, _, cs, hc⟩ := own_at h.left hj; exact tree_no h.st.tree hc (by decide) (by decide) (.inr e)), h.ok⟩, s1⟩
/-- One more is left to put. -/
theorem OSt.push {vl' : Value} {p : Rx.Pr} {wa : World} (h : OSt w wr TB LB B KB t I k km vh vn vl ps) (hp : Rx.prOk p) (ha : Below wr.heap.size wr wa) (ho : w'.ownsRow w.heap.size 44 35 vl' (ps.length + 1) (flatC prC ps ++ (prC p).toList)) (hg : wa.grownBy w' vl.ownBlock) :
    OSt w w' TB LB B KB t I k km vh vn vl' (ps ++ [p]) := by
  have h3 : TStay (fun j => vl.ownBlock = some j) wr w' := (TStay.of_below ha (fun j => vl.ownBlock = some j)).grown hg (fun j e => .inl e)
  have hne : ∀ {j : Nat} {cs : Array Value} {T : TypeId} {fr : Nat × Nat}, wr.heap[j]? = some (.cells cs T fr) → T ≠ 44 → vl.ownBlock ≠ some j := fun hj n1 e => n1 (own_tne h.left e hj)
  refine ⟨⟨h.st.tree.stay h3 (fun x hx2 => ?_), h.st.ls.keep (KeepL.tstay h3 (fun j hj _ => ?_)), h.st.sv, h.st.big, Below.trans_stay h.st.bel h3 (Nat.le_refl _) (fun j hj e => ?_)⟩, h.kept.stayB h3 (hne h.kept.top (by decide)) (fun j hj => ?_) (fun j hj => ?_), h.mt, ?_, fun q hq => ?_⟩
  · rcases hx2 with rfl | hm
    · exact hne h.st.tree.top (by decide)
    · obtain ⟨cs, hc⟩ := h.st.tree.at_.ty x hm
      exact hne hc (by decide)
  · obtain ⟨_, _, cs, hc⟩ := own_at h.left hj
    exact ⟨_, _, _, hc, by decide, by decide, by decide, by decide, by decide⟩
  · have := (own_at h.left e).1; omega
  · obtain ⟨_, _, cs, hc⟩ := own_at h.kept.hs hj; exact hne hc (by decide)
  · obtain ⟨_, _, cs, hc⟩ := own_at h.kept.ns hj; exact hne hc (by decide)
  · show w'.ownsRow _ _ _ _ (ps ++ [p]).length (flatC prC (ps ++ [p]))
    rw [List.length_append, flatC_snoc]; exact ho
  · rcases List.mem_append.1 hq with hq | hq
    · exact h.ok q hq
    · simp only [List.mem_singleton] at hq; subst hq; exact hp
/-- Another row is left. -/
theorem OSt.turn {vl' : Value} {qs : List Rx.Pr} (h : OSt w wr TB LB B KB t I k km vh vn vl ps) (hb : Below wr.heap.size wr w') (ho : w'.ownsRow wr.heap.size 44 35 vl' qs.length (flatC prC qs)) (hq : ∀ q ∈ qs, q ∈ ps) : OSt w w' TB LB B KB t I k km vh vn vl' qs :=
  have h1 := h.step hb
  ⟨h1.st, h1.kept, h1.mt, ownsRow_base ho h.st.bel.size, fun q hq' => h.ok q (hq q hq')⟩
end
/-- 'append(s, x...)' of cells that are read. -/
theorem step_append_cells {P : Program} {w : World} {ops : Array Oper} {o : Oper} {a : Act} {K : Act → World → Prop} {Q : Exit → Act → World → Prop} {E : Prop} (d : Option Tmp) (hd : o.dst = d) (hgd : o.guard = none) (s x : Operand) (t : TypeId)
    (ho : o.op = .call { callee := .builtin .append, args := #[s, x], argTypes := #[t, t] })
    (base : Nat) (e : TypeId) (i : TypeInfo) (z : Value) (size bytes : Nat) (ht : P.underlying t = some (.slice e)) (hi : P.info? e = some i) (hz : i.zero = some z) (hsize : i.size = size) (hby : i.bytes = bytes) (hzs : z.cells.size = size) (hsz : 0 < size)
    (v : Value) (n : Nat) (xs : List Value) (hs : a.eval s = v) (hown : w.ownsRow base e size v n xs)
    (ao : Option Addr) (m c : Nat) (news : List Value) (hx : a.eval x = .slice ao m c) (hl : news.length = m * size) (hnone : ao = none → m = 0 ∧ c = 0) (hsrc : ∀ ad, ao = some ad → ∀ j u, news[j]? = some u → w.cell? (ad.add j) = some u) (h1 : ∀ u ∈ news, u.oneCell' = true)
    (h63 : n + m ≤ maxLen) (hbytes : (n + m) * bytes ≤ 140737488355328) (hbase : base ≤ w.heap.size)
    (h : ∀ a' c' w', w'.ownsRow base e size (.slice a' (n + m) c') (n + m) (xs ++ news) → w.grownBy w' v.ownBlock → K (a.put d (.slice a' (n + m) c')) w') :
    if Region.wanted o (yielded ops a.tmps) = true then Oper.wp P o a w K Q else E := by
  subst hd
  have hw : Region.wanted o (yielded ops a.tmps) = true := by simp [Region.wanted, hgd]
  rw [if_pos hw]
  have fin : ∀ v' w', w'.ownsRow base e size v' (n + m) (xs ++ news) → w.grownBy w' v.ownBlock → K (a.put o.dst v') w' := fun v' w' h1 h2 => by
    rcases h1.2 with ⟨e1, e2⟩ | ⟨g, cap, cur, e1, _⟩
    · subst e1
      have := h none 0 w' (by rw [e2]; rw [e2] at h1; exact h1) h2
      rwa [e2] at this
    · subst e1; exact h _ _ w' h1 h2
  cases ao with
  | none =>
    obtain ⟨rfl, rfl⟩ := hnone rfl
    have : news = [] := List.eq_nil_of_length_eq_zero (by rw [hl]; omega)
    subst this
    have hrun := run_append_owned_none (P := P) (w := w) base t o.type e i size ht hi _ n xs hown
    unfold Oper.wp
    simp [execOp, ho, resolve, invoke, builtin, hs, hx, hrun, Result.andThen]
    exact fin _ w (by simpa using hown) (World.grownBy.refl _ _)
  | some ad =>
    obtain ⟨v', w', hrun, h2, h3, _⟩ := run_append_own (P := P) w base t o.type e i z size bytes ht hi hz hsize hby hzs hsz _ n xs hown ad m c news hl (hsrc ad rfl) h1 (by omega) hbytes hbase
    unfold Oper.wp execOp
    simp only [ho, resolve, invoke, builtin, Sem.run_bind, Sem.run_pure, Result.andThen_ok, List.map_toArray, List.map_cons, List.map_nil, hs, hx, hrun]
    exact fin v' w' h2 h3
/-- Elements that are read, cell by cell. -/
theorem rdA_cells {α : Type} {C : α → Array Value} {sz : Nat} {w : World} {a : Option Addr} {n : Nat} {l : List α} (h : RdA C sz w a n l) (hsz : ∀ x ∈ l, (C x).size = sz) (h0 : 0 < sz) : ∀ ad, a = some ad → ∀ j u, (flatC C l)[j]? = some u → w.cell? (ad.add j) = some u := by
  intro ad had j u hu
  have hlen : (flatC C l).length = l.length * sz := by
    clear h had hu
    induction l with
    | nil => simp [flatC]
    | cons x r ih =>
      have e : flatC C (x :: r) = (C x).toList ++ flatC C r := rfl
      rw [e, List.length_append, ih (fun y hy => hsz y (List.mem_cons_of_mem _ hy)), Array.length_toList, hsz x (List.mem_cons_self ..), List.length_cons, Nat.add_mul]; omega
  have hj : j < l.length * sz := by rw [← hlen]; exact (List.getElem?_eq_some_iff.1 hu).1
  have hq : j / sz < l.length := (Nat.div_lt_iff_lt_mul h0).2 hj
  obtain ⟨x, hx⟩ : ∃ x, l[j / sz]? = some x := ⟨_, List.getElem?_eq_getElem hq⟩
  obtain ⟨b, o, e, hb, hp⟩ := h.at hx
  rw [had] at e
  cases e
  have hm := Nat.mod_lt j h0
  have hc : (flatC C l)[j]? = (C x)[j % sz]? := by
    have key : ∀ (l : List α) (q r : Nat) (x : α), (∀ y ∈ l, (C y).size = sz) → l[q]? = some x → r < sz → (flatC C l)[q * sz + r]? = (C x)[r]? := by
      intro l
      induction l with
      | nil => intro q r x _ h; simp at h
      | cons y t ih =>
        intro q r x hs hq hr
        have e : flatC C (y :: t) = (C y).toList ++ flatC C t := rfl
        have hy := hs y (List.mem_cons_self ..)
        cases q with
        | zero =>
          simp at hq; subst hq
          rw [e, Nat.zero_mul, Nat.zero_add, List.getElem?_append_left (by rw [Array.length_toList, hy]; exact hr), Array.getElem?_toList]
        | succ q =>
          rw [e, List.getElem?_append_right (by rw [Array.length_toList, hy, Nat.succ_mul]; omega), Array.length_toList, hy, ← ih q r x (fun z hz => hs z (List.mem_cons_of_mem _ hz)) (by simpa using hq) hr]
          congr 1
          rw [Nat.succ_mul]; omega
    have := key l (j / sz) (j % sz) x hsz hx hm
    rwa [Nat.mul_comm, Nat.div_add_mod] at this
  rw [hc] at hu
  have := hp (j % sz) u hu
  rw [Addr.add_lit]
  rwa [Nat.add_assoc, Nat.mul_comm, Nat.div_add_mod] at this
theorem flatC_app' {α : Type} (C : α → Array Value) (a b : List α) : flatC C (a ++ b) = flatC C a ++ flatC C b := by simp [flatC]
theorem own_src {w : World} {base e size m c : Nat} {ad : Addr} {news : List Value} (h : w.ownsRow base e size (.slice (some ad) m c) m news) : ∀ j u, news[j]? = some u → w.cell? (ad.add j) = some u := by
  intro j u hu
  rcases h.2 with ⟨e1, e2⟩ | ⟨g, cap, cur, e1, _, hg, _, _, _, hcur⟩
  · simp at e1
  · simp only [Value.slice.injEq, Option.some.injEq] at e1
    obtain ⟨rfl, _⟩ := e1
    rw [Addr.add_lit, Nat.zero_add, cell_of_row w g j cur _ _ hg]
    have hj : j < m * size := by rw [← h.1]; exact (List.getElem?_eq_some_iff.1 hu).1
    rw [← hcur, List.getElem?_take_of_lt hj] at hu
    simpa using hu
theorem ex_slTo {o : Oper} {a : Act} {w : World} (T : TypeId) (x hi : Operand) (ho : o.op = .slice T x none (some hi) none) (X H v : Value) (hx : a.eval x = X) (hh : a.eval hi = H) (hr : (Instr.sliceAt T X none (some H) none).run Tryz.prog w = .ok v w) : (execOp a.eval o).run Tryz.prog w = .ok (.value v) w := by
  unfold execOp; simp only [ho, hx, hh, Option.map_some, Option.map_none, Sem.run_bind, hr, Result.andThen_ok, Sem.run_pure]
theorem ex_slFrom {o : Oper} {a : Act} {w : World} (T : TypeId) (x lo : Operand) (ho : o.op = .slice T x (some lo) none none) (X L v : Value) (hx : a.eval x = X) (hh : a.eval lo = L) (hr : (Instr.sliceAt T X (some L) none none).run Tryz.prog w = .ok v w) : (execOp a.eval o).run Tryz.prog w = .ok (.value v) w := by
  unfold execOp; simp only [ho, hx, hh, Option.map_some, Option.map_none, Sem.run_bind, hr, Result.andThen_ok, Sem.run_pure]
theorem slP_to (g j L cl : Nat) (h1 : j ≤ cl) (h0 : 0 < cl) (W : World) : (Instr.sliceAt 39 (.slice (some ⟨g, 0, none⟩) L cl) none (some (.int .i64 (j : Int))) none).run Tryz.prog W = .ok (.slice (some ⟨g, 0, none⟩) j cl) W := by
  have i0 : (0 : Int) ≤ (j : Int) := by omega
  have i1 : (j : Int) ≤ (cl : Int) := by omega
  have hc : (cl = 0) = False := by simp; omega
  go_simp
theorem slP_from (g m L cl : Nat) (h1 : m ≤ L) (h0 : L ≤ cl) (W : World) : (Instr.sliceAt 39 (.slice (some ⟨g, 0, none⟩) L cl) (some (.int .i64 (m : Int))) none none).run Tryz.prog W = .ok (.slice (some ⟨g, if cl = m then 0 else m * 35, none⟩) (L - m) (cl - m)) W := by
  have i0 : (0 : Int) ≤ (m : Int) := by omega
  have i1 : (m : Int) ≤ (L : Int) := by omega
  have i2 : (L : Int) ≤ (cl : Int) := by omega
  have i3 : (m : Int) ≤ (cl : Int) := by omega
  by_cases hc : cl = m
  · obtain rfl : cl = m := hc
    obtain rfl : L = cl := by omega
    clear i0 i1 i2 i3 h0 h1
    have i0 : (0 : Int) ≤ (L : Int) := by omega
    have i1 : (L : Int) ≤ (L : Int) := by omega
    rw [if_pos rfl]
    go_simp
  · have hc' : (cl = m) = False := by simp [hc]
    go_simp
end Go.Proofs.YthampbiabkfmoaaGreatDoor
