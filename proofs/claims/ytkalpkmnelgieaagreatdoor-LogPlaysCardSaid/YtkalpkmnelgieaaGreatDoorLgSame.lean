/- LogPlays: the state of a log and its like; same. -/
import Derived.Test.YtkalpkmnelgieaaGreatDoorLgRef
import Derived.Test.YtkalpkmnelgieaaGreatDoorLgProg
import Derived.Deep.RegionHeld3
import Derived.BigQuiet
namespace Go.Proofs.YtkalpkmnelgieaaGreatDoor
open Go.RowKit Go.Tap Go.Maps
set_option linter.unusedVariables false
set_option linter.unusedSimpArgs false
attribute [local go_sem ↓] Go.wp_at_zero Go.wp_at_succ

abbrev Its := List (Nat × List UInt8)
/-- A disk, its like, a log on each, and one block of another's, in one world. -/
structure LgSt (w : World) (B RB LB RLB xb : Nat) (cs : Array Value) (T : TypeId) (X : World) (d : Dsk.Dk) (i1 : Its) (r : Ref.Rd) (i2 : Its) : Prop where
  dk : IsDk X w.heap.size B d
  lg : LogIs X w.heap.size LB B [102] (recsAt 0 i1)
  rd : IsRd X RB r
  rl : RLog X RLB RB i2
  bel : Below w.heap.size w X
  x : X.heap[xb]? = some (.cells cs T (0, 0))
  rb : w.heap.size ≤ RB ∧ w.heap.size ≤ RLB
  t : (T ≠ 86 ∧ T ≠ 110 ∧ T ≠ 95 ∧ T ≠ 104) ∧ T ≠ 90 ∧ T ≠ 44
theorem LgSt.ok {w X : World} {B RB LB RLB xb : Nat} {cs : Array Value} {T : TypeId} {d : Dsk.Dk} {i1 i2 : Its} {r : Ref.Rd} (h : LgSt w B RB LB RLB xb cs T X d i1 r i2) : Dsk.Ok d := by obtain ⟨_, _, _, _, q⟩ := h.dk; exact q
theorem IsRd.keepG {w w' : World} {B : Nat} {r : Ref.Rd} (h : IsRd w B r) (hk : KeepG w w') : IsRd w' B r := by
  obtain ⟨kv, pv, h⟩ := h
  refine ⟨kv, pv, h.keep (hk B _ _ _ h.blk (by decide) (by decide) (by decide) (by decide)) (fun k xs t fr hk' ht => ?_)⟩
  refine hk k xs t fr hk' ?_ ?_ ?_ ?_ <;> rcases ht with rfl | rfl | rfl <;> decide
theorem LogIs.stay {S : Nat → Prop} {w w' : World} {lo LB B : Nat} {nm : Dsk.Name} {l : List Rec} (h : LogIs w lo LB B nm l) (ht : TStay S w w') (hs : ∀ k, S k → ∃ xs t fr, w.heap[k]? = some (Obj.cells xs t fr) ∧ t ≠ 5 ∧ t ≠ 95 ∧ t ≠ 104) : LogIs w' lo LB B nm l := by
  have key : ∀ (k : Nat) (xs : Array Value) (t : TypeId) (fr : Nat × Nat), w.heap[k]? = some (Obj.cells xs t fr) → (t = 5 ∨ t = 95 ∨ t = 104) → w'.heap[k]? = w.heap[k]? := fun k xs t fr hk h => ht.block k (blk_lt hk) (fun e => by
    obtain ⟨xs', t', fr', h1, h2, h3, h4⟩ := hs k e
    rw [hk] at h1
    simp only [Option.some.injEq, Obj.cells.injEq] at h1
    rcases h with h | h | h
    · exact h2 (h1.2.1 ▸ h)
    · exact h3 (h1.2.1 ▸ h)
    · exact h4 (h1.2.1 ▸ h))
  obtain ⟨rv, h1, h2, h3⟩ := h
  refine ⟨rv, (key _ _ _ _ h1 (.inr (.inl rfl))).trans h1, h2, h3.stay (fun k xs fr hk => key k xs _ fr hk (.inl rfl)) (fun k e => ?_)⟩
  obtain ⟨ps, _, _, h4⟩ := h3
  obtain ⟨_, _, _, _, _, h5⟩ := h4.form
  obtain ⟨_, _, cur, hc⟩ := h5 k e
  exact key k _ _ _ hc (.inr (.inr rfl))
theorem LgSt.below {w X Y : World} {B RB LB RLB xb : Nat} {cs : Array Value} {T : TypeId} {d : Dsk.Dk} {i1 i2 : Its} {r : Ref.Rd} (h : LgSt w B RB LB RLB xb cs T X d i1 r i2) (hb : Below X.heap.size X Y) : LgSt w B RB LB RLB xb cs T Y d i1 r i2 :=
  ⟨h.dk.below hb, h.lg.below hb, h.rd.below hb, h.rl.below hb, h.bel.trans (hb.mono h.bel.size), (hb.block xb (blk_lt h.x)).trans h.x, h.rb, h.t⟩
theorem LgSt.prog {w X Y : World} {B RB LB LB' RLB xb : Nat} {cs : Array Value} {T : TypeId} {d d' : Dsk.Dk} {i1 i2 i1' : Its} {r : Ref.Rd} (h : LgSt w B RB LB RLB xb cs T X d i1 r i2) (h1 : IsDk Y w.heap.size B d') (h2 : LogIs Y w.heap.size LB' B [102] (recsAt 0 i1')) (h3 : Below w.heap.size X Y) (h4 : KeepG X Y) : LgSt w B RB LB' RLB xb cs T Y d' i1' r i2 :=
  ⟨h1, h2, h.rd.keepG h4, h.rl.keepG h4, h.bel.trans h3, (h4 _ _ _ _ h.x h.t.1.1 h.t.1.2.1 h.t.1.2.2.1 h.t.1.2.2.2).trans h.x, h.rb, h.t⟩
theorem LgSt.ref {w X Y : World} {B RB LB RLB RLB' xb : Nat} {cs : Array Value} {T : TypeId} {d : Dsk.Dk} {i1 i2 i2' : Its} {r r' : Ref.Rd} (h : LgSt w B RB LB RLB xb cs T X d i1 r i2) (h1 : IsRd Y RB r') (h2 : RLog Y RLB' RB i2') (h3 : TStay (fun k => k = RB ∨ k = RLB) X Y) (h4 : w.heap.size ≤ RLB') : LgSt w B RB LB RLB' xb cs T Y d i1 r' i2' := by
  obtain ⟨kv, pv, hr⟩ := h.rd
  obtain ⟨ra, rc, hl, _⟩ := h.rl
  have hty : ∀ k, (k = RB ∨ k = RLB) → ∃ xs t, X.heap[k]? = some (Obj.cells xs t (0, 0)) ∧ (t = 90 ∨ t = 44) := fun k e => by
    rcases e with rfl | rfl
    · exact ⟨_, _, hr.blk, .inl rfl⟩
    · exact ⟨_, _, hl, .inr rfl⟩
  refine ⟨?_, h.lg.stay h3 (fun k e => ?_), h1, h2, h.bel.trans (h3.below h.bel.size (fun k hk e => by have := h.rb; rcases e with e | e <;> omega)), ?_, ⟨h.rb.1, h4⟩, h.t⟩
  · obtain ⟨bd, bn, pv', q1, q2⟩ := h.dk
    have hne : ∀ (j : Nat) (xs : Array Value) (t : TypeId) (fr : Nat × Nat), X.heap[j]? = some (Obj.cells xs t fr) → t ≠ 90 → t ≠ 44 → ¬ (j = RB ∨ j = RLB) := fun j xs t fr hj n1 n2 e => by
      obtain ⟨xs', t', h5, h6⟩ := hty j e
      rw [hj] at h5
      simp only [Option.some.injEq, Obj.cells.injEq] at h5
      rcases h6 with h6 | h6
      · exact n1 (h5.2.1.trans h6)
      · exact n2 (h5.2.1.trans h6)
    have hnm : ∀ (j : Nat) (es : Array MapEntry) (cl : Nat), X.heap[j]? = some (Obj.map es cl) → ¬ (j = RB ∨ j = RLB) := fun j es cl hj e => by
      obtain ⟨xs', t', h5, h6⟩ := hty j e
      rw [hj] at h5; cases h5
    refine ⟨bd, bn, pv', q1.stay (fun j xs fr' hj => h3.block j (blk_lt hj) (hne j _ _ _ hj (by decide) (by decide))) (fun j hj => h3.block j (q1.lt j hj) ?_), q2⟩
    obtain ⟨xs', hp⟩ := q1.pend.own
    rcases hj with rfl | rfl | rfl | hj
    · exact hne _ _ _ _ q1.blk (by decide) (by decide)
    · obtain ⟨es, cl, hm⟩ := q1.done.blk; exact hnm _ _ _ hm
    · obtain ⟨es, cl, hm⟩ := q1.now.blk; exact hnm _ _ _ hm
    · rcases hp.2 with ⟨e1, _⟩ | ⟨g, cap, cur, e1, _, hg, _⟩
      · rw [e1] at hj; simp [Value.ownBlock] at hj
      · rw [e1] at hj
        simp [Value.ownBlock] at hj
        subst hj
        exact hne _ _ _ _ hg (by decide) (by decide)
  · obtain ⟨xs, t, h5, h6⟩ := hty k e
    refine ⟨xs, t, _, h5, ?_, ?_, ?_⟩ <;> rcases h6 with rfl | rfl <;> decide
  · refine (h3.block xb (blk_lt h.x) (fun e => ?_)).trans h.x
    obtain ⟨xs, t, h5, h6⟩ := hty xb e
    rw [h.x] at h5
    simp only [Option.some.injEq, Obj.cells.injEq] at h5
    rcases h6 with h6 | h6
    · exact h.t.2.1 (h5.2.1.trans h6)
    · exact h.t.2.2 (h5.2.1.trans h6)
end Go.Proofs.YtkalpkmnelgieaaGreatDoor
/- LogPlays: calls of a log and of its like, answered alike. -/
namespace Go.Proofs.YtkalpkmnelgieaaGreatDoor
open Go.RowKit Go.Tap Go.Maps
set_option linter.unusedVariables false
set_option linter.unusedSimpArgs false

theorem scan_recs (l : List UInt8) : scanF l = (recsAt 0 (itsOf (scanF l).1), (scanF l).2) := by
  have := scanG_recs (l.length + 1) l 0
  rw [Prod.ext_iff]
  exact ⟨this, rfl⟩
theorem scan_size (l : List UInt8) : (frs (itsOf (scanF l).1)).length ≤ l.length := scanG_size _ _ _
/-- What Open does, and answers. -/
def Dsk.Dk.opn (d : Dsk.Dk) (len : Nat) : Dsk.Dk × Except Nat Its :=
  if (Dsk.val d.now [102]).length < len then (d, .error 3)
  else if (scanF ((Dsk.val d.now [102]).take len)).2 ≠ 0 then (d, .error (scanF ((Dsk.val d.now [102]).take len)).2)
  else if len < (Dsk.val d.now [102]).length then (if (d.trunc [102] (len : Int)).2 = 0 then ((d.trunc [102] (len : Int)).1, .ok (itsOf (scanF ((Dsk.val d.now [102]).take len)).1)) else ((d.trunc [102] (len : Int)).1, .error (d.trunc [102] (len : Int)).2))
  else (d, .ok (itsOf (scanF ((Dsk.val d.now [102]).take len)).1))
structure PLOpen (w : World) (lo B : Nat) (q : Dsk.Dk × Except Nat Its) (e : Ending) (w' : World) : Prop where
  dk : IsDk w' lo B q.1
  bel : Below lo w w'
  kt : KeepT w w'
  res : match q.2 with
    | .error k => ∃ ev, e = .returned (.tuple #[.pointer none, ev]) ∧ EvIs w' ev k
    | .ok its => ∃ LB, e = .returned (.tuple #[.pointer (some ⟨LB, 0, none⟩), .nilIface]) ∧ LogIs w' lo LB B [102] (recsAt 0 its)
theorem popen_any (w : World) (lo B : Nat) (d : Dsk.Dk) (h : IsDk w lo B d) (hw : d.works ≤ 99999) (hd : d.dead = false) (len : Nat) (q : Dsk.Dk × Except Nat Its) (hq : q = d.opn len) :
    Calls Tryz.prog 10 #[.pointer (some ⟨B, 0, none⟩), .string (str [102]), .int .i64 (len : Int)] w (PLOpen w lo B q) := by
  have hlo := h.lo_le
  unfold Dsk.Dk.opn at hq
  by_cases h1 : (Dsk.val d.now [102]).length < len
  · rw [if_pos h1] at hq
    subst hq
    refine (open_short w lo B d h hd [102] (by decide) len h1).mono ?_
    rintro e w' ⟨rfl, hb⟩
    exact ⟨h.below hb, hb.mono hlo, KeepT.below hb (Nat.le_refl _), _, rfl, .inr (.inl rfl)⟩
  · rw [if_neg h1] at hq
    by_cases h2 : (scanF ((Dsk.val d.now [102]).take len)).2 ≠ 0
    · rw [if_pos h2] at hq
      subst hq
      have hl0 : 0 < len := by
        rcases Nat.eq_zero_or_pos len with e | e
        · subst e; rw [List.take_zero] at h2; exact absurd rfl h2
        · exact e
      refine (open_bad w lo B d h hd [102] goodf len (by omega) _ _ h2 hl0 rfl).mono ?_
      rintro e w' ⟨pb, rfl, hst, hb⟩
      exact ⟨h.below hb, hb.mono hlo, KeepT.below hb (Nat.le_refl _), _, rfl, .inr (.inr ⟨pb, rfl, hst⟩)⟩
    · rw [if_neg h2] at hq
      have h2' : (scanF ((Dsk.val d.now [102]).take len)).2 = 0 := by omega
      have hsc := scan_recs ((Dsk.val d.now [102]).take len)
      rw [h2'] at hsc
      by_cases h3 : len < (Dsk.val d.now [102]).length
      · rw [if_pos h3] at hq
        by_cases h4 : (d.trunc [102] (len : Int)).2 = 0
        · rw [if_pos h4] at hq
          subst hq
          refine (open_ok w lo B d _ h hw hd [102] goodf len (by omega) _ hsc (by unfold openD; rw [if_pos h3]; exact Prod.ext rfl h4)).mono ?_
          rintro e w' ⟨LB, rfl, k1, k2, k3, k4⟩
          exact ⟨k1, k3, k4, LB, rfl, k2⟩
        · rw [if_neg h4] at hq
          subst hq
          refine (open_no w lo B d _ h hw hd [102] goodf len (by omega) _ hsc _ h4 (by unfold openD; rw [if_pos h3])).mono ?_
          rintro e w' ⟨rfl, k1, k3, k4⟩
          exact ⟨k1, k3, k4, _, rfl, .inr (.inl rfl)⟩
      · rw [if_neg h3] at hq
        subst hq
        refine (open_ok w lo B d d h hw hd [102] goodf len (by omega) _ hsc (by unfold openD; rw [if_neg h3])).mono ?_
        rintro e w' ⟨LB, rfl, k1, k2, k3, k4⟩
        exact ⟨k1, k3, k4, LB, rfl, k2⟩
theorem wk_truncg (d : Dsk.Dk) (n : Int) : (d.trunc [102] n).1.works ≤ d.works + 1 := by
  have := Dsk.wkp_trunc d [102] n
  unfold Dsk.Dk.truncB at this
  rwa [if_pos goodf] at this
theorem wk_appendg (d : Dsk.Dk) (l : List UInt8) : (d.append [102] l).1.works ≤ d.works + 1 := by
  have := Dsk.wkp_append d [102] l
  unfold Dsk.Dk.appendB at this
  rwa [if_pos goodf] at this
theorem Ref.Eq.vals {d : Dsk.Dk} {r : Ref.Rd} (h : Ref.Eq d r) (ho : Dsk.Ok d) (hd : d.dead = false) : r.vals [102] = Dsk.val d.now [102] ∧ r.has [102] = (Dsk.get d.now [102]).isSome := by
  obtain ⟨hl, ha⟩ := h.now ho
  have hnd : ¬ r.dead = true := by rw [h.dead, hd]; simp
  unfold Ref.Rd.vals Ref.Rd.has
  rw [if_neg hnd, if_neg hnd, hl.val ha, hl.get ha]
  exact ⟨rfl, rfl⟩
theorem Ref.Eq.opn {d : Dsk.Dk} {r : Ref.Rd} (h : Ref.Eq d r) (ho : Dsk.Ok d) (hd : d.dead = false) (len : Nat) : Ref.Eq (d.opn len).1 (r.opn len).1 ∧ (r.opn len).2 = (d.opn len).2 ∧ (d.opn len).1.works ≤ d.works + 1 := by
  obtain ⟨hv, hs⟩ := h.vals ho hd
  have ht := h.trunc ho [102] goodf (len : Int)
  have hw := wk_truncg d (len : Int)
  unfold Ref.Rd.opn Dsk.Dk.opn
  rw [hv, hs]
  by_cases h0 : (Dsk.get d.now [102]).isSome = false
  · have hv0 : Dsk.val d.now [102] = [] := by
      unfold Dsk.val
      cases hg : Dsk.get d.now [102] with
      | none => rfl
      | some b => rw [hg] at h0; cases h0
    rw [if_pos h0, hv0]
    by_cases h1 : 0 < len
    · rw [if_pos h1, if_pos (by simpa using h1)]
      exact ⟨h, rfl, Nat.le_succ _⟩
    · obtain rfl : len = 0 := by omega
      rw [if_neg h1, if_neg (by simp), List.take_nil, if_neg (by simp; rfl), if_neg (by simp)]
      exact ⟨h, rfl, Nat.le_succ _⟩
  · rw [if_neg h0]
    by_cases h1 : (Dsk.val d.now [102]).length < len
    · rw [if_pos h1, if_pos h1]; exact ⟨h, rfl, Nat.le_succ _⟩
    · rw [if_neg h1, if_neg h1]
      by_cases h2 : (scanF ((Dsk.val d.now [102]).take len)).2 ≠ 0
      · rw [if_pos h2, if_pos h2]; exact ⟨h, rfl, Nat.le_succ _⟩
      · rw [if_neg h2, if_neg h2]
        by_cases h3 : len < (Dsk.val d.now [102]).length
        · rw [if_pos h3, if_pos h3, ht.2]
          by_cases h4 : (d.trunc [102] (len : Int)).2 = 0
          · rw [if_pos h4, if_pos h4]; exact ⟨ht.1, rfl, hw⟩
          · rw [if_neg h4, if_neg h4]; exact ⟨ht.1, rfl, hw⟩
        · rw [if_neg h3, if_neg h3]; exact ⟨h, rfl, Nat.le_succ _⟩
theorem opn_size {d : Dsk.Dk} {len : Nat} {its : Its} (h : (d.opn len).2 = .ok its) : (frs its).length ≤ (Dsk.val d.now [102]).length := by
  have hs := scan_size ((Dsk.val d.now [102]).take len)
  have hl : ((Dsk.val d.now [102]).take len).length ≤ (Dsk.val d.now [102]).length := by rw [List.length_take]; omega
  unfold Dsk.Dk.opn at h
  split at h
  · cases h
  · split at h
    · cases h
    · split at h
      · split at h
        · injection h with h; rw [← h]; omega
        · cases h
      · injection h with h; rw [← h]; omega
theorem Ref.Eq.cutd {d : Dsk.Dk} {r : Ref.Rd} (h : Ref.Eq d r) (ho : Dsk.Ok d) (T : Nat) : Ref.Eq (d.cutd (r.has [102]) T).1 (r.cutd T).1 ∧ (r.cutd T).2 = (d.cutd (r.has [102]) T).2 ∧ (d.cutd (r.has [102]) T).1.works ≤ d.works + 1 := by
  unfold Ref.Rd.cutd Dsk.Dk.cutd
  by_cases hc : r.has [102] = true ∨ 0 < T
  · rw [if_pos hc, if_pos hc]
    have ht := h.trunc ho [102] goodf (T : Int)
    exact ⟨ht.1, ht.2, wk_truncg d _⟩
  · rw [if_neg hc, if_neg hc]; exact ⟨h, rfl, Nat.le_succ _⟩
theorem padd_any (w : World) (lo LB B : Nat) (d : Dsk.Dk) (its : Its) (h : IsDk w lo B d) (hg : LogIs w lo LB B [102] (recsAt 0 its)) (hw : d.works ≤ 99999) (k : Nat) (hk : 1 ≤ k ∧ k ≤ 255)
    (a : Option Addr) (n c : Nat) (l : List UInt8) (hkk : Keeps w a n c l) (hn : n ≤ 1048576) (hil : its.length ≤ 1000000) (hs : (frs its).length ≤ 1099511627776) (q : Dsk.Dk × Nat) (hq : q = d.append [102] (frm (k : Int) l)) (J : Its) (hJ : J = if q.2 = 0 then its ++ [(k, l)] else its) :
    Calls Tryz.prog 22 #[.pointer (some ⟨LB, 0, none⟩), .int .i64 (k : Int), .slice a n c] w fun e w' => e = .returned (errv q.2) ∧ IsDk w' lo B q.1 ∧ LogIs w' lo LB B [102] (recsAt 0 J) ∧ Below lo w w' ∧ KeepG w w' := by
  obtain ⟨d', j⟩ := q
  by_cases hj : j = 0
  · subst hj
    rw [if_pos rfl] at hJ
    subst hJ
    refine (add_ok w lo LB B [102] d d' (recsAt 0 its) h hg hw goodf k hk a n c l hkk hn hq.symm (by rw [recsAt_length]; exact hil) (by rw [lenOf_recs]; exact hs)).mono ?_
    rintro e w' ⟨rfl, k1, k2, k3, k4⟩
    refine ⟨rfl, k1, ?_, k3, k4⟩
    rw [recsAt_snoc, Nat.zero_add]
    rw [lenOf_recs] at k2
    exact k2
  · rw [if_neg hj] at hJ
    subst hJ
    refine (add_no w lo LB B [102] d d' (recsAt 0 J) h hg hw goodf k hk a n c l hkk hn j hj hq.symm).mono ?_
    rintro e w' ⟨rfl, k1, k2, k3, k4⟩
    exact ⟨by unfold errv; rw [if_neg hj], k1, k2, k3, k4⟩
end Go.Proofs.YtkalpkmnelgieaaGreatDoor
