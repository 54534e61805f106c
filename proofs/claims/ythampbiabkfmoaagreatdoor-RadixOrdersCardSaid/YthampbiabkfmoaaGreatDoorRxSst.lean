/- What RadixSaves keeps: a tree, its log, what was put, and what was saved. -/
import Derived.Test.YthampbiabkfmoaaGreatDoorRxKn
import Derived.Test.YthampbiabkfmoaaGreatDoorRxOpen
namespace Go.Proofs.YthampbiabkfmoaaGreatDoor
open Go.RowKit Go.Tap
set_option linter.unusedVariables false
set_option linter.unusedSimpArgs false
/-- What one Save has left. -/
structure Rx.Sd where
  r : Int
  KB : Nat
  t : Rx.T
  k : Rx.K
  vh : Value
  vn : Value
/-- The tree can be loaded, and is what was kept. -/
structure Rx.Sd.good (I : Rx.Its) (s : Rx.Sd) : Prop where
  r : s.r = s.t.saved
  sv : Rx.sv (Rx.Rof I) s.t
  all : s.t.ptr ≠ none → s.t.saved ≠ 0
  ok : Rx.ok s.t []
  big : Rx.big s.t
  mt : Rx.Mt s.t s.k
  len : s.k.length ≤ 100
theorem Rx.Sd.good.ext {I : Rx.Its} {s : Rx.Sd} (h : s.good I) (E : Rx.Its) : s.good (I ++ E) := ⟨h.r, Rx.sv_ext E h.sv, h.all, h.ok, h.big, h.mt, h.len⟩
theorem own_at {w : World} {base e size n : Nat} {v : Value} {xs : List Value} (h : w.ownsRow base e size v n xs) {j : Nat} (hj : v.ownBlock = some j) : base ≤ j ∧ j < w.heap.size ∧ ∃ cs, w.heap[j]? = some (.cells cs e (0, 0)) := by
  obtain ⟨h1, cs, h2⟩ := own_ty h hj
  exact ⟨h1, blk_lt h2, cs, h2⟩
theorem own_tne {w : World} {base e e' size n : Nat} {v : Value} {xs : List Value} (h : w.ownsRow base e size v n xs) {j : Nat} (hj : v.ownBlock = some j) {cs : Array Value} {fr : Nat × Nat} (hc : w.heap[j]? = some (.cells cs e' fr)) : e' = e := by
  obtain ⟨_, cs2, h2⟩ := own_ty h hj
  rw [h2] at hc
  cases hc; rfl
theorem tree_no {w : World} {lo TB : Nat} {t : Rx.T} (hT : TreeAt w lo TB t) {j : Nat} {cs : Array Value} {T : TypeId} {fr : Nat × Nat} (hj : w.heap[j]? = some (.cells cs T fr)) (h1 : T ≠ 59) (h2 : T ≠ 85) : ¬ (j = TB ∨ Rx.mem t j) := by
  rintro (rfl | hm)
  · rw [hT.top] at hj; cases hj; exact h1 rfl
  · obtain ⟨cs2, h3⟩ := hT.at_.ty j hm
    rw [h3] at hj; cases hj; exact h2 rfl
theorem own_tree {w w' : World} {lo lo' TB base e size n : Nat} {t : Rx.T} {v : Value} {xs : List Value} (h : w.ownsRow base e size v n xs) (hT : TreeAt w lo TB t) (hs : TStay (fun x => x = TB ∨ Rx.mem t x) w w') (h1 : e ≠ 59) (h2 : e ≠ 85) : w'.ownsRow base e size v n xs :=
  ownsRow_stay h hs (fun j hj => by obtain ⟨_, _, cs, hc⟩ := own_at h hj; exact tree_no hT hc h1 h2)
theorem own_keepM {S : Nat → Prop} {w w' : World} {base e size n : Nat} {v : Value} {xs : List Value} (h : w.ownsRow base e size v n xs) (hk : KeepM S w w') (h1 : e ≠ 64) (h2 : e ≠ 110) (h3 : e ≠ 71) (h4 : e ≠ 103) (h5 : ∀ j, v.ownBlock = some j → ¬ S j) : w'.ownsRow base e size v n xs := by
  refine ⟨h.1, ?_⟩
  rcases h.2 with hn | ⟨g, cap, cur, rfl, hb, hg, r⟩
  · exact .inl hn
  · exact .inr ⟨g, cap, cur, rfl, hb, (hk g cur e (0, 0) hg h1 h2 h3 h4 (h5 g rfl)).trans hg, r⟩
theorem KeptAt.stayB {S : Nat → Prop} {w w' : World} {lo KB : Nat} {k : Rx.K} {vh vn : Value} (h : KeptAt w lo KB k vh vn) (hs : TStay S w w') (h1 : ¬ S KB) (h2 : ∀ j, vh.ownBlock = some j → ¬ S j) (h3 : ∀ j, vn.ownBlock = some j → ¬ S j) : KeptAt w' lo KB k vh vn :=
  ⟨(hs.block _ (blk_lt h.top) h1).trans h.top, ownsRow_stay h.hs hs h2, ownsRow_stay h.ns hs h3, h.lo_, h.h32⟩
theorem KeptAt.base {w : World} {lo lo' KB : Nat} {k : Rx.K} {vh vn : Value} (h : KeptAt w lo KB k vh vn) (hb : lo' ≤ lo) : KeptAt w lo' KB k vh vn :=
  ⟨h.top, ownsRow_base h.hs hb, ownsRow_base h.ns hb, Nat.le_trans hb h.lo_, h.h32⟩
theorem KeptAt.tree {w w' : World} {lo lo' TB KB : Nat} {t : Rx.T} {k : Rx.K} {vh vn : Value} (h : KeptAt w lo KB k vh vn) (hT : TreeAt w lo' TB t) (hs : TStay (fun x => x = TB ∨ Rx.mem t x) w w') : KeptAt w' lo KB k vh vn :=
  ⟨(hs.block _ (blk_lt h.top) (tree_no hT h.top (by decide) (by decide))).trans h.top, own_tree (lo' := lo') h.hs hT hs (by decide) (by decide), own_tree (lo' := lo') h.ns hT hs (by decide) (by decide), h.lo_, h.h32⟩
theorem KeptAt.keepM {w w' : World} {lo lo' TB KB : Nat} {t : Rx.T} {k : Rx.K} {vh vn : Value} (h : KeptAt w lo KB k vh vn) (hT : TreeAt w lo' TB t) (hk : KeepM (Rx.mem t) w w') : KeptAt w' lo KB k vh vn :=
  ⟨(hk _ _ _ _ h.top (by decide) (by decide) (by decide) (by decide) (fun e => tree_no hT h.top (by decide) (by decide) (.inr e))).trans h.top,
   own_keepM h.hs hk (by decide) (by decide) (by decide) (by decide) (fun j hj e => by obtain ⟨_, _, cs, hc⟩ := own_at h.hs hj; exact tree_no hT hc (by decide) (by decide) (.inr e)),
   own_keepM h.ns hk (by decide) (by decide) (by decide) (by decide) (fun j hj e => by obtain ⟨_, _, cs, hc⟩ := own_at h.ns hj; exact tree_no hT hc (by decide) (by decide) (.inr e)), h.lo_, h.h32⟩
theorem TreeAt.base {w : World} {lo lo' TB : Nat} {t : Rx.T} (h : TreeAt w lo TB t) (hb : lo' ≤ lo) : TreeAt w lo' TB t :=
  ⟨h.top, h.at_, h.sep, h.ok, Nat.le_trans hb h.lo_, fun x hx => Nat.le_trans hb (h.mem x hx)⟩
/-- Rows of pointers to what was kept. -/
abbrev OwnP (w : World) (base : Nat) (v : Value) (S : List Rx.Sd) : Prop := w.ownsRow base 34 1 v S.length (S.map fun s => Value.pointer (some ⟨s.KB, 0, none⟩))
abbrev OwnR (w : World) (base : Nat) (v : Value) (S : List Rx.Sd) : Prop := w.ownsRow base 3 1 v S.length (S.map fun s => Value.int .i64 s.r)
structure SSt (w wr : World) (TB LB B KB : Nat) (t : Rx.T) (I : Rx.Its) (k km : Rx.K) (vh vn vr vw : Value) (S : List Rx.Sd) : Prop where
  st : RSt w wr TB LB B 16777216 t I
  kept : KeptAt wr w.heap.size KB k vh vn
  mt : Rx.Mt t km
  roots : OwnR wr w.heap.size vr S
  was : OwnP wr w.heap.size vw S
  all : ∀ s ∈ S, KeptAt wr w.heap.size s.KB s.k s.vh s.vn ∧ s.good I
  sep : ∀ s ∈ S, s.KB ≠ KB ∧ (∀ j, vh.ownBlock = some j → s.vh.ownBlock ≠ some j) ∧ (∀ j, vn.ownBlock = some j → s.vn.ownBlock ≠ some j)
  sepr : ∀ j, vn.ownBlock = some j → vr.ownBlock ≠ some j
  sepx : ∀ s ∈ S, ∀ j, vr.ownBlock = some j → s.vn.ownBlock ≠ some j
section
variable {w wr w' : World} {TB LB B KB : Nat} {t : Rx.T} {I : Rx.Its} {k km : Rx.K} {vh vn vr vw : Value} {S : List Rx.Sd}
theorem SSt.step (h : SSt w wr TB LB B KB t I k km vh vn vr vw S) (hb : Below wr.heap.size wr w') : SSt w w' TB LB B KB t I k km vh vn vr vw S :=
  have ho : ∀ {base e size n : Nat} {v : Value} {xs : List Value}, wr.ownsRow base e size v n xs → w'.ownsRow base e size v n xs := fun h => ownsRow_stay h (TStay.of_below hb (fun _ => False)) (fun _ _ h => h)
  ⟨h.st.step hb, h.kept.below hb, h.mt, ho h.roots, ho h.was, fun s hs => ⟨(h.all s hs).1.below hb, (h.all s hs).2⟩, h.sep, h.sepr, h.sepx⟩
theorem SSt.put {x : List UInt8} {n : Int} (h : SSt w wr TB LB B KB t I k km vh vn vr vw S) (hx : x.length = 32) (hp : PutT wr w.heap.size TB x n t w') : ∃ t', SSt w w' TB LB B KB t' I k (Rx.kput km x n) vh vn vr vw S ∧ Rx.uns t' ≤ Rx.uns t + 65 := by
  obtain ⟨t1, f1, _, _, h3⟩ := id hp
  obtain ⟨t', f, r1, q1⟩ := h.st.put hp
  refine ⟨t', ⟨r1, h.kept.tree h.st.tree h3, h.mt.put q1 hx, own_tree (lo' := 0) h.roots h.st.tree h3 (by decide) (by decide), own_tree (lo' := 0) h.was h.st.tree h3 (by decide) (by decide), fun s hs => ⟨(h.all s hs).1.tree h.st.tree h3, (h.all s hs).2⟩, h.sep, h.sepr, h.sepx⟩, ?_⟩
  have := q1.uns
  simpa using this
theorem SSt.kput {k' : Rx.K} {vh' vn' : Value} (h : SSt w wr TB LB B KB t I k km vh vn vr vw S) (h2 : KeptAt w' w.heap.size KB k' vh' vn') (h3 : TStay (KX KB vh vn) wr w') (h4 : KN wr vh vh') (h5 : KN wr vn vn') : SSt w w' TB LB B KB t I k' km vh' vn' vr vw S := by
  have hx : ∀ j, KX KB vh vn j → ∃ cs T, wr.heap[j]? = some (.cells cs T (0, 0)) ∧ (T = 37 ∨ T = 42 ∨ T = 3) ∧ w.heap.size ≤ j := by
    rintro j (rfl | e | e)
    · exact ⟨_, _, h.kept.top, .inl rfl, h.kept.lo_⟩
    · obtain ⟨h1, _, cs, h2⟩ := own_at h.kept.hs e
      exact ⟨_, _, h2, .inr (.inl rfl), h1⟩
    · obtain ⟨h1, _, cs, h2⟩ := own_at h.kept.ns e
      exact ⟨_, _, h2, .inr (.inr rfl), h1⟩
  have hne : ∀ {j : Nat} {cs : Array Value} {T : TypeId} {fr : Nat × Nat}, wr.heap[j]? = some (.cells cs T fr) → T ≠ 37 → T ≠ 42 → T ≠ 3 → ¬ KX KB vh vn j := fun hj n1 n2 n3 e => by
    obtain ⟨cs2, T2, e2, e3, _⟩ := hx _ e
    rw [e2] at hj; cases hj
    rcases e3 with e3 | e3 | e3
    · exact n1 e3
    · exact n2 e3
    · exact n3 e3
  refine ⟨⟨h.st.tree.stay h3 (fun x hx2 => ?_), h.st.ls.keep (KeepL.tstay h3 (fun j hj _ => ?_)), h.st.sv, h.st.big, Below.trans_stay h.st.bel h3 (Nat.le_refl _) (fun j hj e => ?_)⟩, h2, h.mt, ?_, ?_, fun s hs => ⟨(h.all s hs).1.stayB h3 ?_ ?_ ?_, (h.all s hs).2⟩, fun s hs => ⟨(h.sep s hs).1, fun j hj e => ?_, fun j hj e => ?_⟩, fun j hj e => ?_, h.sepx⟩
  · rcases hx2 with rfl | hm
    · exact hne h.st.tree.top (by decide) (by decide) (by decide)
    · obtain ⟨cs, hc⟩ := h.st.tree.at_.ty x hm
      exact hne hc (by decide) (by decide) (by decide)
  · obtain ⟨cs2, T2, e2, e3, _⟩ := hx _ hj
    refine ⟨_, _, _, e2, ?_⟩
    rcases e3 with rfl | rfl | rfl <;> exact ⟨by decide, by decide, by decide, by decide, by decide⟩
  · obtain ⟨_, _, _, _, e4⟩ := hx _ e; omega
  · exact ownsRow_stay h.roots h3 (fun j hj e => by
      rcases e with rfl | e | e
      · exact absurd (own_tne h.roots hj h.kept.top) (by decide)
      · obtain ⟨_, _, cs, hc⟩ := own_at h.kept.hs e; exact absurd (own_tne h.roots hj hc) (by decide)
      · exact h.sepr j e hj)
  · exact ownsRow_stay h.was h3 (fun j hj => by obtain ⟨_, _, cs, hc⟩ := own_at h.was hj; exact hne hc (by decide) (by decide) (by decide))
  · intro e
    have h0 := (h.all s hs).1
    rcases e with e | e | e
    · exact (h.sep s hs).1 e
    · exact absurd (own_tne h.kept.hs e h0.top) (by decide)
    · exact absurd (own_tne h.kept.ns e h0.top) (by decide)
  · intro j hj e
    have h0 := (h.all s hs).1
    rcases e with rfl | e | e
    · exact absurd (own_tne h0.hs hj h.kept.top) (by decide)
    · exact (h.sep s hs).2.1 j e hj
    · obtain ⟨_, _, cs, hc⟩ := own_at h.kept.ns e; exact absurd (own_tne h0.hs hj hc) (by decide)
  · intro j hj e
    have h0 := (h.all s hs).1
    rcases e with rfl | e | e
    · exact absurd (own_tne h0.ns hj h.kept.top) (by decide)
    · obtain ⟨_, _, cs, hc⟩ := own_at h.kept.hs e; exact absurd (own_tne h0.ns hj hc) (by decide)
    · exact (h.sep s hs).2.2 j e hj
  · rcases h4 j hj with h6 | h6
    · exact (h.sep s hs).2.1 j h6 e
    · have := (own_at (h.all s hs).1.hs e).2.1; omega
  · rcases h5 j hj with h6 | h6
    · exact (h.sep s hs).2.2 j h6 e
    · have := (own_at (h.all s hs).1.ns e).2.1; omega
  · rcases h5 j hj with h6 | h6
    · exact h.sepr j h6 e
    · have := (own_at h.roots e).2.1; omega
theorem SSt.save {e : Ending} (h : SSt w wr TB LB B KB t I k km vh vn vr vw S) (hs : STree wr w.heap.size LB B 16777216 TB t I e w') :
    ∃ t' I', e = .returned (.tuple #[.int .i64 t'.saved, .nilIface]) ∧ SSt w w' TB LB B KB t' I' k km vh vn vr vw S ∧ Rx.Saves t I t' I' := by
  obtain ⟨t', I', rfl, r1, s1, k1⟩ := h.st.save hs
  have hno : ∀ {base e size n : Nat} {v : Value} {xs : List Value}, wr.ownsRow base e size v n xs → e ≠ 59 → e ≠ 85 → ∀ j, v.ownBlock = some j → ¬ Rx.mem t j := fun ho h1 h2 j hj e => by
    obtain ⟨_, _, cs, hc⟩ := own_at ho hj; exact tree_no h.st.tree hc h1 h2 (.inr e)
  obtain ⟨E, hE, _⟩ := id s1.ext
  refine ⟨t', I', rfl, ⟨r1, h.kept.keepM h.st.tree k1, ⟨fun x n hx => by rw [Rx.er_has s1.sm]; exact h.mt.mem x n hx, h.mt.nd, h.mt.h32⟩, own_keepM h.roots k1 (by decide) (by decide) (by decide) (by decide) (hno h.roots (by decide) (by decide)), own_keepM h.was k1 (by decide) (by decide) (by decide) (by decide) (hno h.was (by decide) (by decide)), fun s hs => ⟨(h.all s hs).1.keepM h.st.tree k1, by rw [hE]; exact (h.all s hs).2.ext E⟩, h.sep, h.sepr, h.sepx⟩, s1⟩
/-- A root more; what was kept with it comes behind. -/
structure SSu (w wr : World) (TB LB B KB : Nat) (t : Rx.T) (I : Rx.Its) (k km : Rx.K) (vh vn vr vw : Value) (S : List Rx.Sd) (r : Int) : Prop where
  st : RSt w wr TB LB B 16777216 t I
  kept : KeptAt wr w.heap.size KB k vh vn
  mt : Rx.Mt t km
  roots : wr.ownsRow w.heap.size 3 1 vr (S.length + 1) ((S.map fun s => Value.int .i64 s.r) ++ [.int .i64 r])
  was : OwnP wr w.heap.size vw S
  all : ∀ s ∈ S, KeptAt wr w.heap.size s.KB s.k s.vh s.vn ∧ s.good I
  sep : ∀ s ∈ S, s.KB ≠ KB ∧ (∀ j, vh.ownBlock = some j → s.vh.ownBlock ≠ some j) ∧ (∀ j, vn.ownBlock = some j → s.vn.ownBlock ≠ some j)
  sepr : ∀ j, vn.ownBlock = some j → vr.ownBlock ≠ some j
  sepx : ∀ s ∈ S, ∀ j, vr.ownBlock = some j → s.vn.ownBlock ≠ some j
theorem SSt.root {vr' : Value} {r : Int} {wa : World} (h : SSt w wr TB LB B KB t I k km vh vn vr vw S) (ha : Below wr.heap.size wr wa) (ho : w'.ownsRow w.heap.size 3 1 vr' (S.length + 1) ((S.map fun s => Value.int .i64 s.r) ++ [.int .i64 r])) (hg : wa.grownBy w' vr.ownBlock) (hn : ∀ j, vr'.ownBlock = some j → vr.ownBlock = some j ∨ wr.heap.size ≤ j) :
    SSu w w' TB LB B KB t I k km vh vn vr' vw S r := by
  have h3 : TStay (fun j => vr.ownBlock = some j) wr w' := (TStay.of_below ha (fun j => vr.ownBlock = some j)).grown hg (fun j e => .inl e)
  have hty : ∀ j, vr.ownBlock = some j → ∃ cs, wr.heap[j]? = some (.cells cs 3 (0, 0)) := fun j hj => (own_at h.roots hj).2.2
  have hne : ∀ {j : Nat} {cs : Array Value} {T : TypeId} {fr : Nat × Nat}, wr.heap[j]? = some (.cells cs T fr) → T ≠ 3 → vr.ownBlock ≠ some j := fun hj n1 e => n1 (own_tne h.roots e hj)
  refine ⟨⟨h.st.tree.stay h3 (fun x hx2 => ?_), h.st.ls.keep (KeepL.tstay h3 (fun j hj _ => ?_)), h.st.sv, h.st.big, Below.trans_stay h.st.bel h3 (Nat.le_refl _) (fun j hj e => ?_)⟩, h.kept.stayB h3 (hne h.kept.top (by decide)) (fun j hj => ?_) (fun j hj e => h.sepr j hj e), h.mt, ho, ownsRow_stay h.was h3 (fun j hj => ?_), fun s hs => ⟨(h.all s hs).1.stayB h3 (hne (h.all s hs).1.top (by decide)) (fun j hj => ?_) (fun j hj e => h.sepx s hs j e hj), (h.all s hs).2⟩, h.sep, fun j hj e => ?_, fun s hs j hj e => ?_⟩
  · rcases hx2 with rfl | hm
    · exact hne h.st.tree.top (by decide)
    · obtain ⟨cs, hc⟩ := h.st.tree.at_.ty x hm
      exact hne hc (by decide)
  · obtain ⟨cs, hc⟩ := hty j hj
    exact ⟨_, _, _, hc, by decide, by decide, by decide, by decide, by decide⟩
  · have := (own_at h.roots e).1; omega
  · obtain ⟨_, _, cs, hc⟩ := own_at h.kept.hs hj; exact hne hc (by decide)
  · obtain ⟨_, _, cs, hc⟩ := own_at h.was hj; exact hne hc (by decide)
  · obtain ⟨_, _, cs, hc⟩ := own_at (h.all s hs).1.hs hj; exact hne hc (by decide)
  · rcases hn j e with h6 | h6
    · exact h.sepr j hj h6
    · have := (own_at h.kept.ns hj).2.1; omega
  · rcases hn j hj with h6 | h6
    · exact h.sepx s hs j h6 e
    · have := (own_at (h.all s hs).1.ns e).2.1; omega
theorem SSu.step {r : Int} (h : SSu w wr TB LB B KB t I k km vh vn vr vw S r) (hb : Below wr.heap.size wr w') : SSu w w' TB LB B KB t I k km vh vn vr vw S r :=
  have ho : ∀ {base e size n : Nat} {v : Value} {xs : List Value}, wr.ownsRow base e size v n xs → w'.ownsRow base e size v n xs := fun h => ownsRow_stay h (TStay.of_below hb (fun _ => False)) (fun _ _ h => h)
  ⟨h.st.step hb, h.kept.below hb, h.mt, ho h.roots, ho h.was, fun s hs => ⟨(h.all s hs).1.below hb, (h.all s hs).2⟩, h.sep, h.sepr, h.sepx⟩
/-- What was kept is laid down, too. -/
theorem SSu.was_ {r : Int} {KB2 : Nat} {vh2 vn2 vw' : Value} {wa wb : World} (h : SSu w wr TB LB B KB t I k k vh vn vr vw S r) (ha : Below wr.heap.size wr wa) (hk : KeptAt wa wr.heap.size KB2 k vh2 vn2) (hab : Below wa.heap.size wa wb)
    (ho : w'.ownsRow w.heap.size 34 1 vw' (S.length + 1) ((S.map fun s => Value.pointer (some ⟨s.KB, 0, none⟩)) ++ [.pointer (some ⟨KB2, 0, none⟩)])) (hg : wb.grownBy w' vw.ownBlock) (hr : r = t.saved) (hall : t.ptr ≠ none → t.saved ≠ 0) (hlen : k.length ≤ 100) :
    SSt w w' TB LB B KB t I k k vh vn vr vw' (S ++ [⟨r, KB2, t, k, vh2, vn2⟩]) := by
  have hb : Below wr.heap.size wr wb := ha.trans (hab.mono ha.size)
  have h1 := h.step hb
  have hk1 : KeptAt wb wr.heap.size KB2 k vh2 vn2 := hk.below hab
  have h3 : TStay (fun j => vw.ownBlock = some j) wb w' := (TStay.refl _ _).grown hg (fun j e => .inl e)
  have hty : ∀ j, vw.ownBlock = some j → ∃ cs, wb.heap[j]? = some (.cells cs 34 (0, 0)) := fun j hj => (own_at h1.was hj).2.2
  have hne : ∀ {j : Nat} {cs : Array Value} {T : TypeId} {fr : Nat × Nat}, wb.heap[j]? = some (.cells cs T fr) → T ≠ 34 → vw.ownBlock ≠ some j := fun hj n1 e => n1 (own_tne h1.was e hj)
  have hrow : ∀ {base e size n : Nat} {v : Value} {xs : List Value}, wb.ownsRow base e size v n xs → e ≠ 34 → ∀ j, v.ownBlock = some j → vw.ownBlock ≠ some j := fun ho n1 j hj => by
    obtain ⟨_, _, cs, hc⟩ := own_at ho hj; exact hne hc n1
  have hkk : ∀ {lo2 KB' : Nat} {k' : Rx.K} {a b : Value}, KeptAt wb lo2 KB' k' a b → KeptAt w' lo2 KB' k' a b := fun hK => hK.stayB h3 (hne hK.top (by decide)) (hrow hK.hs (by decide)) (hrow hK.ns (by decide))
  refine ⟨⟨h1.st.tree.stay h3 (fun x hx2 => ?_), h1.st.ls.keep (KeepL.tstay h3 (fun j hj _ => ?_)), h1.st.sv, h1.st.big, Below.trans_stay h1.st.bel h3 (Nat.le_refl _) (fun j hj e => ?_)⟩, hkk h1.kept, h1.mt, ?_, ?_, fun s hs => ?_, fun s hs => ?_, h1.sepr, fun s hs j hj e => ?_⟩
  · rcases hx2 with rfl | hm
    · exact hne h1.st.tree.top (by decide)
    · obtain ⟨cs, hc⟩ := h1.st.tree.at_.ty x hm
      exact hne hc (by decide)
  · obtain ⟨cs, hc⟩ := hty j hj
    exact ⟨_, _, _, hc, by decide, by decide, by decide, by decide, by decide⟩
  · have := (own_at h1.was e).1; omega
  · have := ownsRow_stay h1.roots h3 (hrow h1.roots (by decide))
    show w'.ownsRow _ _ _ _ (S ++ [_]).length ((S ++ [_]).map _)
    rw [List.length_append, List.map_append]; exact this
  · show w'.ownsRow _ _ _ _ (S ++ [_]).length ((S ++ [_]).map _)
    rw [List.length_append, List.map_append]; exact ho
  · rcases List.mem_append.1 hs with hs | hs
    · exact ⟨hkk (h1.all s hs).1, (h1.all s hs).2⟩
    · simp only [List.mem_singleton] at hs
      subst hs
      exact ⟨hkk (hk1.base h.st.bel.size), ⟨hr, h1.st.sv, hall, h1.st.tree.ok, h1.st.big, h1.mt, hlen⟩⟩
  · rcases List.mem_append.1 hs with hs | hs
    · exact h1.sep s hs
    · simp only [List.mem_singleton] at hs
      subst hs
      refine ⟨fun e => ?_, fun j hj e => ?_, fun j hj e => ?_⟩
      · have := hk1.lo_; have := blk_lt h.kept.top; simp only at e; omega
      · have := (own_at h.kept.hs hj).2.1; have := (own_at hk1.hs e).1; omega
      · have := (own_at h.kept.ns hj).2.1; have := (own_at hk1.ns e).1; omega
  · rcases List.mem_append.1 hs with hs | hs
    · exact h1.sepx s hs j hj e
    · simp only [List.mem_singleton] at hs
      subst hs
      have := (own_at h.roots hj).2.1; have := (own_at hk1.ns e).1; omega
/-- On with what is loaded. -/
theorem SSt.loaded {TB' : Nat} {t' : Rx.T} (h : SSt w wr TB LB B KB t I k km vh vn vr vw S) (hT : TreeAt w' wr.heap.size TB' t') (he : Rx.er false t' = Rx.er false t) (hb : Below wr.heap.size wr w') : SSt w w' TB' LB B KB t' I k km vh vn vr vw S := by
  have h1 := h.step hb
  exact ⟨⟨hT.base h.st.bel.size, h1.st.ls, Rx.er_sv he h1.st.sv, Rx.er_big he h1.st.big, h1.st.bel⟩, h1.kept, ⟨fun x n hx => by rw [Rx.er_has he]; exact h1.mt.mem x n hx, h1.mt.nd, h1.mt.h32⟩, h1.roots, h1.was, h1.all, h1.sep, h1.sepr, h1.sepx⟩
end
end Go.Proofs.YthampbiabkfmoaaGreatDoor
/- Rows laid anew in a region that draws its order: an empty one, and a copy of a row. -/
namespace Go.Proofs.YthampbiabkfmoaaGreatDoor
open Go.RowKit Go.Tap
set_option linter.unusedVariables false
set_option linter.unusedSimpArgs false
section
variable {P : Program}
theorem own_new0 {w : World} {b base e size : Nat} (hb : w.heap[b]? = some (.cells #[] e (0, 0))) (hbase : base ≤ b) : w.ownsRow base e size (.slice (some ⟨b, 0, none⟩) 0 0) 0 [] :=
  ⟨by simp, .inr ⟨b, 0, #[], rfl, hbase, hb, Nat.le_refl _, Nat.zero_le _, by simp, by simp⟩⟩
/-- 'append(E[]{}, x...)' of a row x of one's own. -/
theorem step_append_new {w : World} {ops : Array Oper} {o : Oper} {a : Act} {K : Act → World → Prop} {Q : Exit → Act → World → Prop} {E : Prop} (d : Option Tmp) (hd : o.dst = d) (hgd : o.guard = none) (s x : Operand) (t : TypeId)
    (ho : o.op = .call { callee := .builtin .append, args := #[s, x], argTypes := #[t, t] })
    (base b : Nat) (e : TypeId) (i : TypeInfo) (z : Value) (size bytes : Nat) (ht : P.underlying t = some (.slice e)) (hi : P.info? e = some i) (hz : i.zero = some z) (hsize : i.size = size) (hby : i.bytes = bytes) (hzs : z.cells.size = size) (hsz : 0 < size)
    (hs : a.eval s = .slice (some ⟨b, 0, none⟩) 0 0) (hb : w.heap[b]? = some (.cells #[] e (0, 0))) (hbb : base ≤ b)
    (base2 : Nat) (ao : Option Addr) (m c : Nat) (news : List Value) (hx : a.eval x = .slice ao m c) (hsrc : w.ownsRow base2 e size (.slice ao m c) m news) (h1 : ∀ u ∈ news, u.oneCell' = true)
    (h63 : m ≤ maxLen) (hbytes : m * bytes ≤ 140737488355328) (hbase : base ≤ w.heap.size)
    (h : ∀ a' c' w', w'.ownsRow base e size (.slice a' m c') m news → w.grownBy w' (some b) → K (a.put d (.slice a' m c')) w') :
    if Region.wanted o (yielded ops a.tmps) = true then Oper.wp P o a w K Q else E := by
  subst hd
  have hw : Region.wanted o (yielded ops a.tmps) = true := by simp [Region.wanted, hgd]
  rw [if_pos hw]
  have hown : w.ownsRow base e size (.slice (some ⟨b, 0, none⟩) 0 0) 0 [] := own_new0 hb hbb
  have fin : ∀ v' w', w'.ownsRow base e size v' (0 + m) ([] ++ news) → w.grownBy w' (some b) → K (a.put o.dst v') w' := fun v' w' h1 h2 => by
    rw [Nat.zero_add, List.nil_append] at h1
    rcases h1.2 with ⟨e1, e2⟩ | ⟨g, cap, cur, e1, _⟩
    · subst e1; subst e2; exact h none 0 w' h1 h2
    · subst e1; exact h _ _ w' h1 h2
  cases ao with
  | none =>
    have hn : m = 0 ∧ c = 0 := by
      rcases hsrc.2 with ⟨e1, e2⟩ | ⟨g, cap, cur, e1, _⟩
      · simp only [Value.slice.injEq] at e1; exact ⟨e1.2.1, e1.2.2⟩
      · simp at e1
    obtain ⟨rfl, rfl⟩ := hn
    have : news = [] := List.eq_nil_of_length_eq_zero (by rw [hsrc.1]; omega)
    subst this
    have hrun := run_append_owned_none (P := P) (w := w) base t o.type e i size ht hi _ 0 [] hown
    unfold Oper.wp
    simp [execOp, ho, resolve, invoke, builtin, hs, hx, hrun, Result.andThen]
    exact fin _ w (by simpa using hown) (World.grownBy.refl _ _)
  | some ad =>
    obtain ⟨v', w', hrun, h1, h2, _⟩ := run_append_own (P := P) w base t o.type e i z size bytes ht hi hz hsize hby hzs hsz _ 0 [] hown ad m c news hsrc.1 (by
      intro j u hu
      rcases hsrc.2 with ⟨e1, e2⟩ | ⟨g, cap, cur, e1, _, hg, _, _, _, hcur⟩
      · simp at e1
      · simp only [Value.slice.injEq, Option.some.injEq] at e1
        obtain ⟨rfl, _⟩ := e1
        rw [Addr.add_lit, Nat.zero_add, cell_of_row w g j cur _ _ hg]
        have hj : j < m * size := by rw [← hsrc.1]; exact (List.getElem?_eq_some_iff.1 hu).1
        rw [← hcur, List.getElem?_take_of_lt hj] at hu
        simpa using hu) h1 (by omega) (by rw [Nat.zero_add]; exact hbytes) hbase
    unfold Oper.wp execOp
    simp only [ho, resolve, invoke, builtin, Sem.run_bind, Sem.run_pure, Result.andThen_ok, List.map_toArray, List.map_cons, List.map_nil, hs, hx, hrun]
    exact fin v' w' h1 h2
theorem step_append_liesD {w : World} {ops : Array Oper} {o : Oper} {a : Act} {K : Act → World → Prop} {Q : Exit → Act → World → Prop} {E : Prop} (d : Option Tmp) (hd : o.dst = d) (hgd : o.guard = none) (s x : Operand) (t : TypeId)
    (ho : o.op = .call { callee := .builtin .append, args := #[s, x], argTypes := #[t, t] })
    (base : Nat) (e : TypeId) (i : TypeInfo) (z : Value) (size bytes : Nat) (ht : P.underlying t = some (.slice e)) (hi : P.info? e = some i) (hz : i.zero = some z)
    (hsize : i.size = size) (hby : i.bytes = bytes) (hzs : z.cells.size = size) (hsz : 0 < size)
    (v : Value) (n : Nat) (xs : List Value) (hs : a.eval s = v) (hown : w.ownsRow base e size v n xs)
    (ad : Addr) (m c : Nat) (news : List Value) (hx : a.eval x = .slice (some ad) m c) (hl : news.length = m * size) (hnews : ∀ j u, news[j]? = some u → w.cell? (ad.add j) = some u) (h1 : ∀ u ∈ news, u.oneCell' = true)
    (hm : 0 < m) (h63 : n + m ≤ maxLen) (hbytes : (n + m) * bytes ≤ 140737488355328) (hbase : base ≤ w.heap.size) (H : Nat) (hH : w.heap.size = H)
    (h : ∀ g cap w', w'.ownsRow base e size (.slice (some ⟨g, 0, none⟩) (n + m) cap) (n + m) (xs ++ news) → w.grownBy w' v.ownBlock → (v.ownBlock = some g ∨ g = H) → g < w'.heap.size → K (a.put d (.slice (some ⟨g, 0, none⟩) (n + m) cap)) w') :
    if Region.wanted o (yielded ops a.tmps) = true then Oper.wp P o a w K Q else E := by
  subst hd
  exact step_append_lies w hgd s x t ho base e i z size bytes ht hi hz hsize hby hzs hsz v n xs hs hown ad m c news hx hl hnews h1 hm h63 hbytes hbase H hH h
end
theorem in_kptr : (Tryz.prog.info? 34).map (fun i => (i.zero, i.size, i.bytes)) = some (some (.pointer none), 1, 8) := by kernel_rfl
theorem bt_kept2 (a a2 : Option Addr) (n c c2 : Nat) : Tryz.prog.built 37 [(0, .slice a n c), (1, .slice a2 n c2)] = some #[.slice a n c, .slice a2 n c2] := by kernel_rfl
theorem own_grown {w w' : World} {base e size n b : Nat} {v : Value} {xs : List Value} (h : w.ownsRow base e size v n xs) (hg : w.grownBy w' (some b)) (hne : v.ownBlock ≠ some b) : w'.ownsRow base e size v n xs :=
  ownsRow_stay h ((TStay.refl (fun j => j = b) w).grown hg (fun j e => .inl (by cases e; rfl))) (fun j hj e => hne (by rw [← e]; exact hj))
theorem ints_one (l : List Int) : ∀ u ∈ l.map (Value.int .i64), u.oneCell' = true := by
  intro u hu
  obtain ⟨x, _, rfl⟩ := List.mem_map.1 hu
  rfl
theorem SSt.again {w wr w' : World} {TB LB B KB : Nat} {t t0 : Rx.T} {I I0 : Rx.Its} {k km : Rx.K} {vh vn vr vw : Value} {S : List Rx.Sd} {e : Ending} (h : SSt w wr TB LB B KB t I k km vh vn vr vw S) (hs0 : Rx.Saves t0 I0 t I) (hs : STree wr w.heap.size LB B 16777216 TB t I e w') :
    e = .returned (.tuple #[.int .i64 t.saved, .nilIface]) ∧ SSt w w' TB LB B KB t I k km vh vn vr vw S := by
  obtain ⟨t', I', rfl, h1, h2⟩ := h.save hs
  obtain rfl := h2.old hs0.all
  have hu := hs0.uns
  obtain ⟨E, rfl, hE⟩ := h2.ext
  have : E = [] := List.eq_nil_of_length_eq_zero (by omega)
  subst this
  rw [List.append_nil] at h1
  exact ⟨rfl, h1⟩
/-- Load of what was saved, be it empty. -/
theorem rLoad_tree (w : World) (lo LB B room : Nat) (I : Rx.Its) (t : Rx.T) (hL : LS w lo LB B room I) (hI : I.length ≤ 90000) (hall : t.ptr ≠ none → t.saved ≠ 0) (hv : Rx.sv (Rx.Rof I) t) (ho : Rx.ok t []) (hb : Rx.big t) (hc : Rx.cnt t ≤ 2000) :
    Calls Tryz.prog 15 #[.pointer (some ⟨LB, 0, none⟩), .int .i64 t.saved] w (TreeAft w t) := by
  rcases hp : t.ptr with _ | b
  · obtain rfl := Rx.ptr_none hp
    exact rLoad_zero w LB
  · exact rLoad_any w lo LB B room I t hL hI (hall (by rw [hp]; simp)) hv ho hb hc
theorem Rx.er_uns {R : Int → Rx.Rc → Prop} {t t' : Rx.T} (he : Rx.er false t' = Rx.er false t) (hv : Rx.sv R t') (hall : t.ptr ≠ none → t.saved ≠ 0) : Rx.uns t' = 0 :=
  Rx.sv_uns hv (fun hp => by rw [Rx.er_saved he]; exact hall (fun e => hp ((Rx.er_ptr he).2 e)))
end Go.Proofs.YthampbiabkfmoaaGreatDoor
