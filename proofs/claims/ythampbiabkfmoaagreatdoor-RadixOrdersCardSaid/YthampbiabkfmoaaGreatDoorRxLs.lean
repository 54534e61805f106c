/- A log that grows, with its disk, as a state: Open, Add, Record, Count. -/
import Derived.Test.YthampbiabkfmoaaGreatDoorLogOpen
import Derived.Test.YthampbiabkfmoaaGreatDoorRxPlain
namespace Go.Proofs.YthampbiabkfmoaaGreatDoor
open Go.RowKit Go.Tap Go.Maps
set_option linter.unusedVariables false
set_option linter.unusedSimpArgs false
theorem goodi : Dsk.good [105] := ⟨by decide, by decide⟩
theorem frs_small : ∀ (I : Rx.Its), Rx.Small I → (frs I).length ≤ 169 * I.length
  | [], _ => by simp [frs]
  | p :: r, h => by
    have h1 := frs_small r (fun q hq => h q (List.mem_cons_of_mem _ hq))
    have h2 := (h p (List.mem_cons_self ..)).2
    have e : frs (p :: r) = frm (p.1 : Int) p.2 ++ frs r := by simp [frs]
    rw [e, List.length_append, frm_length, List.length_cons]; omega
/-- A disk with a log of these records. -/
structure LS (w : World) (lo LB B room : Nat) (I : Rx.Its) : Prop where
  st : ∃ d, IsDk w lo B d ∧ Dsk.DsN d room [105] (frs I) (I.length + 1)
  log : LogIs w lo LB B [105] (recsAt 0 I)
  small : Rx.Small I
/-- What a log and its disk lie in stays. -/
def KeepL (w w' : World) : Prop := ∀ (k : Nat) (o : Obj), w.heap[k]? = some o → (∀ xs t fr, o = .cells xs t fr → t = 64 ∨ t = 110 ∨ t = 71 ∨ t = 103 ∨ t = 5) → w'.heap[k]? = w.heap[k]?
theorem KeepL.below {w w' : World} (h : Below w.heap.size w w') : KeepL w w' := fun k o hk _ => h.block k (blk_lt hk)
theorem KeepL.tstay {S : Nat → Prop} {w w' : World} (h : TStay S w w') (hs : ∀ k, S k → k < w.heap.size → ∃ xs t fr, w.heap[k]? = some (.cells xs t fr) ∧ t ≠ 64 ∧ t ≠ 110 ∧ t ≠ 71 ∧ t ≠ 103 ∧ t ≠ 5) : KeepL w w' := fun k o hk ho =>
  h.block k (blk_lt hk) (fun hS => by
    obtain ⟨xs, t, fr, e, n1, n2, n3, n4, n5⟩ := hs k hS (blk_lt hk)
    rw [e] at hk
    cases hk
    rcases ho xs t fr rfl with h | h | h | h | h
    · exact n1 h
    · exact n2 h
    · exact n3 h
    · exact n4 h
    · exact n5 h)
theorem KeepL.ku {w w' : World} (h : KeepL w w') : KeepU w w' := fun k xs fr hk => h k _ hk (fun xs t fr e => by cases e; exact .inr (.inr (.inr (.inr rfl))))
theorem KeepL.dk {w w' : World} {lo B : Nat} {d : Dsk.Dk} (h : IsDk w lo B d) (hk : KeepL w w') : IsDk w' lo B d := by
  obtain ⟨bd, bn, pv, h1, h2⟩ := h
  refine ⟨bd, bn, pv, h1.stay hk.ku ?_, h2⟩
  rintro k (rfl | rfl | rfl | e)
  · exact hk _ _ h1.blk (fun xs t fr e => by cases e; exact .inl rfl)
  · obtain ⟨es, cl, hb⟩ := h1.done.blk; exact hk _ _ hb (fun xs t fr e => by cases e)
  · obtain ⟨es, cl, hb⟩ := h1.now.blk; exact hk _ _ hb (fun xs t fr e => by cases e)
  · obtain ⟨xs, ho⟩ := h1.pend.own
    rcases ho.2 with ⟨rfl, _⟩ | ⟨g, cap, cur, rfl, _, hg, _⟩
    · simp [Value.ownBlock] at e
    · simp [Value.ownBlock] at e
      subst e
      exact hk _ _ hg (fun xs t fr e => by cases e; exact .inr (.inl rfl))
theorem KeepL.log {w w' : World} {lo LB B : Nat} {nm : Dsk.Name} {l : List Rec} (h : LogIs w lo LB B nm l) (hk : KeepL w w') : LogIs w' lo LB B nm l := by
  obtain ⟨rv, h1, h2, h3⟩ := h
  refine ⟨rv, (hk _ _ h1 (fun xs t fr e => by cases e; exact .inr (.inr (.inl rfl)))).trans h1, h2, h3.stay hk.ku (fun k e => ?_)⟩
  obtain ⟨ps, _, _, h4⟩ := h3
  obtain ⟨a, c, _, _, _, h5⟩ := h4.form
  obtain ⟨_, _, cur, hc⟩ := h5 k e
  exact hk _ _ hc (fun xs t fr e => by cases e; exact .inr (.inr (.inr (.inl rfl))))
theorem LS.keep {w w' : World} {lo LB B room : Nat} {I : Rx.Its} (h : LS w lo LB B room I) (hk : KeepL w w') : LS w' lo LB B room I := by
  obtain ⟨⟨d, h1, h2⟩, h3, h4⟩ := h
  exact ⟨⟨d, KeepL.dk h1 hk, h2⟩, KeepL.log h3 hk, h4⟩
theorem LS.below {w w' : World} {lo LB B room : Nat} {I : Rx.Its} (h : LS w lo LB B room I) (hb : Below w.heap.size w w') : LS w' lo LB B room I := h.keep (KeepL.below hb)
theorem IsDk.base {w : World} {lo lo' B : Nat} {d : Dsk.Dk} (h : IsDk w lo B d) (hb : lo' ≤ lo) : IsDk w lo' B d := by
  obtain ⟨bd, bn, pv, h1, h2⟩ := h
  obtain ⟨ps, p1, p2, p3⟩ := h1.pend
  exact ⟨bd, bn, pv, ⟨h1.blk, ⟨Nat.le_trans hb h1.bnd.1, Nat.le_trans hb h1.bnd.2.1, Nat.le_trans hb h1.bnd.2.2⟩, h1.ne, h1.done, h1.now, ⟨ps, p1, p2, ownsRow_base p3 hb⟩⟩, h2⟩
theorem LogIs.base {w : World} {lo lo' LB B : Nat} {nm : Dsk.Name} {l : List Rec} (h : LogIs w lo LB B nm l) (hb : lo' ≤ lo) : LogIs w lo' LB B nm l := by
  obtain ⟨rv, h1, h2, ps, h3, h4, h5⟩ := h
  refine ⟨rv, h1, Nat.le_trans hb h2, ps, h3, h4, ?_⟩
  rcases h5 with h5 | ⟨g, cur, e, k1, k2⟩
  · exact .inl (ownsRow_base h5 hb)
  · exact .inr ⟨g, cur, e, Nat.le_trans hb k1, k2⟩
theorem LS.base {w : World} {lo lo' LB B room : Nat} {I : Rx.Its} (h : LS w lo LB B room I) (hb : lo' ≤ lo) : LS w lo' LB B room I := by
  obtain ⟨⟨d, h1, h2⟩, h3, h4⟩ := h
  exact ⟨⟨d, h1.base hb, h2⟩, h3.base hb, h4⟩
theorem LS.lb {w : World} {lo LB B room : Nat} {I : Rx.Its} (h : LS w lo LB B room I) : lo ≤ LB ∧ LB < w.heap.size ∧ ∃ cs, w.heap[LB]? = some (.cells cs 71 (0, 0)) := by
  obtain ⟨_, ⟨rv, h1, h2, h3⟩, _⟩ := h
  exact ⟨h2, blk_lt h1, _, h1⟩
theorem ls_count {w : World} {lo LB B room : Nat} {I : Rx.Its} (h : LS w lo LB B room I) : Calls Tryz.prog 13 #[.pointer (some ⟨LB, 0, none⟩)] w fun e w' => e = .returned (.int .i64 (I.length : Int)) ∧ w' = w := by
  have := count_any w lo LB B _ _ h.log
  rwa [recsAt_length] at this
theorem ls_open {w : World} {lo B room : Nat} (h : IsDk w lo B (Dsk.newD room)) : Calls Tryz.prog 7 #[.pointer (some ⟨B, 0, none⟩), .string (str [105]), .int .i64 0] w fun e w' => ∃ LB, e = .returned (.tuple #[.pointer (some ⟨LB, 0, none⟩), .nilIface]) ∧ LS w' lo LB B room [] ∧ Below lo w w' := by
  have hn := Dsk.dsN_new room [105]
  have := (open_ok w lo B _ (Dsk.newD room) h (by have := hn.works; omega) hn.dead [105] goodi 0 (Nat.zero_le _) (recsAt 0 []) (by rw [List.take_zero]; exact scan_frs [] (fun p hp => by cases hp)) (by unfold openD; rw [hn.now.val]; rfl))
  rw [show ((0 : Nat) : Int) = 0 from rfl] at this
  refine this.mono ?_
  rintro e w' ⟨LB, rfl, h1, h2, h3, h4⟩
  exact ⟨LB, rfl, ⟨⟨_, h1, ⟨hn.room, hn.dead, hn.fuse, hn.now, by have := hn.works; omega⟩⟩, h2, fun p hp => by cases hp⟩, h3⟩
theorem ls_add {w : World} {lo LB B room : Nat} {I : Rx.Its} (h : LS w lo LB B room I) (k : Nat) (a : Option Addr) (n c : Nat) (l : List UInt8) (hkk : Keeps w a n c l) (hk : k = 1 ∨ k = 2) (hl : l.length ≤ 160) (hI : I.length ≤ 90000) (hroom : 169 * (I.length + 1) ≤ room) (hr24 : room ≤ 16777216) :
    Calls Tryz.prog 44 #[.pointer (some ⟨LB, 0, none⟩), .int .i64 (k : Int), .slice a n c] w fun e w' => e = .returned .nilIface ∧ LS w' lo LB B room (I ++ [(k, l)]) ∧ Below lo w w' ∧ KeepG w w' := by
  obtain ⟨⟨d, h1, hn⟩, hg, hs⟩ := h
  have hll := hkk.len
  have hfs := frs_small I hs
  obtain ⟨d', hap, hd'⟩ := Dsk.dsN_app hn (frm (k : Int) l) (by rw [frm_length]; omega)
  refine (add_ok w lo LB B [105] d d' _ h1 hg (by have := hn.works; omega) goodi k (by omega) a n c l hkk (by omega) hap (by rw [recsAt_length]; omega) (by rw [lenOf_recs]; omega)).mono ?_
  rintro e w' ⟨rfl, h1, h2, h3, h4⟩
  rw [lenOf_recs] at h2
  refine ⟨rfl, ⟨⟨d', h1, ?_⟩, ?_, ?_⟩, h3, h4⟩
  · rw [frs_snoc, List.length_append]; exact hd'
  · rw [recsAt_snoc, Nat.zero_add]; exact h2
  · intro p hp
    rcases List.mem_append.1 hp with h | h
    · exact hs p h
    · simp only [List.mem_singleton] at h; subst h; exact ⟨hk, hl⟩
theorem ls_record {w : World} {lo LB B room : Nat} {I : Rx.Its} (h : LS w lo LB B room I) (j : Nat) (p : Nat × List UInt8) (hj : I[j]? = some p) (hI : I.length ≤ 90000) :
    Calls Tryz.prog 45 #[.pointer (some ⟨LB, 0, none⟩), .int .i64 (j : Int)] w fun e w' => ∃ a c, e = .returned (.tuple #[.int .i64 (p.1 : Int), .slice a p.2.length c, .bool true]) ∧ w'.ownsRow w.heap.size 5 1 (.slice a p.2.length c) p.2.length (bv p.2) ∧ Below w.heap.size w w' := by
  obtain ⟨x, hx, e1, e2, e3⟩ := recsAt_get I 0 j p hj
  have hb := (h.small p (List.mem_of_getElem? hj)).2
  have := record_any w lo LB B _ _ h.log j x hx (by rw [recsAt_length]; omega) (by rw [e2]; omega)
  rw [e1, e2] at this
  exact this
theorem ls_record_no {w : World} {lo LB B room : Nat} {I : Rx.Its} (h : LS w lo LB B room I) (j : Nat) (hj : I.length ≤ j) :
    Calls Tryz.prog 45 #[.pointer (some ⟨LB, 0, none⟩), .int .i64 (j : Int)] w fun e w' => e = .returned (.tuple #[.int .i64 0, .slice none 0 0, .bool false]) ∧ w' = w := by
  obtain ⟨rv, h1, h2, h3⟩ := h.log
  have c2 : w.cell? ⟨LB, 2, none⟩ = some rv := blk_cell (i := 2) h1 rfl
  obtain ⟨n, hn'⟩ : ∃ n, n = I.length := ⟨_, rfl⟩
  have hsl : ∃ a c, rv = .slice a n c := by
    obtain ⟨ps, h4, _, h5⟩ := h3
    obtain ⟨a, c, e, _⟩ := h5.form
    have := congrArg List.length h4
    rw [List.length_map, recsAt_length] at this
    exact ⟨a, c, by rw [e, this, hn']⟩
  obtain ⟨ra, rc, rfl⟩ := hsl
  rw [← hn'] at hj
  have d0 : decide ((j : Int) < 0) = false := decide_eq_false (by omega)
  have d1 : decide ((n : Int) ≤ (j : Int)) = true := decide_eq_true (by omega)
  have d1' : decide (n ≤ j) = true := decide_eq_true (by omega)
  clear h1 h3 hn' h
  go_enter Tryz.func45, Tryz.ntmps45
  go_wp2
  go_ret3
  exact ⟨rfl, rfl⟩
/-- All blocks of cells but a log's and a disk's own, and but these. -/
def KeepM (S : Nat → Prop) (w w' : World) : Prop := ∀ (k : Nat) (xs : Array Value) (t : TypeId) (fr : Nat × Nat), w.heap[k]? = some (Obj.cells xs t fr) → t ≠ 64 → t ≠ 110 → t ≠ 71 → t ≠ 103 → ¬ S k → w'.heap[k]? = w.heap[k]?
theorem KeepM.refl (S : Nat → Prop) (w : World) : KeepM S w w := fun _ _ _ _ _ _ _ _ _ _ => rfl
theorem KeepM.trans {S : Nat → Prop} {a b c : World} (h : KeepM S a b) (k : KeepM S b c) : KeepM S a c := fun i xs t fr hi h1 h2 h3 h4 h5 => by
  have e1 := h i xs t fr hi h1 h2 h3 h4 h5
  rw [← e1]
  exact k i xs t fr (e1.trans hi) h1 h2 h3 h4 h5
theorem KeepM.mono {S S' : Nat → Prop} {w w' : World} (h : KeepM S w w') (hs : ∀ k, S k → S' k) : KeepM S' w w' := fun i xs t fr hi h1 h2 h3 h4 h5 => h i xs t fr hi h1 h2 h3 h4 (fun e => h5 (hs i e))
theorem KeepM.ofG {w w' : World} (S : Nat → Prop) (h : KeepG w w') : KeepM S w w' := fun i xs t fr hi h1 h2 h3 h4 _ => h i xs t fr hi h1 h2 h3 h4
theorem KeepM.below {w w' : World} (S : Nat → Prop) (h : Below w.heap.size w w') : KeepM S w w' := fun i xs t fr hi _ _ _ _ _ => h.block i (blk_lt hi)
theorem KeepM.tstay {S : Nat → Prop} {w w' : World} (h : TStay S w w') : KeepM S w w' := fun i xs t fr hi _ _ _ _ h5 => h.block i (blk_lt hi) h5
end Go.Proofs.YthampbiabkfmoaaGreatDoor
