/- A disk's state, said plainly, and as it stands in memory; the calls that turn its fields alone. -/
import Derived.Test.YthampbiabkfmoaaGreatDoorDskDo
import Derived.Shelf.SlMaps.Clone
namespace Go.Proofs.YthampbiabkfmoaaGreatDoor
open Go.RowKit Go.Tap Go.Maps
set_option linter.unusedVariables false

namespace Dsk
def do2 (room : Nat) (fs : Files) (x : Wk) : Option Files :=
  match do1 fs x with
  | some g => if used g ≤ room ∧ g.length ≤ 1000000 then some g else none
  | none => none
def run (room : Nat) : Files → List Wk → Option Files
  | fs, [] => some fs
  | fs, x :: l => match do2 room fs x with | some g => run room g l | none => none
theorem run_snoc (room : Nat) : ∀ (l : List Wk) (fs : Files) (x : Wk), run room fs (l ++ [x]) = match run room fs l with | some g => do2 room g x | none => none
  | [], fs, x => by
    show (match do2 room fs x with | some g => some g | none => none) = do2 room fs x
    cases do2 room fs x <;> rfl
  | y :: l, fs, x => by
    show (match do2 room fs y with | some g => run room g (l ++ [x]) | none => none) = match (match do2 room fs y with | some g => run room g l | none => none) with | some g => do2 room g x | none => none
    cases do2 room fs y with
    | none => rfl
    | some g => exact run_snoc room l g x
/-- Of a disk. -/
structure Dk where
  room : Nat
  done : Files
  now : Files
  pend : List Wk
  fuse : Int
  dead : Bool
  works : Nat
def Dk.one (d : Dk) : Dk × Bool :=
  if d.fuse = 0 then ({ d with dead := true }, false)
  else if d.dead = true then (d, false)
  else ({ d with fuse := if 0 < d.fuse then d.fuse - 1 else d.fuse, works := d.works + 1 }, true)
structure Ok (d : Dk) : Prop where
  run : run d.room d.done d.pend = some d.now
  room : d.room ≤ 16777216
  small : used d.done ≤ d.room ∧ d.done.length ≤ 1000000
  small' : used d.now ≤ d.room
  len : d.now.length ≤ d.works
  pl : d.done.length + d.pend.length ≤ d.works
  names : ∀ x ∈ d.pend, (x.name.length ≤ 20 ∧ x.dst.length ≤ 20) ∧ x.kind ≤ 3 ∧ x.b.length ≤ 16777216
  works : d.works ≤ 100000
  fuse : -1 ≤ d.fuse ∧ d.fuse ≤ 9223372036854775807
end Dsk

/-- A work as it stands in memory. -/
structure Pd where
  x : Dsk.Wk
  a : Option Addr
  c : Nat
def Pd.cells (p : Pd) : List Value := [.int .i64 (p.x.kind : Int), .string (str p.x.name), .string (str p.x.dst), .slice p.a p.x.b.length p.c, .int .i64 (p.x.n : Int)]
def Pends (w : World) (lo : Nat) (v : Value) (l : List Dsk.Wk) : Prop :=
  ∃ ps : List Pd, ps.map Pd.x = l ∧ (∀ p ∈ ps, Keeps w p.a p.x.b.length p.c p.x.b) ∧ w.ownsRow lo 110 5 v ps.length (ps.flatMap Pd.cells)
theorem Pends.nil (w : World) (lo : Nat) : Pends w lo (.slice none 0 0) [] := ⟨[], rfl, by simp, World.ownsRow_nil _ _ _ _⟩
theorem Pends.stay {w w' : World} {lo : Nat} {v : Value} {l : List Dsk.Wk} (h : Pends w lo v l) (hk : KeepU w w') (hb : ∀ k, v.ownBlock = some k → w'.heap[k]? = w.heap[k]?) : Pends w' lo v l := by
  obtain ⟨ps, h1, h2, h3⟩ := h
  refine ⟨ps, h1, fun p hp => (h2 p hp).stay hk, h3.1, ?_⟩
  rcases h3.2 with hn | ⟨g, cap, cur, rfl, hb', hg, r⟩
  · exact .inl hn
  · exact .inr ⟨g, cap, cur, rfl, hb', (hb g rfl).trans hg, r⟩
theorem own_ne' {w : World} {base e e' size : Nat} {v : Value} {n b : Nat} {xs : List Value} {cs : Array Value} {fr : Nat × Nat} (h : w.ownsRow base e size v n xs) (hb : w.heap[b]? = some (.cells cs e' fr)) (hne : e' ≠ e) : v.ownBlock ≠ some b := by
  intro ho
  rcases h.2 with ⟨rfl, _⟩ | ⟨g, cap, cur, rfl, _, hg, _⟩
  · simp [Value.ownBlock] at ho
  · simp [Value.ownBlock] at ho
    subst ho
    rw [hb] at hg
    simp at hg
    exact hne hg.2.1
theorem own_nmap {w : World} {base e size : Nat} {v : Value} {n b : Nat} {xs : List Value} {es : Array MapEntry} {cl : Nat} (h : w.ownsRow base e size v n xs) (hb : w.heap[b]? = some (.map es cl)) : v.ownBlock ≠ some b := by
  intro ho
  rcases h.2 with ⟨rfl, _⟩ | ⟨g, cap, cur, rfl, _, hg, _⟩
  · simp [Value.ownBlock] at ho
  · simp [Value.ownBlock] at ho
    subst ho
    rw [hb] at hg
    cases hg
theorem Pends.own {w : World} {lo : Nat} {v : Value} {l : List Dsk.Wk} (h : Pends w lo v l) : ∃ xs, w.ownsRow lo 110 5 v l.length xs := by
  obtain ⟨ps, h1, _, h3⟩ := h
  subst h1
  exact ⟨_, by rw [List.length_map]; exact h3⟩

def Dcells (d : Dsk.Dk) (bd bn : Nat) (pv : Value) : Array Value := #[.int .i64 (d.room : Int), .map (some bd), .map (some bn), pv, .int .i64 d.fuse, .bool d.dead, .int .i64 (d.works : Int)]
structure IsAt (w : World) (lo B bd bn : Nat) (pv : Value) (d : Dsk.Dk) : Prop where
  blk : w.heap[B]? = some (.cells (Dcells d bd bn pv) 64 (0, 0))
  bnd : lo ≤ B ∧ lo ≤ bd ∧ lo ≤ bn
  ne : bd ≠ bn
  done : FsIs w bd d.done
  now : FsIs w bn d.now
  pend : Pends w lo pv d.pend
def IsDk (w : World) (lo B : Nat) (d : Dsk.Dk) : Prop := ∃ bd bn pv, IsAt w lo B bd bn pv d ∧ Dsk.Ok d
/-- No block has turned but maps, and what is a disk's own. -/
def KeepT (w w' : World) : Prop := ∀ (k : Nat) (xs : Array Value) (t : TypeId) (fr : Nat × Nat), w.heap[k]? = some (Obj.cells xs t fr) → t ≠ 64 → t ≠ 110 → w'.heap[k]? = w.heap[k]?
theorem KeepT.refl (w : World) : KeepT w w := fun _ _ _ _ _ _ _ => rfl
theorem KeepT.trans {a b c : World} (h : KeepT a b) (k : KeepT b c) : KeepT a c := fun i xs t fr hi h1 h2 => by
  have e1 := h i xs t fr hi h1 h2
  rw [← e1]
  exact k i xs t fr (e1.trans hi) h1 h2
theorem KeepT.below {w w' : World} {B : Nat} (hb : Below B w w') (h : w.heap.size ≤ B) : KeepT w w' := fun k xs t fr hk _ _ => hb.block k (Nat.lt_of_lt_of_le (blk_lt hk) h)
theorem KeepT.ku {w w' : World} (h : KeepT w w') : KeepU w w' := fun k xs fr hk => h k xs _ fr hk (by decide) (by decide)
theorem KeepT.of_stay {S : Nat → Prop} {w w' : World} (ht : TStay S w w') (hs : ∀ k, S k → (∃ es cl, w.heap[k]? = some (.map es cl)) ∨ ∃ xs t fr, w.heap[k]? = some (.cells xs t fr) ∧ (t = 64 ∨ t = 110)) : KeepT w w' := fun k xs t fr hk h1 h2 =>
  ht.block k (blk_lt hk) (fun h => by
    rcases hs k h with ⟨es, cl, hm⟩ | ⟨xs', t', fr', hc, ht'⟩
    · rw [hk] at hm; cases hm
    · rw [hk] at hc
      simp at hc
      rcases ht' with e | e
      · exact h1 (hc.2.1.trans e)
      · exact h2 (hc.2.1.trans e))
theorem FsIs.move {w w' : World} {b b' : Nat} {fs : Dsk.Files} (h : FsIs w b fs) (hb : w'.heap[b']? = w.heap[b]?) (hk : KeepU w w') : FsIs w' b' fs := by
  obtain ⟨l, h1, h2, h3, es, ⟨xs, clock, g1, g2, g3, g4⟩, h5⟩ := h
  exact ⟨l, h1, fun f hf => (h2 f hf).stay hk, h3, es, ⟨xs, clock, hb.trans g1, g2, g3, g4⟩, h5⟩
theorem IsAt.nB {w : World} {lo B bd bn : Nat} {pv : Value} {d : Dsk.Dk} (h : IsAt w lo B bd bn pv d) : bd ≠ B ∧ bn ≠ B ∧ pv.ownBlock ≠ some B ∧ pv.ownBlock ≠ some bd ∧ pv.ownBlock ≠ some bn := by
  obtain ⟨e1, c1, h1⟩ := h.done.blk
  obtain ⟨e2, c2, h2⟩ := h.now.blk
  obtain ⟨xs, ho⟩ := h.pend.own
  refine ⟨fun e => ?_, fun e => ?_, own_ne' ho h.blk (by decide), own_nmap ho h1, own_nmap ho h2⟩
  · subst e; rw [h.blk] at h1; cases h1
  · subst e; rw [h.blk] at h2; cases h2
/-- Where neither the struct nor a map nor the row has turned. -/
theorem IsAt.stay {w w' : World} {lo B bd bn : Nat} {pv : Value} {d : Dsk.Dk} (h : IsAt w lo B bd bn pv d) (hk : KeepU w w') (hb : ∀ k, k = B ∨ k = bd ∨ k = bn ∨ pv.ownBlock = some k → w'.heap[k]? = w.heap[k]?) : IsAt w' lo B bd bn pv d :=
  ⟨(hb B (.inl rfl)).trans h.blk, h.bnd, h.ne, h.done.stay (hb bd (.inr (.inl rfl))) hk, h.now.stay (hb bn (.inr (.inr (.inl rfl)))) hk, h.pend.stay hk (fun k e => hb k (.inr (.inr (.inr e))))⟩
theorem IsAt.lt {w : World} {lo B bd bn : Nat} {pv : Value} {d : Dsk.Dk} (h : IsAt w lo B bd bn pv d) : ∀ k, k = B ∨ k = bd ∨ k = bn ∨ pv.ownBlock = some k → k < w.heap.size := by
  obtain ⟨xs, ho⟩ := h.pend.own
  rintro k (rfl | rfl | rfl | e)
  · exact blk_lt h.blk
  · exact h.done.lt
  · exact h.now.lt
  · exact (ho.lt k e).2
theorem IsAt.ge {w : World} {lo B bd bn : Nat} {pv : Value} {d : Dsk.Dk} (h : IsAt w lo B bd bn pv d) : ∀ k, k = B ∨ k = bd ∨ k = bn ∨ pv.ownBlock = some k → lo ≤ k := by
  obtain ⟨xs, ho⟩ := h.pend.own
  rintro k (rfl | rfl | rfl | e)
  · exact h.bnd.1
  · exact h.bnd.2.1
  · exact h.bnd.2.2
  · exact (ho.lt k e).1
theorem IsAt.below {w w' : World} {lo B bd bn : Nat} {pv : Value} {d : Dsk.Dk} (h : IsAt w lo B bd bn pv d) (hb : Below w.heap.size w w') : IsAt w' lo B bd bn pv d :=
  h.stay (KeepU.below hb (Nat.le_refl _)) (fun k hk => hb.block k (h.lt k hk))
theorem IsDk.below {w w' : World} {lo B : Nat} {d : Dsk.Dk} (h : IsDk w lo B d) (hb : Below w.heap.size w w') : IsDk w' lo B d := by
  obtain ⟨bd, bn, pv, h1, h2⟩ := h
  exact ⟨bd, bn, pv, h1.below hb, h2⟩
/-- A field laid anew: what else stands. -/
theorem IsAt.set {w : World} {lo B bd bn : Nat} {pv : Value} {d d' : Dsk.Dk} (h : IsAt w lo B bd bn pv d) (i : Nat) (u : Value) (hc : (Dcells d bd bn pv).setIfInBounds i u = Dcells d' bd bn pv)
    (e1 : d'.done = d.done) (e2 : d'.now = d.now) (e3 : d'.pend = d.pend) : IsAt (w.setCell ⟨B, i, none⟩ u) lo B bd bn pv d' := by
  obtain ⟨n1, n2, n3, _, _⟩ := h.nB
  have hk : KeepU w (w.setCell ⟨B, i, none⟩ u) := KeepU.setCell (p := ⟨B, i, none⟩) h.blk (by decide) u
  have ho : ∀ k, k ≠ B → (w.setCell ⟨B, i, none⟩ u).heap[k]? = w.heap[k]? := fun k hne => by
    by_cases hlt : k < w.heap.size
    · exact ((TStay.refl (fun k => k = B) w).setCell (p := ⟨B, i, none⟩) (.inl rfl) u).block k hlt hne
    · rw [Array.getElem?_eq_none (by have := hlt; simp; omega), Array.getElem?_eq_none (by omega)]
  refine ⟨?_, h.bnd, h.ne, ?_, ?_, ?_⟩
  · rw [← hc]; exact heap_setCell_same w B i _ _ u h.blk
  · rw [e1]; exact h.done.stay (ho bd n1) hk
  · rw [e2]; exact h.now.stay (ho bn n2) hk
  · rw [e3]; exact h.pend.stay hk (fun k e => ho k (fun e' => by subst e'; exact n3 e))

set_option maxHeartbeats 1000000 in
set_option maxRecDepth 100000 in
theorem one_any (w : World) (lo B bd bn : Nat) (pv : Value) (d : Dsk.Dk) (h : IsAt w lo B bd bn pv d) (hf : -1 ≤ d.fuse ∧ d.fuse ≤ 9223372036854775807) (hw : d.works ≤ 1000000) :
    Calls Tryz.prog 57 #[.pointer (some ⟨B, 0, none⟩)] w fun e w' => e = .returned (if d.one.2 = true then .nilIface else .iface 65 (.int .i64 7)) ∧ IsAt w' lo B bd bn pv d.one.1 ∧ TStay (fun k => k = B) w w' := by
  obtain ⟨room, done, now, pend, fuse, dead, works⟩ := d
  replace hf : -1 ≤ fuse ∧ fuse ≤ 9223372036854775807 := hf
  replace hw : works ≤ 1000000 := hw
  have c4 : w.cell? ⟨B, 4, none⟩ = some (.int .i64 fuse) := blk_cell (i := 4) h.blk rfl
  have c5 : w.cell? ⟨B, 5, none⟩ = some (.bool dead) := blk_cell (i := 5) h.blk rfl
  have c6 : w.cell? ⟨B, 6, none⟩ = some (.int .i64 (works : Int)) := blk_cell (i := 6) h.blk rfl
  have f4 := blk_free h.blk 4
  have f5 := blk_free h.blk 5
  have f6 := blk_free h.blk 6
  have hT : TStay (fun k => k = B) w w := TStay.refl _ w
  by_cases f0 : fuse = 0
  · subst f0
    have h1 := h.set (d' := ⟨room, done, now, pend, 0, true, works⟩) 5 (.bool true) rfl rfl rfl rfl
    have hT1 := hT.setCell (p := ⟨B, 5, none⟩) (.inl rfl) (.bool true)
    clear h hT
    go_enter Tryz.func57, Tryz.ntmps57
    go_wp2
    go_ret
    exact ⟨rfl, h1, hT1⟩
  · have g0 : (fuse == 0) = false := by simpa using f0
    cases dead with
    | true =>
      have he : Dsk.Dk.one ⟨room, done, now, pend, fuse, true, works⟩ = (⟨room, done, now, pend, fuse, true, works⟩, false) := by simp [Dsk.Dk.one, f0]
      rw [he]
      have H := Lib.hid h
      clear h he
      go_enter Tryz.func57, Tryz.ntmps57
      go_wp2
      go_ret
      exact ⟨rfl, H.out, hT⟩
    | false =>
      have hwr : IntKind.i64.wrap ((works : Int) + 1) = ((works + 1 : Nat) : Int) := by push_cast; exact wrapi' _ (by omega)
      by_cases fp : 0 < fuse
      · have d0 : decide (0 < fuse) = true := decide_eq_true fp
        have hwf : IntKind.i64.wrap (fuse - 1) = fuse - 1 := wrapi' _ (by omega)
        have he : Dsk.Dk.one ⟨room, done, now, pend, fuse, false, works⟩ = (⟨room, done, now, pend, fuse - 1, false, works + 1⟩, true) := by simp [Dsk.Dk.one, f0, fp]
        rw [he]
        have h1 := h.set (d' := ⟨room, done, now, pend, fuse - 1, false, works⟩) 4 (.int .i64 (fuse - 1)) rfl rfl rfl rfl
        have h2 := Lib.hid (h1.set (d' := ⟨room, done, now, pend, fuse - 1, false, works + 1⟩) 6 (.int .i64 ((works + 1 : Nat) : Int)) rfl rfl rfl rfl)
        have c6' : (w.setCell ⟨B, 4, none⟩ (.int .i64 (fuse - 1))).cell? ⟨B, 6, none⟩ = some (.int .i64 (works : Int)) := blk_cell (i := 6) h1.blk rfl
        have f6' := blk_free h1.blk 6
        have hT2 := (hT.setCell (p := ⟨B, 4, none⟩) (.inl rfl) (.int .i64 (fuse - 1))).setCell (p := ⟨B, 6, none⟩) (.inl rfl) (.int .i64 ((works + 1 : Nat) : Int))
        clear h h1 he hT f0 hf
        go_enter Tryz.func57, Tryz.ntmps57
        go_wp2
        go_ret
        exact ⟨rfl, h2.out, hT2⟩
      · have d0 : decide (0 < fuse) = false := decide_eq_false fp
        have he : Dsk.Dk.one ⟨room, done, now, pend, fuse, false, works⟩ = (⟨room, done, now, pend, fuse, false, works + 1⟩, true) := by simp [Dsk.Dk.one, f0, fp]
        rw [he]
        have h2 := Lib.hid (h.set (d' := ⟨room, done, now, pend, fuse, false, works + 1⟩) 6 (.int .i64 ((works + 1 : Nat) : Int)) rfl rfl rfl rfl)
        have hT2 := hT.setCell (p := ⟨B, 6, none⟩) (.inl rfl) (.int .i64 ((works + 1 : Nat) : Int))
        clear h he hT f0 hf
        go_enter Tryz.func57, Tryz.ntmps57
        go_wp2
        go_ret
        exact ⟨rfl, h2.out, hT2⟩
end Go.Proofs.YthampbiabkfmoaaGreatDoor
