/- Files by name, said plainly; what a map of them is good for. -/
import Derived.Test.YthampbiabkfmoaaGreatDoorAid
import Derived.Test.YthampbiabkfmoaaGreatDoorHand
import Derived.Maps.RangeWalk
import Derived.Maps.OwnSet
import Derived.Maps.Ext
import Derived.Lib.Hide
import Derived.Deep.AppendLies
namespace Go.Proofs.YthampbiabkfmoaaGreatDoor
open Go.RowKit Go.Tap Go.Maps
set_option linter.unusedVariables false
set_option linter.unusedSectionVars false

namespace Dsk
abbrev Name := List UInt8
abbrev Files := List (Name × List UInt8)
def get (fs : Files) (s : Name) : Option (List UInt8) := (fs.find? (fun p => p.1 == s)).map (·.2)
def del (fs : Files) (s : Name) : Files := fs.filter (fun p => !(p.1 == s))
def put (fs : Files) (s : Name) (b : List UInt8) : Files := (s, b) :: del fs s
def used (fs : Files) : Nat := (fs.map (fun p => p.2.length)).sum
def Apart (fs : Files) : Prop := fs.Pairwise (fun p q => p.1 ≠ q.1)
def val (fs : Files) (s : Name) : List UInt8 := (get fs s).getD []
theorem apart_nil : Apart [] := List.Pairwise.nil
theorem apart_del {fs : Files} (h : Apart fs) (s : Name) : Apart (del fs s) := List.Pairwise.filter _ h
theorem apart_put {fs : Files} (h : Apart fs) (s : Name) (b : List UInt8) : Apart (put fs s b) := by
  refine List.pairwise_cons.2 ⟨fun q hq e => ?_, apart_del h s⟩
  have := (List.mem_filter.1 hq).2
  simp at this
  exact this e.symm
theorem get_put_same (fs : Files) (s : Name) (b : List UInt8) : get (put fs s b) s = some b := by simp [get, put]
theorem find_del_other {fs : Files} {s t : Name} (h : t ≠ s) : (del fs s).find? (fun p => p.1 == t) = fs.find? (fun p => p.1 == t) :=
  Go.Maps.find_filter_keep (fun p hp => by
    have : p.1 = t := by simpa using hp
    simp [this, h]) fs
theorem get_del_other {fs : Files} {s t : Name} (h : t ≠ s) : get (del fs s) t = get fs t := by rw [get, find_del_other h]; rfl
theorem get_put_other {fs : Files} {s t : Name} (b : List UInt8) (h : t ≠ s) : get (put fs s b) t = get fs t := by
  have h1 : ((s, b).1 == t) = false := by simpa using fun e => h e.symm
  rw [get, put, List.find?_cons, h1]
  exact get_del_other h
theorem get_del_same (fs : Files) (s : Name) : get (del fs s) s = none := by
  rw [get, List.find?_eq_none.2 (fun p hp => by simpa using (List.mem_filter.1 hp).2)]
  rfl
theorem val_put_same (fs : Files) (s : Name) (b : List UInt8) : val (put fs s b) s = b := by rw [val, get_put_same]; rfl
theorem val_put_other {fs : Files} {s t : Name} (b : List UInt8) (h : t ≠ s) : val (put fs s b) t = val fs t := by rw [val, get_put_other b h]; rfl
theorem del_none {fs : Files} {s : Name} (h : ∀ p ∈ fs, p.1 ≠ s) : del fs s = fs := List.filter_eq_self.2 fun p hp => by simpa using h p hp
theorem used_del : ∀ {fs : Files}, Apart fs → ∀ s, used (del fs s) + (val fs s).length = used fs
  | [], _, s => rfl
  | (t, b) :: r, h, s => by
    obtain ⟨h1, h2⟩ := List.pairwise_cons.1 h
    by_cases e : t = s
    · subst e
      have hd : del ((t, b) :: r) t = r := by
        show List.filter _ _ = _
        rw [List.filter_cons_of_neg (by simp)]
        exact del_none (fun p hp e => h1 p hp e.symm)
      have hv : val ((t, b) :: r) t = b := by simp [val, get]
      rw [hd, hv]; simp [used]; omega
    · have hd : del ((t, b) :: r) s = (t, b) :: del r s := List.filter_cons_of_pos (by simp [e])
      have hv : val ((t, b) :: r) s = val r s := by
        have : ((t, b).1 == s) = false := by simpa using e
        rw [val, get, List.find?_cons, this]; rfl
      have := used_del h2 s
      rw [hd, hv]; simp only [used, List.map_cons, List.sum_cons] at this ⊢; omega
theorem used_put {fs : Files} (h : Apart fs) (s : Name) (b : List UInt8) : used (put fs s b) + (val fs s).length = used fs + b.length := by
  have := used_del h s
  simp only [used, put, List.map_cons, List.sum_cons] at this ⊢; omega
theorem val_le {fs : Files} (h : Apart fs) (s : Name) : (val fs s).length ≤ used fs := by have := used_del h s; omega
theorem len_del (fs : Files) (s : Name) : (del fs s).length ≤ fs.length := List.length_filter_le _ _
theorem len_put (fs : Files) (s : Name) (b : List UInt8) : (put fs s b).length ≤ fs.length + 1 := by have := len_del fs s; simp [put]; omega
end Dsk

/-- A slice of bytes that is read, in memory of bytes. -/
structure Keeps (w : World) (a : Option Addr) (n c : Nat) (b : List UInt8) : Prop where
  rds : Rds w a n b
  u8 : 0 < n → ∀ k o, a = some ⟨k, o, none⟩ → ∃ (xs : Array Value) (fr : Nat × Nat), w.heap[k]? = some (Obj.cells xs 5 fr)
  le : n ≤ c
  none : a = none → c = 0
/-- No block of bytes has turned. -/
def KeepU (w w' : World) : Prop := ∀ (k : Nat) (xs : Array Value) (fr : Nat × Nat), w.heap[k]? = some (Obj.cells xs 5 fr) → w'.heap[k]? = w.heap[k]?
theorem KeepU.refl (w : World) : KeepU w w := fun _ _ _ _ => rfl
theorem KeepU.drew (w : World) : KeepU w w.drew := fun _ _ _ _ => rfl
theorem KeepU.trans {a b c : World} (h : KeepU a b) (k : KeepU b c) : KeepU a c := fun i xs fr hi => by
  have h1 := h i xs fr hi
  rw [← h1]
  exact k i xs fr (h1.trans hi)
theorem KeepU.below {w w' : World} {B : Nat} (hb : Below B w w') (h : w.heap.size ≤ B) : KeepU w w' := fun k xs fr hk => hb.block k (Nat.lt_of_lt_of_le (blk_lt hk) h)
theorem KeepU.tstay {S : Nat → Prop} {w w' : World} (ht : TStay S w w') (hs : ∀ (k : Nat) (xs : Array Value) (fr : Nat × Nat), S k → w.heap[k]? ≠ some (Obj.cells xs 5 fr)) : KeepU w w' := fun k xs fr hk => ht.block k (blk_lt hk) (fun h => hs k xs fr h hk)
theorem KeepU.grown {w w' : World} {row : Option Nat} (hg : w.grownBy w' row) (hs : ∀ (k : Nat) (xs : Array Value) (fr : Nat × Nat), row = some k → w.heap[k]? ≠ some (Obj.cells xs 5 fr)) : KeepU w w' := fun k xs fr hk => hg.block k (blk_lt hk) (fun h => hs k xs fr h.symm hk)
theorem KeepU.alloc (w : World) (o : Obj) : KeepU w (w.alloc o) := fun k xs fr hk => (MapKept.heap_alloc w o).2 k (blk_lt hk)
theorem KeepU.setCell {w : World} {p : Addr} {cs : Array Value} {t : TypeId} {fr : Nat × Nat} (hb : w.heap[p.block]? = some (.cells cs t fr)) (ht : t ≠ 5) (u : Value) : KeepU w (w.setCell p u) :=
  KeepU.tstay (S := fun k => k = p.block) ((TStay.refl (fun k => k = p.block) w).setCell (p := p) (.inl rfl) u) (fun k xs fr' e h => by subst e; rw [hb] at h; simp at h; exact ht h.2.1)
theorem Keeps.stay {w w' : World} {a : Option Addr} {n c : Nat} {b : List UInt8} (h : Keeps w a n c b) (hk : KeepU w w') : Keeps w' a n c b :=
  ⟨h.rds.keep (fun h0 k o e => by obtain ⟨xs, fr, hx⟩ := h.u8 h0 k o e; exact hk k xs fr hx),
   fun h0 k o e => by obtain ⟨xs, fr, hx⟩ := h.u8 h0 k o e; exact ⟨xs, fr, (hk k xs fr hx).trans hx⟩, h.le, h.none⟩
theorem Keeps.nil (w : World) : Keeps w Option.none 0 0 [] := ⟨Rds.nil _ _, fun h => absurd h (by omega), Nat.le_refl _, fun _ => rfl⟩
theorem Keeps.len {w : World} {a : Option Addr} {n c : Nat} {b : List UInt8} (h : Keeps w a n c b) : b.length = n := h.rds.1
theorem Keeps.of_own {w : World} {base : Nat} {a : Option Addr} {n c : Nat} {l : List UInt8} (h : w.ownsRow base 5 1 (.slice a n c) l.length (bv l)) (hn : l.length = n) : Keeps w a n c l := by
  subst hn
  refine ⟨Rds.of_own h rfl, fun h0 k o e => ?_, ?_, ?_⟩
  · rcases h.2 with ⟨e1, e2⟩ | ⟨g, cap, cur, e1, _, hg, _⟩
    · omega
    · simp only [Value.slice.injEq] at e1
      obtain ⟨rfl, _, rfl⟩ := e1
      simp only [Option.some.injEq, Addr.mk.injEq] at e
      obtain ⟨rfl, _⟩ := e
      exact ⟨_, _, hg⟩
  · rcases h.2 with ⟨e1, e2⟩ | ⟨g, cap, cur, e1, _, hg, h1, _⟩
    · simp only [Value.slice.injEq] at e1; omega
    · simp only [Value.slice.injEq] at e1; omega
  · intro ha
    rcases h.2 with ⟨e1, e2⟩ | ⟨g, cap, cur, e1, _⟩
    · simp only [Value.slice.injEq] at e1; omega
    · simp only [Value.slice.injEq] at e1; rw [ha] at e1; simp at e1

/-- A file as it stands in memory. -/
structure Fl where
  s : Dsk.Name
  a : Option Addr
  n : Nat
  c : Nat
  b : List UInt8
def Fl.ent (f : Fl) : Lit × DataW Value := (.string f.s, .held (.slice f.a f.n f.c))
def Fl.file (f : Fl) : Dsk.Name × List UInt8 := (f.s, f.b)
def held (v : Value) : Option (DataW Value × List MemPlace) := match v with | .slice a n c => some (.held (.slice a n c), []) | _ => none
theorem held_inv {v : Value} {y : DataW Value × List MemPlace} (h : held v = some y) : (∃ x : Option Addr × Nat × Nat, v = .slice x.1 x.2.1 x.2.2) ∧ y = (.held v, []) := by
  cases v <;> simp [held] at h
  subst h
  exact ⟨⟨(_, _, _), rfl⟩, rfl⟩
/-- Block b is a map of these files. -/
def FsIs (w : World) (b : Nat) (fs : Dsk.Files) : Prop :=
  ∃ l : List Fl, l.map Fl.file = fs ∧ (∀ f ∈ l, Keeps w f.a f.n f.c f.b) ∧ Dsk.Apart fs ∧ ∃ es, w.ownsMap Tryz.prog 9 held b l.length (.map es) ∧ es.Perm (l.map Fl.ent)

theorem own_tight {H : Type} {P : Program} {k : TypeId} {R : Value → Option (DataW H × List MemPlace)} {w : World} {b n : Nat} {es : List (Lit × DataW H)} (h : w.ownsMap P k R b n (.map es)) : w.ownsMap P k R b es.length (.map es) := by
  obtain ⟨xs, clock, hb, F, hs, hD⟩ := h
  have : es.length = xs.size := by
    simp only [DataW.map.injEq] at hD
    rw [hD, length_read]
  exact ⟨xs, clock, hb, F, by omega, hD⟩
theorem FsIs.blk {w : World} {b : Nat} {fs : Dsk.Files} (h : FsIs w b fs) : ∃ es clock, w.heap[b]? = some (.map es clock) := by
  obtain ⟨l, _, _, _, es, ho, _⟩ := h
  obtain ⟨xs, clock, hb, _⟩ := ho
  exact ⟨xs, clock, hb⟩
theorem FsIs.lt {w : World} {b : Nat} {fs : Dsk.Files} (h : FsIs w b fs) : b < w.heap.size := by obtain ⟨_, _, hb⟩ := h.blk; exact blk_lt hb
theorem FsIs.apart {w : World} {b : Nat} {fs : Dsk.Files} (h : FsIs w b fs) : Dsk.Apart fs := by obtain ⟨_, _, _, h, _⟩ := h; exact h
theorem FsIs.stay {w w' : World} {b : Nat} {fs : Dsk.Files} (h : FsIs w b fs) (hb : w'.heap[b]? = w.heap[b]?) (hk : KeepU w w') : FsIs w' b fs := by
  obtain ⟨l, h1, h2, h3, es, ⟨xs, clock, g1, g2, g3, g4⟩, h5⟩ := h
  exact ⟨l, h1, fun f hf => (h2 f hf).stay hk, h3, es, ⟨xs, clock, hb.trans g1, g2, g3, g4⟩, h5⟩
theorem FsIs.new (w : World) : FsIs (w.alloc (.map #[] 0)) w.heap.size [] :=
  ⟨[], rfl, by simp, Dsk.apart_nil, [], World.ownsMap_made _ _ _ _, List.Perm.refl _⟩
theorem sameKey_str (a b : List UInt8) : (Lit.string a).sameKey (.string b) = (a == b) := rfl
/-- What stands at a name. -/
theorem fs_find {l : List Fl} {es : List (Lit × DataW Value)} (hp : es.Perm (l.map Fl.ent)) (ha : Dsk.Apart (l.map Fl.file)) (s : Dsk.Name) :
    (∃ f ∈ l, f.s = s ∧ Dsk.get (l.map Fl.file) s = some f.b ∧ Go.Maps.has (.map es) (.string s) = true ∧ ∀ z, (DataW.map es).atKey (.string s) z = .held (.slice f.a f.n f.c)) ∨
    (Dsk.get (l.map Fl.file) s = none ∧ Go.Maps.has (.map es) (.string s) = false ∧ ∀ z, (DataW.map es).atKey (.string s) z = z) := by
  have hfind : ∀ l : List Fl, (l.map Fl.file).find? (fun p => p.1 == s) = (l.find? (fun f => f.s == s)).map Fl.file := by
    intro l
    induction l with
    | nil => rfl
    | cons f r ih =>
      cases hf : f.s == s
      · have h1 : ((f.file).1 == s) = false := hf
        rw [List.map_cons, List.find?_cons, h1, List.find?_cons, hf]; exact ih
      · have h1 : ((f.file).1 == s) = true := hf
        rw [List.map_cons, List.find?_cons, h1, List.find?_cons, hf]; rfl
  cases hl : l.find? (fun f => f.s == s) with
  | some f =>
    left
    have hm := List.mem_of_find?_eq_some hl
    have hs : f.s = s := by have := List.find?_some hl; simpa using this
    refine ⟨f, hm, hs, ?_, ?_, fun z => ?_⟩
    · rw [Dsk.get, hfind, hl]; rfl
    · rw [Go.Maps.has_eq, List.any_eq_true]
      exact ⟨f.ent, hp.mem_iff.2 (List.mem_map_of_mem hm), by show (Lit.string f.s).sameKey (.string s) = true; rw [sameKey_str, hs]; simp⟩
    · simp only [DataW.atKey]
      have hany : ∃ p ∈ es, p.1.sameKey (.string s) = true := ⟨f.ent, hp.mem_iff.2 (List.mem_map_of_mem hm), by show (Lit.string f.s).sameKey (.string s) = true; rw [sameKey_str, hs]; simp⟩
      cases he : es.find? (fun p => p.1.sameKey (.string s)) with
      | none => obtain ⟨p, hp1, hp2⟩ := hany; exact absurd hp2 (List.find?_eq_none.1 he p hp1)
      | some p =>
        have hpm := List.mem_of_find?_eq_some he
        have hpk := List.find?_some he
        obtain ⟨g, hg, rfl⟩ := List.mem_map.1 (hp.mem_iff.1 hpm)
        have hgs : g.s = s := by have : (Lit.string g.s).sameKey (.string s) = true := hpk; rw [sameKey_str] at this; simpa using this
        have : g = f := by
          have ha' : l.Pairwise (fun p q => p.s ≠ q.s) := by
            have h0 : (l.map Fl.file).Pairwise (fun p q => p.1 ≠ q.1) := ha
            rw [List.pairwise_map] at h0; exact h0
          by_cases e : g = f
          · exact e
          · exfalso
            have key : ∀ l : List Fl, l.Pairwise (fun p q => p.s ≠ q.s) → g ∈ l → f ∈ l → g ≠ f → g.s ≠ f.s := by
              intro l
              induction l with
              | nil => intro _ h; simp at h
              | cons x r ih =>
                intro hpw h1 h2 hne
                obtain ⟨q1, q2⟩ := List.pairwise_cons.1 hpw
                rcases List.mem_cons.1 h1 with rfl | h1'
                · rcases List.mem_cons.1 h2 with rfl | h2'
                  · exact absurd rfl hne
                  · exact q1 _ h2'
                · rcases List.mem_cons.1 h2 with rfl | h2'
                  · exact (q1 _ h1').symm
                  · exact ih q2 h1' h2' hne
            exact key l ha' hg hm e (hgs.trans hs.symm)
        subst this; rfl
  | none =>
    right
    have hno : ∀ p ∈ es, p.1.sameKey (.string s) = false := fun p hp1 => by
      obtain ⟨g, hg, rfl⟩ := List.mem_map.1 (hp.mem_iff.1 hp1)
      show (Lit.string g.s).sameKey (.string s) = false
      rw [sameKey_str]
      have := List.find?_eq_none.1 hl g hg
      simpa using this
    refine ⟨?_, ?_, fun z => ?_⟩
    · rw [Dsk.get, hfind, hl]; rfl
    · rw [Go.Maps.has_eq, List.any_eq_false]; intro p hp1; rw [hno p hp1]; simp
    · simp only [DataW.atKey]
      rw [List.find?_eq_none.2 (fun p hp1 => by rw [hno p hp1]; simp)]
end Go.Proofs.YthampbiabkfmoaaGreatDoor
/- A map of files at the operations: read, laid, struck, made anew alike. -/
namespace Go.Proofs.YthampbiabkfmoaaGreatDoor
open Go.RowKit Go.Tap Go.Maps
set_option linter.unusedVariables false

theorem infoSl : (Tryz.prog.info? 66).map (fun i => (i.zero, i.size, i.bytes)) = some (some (.slice none 0 0), 1, 24) := by kernel_rfl
theorem zeroSl (w : World) : (zeroValue 66).run Tryz.prog w = .ok (.slice none 0 0) w := by
  obtain ⟨i, hi, hz, _, _⟩ := info_parts infoSl
  simp [zeroValue, typeInfo, hi, hz]
theorem keyName (s : Dsk.Name) (h : s.length ≤ 1048576) : keyOf Tryz.prog 9 (.string (str s)) = some (.string s) := by
  have := Go.WideMaps.keyOf_string_mk (P := Tryz.prog) (k := 9) Tryz.underlying9 (s := str s) (by show s.length ≤ maxLen; unfold maxLen; omega)
  exact this
theorem key_inv {key : Value} {kl : Lit} (h : keyOf Tryz.prog 9 key = some kl) : ∃ s : ByteArray, key = .string s ∧ kl = .string s.data.toList := by
  cases key <;> simp [keyOf, Tryz.underlying9, mapKey] at h
  exact ⟨_, rfl, h.2.symm⟩
theorem keyLaw : Keyed Tryz.prog 9 := string_keyed Tryz.underlying9

/-- What stands at a name, in whatever world holds the map's block as it is. -/
theorem FsIs.look {w : World} {b : Nat} {fs : Dsk.Files} (h : FsIs w b fs) (s : Dsk.Name) (hs : s.length ≤ 1048576) :
    ∃ a n c, Keeps w a n c (Dsk.val fs s) ∧ ∀ w' : World, w'.heap[b]? = w.heap[b]? →
      (Instr.lookup 61 (.map (some b)) (.string (str s)) false).run Tryz.prog w' = .ok (.slice a n c) w' ∧
      (Instr.lookup 61 (.map (some b)) (.string (str s)) true).run Tryz.prog w' = .ok (.tuple #[.slice a n c, .bool (Dsk.get fs s).isSome]) w' := by
  obtain ⟨l, rfl, h2, h3, es, ho, hp⟩ := h
  have hmv : ∀ w' : World, w'.heap[b]? = w.heap[b]? → w'.ownsMap Tryz.prog 9 held b l.length (.map es) := fun w' hb => by
    obtain ⟨xs, clock, g1, g2⟩ := ho
    exact ⟨xs, clock, hb.trans g1, g2⟩
  have hrun : ∀ w' : World, w'.heap[b]? = w.heap[b]? → ∃ v, (Instr.lookup 61 (.map (some b)) (.string (str s)) false).run Tryz.prog w' = .ok v w' ∧ .held v = (DataW.map es).atKey (.string s) (.held (.slice none 0 0)) := fun w' hb => by
    obtain ⟨v, ps, h1, h2⟩ := (hmv w' hb).lookup keyLaw Tryz.underlying61 (zeroSl w') (zd := .held (.slice none 0 0)) (zp := []) rfl (keyName s hs)
    have := (held_inv h2).2
    simp only [Prod.mk.injEq] at this
    exact ⟨v, h1, this.1.symm⟩
  have hrun2 : ∀ w' : World, w'.heap[b]? = w.heap[b]? → ∃ v, (Instr.lookup 61 (.map (some b)) (.string (str s)) true).run Tryz.prog w' = .ok (.tuple #[v, .bool (Go.Maps.has (.map es) (.string s))]) w' ∧ .held v = (DataW.map es).atKey (.string s) (.held (.slice none 0 0)) := fun w' hb => by
    obtain ⟨v, ps, h1, h2⟩ := (hmv w' hb).look_ok keyLaw Tryz.underlying61 (zeroSl w') (zd := .held (.slice none 0 0)) (zp := []) rfl (keyName s hs)
    have := (held_inv h2).2
    simp only [Prod.mk.injEq] at this
    exact ⟨v, h1, this.1.symm⟩
  rcases fs_find hp h3 s with ⟨f, hf, hfs, hg, hh, hat⟩ | ⟨hg, hh, hat⟩
  · refine ⟨f.a, f.n, f.c, by rw [Dsk.val, hg]; exact h2 f hf, fun w' hb => ?_⟩
    obtain ⟨v, r1, e1⟩ := hrun w' hb
    obtain ⟨v2, r2, e2⟩ := hrun2 w' hb
    rw [hat] at e1 e2
    simp only [DataW.held.injEq] at e1 e2
    rw [e1] at r1; rw [e2, hh] at r2; rw [hg]
    exact ⟨r1, r2⟩
  · refine ⟨none, 0, 0, by rw [Dsk.val, hg]; exact Keeps.nil w, fun w' hb => ?_⟩
    obtain ⟨v, r1, e1⟩ := hrun w' hb
    obtain ⟨v2, r2, e2⟩ := hrun2 w' hb
    rw [hat] at e1 e2
    simp only [DataW.held.injEq] at e1 e2
    rw [e1] at r1; rw [e2, hh] at r2; rw [hg]
    exact ⟨r1, r2⟩
theorem notKey_str (s : Dsk.Name) (f : Fl) : (!(f.ent).1.sameKey (.string s)) = !(f.s == s) := rfl
theorem filt_ent (s : Dsk.Name) : ∀ l : List Fl, (l.map Fl.ent).filter (fun p => !p.1.sameKey (.string s)) = (l.filter (fun f => !(f.s == s))).map Fl.ent
  | [] => rfl
  | f :: r => by
    rw [List.map_cons, List.filter_cons, List.filter_cons, notKey_str, filt_ent s r]
    split <;> rfl
theorem filt_file (s : Dsk.Name) : ∀ l : List Fl, Dsk.del (l.map Fl.file) s = (l.filter (fun f => !(f.s == s))).map Fl.file
  | [] => rfl
  | f :: r => by
    have ih := filt_file s r
    unfold Dsk.del at ih ⊢
    rw [List.map_cons, List.filter_cons, List.filter_cons, ih]
    show (if (!(f.s == s)) = true then _ else _) = _
    split <;> rfl
/-- Laid under a name. -/
theorem FsIs.store {w : World} {b : Nat} {fs : Dsk.Files} (h : FsIs w b fs) (s : Dsk.Name) (hs : s.length ≤ 1048576) {a : Option Addr} {n c : Nat} {x : List UInt8} (hk : Keeps w a n c x) (hl : fs.length ≤ 1048576) :
    ∃ w', (Instr.mapUpdate 61 (.map (some b)) (.string (str s)) (.slice a n c)).run Tryz.prog w = .ok () w' ∧ FsIs w' b (Dsk.put fs s x) ∧ w.mapTurned w' b := by
  have hblk := h.blk
  obtain ⟨l, rfl, h2, h3, es, ho, hp⟩ := h
  obtain ⟨w', hrun, ho', ht⟩ := ho.store keyLaw Tryz.underlying61 (by simp only [List.length_map] at hl; unfold maxLen; omega) (val := .slice a n c) (d := .held (.slice a n c)) (ps := []) (keyName s hs) rfl
  have hku : KeepU w w' := KeepU.grown ht.grown (fun k xs fr e hx => by
    obtain ⟨es', cl, hb⟩ := hblk
    simp only [Option.some.injEq] at e
    subst e
    rw [hb] at hx; cases hx)
  refine ⟨w', hrun, ⟨⟨s, a, n, c, x⟩ :: l.filter (fun f => !(f.s == s)), ?_, ?_, Dsk.apart_put h3 s x, (ChangeMaps.putKey (.string s) (.held (.slice a n c)) es), ?_, ?_⟩, ht⟩
  · rw [List.map_cons, ← filt_file]; rfl
  · intro f hf
    rcases List.mem_cons.1 hf with rfl | hf'
    · exact hk.stay hku
    · exact (h2 f (List.mem_filter.1 hf').1).stay hku
  · rw [DataW.put_eq] at ho'
    have := own_tight ho'
    refine this.mono ?_
    have hperm : (ChangeMaps.putKey (.string s) (.held (.slice a n c)) es).Perm ((⟨s, a, n, c, x⟩ :: l.filter (fun f => !(f.s == s)) : List Fl).map Fl.ent) := by
      refine (WideShapes.insert_perm _ _).trans ?_
      rw [List.map_cons, ← filt_ent]
      exact (hp.filter _).cons _
    rw [hperm.length_eq, List.length_map]
    exact Nat.le_refl _
  · refine (WideShapes.insert_perm _ _).trans ?_
    rw [List.map_cons, ← filt_ent]
    exact (hp.filter _).cons _
/-- Struck. -/
theorem FsIs.strike {w : World} {b : Nat} {fs : Dsk.Files} (h : FsIs w b fs) (s : Dsk.Name) (hs : s.length ≤ 1048576) (ty : TypeId) :
    ∃ w', (Builtin.delete_ #[61, 9] ty #[.map (some b), .string (str s)]).run Tryz.prog w = .ok (.tuple #[]) w' ∧ FsIs w' b (Dsk.del fs s) ∧ w.mapTurned w' b := by
  have hblk := h.blk
  obtain ⟨l, rfl, h2, h3, es, ho, hp⟩ := h
  obtain ⟨w', hrun, ho', ht⟩ := ho.drop keyLaw Tryz.underlying61 (keyName s hs) ty
  have hku : KeepU w w' := KeepU.grown ht.grown (fun k xs fr e hx => by
    obtain ⟨es', cl, hb⟩ := hblk
    simp only [Option.some.injEq] at e
    subst e
    rw [hb] at hx; cases hx)
  refine ⟨w', hrun, ⟨l.filter (fun f => !(f.s == s)), (filt_file s l).symm, fun f hf => (h2 f (List.mem_filter.1 hf).1).stay hku, Dsk.apart_del h3 s, es.filter (fun p => !p.1.sameKey (.string s)), ?_, ?_⟩, ht⟩
  · have hperm : (es.filter (fun p => !p.1.sameKey (.string s))).Perm ((l.filter (fun f => !(f.s == s))).map Fl.ent) := by
      rw [← filt_ent]; exact hp.filter _
    have := own_tight (es := es.filter (fun p => !p.1.sameKey (.string s))) ho'
    refine this.mono ?_
    rw [hperm.length_eq, List.length_map]
    exact Nat.le_refl _
  · rw [← filt_ent]; exact hp.filter _
theorem FsIs.ku {w w' : World} {b : Nat} {fs : Dsk.Files} (h : FsIs w b fs) (ht : w.mapTurned w' b) : KeepU w w' := by
  obtain ⟨es, cl, hb⟩ := h.blk
  exact KeepU.grown ht.grown (fun k xs fr e hx => by
    simp only [Option.some.injEq] at e
    subst e
    rw [hb] at hx; cases hx)

/-! At the operations. -/
section
variable {w : World} {ops : Array Oper} {rest : List Oper} {o : Oper} {a : Act} {Q : Exit → Act → World → Prop} {K : Act → World → Prop} {E : Prop}
theorem wp_fs_put (m x v : Operand) (hop : o.op = Op.mapUpdate 61 m x v) (b : Nat) (fs : Dsk.Files) (hm : a.eval m = .map (some b)) (h : FsIs w b fs) (s : Dsk.Name) (hs : s.length ≤ 1048576) (hx : a.eval x = .string (str s))
    (ad : Option Addr) (n c : Nat) (l : List UInt8) (hv : a.eval v = .slice ad n c) (hk : Keeps w ad n c l) (hl : fs.length ≤ 1048576)
    (hK : ∀ w', FsIs w' b (Dsk.put fs s l) → w.mapTurned w' b → K (a.put o.dst undef) w') : o.wp Tryz.prog a w K Q := by
  obtain ⟨w', hrun, r1, r2⟩ := h.store s hs hk hl
  unfold Oper.wp
  simp [execOp, hop, hm, hx, hv, hrun, Result.andThen]
  exact hK w' r1 r2
theorem wpList_fs_put (hg : o.guard = none) (m x v : Operand) (hop : o.op = Op.mapUpdate 61 m x v) (b : Nat) (fs : Dsk.Files) (hm : a.eval m = .map (some b)) (h : FsIs w b fs) (s : Dsk.Name) (hs : s.length ≤ 1048576) (hx : a.eval x = .string (str s))
    (ad : Option Addr) (n c : Nat) (l : List UInt8) (hv : a.eval v = .slice ad n c) (hk : Keeps w ad n c l) (hl : fs.length ≤ 1048576)
    (hK : ∀ w', FsIs w' b (Dsk.put fs s l) → w.mapTurned w' b → wpList Tryz.prog ops Q rest (a.put o.dst undef) w') : wpList Tryz.prog ops Q (o :: rest) a w := by
  refine wpList_plain hg fun K' hK' => ?_
  exact wp_fs_put m x v hop b fs hm h s hs hx ad n c l hv hk hl (fun w' r1 r2 => hK' _ _ (hK w' r1 r2))
theorem step_fs_put (hgd : o.guard = none) (m x v : Operand) (hop : o.op = Op.mapUpdate 61 m x v) (b : Nat) (fs : Dsk.Files) (hm : a.eval m = .map (some b)) (h : FsIs w b fs) (s : Dsk.Name) (hs : s.length ≤ 1048576) (hx : a.eval x = .string (str s))
    (ad : Option Addr) (n c : Nat) (l : List UInt8) (hv : a.eval v = .slice ad n c) (hk : Keeps w ad n c l) (hl : fs.length ≤ 1048576)
    (hK : ∀ w', FsIs w' b (Dsk.put fs s l) → w.mapTurned w' b → K (a.put o.dst undef) w') : if Region.wanted o (yielded ops a.tmps) = true then Oper.wp Tryz.prog o a w K Q else E := by
  have hw : Region.wanted o (yielded ops a.tmps) = true := by simp [Region.wanted, hgd]
  rw [if_pos hw]
  exact wp_fs_put m x v hop b fs hm h s hs hx ad n c l hv hk hl hK
theorem wpList_fs_del (hg : o.guard = none) (m x : Operand) (hop : o.op = Op.call { callee := Callee.builtin Builtin.delete, args := #[m, x], argTypes := #[61, 9] }) (b : Nat) (fs : Dsk.Files) (hm : a.eval m = .map (some b)) (h : FsIs w b fs)
    (s : Dsk.Name) (hs : s.length ≤ 1048576) (hx : a.eval x = .string (str s))
    (hK : ∀ w', FsIs w' b (Dsk.del fs s) → w.mapTurned w' b → wpList Tryz.prog ops Q rest (a.put o.dst (.tuple #[])) w') : wpList Tryz.prog ops Q (o :: rest) a w := by
  refine wpList_plain hg fun K' hK' => ?_
  obtain ⟨w', hrun, r1, r2⟩ := h.strike s hs o.type
  unfold Oper.wp
  simp [execOp, hop, resolve, invoke, builtin, hm, hx, hrun, Result.andThen]
  exact hK' _ _ (hK w' r1 r2)
end
end Go.Proofs.YthampbiabkfmoaaGreatDoor
