/- A map of files at the operations: read, laid, struck, made anew alike. -/
import Derived.Test.YtdlpehlgmfhheaaDoorDsk
import Derived.Deep.AppendLies
namespace Go.Proofs.YtdlpehlgmfhheaaDoor
open Go.RowKit Go.Tap Go.Maps
set_option linter.unusedVariables false

theorem infoSl : (Tryd.prog.info? 43).map (fun i => (i.zero, i.size, i.bytes)) = some (some (.slice none 0 0), 1, 24) := by kernel_rfl
theorem zeroSl (w : World) : (zeroValue 43).run Tryd.prog w = .ok (.slice none 0 0) w := by
  obtain ⟨i, hi, hz, _, _⟩ := info_parts infoSl
  simp [zeroValue, typeInfo, hi, hz]
theorem keyName (s : Dsk.Name) (h : s.length ≤ 1048576) : keyOf Tryd.prog 9 (.string (str s)) = some (.string s) := by
  have := Go.WideMaps.keyOf_string_mk (P := Tryd.prog) (k := 9) Tryd.underlying9 (s := str s) (by show s.length ≤ maxLen; unfold maxLen; omega)
  exact this
theorem key_inv {key : Value} {kl : Lit} (h : keyOf Tryd.prog 9 key = some kl) : ∃ s : ByteArray, key = .string s ∧ kl = .string s.data.toList := by
  cases key <;> simp [keyOf, Tryd.underlying9, mapKey] at h
  exact ⟨_, rfl, h.2.symm⟩
theorem keyLaw : Keyed Tryd.prog 9 := string_keyed Tryd.underlying9

/-- What stands at a name, in whatever world holds the map's block as it is. -/
theorem FsIs.look {w : World} {b : Nat} {fs : Dsk.Files} (h : FsIs w b fs) (s : Dsk.Name) (hs : s.length ≤ 1048576) :
    ∃ a n c, Keeps w a n c (Dsk.val fs s) ∧ ∀ w' : World, w'.heap[b]? = w.heap[b]? →
      (Instr.lookup 176 (.map (some b)) (.string (str s)) false).run Tryd.prog w' = .ok (.slice a n c) w' ∧
      (Instr.lookup 176 (.map (some b)) (.string (str s)) true).run Tryd.prog w' = .ok (.tuple #[.slice a n c, .bool (Dsk.get fs s).isSome]) w' := by
  obtain ⟨l, rfl, h2, h3, es, ho, hp⟩ := h
  have hmv : ∀ w' : World, w'.heap[b]? = w.heap[b]? → w'.ownsMap Tryd.prog 9 held b l.length (.map es) := fun w' hb => by
    obtain ⟨xs, clock, g1, g2⟩ := ho
    exact ⟨xs, clock, hb.trans g1, g2⟩
  have hrun : ∀ w' : World, w'.heap[b]? = w.heap[b]? → ∃ v, (Instr.lookup 176 (.map (some b)) (.string (str s)) false).run Tryd.prog w' = .ok v w' ∧ .held v = (DataW.map es).atKey (.string s) (.held (.slice none 0 0)) := fun w' hb => by
    obtain ⟨v, ps, h1, h2⟩ := (hmv w' hb).lookup keyLaw Tryd.underlying176 (zeroSl w') (zd := .held (.slice none 0 0)) (zp := []) rfl (keyName s hs)
    have := (held_inv h2).2
    simp only [Prod.mk.injEq] at this
    exact ⟨v, h1, this.1.symm⟩
  have hrun2 : ∀ w' : World, w'.heap[b]? = w.heap[b]? → ∃ v, (Instr.lookup 176 (.map (some b)) (.string (str s)) true).run Tryd.prog w' = .ok (.tuple #[v, .bool (Go.Maps.has (.map es) (.string s))]) w' ∧ .held v = (DataW.map es).atKey (.string s) (.held (.slice none 0 0)) := fun w' hb => by
    obtain ⟨v, ps, h1, h2⟩ := (hmv w' hb).look_ok keyLaw Tryd.underlying176 (zeroSl w') (zd := .held (.slice none 0 0)) (zp := []) rfl (keyName s hs)
    have := (held_inv h2).2
    simp only [Prod.mk.injEq] at this
    exact ⟨v, h1, this.1.symm⟩
  rcases fs_find hp h3 s with ⟨f, hf, hfs, hg, hh, hat⟩ | ⟨hg, hh, hat⟩
  · refine ⟨f.a, f.n, f.c, by rw [Dsk.val, hg]; exact h2 f hf, fun w' hb => ?_⟩
    obtain ⟨v, r1, e1⟩ := hrun w' hb
    obtain ⟨v2, r2, e2⟩ := hrun2 w' hb
    rw [hat] at e1 e2
    simp only [DataW.held.injEq] at e1 e2
    rw [e1] at r1; rw [e2, hh] at r2; rw [hg]
    exact ⟨r1, r2⟩
  · refine ⟨none, 0, 0, by rw [Dsk.val, hg]; exact Keeps.nil w, fun w' hb => ?_⟩
    obtain ⟨v, r1, e1⟩ := hrun w' hb
    obtain ⟨v2, r2, e2⟩ := hrun2 w' hb
    rw [hat] at e1 e2
    simp only [DataW.held.injEq] at e1 e2
    rw [e1] at r1; rw [e2, hh] at r2; rw [hg]
    exact ⟨r1, r2⟩
theorem notKey_str (s : Dsk.Name) (f : Fl) : (!(f.ent).1.sameKey (.string s)) = !(f.s == s) := rfl
theorem filt_ent (s : Dsk.Name) : ∀ l : List Fl, (l.map Fl.ent).filter (fun p => !p.1.sameKey (.string s)) = (l.filter (fun f => !(f.s == s))).map Fl.ent
  | [] => rfl
  | f :: r => by
    rw [List.map_cons, List.filter_cons, List.filter_cons, notKey_str, filt_ent s r]
    split <;> rfl
theorem filt_file (s : Dsk.Name) : ∀ l : List Fl, Dsk.del (l.map Fl.file) s = (l.filter (fun f => !(f.s == s))).map Fl.file
  | [] => rfl
  | f :: r => by
    have ih := filt_file s r
    unfold Dsk.del at ih ⊢
    rw [List.map_cons, List.filter_cons, List.filter_cons, ih]
    show (if (!(f.s == s)) = true then _ else _) = _
    split <;> rfl
/-- Laid under a name. -/
theorem FsIs.store {w : World} {b : Nat} {fs : Dsk.Files} (h : FsIs w b fs) (s : Dsk.Name) (hs : s.length ≤ 1048576) {a : Option Addr} {n c : Nat} {x : List UInt8} (hk : Keeps w a n c x) (hl : fs.length ≤ 1048576) :
    ∃ w', (Instr.mapUpdate 176 (.map (some b)) (.string (str s)) (.slice a n c)).run Tryd.prog w = .ok () w' ∧ FsIs w' b (Dsk.put fs s x) ∧ w.mapTurned w' b := by
  have hblk := h.blk
  obtain ⟨l, rfl, h2, h3, es, ho, hp⟩ := h
  obtain ⟨w', hrun, ho', ht⟩ := ho.store keyLaw Tryd.underlying176 (by simp only [List.length_map] at hl; unfold maxLen; omega) (val := .slice a n c) (d := .held (.slice a n c)) (ps := []) (keyName s hs) rfl
  have hku : KeepU w w' := KeepU.grown ht.grown (fun k xs fr e hx => by
    obtain ⟨es', cl, hb⟩ := hblk
    simp only [Option.some.injEq] at e
    subst e
    rw [hb] at hx; cases hx)
  refine ⟨w', hrun, ⟨⟨s, a, n, c, x⟩ :: l.filter (fun f => !(f.s == s)), ?_, ?_, Dsk.apart_put h3 s x, (ChangeMaps.putKey (.string s) (.held (.slice a n c)) es), ?_, ?_⟩, ht⟩
  · rw [List.map_cons, ← filt_file]; rfl
  · intro f hf
    rcases List.mem_cons.1 hf with rfl | hf'
    · exact hk.stay hku
    · exact (h2 f (List.mem_filter.1 hf').1).stay hku
  · rw [DataW.put_eq] at ho'
    have := own_tight ho'
    refine this.mono ?_
    have hperm : (ChangeMaps.putKey (.string s) (.held (.slice a n c)) es).Perm ((⟨s, a, n, c, x⟩ :: l.filter (fun f => !(f.s == s)) : List Fl).map Fl.ent) := by
      refine (WideShapes.insert_perm _ _).trans ?_
      rw [List.map_cons, ← filt_ent]
      exact (hp.filter _).cons _
    rw [hperm.length_eq, List.length_map]
    exact Nat.le_refl _
  · refine (WideShapes.insert_perm _ _).trans ?_
    rw [List.map_cons, ← filt_ent]
    exact (hp.filter _).cons _
/-- Struck. -/
theorem FsIs.strike {w : World} {b : Nat} {fs : Dsk.Files} (h : FsIs w b fs) (s : Dsk.Name) (hs : s.length ≤ 1048576) (ty : TypeId) :
    ∃ w', (Builtin.delete_ #[176, 9] ty #[.map (some b), .string (str s)]).run Tryd.prog w = .ok (.tuple #[]) w' ∧ FsIs w' b (Dsk.del fs s) ∧ w.mapTurned w' b := by
  have hblk := h.blk
  obtain ⟨l, rfl, h2, h3, es, ho, hp⟩ := h
  obtain ⟨w', hrun, ho', ht⟩ := ho.drop keyLaw Tryd.underlying176 (keyName s hs) ty
  have hku : KeepU w w' := KeepU.grown ht.grown (fun k xs fr e hx => by
    obtain ⟨es', cl, hb⟩ := hblk
    simp only [Option.some.injEq] at e
    subst e
    rw [hb] at hx; cases hx)
  refine ⟨w', hrun, ⟨l.filter (fun f => !(f.s == s)), (filt_file s l).symm, fun f hf => (h2 f (List.mem_filter.1 hf).1).stay hku, Dsk.apart_del h3 s, es.filter (fun p => !p.1.sameKey (.string s)), ?_, ?_⟩, ht⟩
  · have hperm : (es.filter (fun p => !p.1.sameKey (.string s))).Perm ((l.filter (fun f => !(f.s == s))).map Fl.ent) := by
      rw [← filt_ent]; exact hp.filter _
    have := own_tight (es := es.filter (fun p => !p.1.sameKey (.string s))) ho'
    refine this.mono ?_
    rw [hperm.length_eq, List.length_map]
    exact Nat.le_refl _
  · rw [← filt_ent]; exact hp.filter _
theorem FsIs.ku {w w' : World} {b : Nat} {fs : Dsk.Files} (h : FsIs w b fs) (ht : w.mapTurned w' b) : KeepU w w' := by
  obtain ⟨es, cl, hb⟩ := h.blk
  exact KeepU.grown ht.grown (fun k xs fr e hx => by
    simp only [Option.some.injEq] at e
    subst e
    rw [hb] at hx; cases hx)

/-! At the operations. -/
section
variable {w : World} {ops : Array Oper} {rest : List Oper} {o : Oper} {a : Act} {Q : Exit → Act → World → Prop} {K : Act → World → Prop} {E : Prop}
theorem wp_fs_put (m x v : Operand) (hop : o.op = Op.mapUpdate 176 m x v) (b : Nat) (fs : Dsk.Files) (hm : a.eval m = .map (some b)) (h : FsIs w b fs) (s : Dsk.Name) (hs : s.length ≤ 1048576) (hx : a.eval x = .string (str s))
    (ad : Option Addr) (n c : Nat) (l : List UInt8) (hv : a.eval v = .slice ad n c) (hk : Keeps w ad n c l) (hl : fs.length ≤ 1048576)
    (hK : ∀ w', FsIs w' b (Dsk.put fs s l) → w.mapTurned w' b → K (a.put o.dst undef) w') : o.wp Tryd.prog a w K Q := by
  obtain ⟨w', hrun, r1, r2⟩ := h.store s hs hk hl
  unfold Oper.wp
  simp [execOp, hop, hm, hx, hv, hrun, Result.andThen]
  exact hK w' r1 r2
theorem wpList_fs_put (hg : o.guard = none) (m x v : Operand) (hop : o.op = Op.mapUpdate 176 m x v) (b : Nat) (fs : Dsk.Files) (hm : a.eval m = .map (some b)) (h : FsIs w b fs) (s : Dsk.Name) (hs : s.length ≤ 1048576) (hx : a.eval x = .string (str s))
    (ad : Option Addr) (n c : Nat) (l : List UInt8) (hv : a.eval v = .slice ad n c) (hk : Keeps w ad n c l) (hl : fs.length ≤ 1048576)
    (hK : ∀ w', FsIs w' b (Dsk.put fs s l) → w.mapTurned w' b → wpList Tryd.prog ops Q rest (a.put o.dst undef) w') : wpList Tryd.prog ops Q (o :: rest) a w := by
  refine wpList_plain hg fun K' hK' => ?_
  exact wp_fs_put m x v hop b fs hm h s hs hx ad n c l hv hk hl (fun w' r1 r2 => hK' _ _ (hK w' r1 r2))
theorem step_fs_put (hgd : o.guard = none) (m x v : Operand) (hop : o.op = Op.mapUpdate 176 m x v) (b : Nat) (fs : Dsk.Files) (hm : a.eval m = .map (some b)) (h : FsIs w b fs) (s : Dsk.Name) (hs : s.length ≤ 1048576) (hx : a.eval x = .string (str s))
    (ad : Option Addr) (n c : Nat) (l : List UInt8) (hv : a.eval v = .slice ad n c) (hk : Keeps w ad n c l) (hl : fs.length ≤ 1048576)
    (hK : ∀ w', FsIs w' b (Dsk.put fs s l) → w.mapTurned w' b → K (a.put o.dst undef) w') : if Region.wanted o (yielded ops a.tmps) = true then Oper.wp Tryd.prog o a w K Q else E := by
  have hw : Region.wanted o (yielded ops a.tmps) = true := by simp [Region.wanted, hgd]
  rw [if_pos hw]
  exact wp_fs_put m x v hop b fs hm h s hs hx ad n c l hv hk hl hK
theorem wpList_fs_del (hg : o.guard = none) (m x : Operand) (hop : o.op = Op.call { callee := Callee.builtin Builtin.delete, args := #[m, x], argTypes := #[176, 9] }) (b : Nat) (fs : Dsk.Files) (hm : a.eval m = .map (some b)) (h : FsIs w b fs)
    (s : Dsk.Name) (hs : s.length ≤ 1048576) (hx : a.eval x = .string (str s))
    (hK : ∀ w', FsIs w' b (Dsk.del fs s) → w.mapTurned w' b → wpList Tryd.prog ops Q rest (a.put o.dst (.tuple #[])) w') : wpList Tryd.prog ops Q (o :: rest) a w := by
  refine wpList_plain hg fun K' hK' => ?_
  obtain ⟨w', hrun, r1, r2⟩ := h.strike s hs o.type
  unfold Oper.wp
  simp [execOp, hop, resolve, invoke, builtin, hm, hx, hrun, Result.andThen]
  exact hK' _ _ (hK w' r1 r2)
end
end Go.Proofs.YtdlpehlgmfhheaaDoor
