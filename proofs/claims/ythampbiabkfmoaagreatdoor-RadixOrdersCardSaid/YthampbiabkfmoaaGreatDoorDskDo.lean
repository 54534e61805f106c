/- slices.Clone, maps.Clone of a disk's files, their use, a work done: what they do. -/
import Derived.Test.YthampbiabkfmoaaGreatDoorDsk
import Derived.Deep.RegionHeld3
import Derived.Deep.DrawnRows
import Derived.Laws.AppendOwnNone
import Derived.Laws.Cover3
import Derived.Deep.Cut
import Derived.Deep.CutRange
import Derived.Deep.CutBlock
namespace Go.Proofs.YthampbiabkfmoaaGreatDoor
open Go.RowKit Go.Tap Go.Maps
set_option linter.unusedVariables false
attribute [local go_sem ↓] Go.wp_at_zero Go.wp_at_succ

/-- 'append(s, x...)' at a step of a region that draws its order. -/
theorem step_append_rds {w : World} {ops : Array Oper} {o : Oper} {a : Act} {K : Act → World → Prop} {Q : Exit → Act → World → Prop} {E : Prop} {P : Program} (hgd : o.guard = none) (s x : Operand) (t : TypeId)
    (ho : o.op = .call { callee := .builtin .append, args := #[s, x], argTypes := #[t, t] })
    (base : Nat) (e : TypeId) (i : TypeInfo) (ht : P.underlying t = some (.slice e)) (hi : P.info? e = some i) (hz : i.zero = some (.int .u8 0)) (hsize : i.size = 1) (hby : i.bytes = 1)
    (v : Value) (n : Nat) (xs : List UInt8) (hs : a.eval s = v) (hown : w.ownsRow base e 1 v n (bv xs))
    (ao : Option Addr) (m c : Nat) (hx : a.eval x = .slice ao m c) (hnone : ao = none → c = 0) (l : List UInt8) (hr : Rds w ao m l) (hb : n + m ≤ 140737488355328) (hbase : base ≤ w.heap.size)
    (h : ∀ a' c' w', w'.ownsRow base e 1 (.slice a' (n + m) c') (n + m) (bv (xs ++ l)) → w.grownBy w' v.ownBlock → K (a.put o.dst (.slice a' (n + m) c')) w') :
    if Region.wanted o (yielded ops a.tmps) = true then Oper.wp P o a w K Q else E := by
  have hw : Region.wanted o (yielded ops a.tmps) = true := by simp [Region.wanted, hgd]
  rw [if_pos hw]
  have hl := hr.1
  have fin : ∀ v' w', w'.ownsRow base e 1 v' (n + m) (bv (xs ++ l)) → w.grownBy w' v.ownBlock → K (a.put o.dst v') w' := fun v' w' h1 h2 => by
    rcases h1.2 with ⟨e1, e2⟩ | ⟨g, cap, cur, e1, _⟩
    · subst e1
      have e3 : n + m = 0 := e2
      have := h none 0 w' (by rw [e3]; rw [e3] at h1; exact h1) h2
      rwa [e3] at this
    · subst e1; exact h _ _ w' h1 h2
  cases ao with
  | none =>
    obtain rfl := hnone rfl
    have hm : m = 0 := by
      rcases Nat.eq_zero_or_pos m with h0 | h0
      · exact h0
      · obtain ⟨_, _, e, _⟩ := hr.2 h0; cases e
    subst hm
    have : l = [] := List.eq_nil_of_length_eq_zero hl
    subst this
    have hrun := run_append_owned_none (P := P) (w := w) base t o.type e i 1 ht hi v n (bv xs) hown
    unfold Oper.wp
    simp [execOp, ho, resolve, invoke, builtin, hs, hx, hrun, Result.andThen]
    exact fin v w (by simpa using hown) (World.grownBy.refl _ _)
  | some ad =>
    obtain ⟨v', w', hrun, h1, h2, _⟩ := run_append_own (P := P) w base t o.type e i (.int .u8 0) 1 1 ht hi hz hsize hby rfl (by decide) v n (bv xs) hown ad m c (bv l) (by rw [bv_length, hl, Nat.mul_one]) (by
      intro j u hu
      rw [bv_getElem?] at hu
      obtain ⟨y, hy, rfl⟩ := Option.map_eq_some_iff.1 hu
      have hj : j < l.length := (List.getElem?_eq_some_iff.1 hy).1
      obtain ⟨b, o', e1, hc⟩ := hr.2 (by omega)
      simp at e1; subst e1
      rw [Addr.add_lit]; exact hc j y hy) (bv_one l) (by unfold maxLen; omega) (by omega) hbase
    unfold Oper.wp execOp
    simp only [ho, resolve, invoke, builtin, Sem.run_bind, Sem.run_pure, Result.andThen_ok, List.map_toArray, List.map_cons, List.map_nil, hs, hx, hrun]
    exact fin v' w' (by rw [← bv_append]; exact h1) h2

theorem wrapi' (x : Int) (h : -9223372036854775808 ≤ x ∧ x ≤ 9223372036854775807) : IntKind.i64.wrap x = x := by simp [IntKind.wrap, IntKind.bits, IntKind.signed]; omega
theorem eql_nil (w : World) (a : Option Addr) (n c : Nat) : (binOp .eql 66 (.slice a n c) (.slice none 0 0)).run Tryz.prog w = .ok (.bool a.isNone) w := by
  simp only [binOp]
  simp [run_equal_slice_nil w 66 5 a n c Tryz.underlying66]
set_option maxRecDepth 100000 in
theorem clone_any (w : World) (a : Option Addr) (n c : Nat) (l : List UInt8) (hr : Rds w a n l) (hz : a = none → c = 0) (hn : n ≤ 140737488355328) :
    Calls Tryz.prog 35 #[.slice a n c] w fun e w' => ∃ a' c', e = .returned (.slice a' n c') ∧ w'.ownsRow w.heap.size 5 1 (.slice a' n c') n (bv l) ∧ Below w.heap.size w w' := by
  obtain ⟨i0, hi, hz0, hz1, hz2'⟩ := info_parts Tryz.infoB
  cases a with
  | none =>
    obtain rfl := hz rfl
    have hn0 : n = 0 := by
      rcases Nat.eq_zero_or_pos n with h0 | h0
      · exact h0
      · obtain ⟨_, _, e, _⟩ := hr.2 h0; cases e
    subst hn0
    have : l = [] := List.eq_nil_of_length_eq_zero hr.1
    subst this
    have hq := fun w => eql_nil w none 0 0
    go_enter Tryz.func35, Tryz.ntmps35
    go_wp2
    go_ret
    exact ⟨none, 0, rfl, World.ownsRow_nil _ _ _ _, Below.refl _ _⟩
  | some ad =>
    have hq := fun w => eql_nil w (some ad) n c
    go_enter Tryz.func35, Tryz.ntmps35
    go_wp2_with (at_builtin; refine wpList_append_rds _ rfl (.tmp 5) (.tmp 6) 66 rfl w.heap.size 5 i0 Tryz.underlying66 hi hz0 hz1 hz2' _ 0 [] rfl (own_empty _ _) _ _ _ rfl (by intro h; cases h) l (hr.alloc _) (by omega) (by simp) ?_)
    intro v1 w1 hown hg
    have b1 : Below w.heap.size w w1 := ((Below.refl _ _).alloc (Nat.le_refl _) _).grown hg (by simp) (by intro j hj; simp [Value.ownBlock] at hj; omega)
    go_wp2
    go_ret
    rcases hown.2 with ⟨e1, e2⟩ | ⟨g, cap, cur, e1, _⟩
    · subst e1 e2; exact ⟨none, 0, rfl, hown, b1⟩
    · subst e1; exact ⟨_, _, rfl, hown, b1⟩

/-! How many bytes. -/
/-- What those files hold that are no longer to come. -/
def gone (l : List Fl) (left : Lit → Bool) : Nat := ((l.filter (fun f => !left (.string f.s))).map (fun f => f.b.length)).sum
theorem gone_all (l : List Fl) (left : Lit → Bool) (h : ∀ kl, left kl = false) : gone l left = Dsk.used (l.map Fl.file) := by
  have : l.filter (fun f => !left (.string f.s)) = l := List.filter_eq_self.2 fun f _ => by simp [h]
  rw [gone, this, Dsk.used, List.map_map]
  rfl
theorem gone_none : ∀ (l : List Fl) (left : Lit → Bool), (∀ f ∈ l, left (.string f.s) = true) → gone l left = 0
  | [], _, _ => rfl
  | f :: r, left, h => by
    have h1 := gone_none r left (fun g hg => h g (List.mem_cons_of_mem _ hg))
    have h2 := h f (List.mem_cons_self ..)
    simp only [gone, List.filter_cons, h2] at h1 ⊢
    simpa using h1
theorem gone_le (l : List Fl) (left : Lit → Bool) : gone l left ≤ Dsk.used (l.map Fl.file) := by
  induction l with
  | nil => exact Nat.le_refl _
  | cons f r ih =>
    simp only [gone, Dsk.used, List.map_cons, List.sum_cons, List.filter_cons] at ih ⊢
    split
    · simp only [List.map_cons, List.sum_cons]; show f.b.length + _ ≤ f.b.length + _; omega
    · show _ ≤ f.b.length + _; omega
theorem gone_same (l : List Fl) (left left' : Lit → Bool) (h : ∀ f ∈ l, left' (.string f.s) = left (.string f.s)) : gone l left' = gone l left := by
  have : l.filter (fun f => !left' (.string f.s)) = l.filter (fun f => !left (.string f.s)) := List.filter_congr fun f hf => by rw [h f hf]
  rw [gone, this, gone]
theorem gone_step : ∀ (l : List Fl) (left : Lit → Bool) (f : Fl), l.Pairwise (fun p q => p.s ≠ q.s) → f ∈ l → left (.string f.s) = true → gone l (fun z => left z && !z.sameKey (.string f.s)) = gone l left + f.b.length
  | [], _, _, _, hf, _ => by simp at hf
  | g :: r, left, f, hp, hf, hl => by
    obtain ⟨h1, h2⟩ := List.pairwise_cons.1 hp
    rcases List.mem_cons.1 hf with rfl | hf'
    · have e1 : (left (.string f.s) && !(Lit.string f.s).sameKey (.string f.s)) = false := by rw [sameKey_str]; simp
      have e2 := gone_same r left (fun z => left z && !z.sameKey (.string f.s)) (fun q hq => by
        have hne : (q.s == f.s) = false := by have := h1 q hq; simpa using fun e => this e.symm
        show (left (.string q.s) && !(Lit.string q.s).sameKey (.string f.s)) = _
        rw [sameKey_str, hne]; simp)
      unfold gone at e2 ⊢
      rw [List.filter_cons_of_pos (by show (!(left (.string f.s) && !(Lit.string f.s).sameKey (.string f.s))) = true; rw [e1]; rfl), List.filter_cons_of_neg (by rw [hl]; simp), List.map_cons, List.sum_cons, e2]
      omega
    · have hne : (g.s == f.s) = false := by have := h1 f hf'; simpa using this
      have e1 : (left (.string g.s) && !(Lit.string g.s).sameKey (.string f.s)) = left (.string g.s) := by rw [sameKey_str, hne]; simp
      have ih := gone_step r left f h2 hf' hl
      unfold gone at ih ⊢
      rw [List.filter_cons, List.filter_cons]
      show (List.map _ (if (!(left (.string g.s) && !(Lit.string g.s).sameKey (.string f.s))) = true then _ else _)).sum = _
      rw [e1]
      split
      · rw [List.map_cons, List.sum_cons, List.map_cons, List.sum_cons, ih]; omega
      · exact ih
set_option maxHeartbeats 1000000 in
set_option maxRecDepth 100000 in
theorem used_any (w : World) (b : Nat) (fs : Dsk.Files) (h : FsIs w b fs) (hu : Dsk.used fs ≤ 1099511627776) :
    Calls Tryz.prog 83 #[.map (some b)] w fun e w' => e = .returned (.int .i64 (Dsk.used fs : Nat)) ∧ Below w.heap.size w w' := by
  obtain ⟨l, rfl, h2, h3, es, ho, hp⟩ := h
  have hpw : l.Pairwise (fun p q => p.s ≠ q.s) := by
    have h0 : (l.map Fl.file).Pairwise (fun p q => p.1 ≠ q.1) := h3
    rw [List.pairwise_map] at h0; exact h0
  have hlt := ho.lt
  have H2 := Lib.hid h2
  have HU := Lib.hid hu
  clear h2 hu
  go_enter Tryz.func83, Tryz.ntmps83
  go_wp2_with (first | (at_range; refine wpList_range_own _ rfl _ 61 rfl 9 66 keyLaw Tryz.underlying61 _ b _ _ rfl ho ?_; intro w0 hrg0 hg0 hs0) | go_in)
  go_frame
  have hB0 : Below w.heap.size w w0 := (Below.refl _ w).grown hg0 (Nat.le_refl _) (by intro j hj; cases hj)
  have hstart : gone l (Go.Maps.has (.map es)) = 0 := gone_none l _ (fun f hf => by
    rcases fs_find hp h3 f.s with ⟨f', _, _, _, hh, _⟩ | ⟨hg, hh, _⟩
    · exact hh
    · exfalso
      have : Dsk.get (l.map Fl.file) f.s ≠ none := by
        rw [Dsk.get]
        intro e
        rw [Option.map_eq_none_iff, List.find?_eq_none] at e
        exact e f.file (List.mem_map_of_mem hf) (by simp [Fl.file])
      exact this hg)
  go_loopw [3] (fun v wr => ∃ left cnt, wr.ranges Tryz.prog 9 held b w.heap.size l.length (.map es) left cnt ∧ v = .int .i64 (gone l left : Nat) ∧ Below w.heap.size w wr) (fun _ wr => wr.rangeLeft b w.heap.size)
  case atStart => exact ⟨_, _, hrg0, by rw [hstart]; rfl, hB0⟩
  case round =>
    obtain ⟨left, cnt, hrg, rfl, hB⟩ := hrel
    go_wp2_with (first | (at_next; refine wpList_next_ranges _ rfl _ rfl 9 keyLaw held Value.string (fun x : Option Addr × Nat × Nat => Value.slice x.1 x.2.1 x.2.2) (fun key kl hk => by obtain ⟨s, rfl, _⟩ := key_inv hk; exact ⟨s, rfl⟩) (fun v y hv => (held_inv hv).1) b w.heap.size l.length _ _ _ rfl hrg ?_ ?_) | go_in)
    · intro hc0 hl0
      have hg := gone_all l left hl0
      go_wp2
      go_ret
      rw [hg]
      exact ⟨rfl, hB⟩
    · intro x ca cn cc kl y1 y2 w1 cnt1 hkx hlx hvx hat hrg1 hlt hg1 hs1 hen
      obtain ⟨s, e1, e2⟩ := key_inv hkx
      have e1' := Value.string.inj e1
      subst e1'
      obtain ⟨f, hf, hfs, hfv⟩ : ∃ f ∈ l, .string f.s = kl ∧ cn = f.b.length := by
        rcases fs_find hp h3 x.data.toList with ⟨f, hf, hfs, _, _, hz⟩ | ⟨_, _, hz⟩
        · refine ⟨f, hf, by rw [hfs, e2], ?_⟩
          have h1 := hz .nil
          rw [← e2, hat] at h1
          have h2 := (held_inv hvx).2
          simp only [Prod.mk.injEq] at h2
          rw [h2.1] at h1
          simp only [DataW.held.injEq, Value.slice.injEq] at h1
          rw [h1.2.1, (H2.out f hf).rds.1]
        · exfalso
          have h1 := hz .nil
          have h2 := hz (.ptr .nil)
          rw [← e2, hat] at h1 h2
          rw [h1] at h2
          cases h2
      have hgs := gone_step l left f hpw hf (by rw [hfs]; exact hlx)
      rw [hfs] at hgs
      have hle := gone_le l (fun z => left z && !z.sameKey kl)
      have hle2 := HU.out
      subst hfv
      have hw : IntKind.i64.wrap ((gone l left : Nat) + (f.b.length : Nat) : Int) = (gone l (fun z => left z && !z.sameKey kl) : Nat) := by rw [hgs]; push_cast; exact wrapi' _ (by omega)
      clear hgs hle hle2
      go_wp2
      go_roundw
      case rel => exact ⟨_, cnt1, hrg1, by rw [e2], hB.grown hg1 hB.size (by intro j hj; cases hj; exact Nat.le_refl _)⟩
      case measure => rw [hrg1.left_eq, hrg.left_eq]; exact hlt
end Go.Proofs.YthampbiabkfmoaaGreatDoor
/- A work done on a disk's files. -/
namespace Go.Proofs.YthampbiabkfmoaaGreatDoor
open Go.RowKit Go.Tap Go.Maps
set_option linter.unusedVariables false
attribute [local go_sem ↓] Go.wp_at_zero Go.wp_at_succ

namespace Dsk
/-- A work that pends. -/
structure Wk where
  kind : Nat
  name : Name
  dst : Name
  b : List UInt8
  n : Nat
def do1 (fs : Files) (x : Wk) : Option Files :=
  match x.kind with
  | 0 => some (put fs x.name (val fs x.name ++ x.b))
  | 1 => if x.n ≤ (val fs x.name).length then some (put fs x.name ((val fs x.name).take x.n)) else none
  | 2 => some (put (del fs x.name) x.dst (val fs x.name))
  | _ => some (del fs x.name)
end Dsk
theorem doS {w' : World} {T : Nat} {v0 v1 v2 v3 v4 : Value} (h1 : w'.heap[T]? = some (.cells #[v0, v1, v2, v3, v4] 110 (0, 0))) :
    w'.cell? ⟨T, 1, none⟩ = some v1 ∧ w'.cell? ⟨T, 3, none⟩ = some v3 ∧ w'.cell? ⟨T, 4, none⟩ = some v4 :=
  ⟨blk_cell (i := 1) h1 rfl, blk_cell (i := 3) h1 rfl, blk_cell (i := 4) h1 rfl⟩
set_option maxHeartbeats 4000000 in
set_option maxRecDepth 100000 in
theorem do_add (w : World) (b : Nat) (fs : Dsk.Files) (h : FsIs w b fs) (s dst : Dsk.Name) (hs : s.length ≤ 1048576) (ad : Option Addr) (n c : Nat) (x : List UInt8) (hk : Keeps w ad n c x) (m : Int)
    (hl : fs.length ≤ 1048575) (hz : (Dsk.val fs s).length + x.length ≤ 1099511627776) :
    Calls Tryz.prog 58 #[.map (some b), .agg #[.int .i64 0, .string (str s), .string (str dst), .slice ad n c, .int .i64 m]] w fun e w' =>
      e = .returned (.tuple #[]) ∧ FsIs w' b (Dsk.put fs s (Dsk.val fs s ++ x)) ∧ TStay (fun k => k = b) w w' := by
  obtain ⟨i0, hi, hz0, hz1, hz2'⟩ := info_parts Tryz.infoB
  obtain ⟨a0, n0, c0, k0, hlook⟩ := h.look s hs
  have hb := h.lt
  have hn0 : n0 + n ≤ 1099511627776 := by have := k0.len; have := hk.len; omega
  have HL := Lib.hid hlook
  have H := Lib.hid h
  have HK := Lib.hid hk
  have K0 := Lib.hid k0
  have HZ := Lib.hid hz
  clear hlook h hk k0 hz
  obtain ⟨W1, hW1⟩ : ∃ W1, W1 = w.alloc (.cells #[.int .i64 0, .string (str s), .string (str dst), .slice ad n c, .int .i64 m] 110) := ⟨_, rfl⟩
  have hT1 : W1.heap[w.heap.size]? = some (.cells #[.int .i64 0, .string (str s), .string (str dst), .slice ad n c, .int .i64 m] 110 (0, 0)) := by rw [hW1]; exact heap_alloc_new _ _
  have hb1 : W1.heap[b]? = w.heap[b]? := by rw [hW1]; exact (MapKept.heap_alloc w _).2 b hb
  have hs1 : W1.heap.size = w.heap.size + 1 := by rw [hW1]; simp
  have hu1 : KeepU w W1 := by rw [hW1]; exact KeepU.alloc w _
  have ht1 : TStay (fun k => k = b) w W1 := by rw [hW1]; exact (TStay.refl _ w).alloc _ _
  have hlk := (HL.out W1.drew hb1).1
  have hbOut : ∀ w2 w3 : World, Below W1.drew.heap.size W1.drew w2 → ∀ a' c', w2.ownsRow W1.drew.heap.size 5 1 (.slice a' n0 c') n0 (bv (Dsk.val fs s)) → w2.grownBy w3 (Value.slice a' n0 c').ownBlock → w3.heap[b]? = w.heap[b]? := fun w2 w3 hb2 a' c' ho hg => by
    have h3 : W1.drew.heap.size = w.heap.size + 1 := hs1
    have h4 := hb2.size
    exact (hg.block b (by omega) (fun e => by have h1 := (ho.lt _ e.symm).1; omega)).trans ((hb2.block b (by omega)).trans hb1)
  have hkOut : ∀ w2 w3 : World, Below W1.drew.heap.size W1.drew w2 → ∀ a' c', w2.ownsRow W1.drew.heap.size 5 1 (.slice a' n0 c') n0 (bv (Dsk.val fs s)) → w2.grownBy w3 (Value.slice a' n0 c').ownBlock → KeepU w w3 := fun w2 w3 hb2 a' c' ho hg k xs fr hk => by
    have h0 := blk_lt hk
    have h3 : W1.drew.heap.size = w.heap.size + 1 := hs1
    have h4 := hb2.size
    exact (hg.block k (by omega) (fun e => by have h1 := (ho.lt _ e.symm).1; omega)).trans ((hb2.block k (by omega)).trans (hu1 k xs fr hk))
  have hfsIn : ∀ w3 : World, w3.heap[b]? = w.heap[b]? → KeepU w w3 → FsIs w3 b fs := fun w3 h1 h2 => H.out.stay h1 h2
  have hlen3 : (Dsk.val fs s ++ x).length = n0 + n := by rw [List.length_append, K0.out.len, HK.out.len]
  have HT1 := Lib.hid hT1
  have hB1 := Lib.hid hb1
  have HS1 := Lib.hid hs1
  clear hT1 hb1 hs1
  go_enter Tryz.func58, Tryz.ntmps58
  go_wp2_with fail
  rw [← hW1]
  clear hW1
  go_region_held3 (fun w' => w'.cell? ⟨w.heap.size, 1, none⟩ = some (.string (str s)) ∧ w'.cell? ⟨w.heap.size, 3, none⟩ = some (.slice ad n c) ∧ w'.cell? ⟨w.heap.size, 4, none⟩ = some (.int .i64 m))
    (first | exact doS HT4.out | exact doS HT3.out | exact doS HT2.out | exact doS HT1.out)
    (first
      | (go_at_call 35; refine (clone_any _ a0 n0 c0 _ (K0.out.stay hu1).rds.drew K0.out.none (by omega)).mono ?_; rintro e w2 ⟨a', c', rfl, hown2, hb2⟩; have HT2 := Lib.hid ((hb2.block w.heap.size (by show _ < W1.heap.size; rw [HS1.out]; omega)).trans HT1.out))
      | (refine step_append_rds (by rfl) (.tmp 16) (.tmp 18) 66 (by rfl) W1.drew.heap.size 5 i0 Tryz.underlying66 hi hz0 hz1 hz2' _ n0 (Dsk.val fs s) (by rfl) hown2 ad n c (by rfl) HK.out.none x (((HK.out.stay hu1).stay (KeepU.drew _)).stay (KeepU.below hb2 (Nat.le_refl _))).rds (by omega) hb2.size ?_; intro a3 c3 w3 hown3 hg3; have hb3 := hbOut w2 w3 hb2 a' c' hown2 hg3; have hku3 := hkOut w2 w3 hb2 a' c' hown2 hg3; have HT3 := Lib.hid ((hg3.block w.heap.size (by have := blk_lt HT2.out; omega) (fun e => by have h1 := (hown2.lt _ e.symm).1; have h2 := HS1.out; have h3 : W1.drew.heap.size = W1.heap.size := rfl; omega)).trans HT2.out); obtain ⟨w4, hrun4, hfs4, ht4⟩ := (hfsIn w3 hb3 hku3).store s hs (Keeps.of_own (by rw [hlen3]; exact hown3) hlen3) (by omega); have HT4 := Lib.hid ((ht4.grown.block w.heap.size (by have := blk_lt HT3.out; omega) (fun e => by simp at e; omega)).trans HT3.out)))
  go_end0
  refine ⟨rfl, hfs4, ?_⟩
  have t2 : TStay (fun k => k = b) w w2 := (ht1.drew _).trans (TStay.of_below hb2 (fun k => k = b)) (fun _ _ h => h)
  have t3 : TStay (fun k => k = b) w w3 := t2.grown hg3 (fun k hk => .inr (by have h1 := (hown2.lt _ hk).1; have h2 := HS1.out; have h3 : W1.drew.heap.size = W1.heap.size := rfl; omega))
  exact t3.grown ht4.grown (fun k hk => .inl (by simp at hk; exact hk.symm))

set_option maxHeartbeats 4000000 in
set_option maxRecDepth 100000 in
theorem do_cut (w : World) (b : Nat) (fs : Dsk.Files) (h : FsIs w b fs) (s dst : Dsk.Name) (hs : s.length ≤ 1048576) (bv' : Value) (m : Nat) (hm : m ≤ (Dsk.val fs s).length)
    (hl : fs.length ≤ 1048575) (hz : (Dsk.val fs s).length ≤ 1099511627776) :
    Calls Tryz.prog 58 #[.map (some b), .agg #[.int .i64 1, .string (str s), .string (str dst), bv', .int .i64 (m : Int)]] w fun e w' =>
      e = .returned (.tuple #[]) ∧ FsIs w' b (Dsk.put fs s ((Dsk.val fs s).take m)) ∧ TStay (fun k => k = b) w w' := by
  obtain ⟨a0, n0, c0, k0, hlook⟩ := h.look s hs
  have hb := h.lt
  have hn0 : n0 ≤ 1099511627776 := by have := k0.len; omega
  have hmn : m ≤ n0 := by have := k0.len; omega
  have hnc := k0.le
  have hm0 : (0 : Int) ≤ (m : Int) := by omega
  have hm1 : (m : Int) ≤ (c0 : Int) := by omega
  have hm2 : m ≤ c0 := by omega
  have HL := Lib.hid hlook
  have H := Lib.hid h
  have K0 := Lib.hid k0
  clear hlook h k0 hz hm
  obtain ⟨W1, hW1⟩ : ∃ W1, W1 = w.alloc (.cells #[.int .i64 1, .string (str s), .string (str dst), bv', .int .i64 (m : Int)] 110) := ⟨_, rfl⟩
  have hT1 : W1.heap[w.heap.size]? = some (.cells #[.int .i64 1, .string (str s), .string (str dst), bv', .int .i64 (m : Int)] 110 (0, 0)) := by rw [hW1]; exact heap_alloc_new _ _
  have hb1 : W1.heap[b]? = w.heap[b]? := by rw [hW1]; exact (MapKept.heap_alloc w _).2 b hb
  have hs1 : W1.heap.size = w.heap.size + 1 := by rw [hW1]; simp
  have hu1 : KeepU w W1 := by rw [hW1]; exact KeepU.alloc w _
  have ht1 : TStay (fun k => k = b) w W1 := by rw [hW1]; exact (TStay.refl _ w).alloc _ _
  have hlk := (HL.out W1.drew hb1).1
  have hbOut : ∀ w2 : World, Below W1.drew.heap.size W1.drew w2 → w2.heap[b]? = w.heap[b]? ∧ KeepU w w2 := fun w2 hb2 => by
    have h3 : W1.drew.heap.size = w.heap.size + 1 := hs1
    exact ⟨(hb2.block b (by omega)).trans hb1, fun k xs fr hk => (hb2.block k (by have := blk_lt hk; omega)).trans (hu1 k xs fr hk)⟩
  have hfsIn : ∀ w3 : World, w3.heap[b]? = w.heap[b]? ∧ KeepU w w3 → FsIs w3 b fs := fun w3 h1 => H.out.stay h1.1 h1.2
  have hlen3 : ((Dsk.val fs s).take m).length = m := by rw [List.length_take, K0.out.len]; omega
  have HT1 := Lib.hid hT1
  have hrd : Rds W1.drew a0 m ((Dsk.val fs s).take m) := ((K0.out.stay hu1).rds.take hmn).drew
  have hnn := K0.out.none
  clear hT1 hb1 hs1
  have key : a0 = none → m = 0 ∧ n0 = 0 ∧ c0 = 0 := fun e => by have := hnn e; omega
  cases a0 with
  | none =>
    obtain ⟨rfl, rfl, rfl⟩ := key rfl
    rw [show ((0 : Nat) : Int) = 0 from rfl] at hW1 HT1
    go_enter Tryz.func58, Tryz.ntmps58
    go_wp2_with fail
    rw [← hW1]
    clear hW1
    go_region_held3 (fun w' => w'.cell? ⟨w.heap.size, 1, none⟩ = some (.string (str s)) ∧ w'.cell? ⟨w.heap.size, 3, none⟩ = some bv' ∧ w'.cell? ⟨w.heap.size, 4, none⟩ = some (.int .i64 0))
      (first | exact doS HT3.out | exact doS HT2.out | exact doS HT1.out)
      ((go_at_call 35; refine (clone_any _ none 0 0 _ hrd (fun _ => rfl) (by omega)).mono ?_; rintro e w2 ⟨a', c', rfl, hown2, hb2⟩; have HT2 := Lib.hid ((hb2.block w.heap.size (blk_lt HT1.out)).trans HT1.out); obtain ⟨w4, hrun4, hfs4, ht4⟩ := (hfsIn w2 (hbOut w2 hb2)).store s hs (Keeps.of_own (by rw [hlen3]; exact hown2) hlen3) (by omega); have HT3 := Lib.hid ((ht4.grown.block w.heap.size (by have := blk_lt HT2.out; omega) (fun e => by simp at e; omega)).trans HT2.out)))
    go_end0
    refine ⟨rfl, hfs4, ?_⟩
    have t2 : TStay (fun k => k = b) w w2 := (ht1.drew _).trans (TStay.of_below hb2 (fun k => k = b)) (fun _ _ h => h)
    exact t2.grown ht4.grown (fun k hk => .inl (by simp at hk; exact hk.symm))
  | some a0 =>
    clear key
    go_enter Tryz.func58, Tryz.ntmps58
    go_wp2_with fail
    rw [← hW1]
    clear hW1
    go_region_held3 (fun w' => w'.cell? ⟨w.heap.size, 1, none⟩ = some (.string (str s)) ∧ w'.cell? ⟨w.heap.size, 3, none⟩ = some bv' ∧ w'.cell? ⟨w.heap.size, 4, none⟩ = some (.int .i64 (m : Int)))
      (first | exact doS HT3.out | exact doS HT2.out | exact doS HT1.out)
      ((go_at_call 35; refine (clone_any _ (some a0) m c0 _ hrd hnn (by omega)).mono ?_; rintro e w2 ⟨a', c', rfl, hown2, hb2⟩; have HT2 := Lib.hid ((hb2.block w.heap.size (blk_lt HT1.out)).trans HT1.out); obtain ⟨w4, hrun4, hfs4, ht4⟩ := (hfsIn w2 (hbOut w2 hb2)).store s hs (Keeps.of_own (by rw [hlen3]; exact hown2) hlen3) (by omega); have HT3 := Lib.hid ((ht4.grown.block w.heap.size (by have := blk_lt HT2.out; omega) (fun e => by simp at e; omega)).trans HT2.out)))
    go_end0
    refine ⟨rfl, hfs4, ?_⟩
    have t2 : TStay (fun k => k = b) w w2 := (ht1.drew _).trans (TStay.of_below hb2 (fun k => k = b)) (fun _ _ h => h)
    exact t2.grown ht4.grown (fun k hk => .inl (by simp at hk; exact hk.symm))

set_option maxHeartbeats 4000000 in
set_option maxRecDepth 100000 in
theorem do_ren (w : World) (b : Nat) (fs : Dsk.Files) (h : FsIs w b fs) (s dst : Dsk.Name) (hs : s.length ≤ 1048576) (ht : dst.length ≤ 1048576) (bv' : Value) (m : Int) (hl : fs.length ≤ 1048575) :
    Calls Tryz.prog 58 #[.map (some b), .agg #[.int .i64 2, .string (str s), .string (str dst), bv', .int .i64 m]] w fun e w' =>
      e = .returned (.tuple #[]) ∧ FsIs w' b (Dsk.put (Dsk.del fs s) dst (Dsk.val fs s)) ∧ TStay (fun k => k = b) w w' := by
  obtain ⟨a0, n0, c0, k0, hlook⟩ := h.look s hs
  have hb := h.lt
  obtain ⟨W1, hW1⟩ : ∃ W1, W1 = w.alloc (.cells #[.int .i64 2, .string (str s), .string (str dst), bv', .int .i64 m] 110) := ⟨_, rfl⟩
  have hT1 : W1.heap[w.heap.size]? = some (.cells #[.int .i64 2, .string (str s), .string (str dst), bv', .int .i64 m] 110 (0, 0)) := by rw [hW1]; exact heap_alloc_new _ _
  have hb1 : W1.heap[b]? = w.heap[b]? := by rw [hW1]; exact (MapKept.heap_alloc w _).2 b hb
  have hu1 : KeepU w W1 := by rw [hW1]; exact KeepU.alloc w _
  have ht1 : TStay (fun k => k = b) w W1 := by rw [hW1]; exact (TStay.refl _ w).alloc _ _
  have hlk := (hlook W1 hb1).1
  have h1 : FsIs W1 b fs := h.stay hb1 hu1
  have k1 := k0.stay hu1
  have hlt := blk_lt hT1
  have H1 := Lib.hid h1
  have HT1 := Lib.hid hT1
  have K1 := Lib.hid k1
  have hl2 : (Dsk.del fs s).length ≤ 1048576 := by have := Dsk.len_del fs s; omega
  have c1 : W1.cell? ⟨w.heap.size, 1, none⟩ = some (.string (str s)) := blk_cell (i := 1) hT1 rfl
  clear hlook h k0 hT1 hb1 hu1 h1 k1
  go_enter Tryz.func58, Tryz.ntmps58
  go_upto_region 7 with (fail)
  rw [← hW1]
  clear hW1
  go_wp2_with (first
    | (at_delete; refine wpList_fs_del rfl (.tmp 39) (.tmp 41) rfl b fs rfl H1.out s hs rfl ?_; intro w2 hfs2 hm2; have hT2 := (hm2.grown.block w.heap.size hlt (fun e => by simp at e; omega)).trans HT1.out; have c2 : w2.cell? ⟨w.heap.size, 2, none⟩ = some (.string (str dst)) := blk_cell (i := 2) hT2 rfl; have k2 := K1.out.stay (H1.out.ku hm2))
    | (at_mapUpdate; refine wpList_fs_put rfl (.tmp 42) (.tmp 44) (.tmp 45) rfl b (Dsk.del fs s) rfl hfs2 dst ht rfl a0 n0 c0 _ rfl k2 hl2 ?_; intro w3 hfs3 hm3))
  go_end0
  exact ⟨rfl, hfs3, (ht1.grown hm2.grown (fun k hk => .inl (by simp at hk; exact hk.symm))).grown hm3.grown (fun k hk => .inl (by simp at hk; exact hk.symm))⟩

set_option maxHeartbeats 4000000 in
set_option maxRecDepth 100000 in
theorem do_rem (w : World) (b : Nat) (fs : Dsk.Files) (h : FsIs w b fs) (s dst : Dsk.Name) (hs : s.length ≤ 1048576) (bv' : Value) (m : Int) :
    Calls Tryz.prog 58 #[.map (some b), .agg #[.int .i64 3, .string (str s), .string (str dst), bv', .int .i64 m]] w fun e w' =>
      e = .returned (.tuple #[]) ∧ FsIs w' b (Dsk.del fs s) ∧ TStay (fun k => k = b) w w' := by
  have hb := h.lt
  obtain ⟨W1, hW1⟩ : ∃ W1, W1 = w.alloc (.cells #[.int .i64 3, .string (str s), .string (str dst), bv', .int .i64 m] 110) := ⟨_, rfl⟩
  have hT1 : W1.heap[w.heap.size]? = some (.cells #[.int .i64 3, .string (str s), .string (str dst), bv', .int .i64 m] 110 (0, 0)) := by rw [hW1]; exact heap_alloc_new _ _
  have hb1 : W1.heap[b]? = w.heap[b]? := by rw [hW1]; exact (MapKept.heap_alloc w _).2 b hb
  have hu1 : KeepU w W1 := by rw [hW1]; exact KeepU.alloc w _
  have ht1 : TStay (fun k => k = b) w W1 := by rw [hW1]; exact (TStay.refl _ w).alloc _ _
  have h1 : FsIs W1 b fs := h.stay hb1 hu1
  have H1 := Lib.hid h1
  have c1 : W1.cell? ⟨w.heap.size, 1, none⟩ = some (.string (str s)) := blk_cell (i := 1) hT1 rfl
  clear h hT1 hb1 hu1 h1
  go_enter Tryz.func58, Tryz.ntmps58
  go_upto_region 11 with (fail)
  rw [← hW1]
  clear hW1
  go_wp2_with (at_delete; refine wpList_fs_del rfl (.tmp 48) (.tmp 50) rfl b fs rfl H1.out s hs rfl ?_; intro w2 hfs2 hm2)
  go_end0
  exact ⟨rfl, hfs2, ht1.grown hm2.grown (fun k hk => .inl (by simp at hk; exact hk.symm))⟩
end Go.Proofs.YthampbiabkfmoaaGreatDoor
