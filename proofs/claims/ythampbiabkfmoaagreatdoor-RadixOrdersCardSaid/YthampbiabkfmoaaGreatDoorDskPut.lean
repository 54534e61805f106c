/- A work put behind those that pend. -/
import Derived.Test.YthampbiabkfmoaaGreatDoorDskSt
import Derived.Deep.RegionLaw
namespace Go.Proofs.YthampbiabkfmoaaGreatDoor
open Go.RowKit Go.Tap Go.Maps
set_option linter.unusedVariables false
attribute [local go_sem ↓] Go.wp_at_zero Go.wp_at_succ

theorem Keeps.cast {w : World} {a : Option Addr} {n n' c : Nat} {b : List UInt8} (h : Keeps w a n c b) (e : n = n') : Keeps w a n' c b := by subst e; exact h
/-- A work done, whichever it is. -/
theorem do_any (w : World) (b : Nat) (fs g : Dsk.Files) (h : FsIs w b fs) (x : Dsk.Wk) (hk3 : x.kind ≤ 3) (hs : x.name.length ≤ 1048576) (ht : x.dst.length ≤ 1048576) (ad : Option Addr) (c : Nat) (hk : Keeps w ad x.b.length c x.b)
    (hl : fs.length ≤ 1048575) (hu : Dsk.used fs ≤ 16777216) (hx : x.b.length ≤ 16777216) (hd : Dsk.do1 fs x = some g) :
    Calls Tryz.prog 58 #[.map (some b), .agg #[.int .i64 (x.kind : Int), .string (str x.name), .string (str x.dst), .slice ad x.b.length c, .int .i64 (x.n : Int)]] w fun e w' =>
      e = .returned (.tuple #[]) ∧ FsIs w' b g ∧ TStay (fun k => k = b) w w' := by
  have hv := Dsk.val_le h.apart x.name
  obtain ⟨kind, name, dst, bb, n⟩ := x
  simp only at *
  rcases (show kind = 0 ∨ kind = 1 ∨ kind = 2 ∨ kind = 3 by omega) with rfl | rfl | rfl | rfl
  · simp only [Dsk.do1, Option.some.injEq] at hd
    subst hd
    exact do_add w b fs h name dst hs ad _ c bb hk _ hl (by omega)
  · simp only [Dsk.do1] at hd
    split at hd
    · rename_i hle
      simp only [Option.some.injEq] at hd
      subst hd
      exact do_cut w b fs h name dst hs _ n hle hl (by omega)
    · cases hd
  · simp only [Dsk.do1, Option.some.injEq] at hd
    subst hd
    exact do_ren w b fs h name dst hs ht _ _ hl
  · simp only [Dsk.do1, Option.some.injEq] at hd
    subst hd
    exact do_rem w b fs h name dst hs _ _

def Mine (B bd bn : Nat) (pv : Value) (k : Nat) : Prop := k = B ∨ k = bd ∨ k = bn ∨ pv.ownBlock = some k
theorem IsAt.frames {w w' : World} {lo B bd bn : Nat} {pv : Value} {d : Dsk.Dk} (h : IsAt w lo B bd bn pv d) (ht : TStay (Mine B bd bn pv) w w') : Below lo w w' ∧ KeepT w w' := by
  refine ⟨ht.below (by have := h.bnd.1; have := blk_lt h.blk; omega) (fun k hk hm => by have := h.ge k hm; omega), KeepT.of_stay ht ?_⟩
  rintro k (rfl | rfl | rfl | e)
  · exact .inr ⟨_, _, _, h.blk, .inl rfl⟩
  · obtain ⟨es, cl, hb⟩ := h.done.blk; exact .inl ⟨es, cl, hb⟩
  · obtain ⟨es, cl, hb⟩ := h.now.blk; exact .inl ⟨es, cl, hb⟩
  · obtain ⟨xs, ho⟩ := h.pend.own
    rcases ho.2 with ⟨rfl, _⟩ | ⟨g, cap, cur, rfl, _, hg, _⟩
    · simp [Value.ownBlock] at e
    · simp [Value.ownBlock] at e
      subst e
      exact .inr ⟨_, _, _, hg, .inr rfl⟩
namespace Dsk
def Dk.put (d : Dk) (x : Wk) (g : Files) : Dk × Bool := if d.one.2 = true then ({ d.one.1 with pend := d.pend ++ [x], now := g }, true) else d.one
theorem Dk.one_same (d : Dk) : d.one.1.done = d.done ∧ d.one.1.now = d.now ∧ d.one.1.pend = d.pend ∧ d.one.1.room = d.room := by
  unfold Dk.one; split
  · exact ⟨rfl, rfl, rfl, rfl⟩
  · split <;> exact ⟨rfl, rfl, rfl, rfl⟩
theorem Dk.one_fuse (d : Dk) (h : -1 ≤ d.fuse ∧ d.fuse ≤ 9223372036854775807) : -1 ≤ d.one.1.fuse ∧ d.one.1.fuse ≤ 9223372036854775807 := by
  unfold Dk.one; split
  · exact h
  · split
    · exact h
    · simp only; split <;> omega
theorem Dk.one_works (d : Dk) : d.works ≤ d.one.1.works ∧ d.one.1.works ≤ d.works + 1 ∧ (d.one.2 = true → d.one.1.works = d.works + 1) := by
  unfold Dk.one; split
  · simp
  · split <;> simp
theorem Ok.one {d : Dk} (h : Ok d) (hw : d.works ≤ 99999) : Ok d.one.1 := by
  obtain ⟨e1, e2, e3, e4⟩ := d.one_same
  have h5 := d.one_fuse h.fuse
  have h6 := d.one_works
  exact ⟨by rw [e1, e2, e3, e4]; exact h.run, by rw [e4]; exact h.room, by rw [e1, e4]; exact h.small, by rw [e2, e4]; exact h.small', by rw [e2]; exact Nat.le_trans h.len h6.1,
    by rw [e1, e3]; exact Nat.le_trans h.pl h6.1, by rw [e3]; exact h.names, by omega, h5⟩
theorem do1_len (fs g : Files) (x : Wk) (h : do1 fs x = some g) : g.length ≤ fs.length + 1 := by
  unfold do1 at h
  split at h
  · simp only [Option.some.injEq] at h; subst h; exact len_put _ _ _
  · split at h
    · simp only [Option.some.injEq] at h; subst h; exact len_put _ _ _
    · cases h
  · simp only [Option.some.injEq] at h; subst h
    have := len_put (del fs x.name) x.dst (val fs x.name); have := len_del fs x.name; omega
  · simp only [Option.some.injEq] at h; subst h; have := len_del fs x.name; omega
theorem Ok.put {d : Dk} (h : Ok d) (hw : d.works ≤ 99999) (x : Wk) (hn : (x.name.length ≤ 20 ∧ x.dst.length ≤ 20) ∧ x.kind ≤ 3 ∧ x.b.length ≤ 16777216) (g : Files) (hd : do2 d.room d.now x = some g) : Ok (d.put x g).1 := by
  unfold Dk.put
  split
  · rename_i h1
    obtain ⟨e1, e2, e3, e4⟩ := d.one_same
    have h5 := d.one_fuse h.fuse
    have h6 := d.one_works
    have h7 := h6.2.2 h1
    have hg : do1 d.now x = some g ∧ used g ≤ d.room ∧ g.length ≤ 1000000 := by
      unfold do2 at hd
      split at hd
      · rename_i g' hg'
        split at hd
        · rename_i hc
          simp only [Option.some.injEq] at hd; subst hd; exact ⟨hg', hc⟩
        · cases hd
      · cases hd
    have hlen := do1_len _ _ _ hg.1
    have hl := h.len
    have hp := h.pl
    refine ⟨?_, by show d.one.1.room ≤ _; rw [e4]; exact h.room, by show used d.one.1.done ≤ d.one.1.room ∧ _; rw [e1, e4]; exact h.small, by show used g ≤ d.one.1.room; rw [e4]; exact hg.2.1, by show g.length ≤ d.one.1.works; omega,
      by show d.one.1.done.length + (d.pend ++ [x]).length ≤ d.one.1.works; rw [e1, List.length_append]; simp only [List.length_cons, List.length_nil]; omega, ?_, by show d.one.1.works ≤ _; omega, h5⟩
    · show Dsk.run d.one.1.room d.one.1.done (d.pend ++ [x]) = some g
      rw [e1, e4, run_snoc, h.run]
      exact hd
    · intro y hy
      rcases List.mem_append.1 hy with h1 | h1
      · exact h.names y h1
      · simp only [List.mem_singleton] at h1; subst h1; exact hn
  · exact h.one hw
end Dsk
theorem infoWk : (Tryz.prog.info? 110).map (fun i => (i.zero, i.size, i.bytes)) = some (some (.agg #[.int .i64 0, .string ⟨#[]⟩, .string ⟨#[]⟩, .slice none 0 0, .int .i64 0]), 5, 72) := by kernel_rfl
theorem IsAt.push {w2 w3 : World} {lo B bd bn : Nat} {pv : Value} {d : Dsk.Dk} (h : IsAt w2 lo B bd bn pv d) {ps : List Pd} (hps : ps.map Pd.x = d.pend) (hpk : ∀ p ∈ ps, Keeps w2 p.a p.x.b.length p.c p.x.b) {r : Array Value}
    {x : Dsk.Wk} {ad : Option Addr} {c g3 cap3 : Nat} (hown : w3.ownsRow lo 110 5 (.slice (some ⟨g3, 0, none⟩) (ps.length + 1) cap3) (ps.length + 1) (ps.flatMap Pd.cells ++ (Pd.mk x ad c).cells))
    (hg : (w2.alloc (.cells r 110)).drew.grownBy w3 pv.ownBlock) (hkx : Keeps w2 ad x.b.length c x.b) :
    IsAt (w3.setCell ⟨B, 3, none⟩ (.slice (some ⟨g3, 0, none⟩) (ps.length + 1) cap3)) lo B bd bn (.slice (some ⟨g3, 0, none⟩) (ps.length + 1) cap3) { d with pend := d.pend ++ [x] } ∧
    TStay (fun k => k = B ∨ pv.ownBlock = some k) w2 (w3.setCell ⟨B, 3, none⟩ (.slice (some ⟨g3, 0, none⟩) (ps.length + 1) cap3)) := by
  obtain ⟨n1, n2, n3, n4, n5⟩ := h.nB
  obtain ⟨xs, ho⟩ := h.pend.own
  have hsz : ∀ k, k < w2.heap.size → k < (w2.alloc (.cells r 110)).drew.heap.size := fun k hk => by show k < (w2.alloc (.cells r 110)).heap.size; simp; omega
  have h3 : ∀ k, k < w2.heap.size → pv.ownBlock ≠ some k → w3.heap[k]? = w2.heap[k]? := fun k hk hne => (hg.block k (hsz k hk) (fun e => hne e.symm)).trans ((MapKept.heap_alloc w2 _).2 k hk)
  have hB3 := (h3 B (blk_lt h.blk) n3).trans h.blk
  have hgB : (Value.slice (some ⟨g3, 0, none⟩) (ps.length + 1) cap3).ownBlock ≠ some B := own_ne' hown hB3 (by decide)
  have ht : TStay (fun k => k = B ∨ pv.ownBlock = some k) w2 (w3.setCell ⟨B, 3, none⟩ (.slice (some ⟨g3, 0, none⟩) (ps.length + 1) cap3)) :=
    (((TStay.refl (fun k => k = B ∨ pv.ownBlock = some k) w2).alloc _ (.cells r 110)).drew _ |>.grown hg (fun k hk => .inl (.inr hk))).setCell (p := ⟨B, 3, none⟩) (.inl (.inl rfl)) _
  have hku : KeepU w2 (w3.setCell ⟨B, 3, none⟩ (.slice (some ⟨g3, 0, none⟩) (ps.length + 1) cap3)) := KeepU.tstay ht (fun k xs' fr hs hx => by
    rcases hs with rfl | hs
    · rw [h.blk] at hx; simp at hx
    · exact own_ne' ho hx (by decide) hs)
  have hb4 := heap_setCell_same w3 B 3 _ _ (.slice (some ⟨g3, 0, none⟩) (ps.length + 1) cap3) hB3
  refine ⟨⟨hb4, h.bnd, h.ne, h.done.stay (ht.block bd h.done.lt (by rintro (e | e); exact n1 e; exact n4 e)) hku, h.now.stay (ht.block bn h.now.lt (by rintro (e | e); exact n2 e; exact n5 e)) hku, ?_⟩, ht⟩
  refine ⟨ps ++ [⟨x, ad, c⟩], by rw [List.map_append, hps]; rfl, fun p hp => ?_, ?_⟩
  · rcases List.mem_append.1 hp with h1 | h1
    · exact (hpk p h1).stay hku
    · simp only [List.mem_singleton] at h1; subst h1; exact hkx.stay hku
  · rw [List.length_append, List.flatMap_append]
    have e1 : List.flatMap Pd.cells [(⟨x, ad, c⟩ : Pd)] = (Pd.mk x ad c).cells := by simp
    rw [e1]
    exact ownsRow_stay hown ((TStay.refl (fun k => k = B) w3).setCell (p := ⟨B, 3, none⟩) (.inl rfl) _) (fun k hk e => by subst e; exact hgB hk)
theorem IsAt.turn {w w' : World} {lo B bd bn : Nat} {pv : Value} {d : Dsk.Dk} (h : IsAt w lo B bd bn pv d) (ht : TStay (fun k => k = bn) w w') {g : Dsk.Files} (hf : FsIs w' bn g) : IsAt w' lo B bd bn pv { d with now := g } := by
  obtain ⟨n1, n2, n3, n4, n5⟩ := h.nB
  have hku : KeepU w w' := KeepU.tstay ht (fun k xs fr e hx => by subst e; obtain ⟨es, cl, hb⟩ := h.now.blk; rw [hb] at hx; cases hx)
  exact ⟨(ht.block B (blk_lt h.blk) (fun e => n2 e.symm)).trans h.blk, h.bnd, h.ne, h.done.stay (ht.block bd h.done.lt h.ne) hku, hf, h.pend.stay hku (fun k e => ht.block k (h.lt k (.inr (.inr (.inr e)))) (fun e' => by subst e'; exact n5 e))⟩
theorem IsAt.turnD {w w' : World} {lo B bd bn : Nat} {pv : Value} {d : Dsk.Dk} (h : IsAt w lo B bd bn pv d) (ht : TStay (fun k => k = bd) w w') {g : Dsk.Files} (hf : FsIs w' bd g) : IsAt w' lo B bd bn pv { d with done := g } := by
  obtain ⟨n1, n2, n3, n4, n5⟩ := h.nB
  have hku : KeepU w w' := KeepU.tstay ht (fun k xs fr e hx => by subst e; obtain ⟨es, cl, hb⟩ := h.done.blk; rw [hb] at hx; cases hx)
  exact ⟨(ht.block B (blk_lt h.blk) (fun e => n1 e.symm)).trans h.blk, h.bnd, h.ne, hf, h.now.stay (ht.block bn h.now.lt h.ne.symm) hku, h.pend.stay hku (fun k e => ht.block k (h.lt k (.inr (.inr (.inr e)))) (fun e' => by subst e'; exact n4 e))⟩
theorem tstay_undrew {S : Nat → Prop} {w w' : World} (h : TStay S w.drew w') : TStay S w w' := ⟨h.os, h.tape, h.output, h.size, h.block⟩
theorem wkS {w' : World} {T B bd bn : Nat} {pv : Value} {d : Dsk.Dk} {v0 v1 v2 v3 v4 : Value} (h1 : w'.heap[T]? = some (.cells #[v0, v1, v2, v3, v4] 110 (0, 0))) (h2 : w'.heap[B]? = some (.cells (Dcells d bd bn pv) 64 (0, 0))) :
    w'.cell? ⟨B, 2, none⟩ = some (.map (some bn)) ∧ w'.cell? ⟨T, 0, none⟩ = some v0 ∧ w'.cell? ⟨T, 1, none⟩ = some v1 ∧ w'.cell? ⟨T, 2, none⟩ = some v2 ∧ w'.cell? ⟨T, 3, none⟩ = some v3 ∧ w'.cell? ⟨T, 4, none⟩ = some v4 :=
  ⟨blk_cell (i := 2) h2 rfl, blk_cell (i := 0) h1 rfl, blk_cell (i := 1) h1 rfl, blk_cell (i := 2) h1 rfl, blk_cell (i := 3) h1 rfl, blk_cell (i := 4) h1 rfl⟩
set_option maxHeartbeats 8000000 in
set_option maxRecDepth 100000 in
theorem put_no (w : World) (lo B bd bn : Nat) (pv : Value) (d : Dsk.Dk) (h : IsAt w lo B bd bn pv d) (hok : Dsk.Ok d) (hw : d.works ≤ 99999) (x : Dsk.Wk) (hk3 : x.kind ≤ 3) (hn : x.name.length ≤ 20 ∧ x.dst.length ≤ 20)
    (ad : Option Addr) (c : Nat) (hk : Keeps w ad x.b.length c x.b) (hx : x.b.length ≤ 16777216) (g : Dsk.Files) (hd : Dsk.do2 d.room d.now x = some g) (ho : d.one.2 = false) :
    Calls Tryz.prog 39 #[.pointer (some ⟨B, 0, none⟩), .agg #[.int .i64 (x.kind : Int), .string (str x.name), .string (str x.dst), .slice ad x.b.length c, .int .i64 (x.n : Int)]] w fun e w' =>
      e = .returned (.iface 65 (.int .i64 7)) ∧ IsAt w' lo B bd bn pv d.one.1 ∧ TStay (Mine B bd bn pv) w w' := by
  obtain ⟨i0, hi, hz0, hz1, hz2'⟩ := info_parts infoWk
  obtain ⟨W1, hW1⟩ : ∃ W1, W1 = w.alloc (.cells #[.int .i64 (x.kind : Int), .string (str x.name), .string (str x.dst), .slice ad x.b.length c, .int .i64 (x.n : Int)] 110) := ⟨_, rfl⟩
  have hT1 : W1.heap[w.heap.size]? = some (.cells #[.int .i64 (x.kind : Int), .string (str x.name), .string (str x.dst), .slice ad x.b.length c, .int .i64 (x.n : Int)] 110 (0, 0)) := by rw [hW1]; exact heap_alloc_new _ _
  have hs1 : W1.heap.size = w.heap.size + 1 := by rw [hW1]; simp
  have hu1 : KeepU w W1 := by rw [hW1]; exact KeepU.alloc w _
  have hB1 : Below w.heap.size w W1 := by rw [hW1]; exact (Below.refl _ _).alloc (Nat.le_refl _) _
  have ht1 : TStay (Mine B bd bn pv) w W1 := TStay.of_below hB1 _
  have h1 := h.below hB1
  have hlt := blk_lt h.blk
  have hone := one_any W1 lo B bd bn pv d h1 hok.fuse (by omega)
  rw [ho] at hone
  clear hT1 h hk hd hx hok hw h1 ho
  go_enter Tryz.func39, Tryz.ntmps39
  go_wp2_with fail
  rw [← hW1]
  clear hW1
  refine hone.mono ?_
  clear hone
  rintro e w2 ⟨rfl, h2, t2⟩
  rw [if_neg (by simp)]
  go_wp2
  go_ret
  exact ⟨rfl, h2, ht1.trans t2 (fun k _ e => .inl e)⟩
set_option maxHeartbeats 8000000 in
set_option maxRecDepth 100000 in
theorem put_yes (w : World) (lo B bd bn : Nat) (pv : Value) (d : Dsk.Dk) (h : IsAt w lo B bd bn pv d) (hok : Dsk.Ok d) (hw : d.works ≤ 99999) (x : Dsk.Wk) (hk3 : x.kind ≤ 3) (hn : x.name.length ≤ 20 ∧ x.dst.length ≤ 20)
    (ad : Option Addr) (c : Nat) (hk : Keeps w ad x.b.length c x.b) (hx : x.b.length ≤ 16777216) (g : Dsk.Files) (hd : Dsk.do2 d.room d.now x = some g) (ho : d.one.2 = true) :
    Calls Tryz.prog 39 #[.pointer (some ⟨B, 0, none⟩), .agg #[.int .i64 (x.kind : Int), .string (str x.name), .string (str x.dst), .slice ad x.b.length c, .int .i64 (x.n : Int)]] w fun e w' =>
      e = .returned .nilIface ∧ (∃ pv', IsAt w' lo B bd bn pv' { d.one.1 with pend := d.pend ++ [x], now := g }) ∧ TStay (Mine B bd bn pv) w w' := by
  obtain ⟨i0, hi, hz0, hz1, hz2'⟩ := info_parts infoWk
  obtain ⟨W1, hW1⟩ : ∃ W1, W1 = w.alloc (.cells #[.int .i64 (x.kind : Int), .string (str x.name), .string (str x.dst), .slice ad x.b.length c, .int .i64 (x.n : Int)] 110) := ⟨_, rfl⟩
  have hT1 : W1.heap[w.heap.size]? = some (.cells #[.int .i64 (x.kind : Int), .string (str x.name), .string (str x.dst), .slice ad x.b.length c, .int .i64 (x.n : Int)] 110 (0, 0)) := by rw [hW1]; exact heap_alloc_new _ _
  have hs1 : W1.heap.size = w.heap.size + 1 := by rw [hW1]; simp
  have hu1 : KeepU w W1 := by rw [hW1]; exact KeepU.alloc w _
  have hB1 : Below w.heap.size w W1 := by rw [hW1]; exact (Below.refl _ _).alloc (Nat.le_refl _) _
  have ht1 : TStay (Mine B bd bn pv) w W1 := TStay.of_below hB1 _
  have h1 := h.below hB1
  have hlt := blk_lt h.blk
  have hone := one_any W1 lo B bd bn pv d h1 hok.fuse (by omega)
  rw [ho] at hone
  have HT1 := Lib.hid hT1
  have HK := Lib.hid (hk.stay hu1)
  have H1 := Lib.hid h1
  have hdx : Dsk.do1 d.now x = some g ∧ Dsk.used d.now ≤ 16777216 ∧ d.now.length ≤ 1048575 := by
    refine ⟨?_, by have := hok.small'; have := hok.room; omega, by have := hok.len; omega⟩
    unfold Dsk.do2 at hd
    split at hd
    · rename_i g' hg'
      split at hd
      · simp only [Option.some.injEq] at hd; subst hd; exact hg'
      · cases hd
    · cases hd
  have hln := Lib.hid (show ∀ d1 : Dsk.Dk, d1 = d.one.1 → d1.now.length ≤ 1048575 ∧ Dsk.used d1.now ≤ 16777216 ∧ Dsk.do1 d1.now x = some g from fun d1 e => by
    subst e; rw [d.one_same.2.1]; exact ⟨hdx.2.2, hdx.2.1, hdx.1⟩)
  have hbn : bn < w.heap.size := h.now.lt
  have own_T : pv.ownBlock ≠ some w.heap.size := fun e => by have := h.lt _ (.inr (.inr (.inr e))); omega
  clear hdx
  have HD := Lib.hid hd
  have HX := Lib.hid hx
  have HOK := Lib.hid hok
  have HW := Lib.hid hw
  have hlo := Lib.hid h.bnd
  have nB := Lib.hid h.nB
  have hpn := Lib.hid (d.one_same)
  have hpl : d.pend.length ≤ 100000 := by have := hok.pl; omega
  clear hT1 h hk hd hx hok hw h1 ho
  go_enter Tryz.func39, Tryz.ntmps39
  go_wp2_with fail
  rw [← hW1]
  clear hW1
  refine hone.mono ?_
  clear hone
  rintro e w2 ⟨rfl, h2, t2⟩
  rw [if_pos trivial]
  obtain ⟨d1, hd1⟩ : ∃ d1, d1 = d.one.1 := ⟨_, rfl⟩
  rw [← hd1] at h2
  obtain ⟨ps, hps, hpk, hpo⟩ := h2.pend
  have hplen : ps.length = d.pend.length := by rw [← List.length_map (f := Pd.x), hps, hd1, hpn.out.2.2.1]
  have hT2 : w2.heap[w.heap.size]? = _ := (t2.block w.heap.size (by omega) (by omega)).trans HT1.out
  have c3 : w2.cell? ⟨B, 3, none⟩ = some pv := blk_cell (i := 3) h2.blk rfl
  have f3 := blk_free h2.blk 3
  have hlt2 := blk_lt h2.blk
  have hs2 := t2.size
  have hwc : ∀ r, (w2.alloc (.cells r 110)).cell? ⟨B, 3, none⟩ = some pv := fun r => (World.cell?_of_block ((MapKept.heap_alloc w2 _).2 B hlt2)).trans c3
  have k0 : w2.cell? ⟨w.heap.size, 0, none⟩ = some (.int .i64 (x.kind : Int)) := blk_cell (i := 0) hT2 rfl
  have k1 : w2.cell? ⟨w.heap.size, 1, none⟩ = some (.string (str x.name)) := blk_cell (i := 1) hT2 rfl
  have k2 : w2.cell? ⟨w.heap.size, 2, none⟩ = some (.string (str x.dst)) := blk_cell (i := 2) hT2 rfl
  have k3 : w2.cell? ⟨w.heap.size, 3, none⟩ = some (.slice ad x.b.length c) := blk_cell (i := 3) hT2 rfl
  have k4 : w2.cell? ⟨w.heap.size, 4, none⟩ = some (.int .i64 (x.n : Int)) := blk_cell (i := 4) hT2 rfl
  have hx5 : ((Pd.mk x ad c).cells).length = 1 * 5 := rfl
  have H2 := Lib.hid h2
  have HPO := Lib.hid hpo
  have HT2 := Lib.hid hT2
  have HPK := Lib.hid hpk
  have HPS := Lib.hid hps
  have HD1 := Lib.hid hd1
  have HL := Lib.hid hplen
  have hkd : ∀ w4, TStay (fun k => k = B ∨ pv.ownBlock = some k) w2 w4 → Keeps w4.drew ad x.b.length c x.b := fun w4 t4 => by
    have a1 := HK.out.stay (KeepU.tstay t2 (fun k xs fr e hx => by subst e; rw [H1.out.blk] at hx; simp at hx))
    obtain ⟨xs', ho'⟩ := H2.out.pend.own
    exact (a1.stay (KeepU.tstay t4 (fun k xs fr e hx => by
      rcases e with rfl | e
      · rw [H2.out.blk] at hx; simp at hx
      · exact own_ne' ho' hx (by decide) e))).stay (KeepU.drew _)
  clear h2 hpo hT2 hpk hps hd1 hplen
  go_wp2_with fail
  go_region_law ((refine step_append_lies _ (by rfl) (.tmp 15) (.tmp 17) 62 (by rfl) lo 110 i0 _ 5 72 Tryz.underlying62 hi hz0 hz1 hz2' rfl (by omega) pv ps.length _ (by rfl) (HPO.out.alloc _) ⟨w2.heap.size, 0, none⟩ 1 1 (Pd.mk x ad c).cells (by rfl) hx5 (World.news_of_block (cs := (Pd.mk x ad c).cells.toArray) (t := 110) (fr := (0, 0)) (heap_alloc_new w2 _)) (by simp [Pd.cells, Value.oneCell']) (by omega) (by have := HL.out; unfold maxLen; omega) (by have := HL.out; omega) (by have := hlo.out; simp; omega) (w2.heap.size + 1) (by simp) ?_; intro g3 cap3 w3 hown3 hg3 hat3 hlt3; have hB3 := (hg3.block B (by simp; omega) (fun e => nB.out.2.2.1 e.symm)).trans ((MapKept.heap_alloc w2 _).2 B hlt2); have c33 : w3.cell? ⟨B, 3, none⟩ = some pv := (World.cell?_of_block hB3).trans c3; have f33 : w3.frozen? ⟨B, 3, none⟩ = false := (World.frozen?_of_block hB3).trans f3))
  all_goals
    obtain ⟨h4, t4⟩ := H2.out.push HPS.out HPK.out hown3 hg3 ((HK.out.stay (KeepU.tstay t2 (fun k xs fr e hx => by subst e; rw [(H1.out).blk] at hx; simp at hx))))
    obtain ⟨w4, hw4⟩ : ∃ w4, w4 = w3.setCell ⟨B, 3, none⟩ (.slice (some ⟨g3, 0, none⟩) (ps.length + 1) cap3) := ⟨_, rfl⟩
    rw [← hw4] at h4 t4 ⊢
    clear hw4 hown3 hg3 hB3 c33 f33 k0 k1 k2 k3 k4 c3 f3 hwc
    have hT4 := (t4.block w.heap.size (by omega) (by rintro (e | e); omega; exact own_T e)).trans HT2.out
    have h4' := Lib.hid h4
    have t4' := Lib.hid t4
    have HT4 := Lib.hid hT4
    clear h4 t4 hT4
    go_wp2_with fail
    go_region_held3 (fun w' => w'.cell? ⟨B, 2, none⟩ = some (.map (some bn)) ∧ w'.cell? ⟨w.heap.size, 0, none⟩ = some (.int .i64 (x.kind : Int)) ∧ w'.cell? ⟨w.heap.size, 1, none⟩ = some (.string (str x.name)) ∧ w'.cell? ⟨w.heap.size, 2, none⟩ = some (.string (str x.dst)) ∧ w'.cell? ⟨w.heap.size, 3, none⟩ = some (.slice ad x.b.length c) ∧ w'.cell? ⟨w.heap.size, 4, none⟩ = some (.int .i64 (x.n : Int)))
      (first | exact wkS HT5.out H5.out.blk | exact wkS HT4.out h4'.out.blk)
      ((go_at_call 58; refine (do_any w4.drew bn _ g (h4'.out.now.stay rfl (KeepU.drew _)) x hk3 (by omega) (by omega) ad c (hkd w4 t4'.out) (hln.out _ HD1.out).1 (hln.out _ HD1.out).2.1 HX.out (hln.out _ HD1.out).2.2).mono ?_; rintro e w5 ⟨rfl, hf5, t5⟩; have H5 := Lib.hid (h4'.out.turn (w' := w5) (tstay_undrew t5) hf5); have HT5 := Lib.hid ((t5.block w.heap.size (by have := blk_lt HT4.out; exact this) (by omega)).trans HT4.out)))
    go_wp2
    go_ret
    refine ⟨rfl, ⟨.slice (some ⟨g3, 0, none⟩) (ps.length + 1) cap3, ?_⟩, ?_⟩
    · have h5 := H5.out
      rw [HD1.out, hpn.out.2.2.1] at h5
      exact h5
    · exact (((ht1.trans t2 (fun k _ e => .inl e)).trans t4'.out (fun k _ e => e.elim .inl (fun e => .inr (.inr (.inr e))))).trans (tstay_undrew t5) (fun k _ e => .inr (.inr (.inl e))))
end Go.Proofs.YthampbiabkfmoaaGreatDoor
/- New, named, Append, Pending, Works, Read, Sync. -/
namespace Go.Proofs.YthampbiabkfmoaaGreatDoor
open Go.RowKit Go.Tap Go.Maps
set_option linter.unusedVariables false
attribute [local go_sem ↓] Go.wp_at_zero Go.wp_at_succ

namespace Dsk
def newD (room : Nat) : Dk := ⟨room, [], [], [], -1, false, 0⟩
theorem newD_ok (room : Nat) (h : room ≤ 16777216) : Ok (newD room) :=
  ⟨rfl, h, ⟨Nat.zero_le _, Nat.zero_le _⟩, Nat.zero_le _, Nat.le_refl _, Nat.le_refl _, fun x hx => by simp [newD] at hx, Nat.zero_le _, ⟨Int.le_refl _, by show (-1 : Int) ≤ _; omega⟩⟩
def good (s : Name) : Prop := 0 < s.length ∧ s.length ≤ 20
end Dsk
def errv (k : Nat) : Value := if k = 0 then .nilIface else .iface 65 (.int .i64 (k : Int))
theorem new_is (w : World) (room : Nat) (hr : room ≤ 16777216) :
    IsDk (((w.alloc (.map #[] 0)).alloc (.map #[] 0)).alloc (.cells #[.int .i64 (room : Int), .map (some w.heap.size), .map (some (w.heap.size + 1)), .slice none 0 0, .int .i64 (-1), .bool false, .int .i64 0] 64)) w.heap.size (w.heap.size + 1 + 1) (Dsk.newD room) ∧
    Below w.heap.size w (((w.alloc (.map #[] 0)).alloc (.map #[] 0)).alloc (.cells #[.int .i64 (room : Int), .map (some w.heap.size), .map (some (w.heap.size + 1)), .slice none 0 0, .int .i64 (-1), .bool false, .int .i64 0] 64)) := by
  obtain ⟨w1, hw1⟩ : ∃ w1, w1 = w.alloc (.map #[] 0) := ⟨_, rfl⟩
  have e1 : w1.heap.size = w.heap.size + 1 := by rw [hw1]; simp
  obtain ⟨w2, hw2⟩ : ∃ w2, w2 = w1.alloc (.map #[] 0) := ⟨_, rfl⟩
  have e2 : w2.heap.size = w.heap.size + 1 + 1 := by rw [hw2]; simp; omega
  have a1 : FsIs w1 w.heap.size [] := by rw [hw1]; exact FsIs.new w
  have a2 : FsIs w2 w1.heap.size [] := by rw [hw2]; exact FsIs.new w1
  have a1' : FsIs w2 w.heap.size [] := by rw [hw2]; exact a1.stay ((MapKept.heap_alloc w1 _).2 _ (by omega)) (KeepU.alloc _ _)
  have b2 : Below w.heap.size w w2 := by rw [hw2, hw1]; exact ((Below.refl _ _).alloc (Nat.le_refl _) _).alloc (by simp) _
  rw [← hw1, ← hw2]
  generalize hcs : (.cells #[.int .i64 (room : Int), .map (some w.heap.size), .map (some (w.heap.size + 1)), .slice none 0 0, .int .i64 (-1), .bool false, .int .i64 0] 64 : Obj) = o
  refine ⟨⟨w.heap.size, w.heap.size + 1, .slice none 0 0, ⟨?_, by omega, by omega, ?_, ?_, Pends.nil _ _⟩, Dsk.newD_ok room hr⟩, b2.alloc (by omega) _⟩
  · rw [← e2, ← hcs]; exact heap_alloc_new w2 _
  · exact a1'.stay ((MapKept.heap_alloc w2 _).2 _ (by omega)) (KeepU.alloc _ _)
  · rw [← e1]; exact a2.stay ((MapKept.heap_alloc w2 _).2 _ (by omega)) (KeepU.alloc _ _)
set_option maxHeartbeats 1000000 in
set_option maxRecDepth 100000 in
theorem new_any (w : World) (room : Nat) (hr : room ≤ 16777216) :
    Calls Tryz.prog 6 #[.int .i64 (room : Int)] w fun e w' => ∃ B, e = .returned (.pointer (some ⟨B, 0, none⟩)) ∧ IsDk w' w.heap.size B (Dsk.newD room) ∧ Below w.heap.size w w' := by
  have hmm := @run_makeMap Tryz.prog
  have h1 : min (room : Int) 16777216 = room := by omega
  have HN := Lib.hid (new_is w room hr)
  rcases Nat.eq_zero_or_pos room with h0 | h0
  · subst h0
    go_enter Tryz.func6, Tryz.ntmps6
    go_wp2
    go_ret
    exact ⟨_, rfl, HN.out.1, HN.out.2⟩
  · go_enter Tryz.func6, Tryz.ntmps6
    go_wp2
    all_goals first | omega | skip
    go_ret
    exact ⟨_, rfl, HN.out.1, HN.out.2⟩
theorem named_any (w : World) (s : List UInt8) (h : Dsk.good s) : Calls Tryz.prog 37 #[.string (str s)] w fun e w' => e = .returned (.bool true) ∧ w' = w := by
  have h1 : ((str s).toList == ([] : List UInt8)) = false := by rw [str_toList]; cases s; exact absurd h.1 (by simp); rfl
  have h2 : decide (s.length ≤ 20) = true := decide_eq_true h.2
  have h3 : decide ((s.length : Int) ≤ 20) = true := decide_eq_true (by have := h.2; omega)
  have h4 : (str s).size = s.length := rfl
  clear h
  go_enter Tryz.func37, Tryz.ntmps37
  go_wp2
  go_ret
  exact ⟨rfl, rfl⟩
end Go.Proofs.YthampbiabkfmoaaGreatDoor
/- Append, Pending, Works, Read, Sync. -/
namespace Go.Proofs.YthampbiabkfmoaaGreatDoor
open Go.RowKit Go.Tap Go.Maps
set_option linter.unusedVariables false
attribute [local go_sem ↓] Go.wp_at_zero Go.wp_at_succ

namespace Dsk
def Dk.putr (d : Dk) (x : Wk) (g : Files) : Dk × Nat := if d.one.2 = true then ({ d.one.1 with pend := d.pend ++ [x], now := g }, 0) else (d.one.1, 7)
theorem Ok.putr {d : Dk} (h : Ok d) (hw : d.works ≤ 99999) (x : Wk) (hn : (x.name.length ≤ 20 ∧ x.dst.length ≤ 20) ∧ x.kind ≤ 3 ∧ x.b.length ≤ 16777216) (g : Files) (hd : do2 d.room d.now x = some g) : Ok (d.putr x g).1 := by
  have := h.put hw x hn g hd
  unfold Dk.put at this
  unfold Dk.putr
  split
  · rename_i h1; rw [if_pos h1] at this; exact this
  · rename_i h1; rw [if_neg h1] at this; exact this
def Dk.append (d : Dk) (s : Name) (l : List UInt8) : Dk × Nat :=
  if d.dead = true then (d, 7) else if d.room < used d.now + l.length then (d, 6) else d.putr ⟨0, s, [], l, 0⟩ (Dsk.put d.now s (Dsk.val d.now s ++ l))
def Dk.sync (d : Dk) : Dk × Nat := if d.one.2 = true then ({ d.one.1 with done := d.now, pend := [] }, 0) else (d.one.1, 7)
theorem Ok.sync {d : Dk} (h : Ok d) (hw : d.works ≤ 99999) : Ok d.sync.1 := by
  unfold Dk.sync
  obtain ⟨e1, e2, e3, e4⟩ := d.one_same
  have h6 := d.one_works
  have h5 := d.one_fuse h.fuse
  split
  · exact ⟨by show some d.now = some d.one.1.now; rw [e2], by show d.one.1.room ≤ _; rw [e4]; exact h.room, by show used d.now ≤ d.one.1.room ∧ d.now.length ≤ 1000000; rw [e4]; exact ⟨h.small', by have := h.len; omega⟩, by show used d.one.1.now ≤ d.one.1.room; rw [e2, e4]; exact h.small', by show d.one.1.now.length ≤ d.one.1.works; rw [e2]; exact Nat.le_trans h.len h6.1, by show d.now.length + 0 ≤ d.one.1.works; have := h.len; have := h6.1; omega, fun x hx => by simp at hx, by show d.one.1.works ≤ _; omega, h5⟩
  · exact h.one hw
end Dsk
/-- Behind a call that may fail. -/
def OpAft (w : World) (lo B : Nat) (r : Dsk.Dk × Nat) (e : Ending) (w' : World) : Prop := e = .returned (errv r.2) ∧ IsDk w' lo B r.1 ∧ Below lo w w' ∧ KeepT w w'
theorem OpAft.same {w : World} {lo B : Nat} {d : Dsk.Dk} {k : Nat} (h : IsDk w lo B d) (hk : k ≠ 0) : OpAft w lo B (d, k) (.returned (.iface 65 (.int .i64 (k : Int)))) w :=
  ⟨by show _ = Ending.returned (errv k); rw [errv, if_neg hk], h, Below.refl _ _, KeepT.refl _⟩
theorem putr_any (w : World) (lo B : Nat) (d : Dsk.Dk) (h : IsDk w lo B d) (hw : d.works ≤ 99999) (x : Dsk.Wk) (hk3 : x.kind ≤ 3) (hn : x.name.length ≤ 20 ∧ x.dst.length ≤ 20)
    (ad : Option Addr) (c : Nat) (hk : Keeps w ad x.b.length c x.b) (hx : x.b.length ≤ 16777216) (g : Dsk.Files) (hd : Dsk.do2 d.room d.now x = some g) :
    Calls Tryz.prog 39 #[.pointer (some ⟨B, 0, none⟩), .agg #[.int .i64 (x.kind : Int), .string (str x.name), .string (str x.dst), .slice ad x.b.length c, .int .i64 (x.n : Int)]] w (OpAft w lo B (d.putr x g)) := by
  obtain ⟨bd, bn, pv, h1, hok⟩ := h
  have hok' := hok.putr hw x ⟨hn, hk3, hx⟩ g hd
  cases ho : d.one.2 with
  | false =>
    have e : d.putr x g = (d.one.1, 7) := by unfold Dsk.Dk.putr; rw [if_neg (by rw [ho]; simp)]
    rw [e] at hok' ⊢
    refine (put_no w lo B bd bn pv d h1 hok hw x hk3 hn ad c hk hx g hd ho).mono ?_
    rintro e w' ⟨rfl, h2, t2⟩
    obtain ⟨f1, f2⟩ := h1.frames t2
    exact ⟨rfl, ⟨bd, bn, pv, h2, hok'⟩, f1, f2⟩
  | true =>
    have e : d.putr x g = ({ d.one.1 with pend := d.pend ++ [x], now := g }, 0) := by unfold Dsk.Dk.putr; rw [if_pos ho]
    rw [e] at hok' ⊢
    refine (put_yes w lo B bd bn pv d h1 hok hw x hk3 hn ad c hk hx g hd ho).mono ?_
    rintro e w' ⟨rfl, ⟨pv', h2⟩, t2⟩
    obtain ⟨f1, f2⟩ := h1.frames t2
    exact ⟨rfl, ⟨bd, bn, pv', h2, hok'⟩, f1, f2⟩
theorem OpAft.pre {w w1 w' : World} {lo B : Nat} {r : Dsk.Dk × Nat} {e : Ending} (h : OpAft w1 lo B r e w') (hb : Below w.heap.size w w1) (hlo : lo ≤ w.heap.size) : OpAft w lo B r e w' :=
  ⟨h.1, h.2.1, (hb.mono hlo).trans h.2.2.1, (KeepT.below hb (Nat.le_refl _)).trans h.2.2.2⟩
theorem IsDk.lo_le {w : World} {lo B : Nat} {d : Dsk.Dk} (h : IsDk w lo B d) : lo ≤ w.heap.size := by
  obtain ⟨bd, bn, pv, h1, _⟩ := h
  have := h1.bnd.1; have := blk_lt h1.blk; omega
set_option maxHeartbeats 4000000 in
set_option maxRecDepth 100000 in
theorem append_any (w : World) (lo B : Nat) (d : Dsk.Dk) (h : IsDk w lo B d) (hw : d.works ≤ 99999) (s : List UInt8) (hs : Dsk.good s) (a : Option Addr) (n c : Nat) (l : List UInt8) (hr : Rds w a n l) (hz : a = none → c = 0) (hn : n ≤ 140737488355328) :
    Calls Tryz.prog 69 #[.pointer (some ⟨B, 0, none⟩), .string (str s), .slice a n c] w (OpAft w lo B (d.append s l)) := by
  have hl := hr.1
  have hlo := h.lo_le
  have H := Lib.hid h
  obtain ⟨bd, bn, pv, h1, hok⟩ := h
  have c0 : w.cell? ⟨B, 0, none⟩ = some (.int .i64 (d.room : Int)) := blk_cell (i := 0) h1.blk rfl
  have c2 : w.cell? ⟨B, 2, none⟩ = some (.map (some bn)) := blk_cell (i := 2) h1.blk rfl
  have c5 : w.cell? ⟨B, 5, none⟩ = some (.bool d.dead) := blk_cell (i := 5) h1.blk rfl
  have hn1 := h1.now
  have hlt := blk_lt h1.blk
  have hroom := hok.room
  have hused := hok.small'
  have hnl := hok.len
  have hap := h1.now.apart
  have HR := Lib.hid hr
  cases hd : d.dead with
  | true =>
    have e : d.append s l = (d, 7) := by unfold Dsk.Dk.append; rw [if_pos hd]
    rw [e]
    rw [hd] at c5
    clear e hd h1 hok hr
    go_enter Tryz.func69, Tryz.ntmps69
    go_wp2_with fail
    refine (named_any w s hs).mono ?_
    rintro e w1 ⟨rfl, rfl⟩
    go_wp2
    go_ret
    exact OpAft.same H.out (by omega)
  | false =>
    rw [hd] at c5
    have hq := used_any w.drew bn d.now (hn1.stay rfl (KeepU.drew _)) (by omega)
    by_cases hfull : d.room < Dsk.used d.now + l.length
    · have e : d.append s l = (d, 6) := by unfold Dsk.Dk.append; rw [if_neg (by rw [hd]; simp), if_pos hfull]
      have hw1 := wrapi' ((d.room : Int) - (Dsk.used d.now : Int)) (by omega)
      have hdd : decide ((d.room : Int) - (Dsk.used d.now : Int) < (n : Int)) = true := decide_eq_true (by omega)
      rw [e]
      obtain ⟨R, hR⟩ : ∃ R : Int, (d.room : Int) = R := ⟨_, rfl⟩
      obtain ⟨U, hU⟩ : ∃ U : Nat, Dsk.used d.now = U := ⟨_, rfl⟩
      rw [hU] at hw1 hdd hq
      rw [hR] at c0 hw1 hdd
      clear e hd h1 hok hr hfull hR hU hroom hused
      go_enter Tryz.func69, Tryz.ntmps69
      go_wp2_with fail
      refine (named_any w s hs).mono ?_
      rintro e w1 ⟨rfl, rfl⟩
      go_wp2_with fail
      go_region_held3 (fun w' => w'.cell? ⟨B, 0, none⟩ = some (.int .i64 R) ∧ w'.cell? ⟨B, 2, none⟩ = some (.map (some bn)))
        (first | exact ⟨c0', c2'⟩ | exact ⟨c0, c2⟩)
        ((go_at_call 83; refine hq.mono ?_; rintro e w2 ⟨rfl, hb2⟩; have c0' : w2.cell? ⟨B, 0, none⟩ = some (.int .i64 R) := (World.cell?_of_block (hb2.block B hlt)).trans c0; have c2' : w2.cell? ⟨B, 2, none⟩ = some (.map (some bn)) := (World.cell?_of_block (hb2.block B hlt)).trans c2))
      go_wp2
      go_ret
      have hb3 : Below w1.heap.size w1 w2 := ⟨hb2.os, hb2.tape, hb2.output, hb2.size, hb2.block⟩
      exact (OpAft.same (H.out.below hb3) (by omega)).pre hb3 hlo
    · have e : d.append s l = d.putr ⟨0, s, [], l, 0⟩ (Dsk.put d.now s (Dsk.val d.now s ++ l)) := by unfold Dsk.Dk.append; rw [if_neg (by rw [hd]; simp), if_neg hfull]
      have hw1 := wrapi' ((d.room : Int) - (Dsk.used d.now : Int)) (by omega)
      have hdd : decide ((d.room : Int) - (Dsk.used d.now : Int) < (n : Int)) = false := decide_eq_false (by omega)
      have hdo : Dsk.do2 d.room d.now ⟨0, s, [], l, 0⟩ = some (Dsk.put d.now s (Dsk.val d.now s ++ l)) := by
        have h1 := Dsk.used_put hap s (Dsk.val d.now s ++ l)
        rw [List.length_append] at h1
        have h2 := Dsk.len_put d.now s (Dsk.val d.now s ++ l)
        unfold Dsk.do2 Dsk.do1
        simp only
        rw [if_pos ⟨by omega, by omega⟩]
      have hn2 : l.length ≤ 16777216 := by omega
      rw [e]
      obtain ⟨R, hR⟩ : ∃ R : Int, (d.room : Int) = R := ⟨_, rfl⟩
      obtain ⟨U, hU⟩ : ∃ U : Nat, Dsk.used d.now = U := ⟨_, rfl⟩
      rw [hU] at hw1 hdd hq
      rw [hR] at c0 hw1 hdd
      have HDO := Lib.hid hdo
      have HL := Lib.hid hl
      have HN2 := Lib.hid hn2
      clear e hd h1 hok hr hfull hR hU hroom hused hdo hl hn2
      go_enter Tryz.func69, Tryz.ntmps69
      go_wp2_with fail
      refine (named_any w s hs).mono ?_
      rintro e w1 ⟨rfl, rfl⟩
      go_wp2_with fail
      go_region_held3 (fun w' => w'.cell? ⟨B, 0, none⟩ = some (.int .i64 R) ∧ w'.cell? ⟨B, 2, none⟩ = some (.map (some bn)))
        (first | exact ⟨c0', c2'⟩ | exact ⟨c0, c2⟩)
        ((go_at_call 83; refine hq.mono ?_; rintro e w2 ⟨rfl, hb2⟩; have c0' : w2.cell? ⟨B, 0, none⟩ = some (.int .i64 R) := (World.cell?_of_block (hb2.block B hlt)).trans c0; have c2' : w2.cell? ⟨B, 2, none⟩ = some (.map (some bn)) := (World.cell?_of_block (hb2.block B hlt)).trans c2))
      have hb3 : Below w1.heap.size w1 w2 := ⟨hb2.os, hb2.tape, hb2.output, hb2.size, hb2.block⟩
      clear hb2 c0' c2'
      go_wp2_with fail
      refine (clone_any w2 a n c l (HR.out.below hb3 (fun h0 b o e => by subst e; exact HR.out.lt h0)) hz (by omega)).mono ?_
      rintro e w3 ⟨a', c', rfl, hown, hb4⟩
      have hb5 := hb3.trans (hb4.mono hb3.size)
      have hk3 : Keeps w3 a' l.length c' l := by have := Keeps.of_own (by rw [HL.out]; exact hown) HL.out; rw [HL.out]; exact this
      have hput := putr_any w3 lo B d (H.out.below hb5) hw ⟨0, s, [], l, 0⟩ (by simp) ⟨hs.2, by simp⟩ a' c' hk3 HN2.out _ HDO.out
      rw [show (Dsk.Wk.mk 0 s [] l 0).b.length = n from HL.out] at hput
      clear hb3 hb4 hown hk3
      go_wp2_with fail
      refine hput.mono ?_
      rintro e w4 h4
      obtain ⟨v, hv⟩ : ∃ v, v = errv (d.putr ⟨0, s, [], l, 0⟩ (Dsk.put d.now s (Dsk.val d.now s ++ l))).2 := ⟨_, rfl⟩
      have h4' := h4.pre hb5 hlo
      obtain ⟨rfl, _⟩ := h4
      go_wp2
      go_ret
      exact h4'
end Go.Proofs.YthampbiabkfmoaaGreatDoor
