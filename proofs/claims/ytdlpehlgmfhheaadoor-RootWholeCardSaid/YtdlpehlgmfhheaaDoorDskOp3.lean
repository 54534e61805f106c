/- Pending, Works, Read, Sync, rest. -/
import Derived.Test.YtdlpehlgmfhheaaDoorDskOp2
namespace Go.Proofs.YtdlpehlgmfhheaaDoor
open Go.RowKit Go.Tap Go.Maps
set_option linter.unusedVariables false
attribute [local go_sem ↓] Go.wp_at_zero Go.wp_at_succ

/-- A field laid anew, whatever it leads to. -/
theorem IsAt.reset {w : World} {lo B bd bn bd' bn' : Nat} {pv pv' : Value} {d d' : Dsk.Dk} (h : IsAt w lo B bd bn pv d) (i : Nat) (u : Value) (hc : (Dcells d bd bn pv).setIfInBounds i u = Dcells d' bd' bn' pv')
    (hl : lo ≤ bd' ∧ lo ≤ bn') (hne : bd' ≠ bn') (hd : FsIs w bd' d'.done) (hn : FsIs w bn' d'.now) (hp : Pends w lo pv' d'.pend) : IsAt (w.setCell ⟨B, i, none⟩ u) lo B bd' bn' pv' d' := by
  have hk : KeepU w (w.setCell ⟨B, i, none⟩ u) := KeepU.setCell (p := ⟨B, i, none⟩) h.blk (by decide) u
  have ho : ∀ k, k ≠ B → (w.setCell ⟨B, i, none⟩ u).heap[k]? = w.heap[k]? := fun k hne => by
    by_cases hlt : k < w.heap.size
    · exact ((TStay.refl (fun k => k = B) w).setCell (p := ⟨B, i, none⟩) (.inl rfl) u).block k hlt hne
    · rw [Array.getElem?_eq_none (by have := hlt; simp; omega), Array.getElem?_eq_none (by omega)]
  obtain ⟨e1, c1, h1⟩ := hd.blk
  obtain ⟨e2, c2, h2⟩ := hn.blk
  obtain ⟨xs, hx⟩ := hp.own
  refine ⟨by rw [← hc]; exact heap_setCell_same w B i _ _ u h.blk, ⟨h.bnd.1, hl.1, hl.2⟩, hne, hd.stay (ho _ (fun e => by subst e; rw [h.blk] at h1; cases h1)) hk, hn.stay (ho _ (fun e => by subst e; rw [h.blk] at h2; cases h2)) hk, hp.stay hk (fun k e => ho k (fun e' => by subst e'; exact own_ne' hx h.blk (by decide) e))⟩

/-- What Read tells of a file. -/
def ReadAft (w : World) (d : Dsk.Dk) (s : List UInt8) (e : Ending) (w' : World) : Prop :=
  ∃ a c, e = .returned (.tuple #[.slice a (Dsk.val d.now s).length c, .bool (Dsk.get d.now s).isSome]) ∧ w'.ownsRow w.heap.size 5 1 (.slice a (Dsk.val d.now s).length c) (Dsk.val d.now s).length (bv (Dsk.val d.now s)) ∧ Below w.heap.size w w'
set_option maxHeartbeats 1000000 in
set_option maxRecDepth 100000 in
theorem read_any (w : World) (lo B : Nat) (d : Dsk.Dk) (h : IsDk w lo B d) (hd : d.dead = false) (s : List UInt8) (hs : s.length ≤ 1048576) :
    Calls Tryd.prog 100 #[.pointer (some ⟨B, 0, none⟩), .string (str s)] w (ReadAft w d s) := by
  obtain ⟨bd, bn, pv, h1, hok⟩ := h
  have c2 : w.cell? ⟨B, 2, none⟩ = some (.map (some bn)) := blk_cell (i := 2) h1.blk rfl
  have c5 : w.cell? ⟨B, 5, none⟩ = some (.bool d.dead) := blk_cell (i := 5) h1.blk rfl
  rw [hd] at c5
  obtain ⟨a, n, c, hk, hlook⟩ := h1.now.look s hs
  have hlk := (hlook w rfl).2
  have hv := Dsk.val_le h1.now.apart s
  have hsz : (Dsk.val d.now s).length ≤ 16777216 := by have := hok.room; have := hok.small'; omega
  obtain ⟨L, hL⟩ : ∃ L, Dsk.val d.now s = L := ⟨_, rfl⟩
  obtain ⟨Is, hI⟩ : ∃ Is, (Dsk.get d.now s).isSome = Is := ⟨_, rfl⟩
  unfold ReadAft
  rw [hI] at hlk ⊢
  rw [hL] at hk hsz ⊢
  obtain rfl : n = L.length := hk.len.symm
  clear h1 hok hlook hd hv hL hI
  go_enter Tryd.func100, Tryd.ntmps100
  go_wp2_with fail
  refine (clone_any w a _ c L hk.rds hk.none (by omega)).mono ?_
  rintro e w1 ⟨a', c', rfl, hown, hb⟩
  go_wp2
  go_ret2
  exact ⟨a', c', rfl, hown, hb⟩
set_option maxHeartbeats 1000000 in
set_option maxRecDepth 100000 in
theorem sync_any (w : World) (lo B : Nat) (d : Dsk.Dk) (h : IsDk w lo B d) (hw : d.works ≤ 99999) : Calls Tryd.prog 137 #[.pointer (some ⟨B, 0, none⟩)] w (OpAft w lo B d.sync) := by
  obtain ⟨bd, bn, pv, h1, hok⟩ := h
  have hok' := hok.sync hw
  have hone := one_any w lo B bd bn pv d h1 hok.fuse (by omega)
  have hpn := Lib.hid d.one_same
  have H1 := Lib.hid h1
  cases ho : d.one.2 with
  | false =>
    have e : d.sync = (d.one.1, 7) := by unfold Dsk.Dk.sync; rw [if_neg (by rw [ho]; simp)]
    rw [e] at hok' ⊢
    rw [ho] at hone
    clear e ho hok h1
    go_enter Tryd.func137, Tryd.ntmps137
    go_wp2_with fail
    refine hone.mono ?_
    rintro e w2 ⟨rfl, h2, t2⟩
    rw [if_neg (by simp)]
    go_wp2
    go_ret
    obtain ⟨f1, f2⟩ := H1.out.frames (t2.mono (fun k _ e => .inl e))
    exact ⟨rfl, ⟨bd, bn, pv, h2, hok'⟩, f1, f2⟩
  | true =>
    have e : d.sync = ({ d.one.1 with done := d.now, pend := [] }, 0) := by unfold Dsk.Dk.sync; rw [if_pos ho]
    rw [e] at hok' ⊢
    rw [ho] at hone
    have HOK := Lib.hid hok'
    clear e ho hok h1 hok'
    go_enter Tryd.func137, Tryd.ntmps137
    go_wp2_with fail
    refine hone.mono ?_
    rintro e w2 ⟨rfl, h2, t2⟩
    rw [if_pos trivial]
    have c2 : w2.cell? ⟨B, 2, none⟩ = some (.map (some bn)) := blk_cell (i := 2) h2.blk rfl
    have hcl := mclone_any w2 bn _ h2.now
    have hlt2 := blk_lt h2.blk
    have H2 := Lib.hid h2
    clear h2 hone
    go_wp2_with fail
    refine hcl.mono ?_
    rintro e w3 ⟨rfl, hf3, hb3⟩
    have h3 := H2.out.below hb3
    have hH : lo ≤ w2.heap.size := by have := H2.out.bnd.1; omega
    have hnH : w2.heap.size ≠ bn := by have := H2.out.now.lt; omega
    have f1 := blk_free h3.blk 1
    have c1 : w3.cell? ⟨B, 1, none⟩ = some (.map (some bd)) := blk_cell (i := 1) h3.blk rfl
    have h4 := h3.reset (d' := { d.one.1 with done := d.one.1.now }) 1 (.map (some w2.heap.size)) rfl ⟨hH, h3.bnd.2.2⟩ hnH hf3 h3.now h3.pend
    have f3 := blk_free h4.blk 3
    have c3 : (w3.setCell ⟨B, 1, none⟩ (.map (some w2.heap.size))).cell? ⟨B, 3, none⟩ = some pv := blk_cell (i := 3) h4.blk rfl
    have c3' : w3.cell? ⟨B, 3, none⟩ = some pv := blk_cell (i := 3) h3.blk rfl
    have h5 := h4.reset (d' := { d.one.1 with done := d.one.1.now, pend := [] }) 3 (.slice none 0 0) rfl ⟨hH, h3.bnd.2.2⟩ hnH h4.done h4.now (Pends.nil _ _)
    have t5 : TStay (fun k => k = B) w2 ((w3.setCell ⟨B, 1, none⟩ (.map (some w2.heap.size))).setCell ⟨B, 3, none⟩ (.slice none 0 0)) :=
      ((TStay.of_below hb3 (fun k => k = B)).setCell (p := ⟨B, 1, none⟩) (.inl rfl) _).setCell (p := ⟨B, 3, none⟩) (.inl rfl) _
    have H5 := Lib.hid h5
    have HT := Lib.hid t5
    clear h3 h4 h5 t5 hcl hf3
    go_wp2
    go_ret
    obtain ⟨g1, g2⟩ := H1.out.frames ((t2.trans HT.out (fun _ _ h => h)).mono (fun k _ e => .inl e))
    have h5 := H5.out
    have e2 := hpn.out.2.1
    rw [show ({ d.one.1 with done := d.one.1.now, pend := [] } : Dsk.Dk) = { d.one.1 with done := d.now, pend := [] } from by rw [e2]] at h5
    exact ⟨rfl, ⟨_, bn, _, h5, HOK.out⟩, g1, g2⟩
theorem rest_any (w : World) (n m : Int) (hm : 0 < m) (hm1 : m ≤ 1099511627776) :
    Calls Tryd.prog 97 #[.int .i64 n, .int .i64 m] w fun e w' => e = .returned (.int .i64 (n % m)) ∧ w' = w := by
  have h1 : -m < n.tmod m := by have := Int.tmod_lt_of_pos (-n) hm; rw [Int.neg_tmod] at this; omega
  have h2 := Int.tmod_lt_of_pos n hm
  have hw1 := wrapi' (n.tmod m) (by omega)
  have hw2 := wrapi' (n.tmod m + m) (by omega)
  have h3 : (n.tmod m + m).tmod m = n % m := by
    rw [Int.tmod_eq_emod_of_nonneg (by omega), Int.add_emod_right, Int.tmod_eq_emod]
    split
    · simp
    · rw [Int.sub_emod]; simp
      have e : (m.natAbs : Int) = m := by omega
      rw [e]; simp
  have hw3 := wrapi' (n % m) (by have := Int.emod_nonneg n (show m ≠ 0 by omega); have := Int.emod_lt_of_pos n hm; omega)
  have hne : (m == 0) = false := by simp; omega
  clear h1 h2
  go_enter Tryd.func97, Tryd.ntmps97
  go_wp2
  go_ret
  exact ⟨by first | rfl | simp [h3], rfl⟩
end Go.Proofs.YtdlpehlgmfhheaaDoor
