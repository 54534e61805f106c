/- Pending, Works, Read, Sync, rest. -/
import Derived.Test.YthampbiabkfmoaaGreatDoorDskPut
namespace Go.Proofs.YthampbiabkfmoaaGreatDoor
open Go.RowKit Go.Tap Go.Maps
set_option linter.unusedVariables false
attribute [local go_sem ↓] Go.wp_at_zero Go.wp_at_succ

/-- A field laid anew, whatever it leads to. -/
theorem IsAt.reset {w : World} {lo B bd bn bd' bn' : Nat} {pv pv' : Value} {d d' : Dsk.Dk} (h : IsAt w lo B bd bn pv d) (i : Nat) (u : Value) (hc : (Dcells d bd bn pv).setIfInBounds i u = Dcells d' bd' bn' pv')
    (hl : lo ≤ bd' ∧ lo ≤ bn') (hne : bd' ≠ bn') (hd : FsIs w bd' d'.done) (hn : FsIs w bn' d'.now) (hp : Pends w lo pv' d'.pend) : IsAt (w.setCell ⟨B, i, none⟩ u) lo B bd' bn' pv' d' := by
  have hk : KeepU w (w.setCell ⟨B, i, none⟩ u) := KeepU.setCell (p := ⟨B, i, none⟩) h.blk (by decide) u
  have ho : ∀ k, k ≠ B → (w.setCell ⟨B, i, none⟩ u).heap[k]? = w.heap[k]? := fun k hne => by
    by_cases hlt : k < w.heap.size
    · exact ((TStay.refl (fun k => k = B) w).setCell (p := ⟨B, i, none⟩) (.inl rfl) u).block k hlt hne
    · rw [Array.getElem?_eq_none (by have := hlt; simp; omega), Array.getElem?_eq_none (by omega)]
  obtain ⟨e1, c1, h1⟩ := hd.blk
  obtain ⟨e2, c2, h2⟩ := hn.blk
  obtain ⟨xs, hx⟩ := hp.own
  refine ⟨by rw [← hc]; exact heap_setCell_same w B i _ _ u h.blk, ⟨h.bnd.1, hl.1, hl.2⟩, hne, hd.stay (ho _ (fun e => by subst e; rw [h.blk] at h1; cases h1)) hk, hn.stay (ho _ (fun e => by subst e; rw [h.blk] at h2; cases h2)) hk, hp.stay hk (fun k e => ho k (fun e' => by subst e'; exact own_ne' hx h.blk (by decide) e))⟩

/-- What Read tells of a file. -/
def ReadAft (w : World) (d : Dsk.Dk) (s : List UInt8) (e : Ending) (w' : World) : Prop :=
  ∃ a c, e = .returned (.tuple #[.slice a (Dsk.val d.now s).length c, .bool (Dsk.get d.now s).isSome]) ∧ w'.ownsRow w.heap.size 5 1 (.slice a (Dsk.val d.now s).length c) (Dsk.val d.now s).length (bv (Dsk.val d.now s)) ∧ Below w.heap.size w w'
set_option maxHeartbeats 1000000 in
set_option maxRecDepth 100000 in
theorem read_any (w : World) (lo B : Nat) (d : Dsk.Dk) (h : IsDk w lo B d) (hd : d.dead = false) (s : List UInt8) (hs : s.length ≤ 1048576) :
    Calls Tryz.prog 17 #[.pointer (some ⟨B, 0, none⟩), .string (str s)] w (ReadAft w d s) := by
  obtain ⟨bd, bn, pv, h1, hok⟩ := h
  have c2 : w.cell? ⟨B, 2, none⟩ = some (.map (some bn)) := blk_cell (i := 2) h1.blk rfl
  have c5 : w.cell? ⟨B, 5, none⟩ = some (.bool d.dead) := blk_cell (i := 5) h1.blk rfl
  rw [hd] at c5
  obtain ⟨a, n, c, hk, hlook⟩ := h1.now.look s hs
  have hlk := (hlook w rfl).2
  have hv := Dsk.val_le h1.now.apart s
  have hsz : (Dsk.val d.now s).length ≤ 16777216 := by have := hok.room; have := hok.small'; omega
  obtain ⟨L, hL⟩ : ∃ L, Dsk.val d.now s = L := ⟨_, rfl⟩
  obtain ⟨Is, hI⟩ : ∃ Is, (Dsk.get d.now s).isSome = Is := ⟨_, rfl⟩
  unfold ReadAft
  rw [hI] at hlk ⊢
  rw [hL] at hk hsz ⊢
  obtain rfl : n = L.length := hk.len.symm
  clear h1 hok hlook hd hv hL hI
  go_enter Tryz.func17, Tryz.ntmps17
  go_wp2_with fail
  refine (clone_any w a _ c L hk.rds hk.none (by omega)).mono ?_
  rintro e w1 ⟨a', c', rfl, hown, hb⟩
  go_wp2
  go_ret2
  exact ⟨a', c', rfl, hown, hb⟩
end Go.Proofs.YthampbiabkfmoaaGreatDoor
/- there, Rename, Remove, Truncate. -/
namespace Go.Proofs.YthampbiabkfmoaaGreatDoor
open Go.RowKit Go.Tap Go.Maps
set_option linter.unusedVariables false
attribute [local go_sem ↓] Go.wp_at_zero Go.wp_at_succ

namespace Dsk
def Dk.there (d : Dk) (s : Name) : Nat := if d.dead = true then 7 else if (get d.now s).isSome = true then 0 else 11
def Dk.rename (d : Dk) (s t : Name) : Dk × Nat := if d.there s = 0 then d.putr ⟨2, s, t, [], 0⟩ (Dsk.put (Dsk.del d.now s) t (Dsk.val d.now s)) else (d, d.there s)
def Dk.remove (d : Dk) (s : Name) : Dk × Nat := if d.there s = 0 then d.putr ⟨3, s, [], [], 0⟩ (Dsk.del d.now s) else (d, d.there s)
def Dk.trunc (d : Dk) (s : Name) (n : Int) : Dk × Nat :=
  if d.there s = 0 then (if n < 0 ∨ ((Dsk.val d.now s).length : Int) < n then (d, 1) else d.putr ⟨1, s, [], [], n.toNat⟩ (Dsk.put d.now s ((Dsk.val d.now s).take n.toNat))) else (d, d.there s)
theorem ren2 {d : Dk} (h : Ok d) (ha : Apart d.now) (s t : Name) : do2 d.room d.now ⟨2, s, t, [], 0⟩ = some (Dsk.put (Dsk.del d.now s) t (Dsk.val d.now s)) := by
  have h1 := used_put (apart_del ha s) t (Dsk.val d.now s)
  have h2 := used_del ha s
  have h3 := h.small'
  have h4 := len_put (Dsk.del d.now s) t (Dsk.val d.now s)
  have h5 := len_del d.now s
  have h6 := h.len
  have h7 := h.works
  unfold do2 do1
  simp only
  rw [if_pos ⟨by omega, by omega⟩]
theorem rem2 {d : Dk} (h : Ok d) (ha : Apart d.now) (s : Name) : do2 d.room d.now ⟨3, s, [], [], 0⟩ = some (Dsk.del d.now s) := by
  have h2 := used_del ha s
  have h3 := h.small'
  have h5 := len_del d.now s
  have h6 := h.len
  have h7 := h.works
  unfold do2 do1
  simp only
  rw [if_pos ⟨by omega, by omega⟩]
theorem cut2 {d : Dk} (h : Ok d) (ha : Apart d.now) (s : Name) (n : Nat) (hn : n ≤ (Dsk.val d.now s).length) : do2 d.room d.now ⟨1, s, [], [], n⟩ = some (Dsk.put d.now s ((Dsk.val d.now s).take n)) := by
  have h1 := used_put ha s ((Dsk.val d.now s).take n)
  rw [List.length_take] at h1
  have h3 := h.small'
  have h4 := len_put d.now s ((Dsk.val d.now s).take n)
  have h6 := h.len
  have h7 := h.works
  unfold do2 do1
  simp only
  rw [if_pos hn]
  simp only
  rw [if_pos ⟨by omega, by omega⟩]
end Dsk
set_option maxHeartbeats 1000000 in
set_option maxRecDepth 100000 in
theorem there_any (w : World) (lo B : Nat) (d : Dsk.Dk) (h : IsDk w lo B d) (s : List UInt8) (hs : s.length ≤ 1048576) :
    Calls Tryz.prog 38 #[.pointer (some ⟨B, 0, none⟩), .string (str s)] w fun e w' => e = .returned (errv (d.there s)) ∧ w' = w := by
  obtain ⟨bd, bn, pv, h1, hok⟩ := h
  have c2 : w.cell? ⟨B, 2, none⟩ = some (.map (some bn)) := blk_cell (i := 2) h1.blk rfl
  have c5 : w.cell? ⟨B, 5, none⟩ = some (.bool d.dead) := blk_cell (i := 5) h1.blk rfl
  obtain ⟨a, n, c, _, hlook⟩ := h1.now.look s hs
  have hlk := (hlook w rfl).2
  clear hlook
  cases hd : d.dead with
  | true =>
    have e : d.there s = 7 := by unfold Dsk.Dk.there; rw [if_pos hd]
    rw [e]
    rw [hd] at c5
    clear e hd h1 hok
    go_enter Tryz.func38, Tryz.ntmps38
    go_wp2
    go_ret
    exact ⟨rfl, rfl⟩
  | false =>
    rw [hd] at c5
    cases hg : (Dsk.get d.now s).isSome with
    | true =>
      have e : d.there s = 0 := by unfold Dsk.Dk.there; rw [if_neg (by rw [hd]; simp), if_pos hg]
      rw [e]
      rw [hg] at hlk
      clear e hd h1 hok hg
      go_enter Tryz.func38, Tryz.ntmps38
      go_wp2
      go_ret
      exact ⟨rfl, rfl⟩
    | false =>
      have e : d.there s = 11 := by unfold Dsk.Dk.there; rw [if_neg (by rw [hd]; simp), if_neg (by rw [hg]; simp)]
      rw [e]
      rw [hg] at hlk
      clear e hd h1 hok hg
      go_enter Tryz.func38, Tryz.ntmps38
      go_wp2
      go_ret
      exact ⟨rfl, rfl⟩
theorem there_cases (d : Dsk.Dk) (s : Dsk.Name) : d.there s = 0 ∨ (d.there s = 7 ∨ d.there s = 11) := by
  unfold Dsk.Dk.there; split
  · exact .inr (.inl rfl)
  · split
    · exact .inl rfl
    · exact .inr (.inr rfl)
set_option maxHeartbeats 2000000 in
set_option maxRecDepth 100000 in
theorem trunc_any (w : World) (lo B : Nat) (d : Dsk.Dk) (h : IsDk w lo B d) (hw : d.works ≤ 99999) (s : List UInt8) (hs : Dsk.good s) (n : Int) :
    Calls Tryz.prog 20 #[.pointer (some ⟨B, 0, none⟩), .string (str s), .int .i64 n] w (OpAft w lo B (d.trunc s n)) := by
  have hth := there_any w lo B d h s (by have := hs.2; omega)
  have H := Lib.hid h
  have hput : Dsk.Dk.there d s = 0 → ∀ m : Nat, n = (m : Int) → m ≤ (Dsk.val d.now s).length → Calls Tryz.prog 39 #[.pointer (some ⟨B, 0, none⟩), .agg #[.int .i64 1, .string (str s), .string ⟨#[]⟩, .slice none 0 0, .int .i64 (m : Int)]] w (OpAft w lo B (d.trunc s n)) := fun e m hm hm2 => by
    obtain ⟨bd, bn, pv, h1, hok⟩ := h
    have := putr_any w lo B d H.out hw ⟨1, s, [], [], m⟩ (by simp) ⟨hs.2, by simp⟩ none 0 (Keeps.nil w) (by simp) _ (Dsk.cut2 hok h1.now.apart s m hm2)
    unfold Dsk.Dk.trunc
    rw [if_pos e, if_neg (by omega), show n.toNat = m by omega]
    exact this
  obtain ⟨bd, bn, pv, h1, hok⟩ := h
  have c2 : w.cell? ⟨B, 2, none⟩ = some (.map (some bn)) := blk_cell (i := 2) h1.blk rfl
  obtain ⟨a, L, c, hk, hlook⟩ := h1.now.look s (by have := hs.2; omega)
  have hlk := (hlook w rfl).1
  have hL := hk.len
  clear h1 hok hlook hk
  rcases there_cases d s with e | e
  · rw [e] at hth
    by_cases hneg : n < 0
    · have hr : d.trunc s n = (d, 1) := by unfold Dsk.Dk.trunc; rw [if_pos e, if_pos (.inl hneg)]
      have d0 : decide (n < 0) = true := decide_eq_true hneg
      rw [hr]
      clear hput hr hneg hL
      go_enter Tryz.func20, Tryz.ntmps20
      go_wp2_with fail
      refine (named_any w s hs).mono ?_
      rintro e w1 ⟨rfl, rfl⟩
      go_wp2_with fail
      refine hth.mono ?_
      rintro e w' ⟨rfl, rfl⟩
      rw [show errv 0 = .nilIface from rfl]
      go_wp2
      go_ret
      exact OpAft.same H.out (by omega)
    · obtain ⟨m, rfl⟩ := Int.eq_ofNat_of_zero_le (show 0 ≤ n by omega)
      have d0 : decide ((m : Int) < 0) = false := decide_eq_false hneg
      by_cases hbig : L < m
      · have hr : d.trunc s (m : Int) = (d, 1) := by unfold Dsk.Dk.trunc; rw [if_pos e, if_pos (.inr (by omega))]
        have d1 : decide ((L : Int) < (m : Int)) = true := decide_eq_true (by omega)
        have d1' : decide (L < m) = true := decide_eq_true hbig
        rw [hr]
        clear hput hr hneg hL hbig
        go_enter Tryz.func20, Tryz.ntmps20
        go_wp2_with fail
        refine (named_any w s hs).mono ?_
        rintro e w1 ⟨rfl, rfl⟩
        go_wp2_with fail
        refine hth.mono ?_
        rintro e w' ⟨rfl, rfl⟩
        rw [show errv 0 = .nilIface from rfl]
        go_wp2
        go_ret
        exact OpAft.same H.out (by omega)
      · have d1 : decide ((L : Int) < (m : Int)) = false := decide_eq_false (by omega)
        have d1' : decide (L < m) = false := decide_eq_false hbig
        have hput' := hput e m rfl (by omega)
        clear hput hneg hL hbig
        go_enter Tryz.func20, Tryz.ntmps20
        go_wp2_with fail
        refine (named_any w s hs).mono ?_
        rintro e w1 ⟨rfl, rfl⟩
        go_wp2_with fail
        refine hth.mono ?_
        rintro e w' ⟨rfl, rfl⟩
        rw [show errv 0 = .nilIface from rfl]
        go_wp2_with fail
        refine hput'.mono ?_
        intro e w4 h4
        have h4' := h4
        obtain ⟨rfl, _⟩ := h4
        go_wp2
        go_ret
        exact h4'
  · have hr : d.trunc s n = (d, d.there s) := by unfold Dsk.Dk.trunc; rw [if_neg (by omega)]
    rw [hr]
    clear hput hr hL
    obtain ⟨q, hq, hq0⟩ : ∃ q, d.there s = q ∧ q ≠ 0 := ⟨_, rfl, by omega⟩
    have he : errv q = .iface 65 (.int .i64 (q : Int)) := if_neg hq0
    rw [hq, he] at hth
    rw [hq]
    clear hq e he
    go_enter Tryz.func20, Tryz.ntmps20
    go_wp2_with fail
    refine (named_any w s hs).mono ?_
    rintro e w1 ⟨rfl, rfl⟩
    go_wp2_with fail
    refine hth.mono ?_
    rintro e w' ⟨rfl, rfl⟩
    go_wp2
    go_ret
    exact OpAft.same H.out hq0
end Go.Proofs.YthampbiabkfmoaaGreatDoor
