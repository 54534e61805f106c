/- Append, Pending, Works, Read, Sync. -/
import Derived.Test.YtdlpehlgmfhheaaDoorDskOp
namespace Go.Proofs.YtdlpehlgmfhheaaDoor
open Go.RowKit Go.Tap Go.Maps
set_option linter.unusedVariables false
attribute [local go_sem ↓] Go.wp_at_zero Go.wp_at_succ

namespace Dsk
def Dk.putr (d : Dk) (x : Wk) (g : Files) : Dk × Nat := if d.one.2 = true then ({ d.one.1 with pend := d.pend ++ [x], now := g }, 0) else (d.one.1, 7)
theorem Ok.putr {d : Dk} (h : Ok d) (hw : d.works ≤ 99999) (x : Wk) (hn : (x.name.length ≤ 20 ∧ x.dst.length ≤ 20) ∧ x.kind ≤ 3 ∧ x.b.length ≤ 16777216) (g : Files) (hd : do2 d.room d.now x = some g) : Ok (d.putr x g).1 := by
  have := h.put hw x hn g hd
  unfold Dk.put at this
  unfold Dk.putr
  split
  · rename_i h1; rw [if_pos h1] at this; exact this
  · rename_i h1; rw [if_neg h1] at this; exact this
def Dk.append (d : Dk) (s : Name) (l : List UInt8) : Dk × Nat :=
  if d.dead = true then (d, 7) else if d.room < used d.now + l.length then (d, 6) else d.putr ⟨0, s, [], l, 0⟩ (Dsk.put d.now s (Dsk.val d.now s ++ l))
def Dk.sync (d : Dk) : Dk × Nat := if d.one.2 = true then ({ d.one.1 with done := d.now, pend := [] }, 0) else (d.one.1, 7)
theorem Ok.sync {d : Dk} (h : Ok d) (hw : d.works ≤ 99999) : Ok d.sync.1 := by
  unfold Dk.sync
  obtain ⟨e1, e2, e3, e4⟩ := d.one_same
  have h6 := d.one_works
  have h5 := d.one_fuse h.fuse
  split
  · exact ⟨by show some d.now = some d.one.1.now; rw [e2], by show d.one.1.room ≤ _; rw [e4]; exact h.room, by show used d.now ≤ d.one.1.room ∧ d.now.length ≤ 1000000; rw [e4]; exact ⟨h.small', by have := h.len; omega⟩, by show used d.one.1.now ≤ d.one.1.room; rw [e2, e4]; exact h.small', by show d.one.1.now.length ≤ d.one.1.works; rw [e2]; exact Nat.le_trans h.len h6.1, by show d.now.length + 0 ≤ d.one.1.works; have := h.len; have := h6.1; omega, fun x hx => by simp at hx, by show d.one.1.works ≤ _; omega, h5⟩
  · exact h.one hw
end Dsk
/-- Behind a call that may fail. -/
def OpAft (w : World) (lo B : Nat) (r : Dsk.Dk × Nat) (e : Ending) (w' : World) : Prop := e = .returned (errv r.2) ∧ IsDk w' lo B r.1 ∧ Below lo w w' ∧ KeepT w w'
theorem OpAft.same {w : World} {lo B : Nat} {d : Dsk.Dk} {k : Nat} (h : IsDk w lo B d) (hk : k ≠ 0) : OpAft w lo B (d, k) (.returned (.iface 61 (.int .i64 (k : Int)))) w :=
  ⟨by show _ = Ending.returned (errv k); rw [errv, if_neg hk], h, Below.refl _ _, KeepT.refl _⟩
theorem putr_any (w : World) (lo B : Nat) (d : Dsk.Dk) (h : IsDk w lo B d) (hw : d.works ≤ 99999) (x : Dsk.Wk) (hk3 : x.kind ≤ 3) (hn : x.name.length ≤ 20 ∧ x.dst.length ≤ 20)
    (ad : Option Addr) (c : Nat) (hk : Keeps w ad x.b.length c x.b) (hx : x.b.length ≤ 16777216) (g : Dsk.Files) (hd : Dsk.do2 d.room d.now x = some g) :
    Calls Tryd.prog 143 #[.pointer (some ⟨B, 0, none⟩), .agg #[.int .i64 (x.kind : Int), .string (str x.name), .string (str x.dst), .slice ad x.b.length c, .int .i64 (x.n : Int)]] w (OpAft w lo B (d.putr x g)) := by
  obtain ⟨bd, bn, pv, h1, hok⟩ := h
  have hok' := hok.putr hw x ⟨hn, hk3, hx⟩ g hd
  cases ho : d.one.2 with
  | false =>
    have e : d.putr x g = (d.one.1, 7) := by unfold Dsk.Dk.putr; rw [if_neg (by rw [ho]; simp)]
    rw [e] at hok' ⊢
    refine (put_no w lo B bd bn pv d h1 hok hw x hk3 hn ad c hk hx g hd ho).mono ?_
    rintro e w' ⟨rfl, h2, t2⟩
    obtain ⟨f1, f2⟩ := h1.frames t2
    exact ⟨rfl, ⟨bd, bn, pv, h2, hok'⟩, f1, f2⟩
  | true =>
    have e : d.putr x g = ({ d.one.1 with pend := d.pend ++ [x], now := g }, 0) := by unfold Dsk.Dk.putr; rw [if_pos ho]
    rw [e] at hok' ⊢
    refine (put_yes w lo B bd bn pv d h1 hok hw x hk3 hn ad c hk hx g hd ho).mono ?_
    rintro e w' ⟨rfl, ⟨pv', h2⟩, t2⟩
    obtain ⟨f1, f2⟩ := h1.frames t2
    exact ⟨rfl, ⟨bd, bn, pv', h2, hok'⟩, f1, f2⟩
theorem OpAft.pre {w w1 w' : World} {lo B : Nat} {r : Dsk.Dk × Nat} {e : Ending} (h : OpAft w1 lo B r e w') (hb : Below w.heap.size w w1) (hlo : lo ≤ w.heap.size) : OpAft w lo B r e w' :=
  ⟨h.1, h.2.1, (hb.mono hlo).trans h.2.2.1, (KeepT.below hb (Nat.le_refl _)).trans h.2.2.2⟩
theorem IsDk.lo_le {w : World} {lo B : Nat} {d : Dsk.Dk} (h : IsDk w lo B d) : lo ≤ w.heap.size := by
  obtain ⟨bd, bn, pv, h1, _⟩ := h
  have := h1.bnd.1; have := blk_lt h1.blk; omega
set_option maxHeartbeats 4000000 in
set_option maxRecDepth 100000 in
theorem append_any (w : World) (lo B : Nat) (d : Dsk.Dk) (h : IsDk w lo B d) (hw : d.works ≤ 99999) (s : List UInt8) (hs : Dsk.good s) (a : Option Addr) (n c : Nat) (l : List UInt8) (hr : Rds w a n l) (hz : a = none → c = 0) (hn : n ≤ 140737488355328) :
    Calls Tryd.prog 136 #[.pointer (some ⟨B, 0, none⟩), .string (str s), .slice a n c] w (OpAft w lo B (d.append s l)) := by
  have hl := hr.1
  have hlo := h.lo_le
  have H := Lib.hid h
  obtain ⟨bd, bn, pv, h1, hok⟩ := h
  have c0 : w.cell? ⟨B, 0, none⟩ = some (.int .i64 (d.room : Int)) := blk_cell (i := 0) h1.blk rfl
  have c2 : w.cell? ⟨B, 2, none⟩ = some (.map (some bn)) := blk_cell (i := 2) h1.blk rfl
  have c5 : w.cell? ⟨B, 5, none⟩ = some (.bool d.dead) := blk_cell (i := 5) h1.blk rfl
  have hn1 := h1.now
  have hlt := blk_lt h1.blk
  have hroom := hok.room
  have hused := hok.small'
  have hnl := hok.len
  have hap := h1.now.apart
  have HR := Lib.hid hr
  cases hd : d.dead with
  | true =>
    have e : d.append s l = (d, 7) := by unfold Dsk.Dk.append; rw [if_pos hd]
    rw [e]
    rw [hd] at c5
    clear e hd h1 hok hr
    go_enter Tryd.func136, Tryd.ntmps136
    go_wp2_with fail
    refine (named_any w s hs).mono ?_
    rintro e w1 ⟨rfl, rfl⟩
    go_wp2
    go_ret
    exact OpAft.same H.out (by omega)
  | false =>
    rw [hd] at c5
    have hq := used_any w.drew bn d.now (hn1.stay rfl (KeepU.drew _)) (by omega)
    by_cases hfull : d.room < Dsk.used d.now + l.length
    · have e : d.append s l = (d, 6) := by unfold Dsk.Dk.append; rw [if_neg (by rw [hd]; simp), if_pos hfull]
      have hw1 := wrapi' ((d.room : Int) - (Dsk.used d.now : Int)) (by omega)
      have hdd : decide ((d.room : Int) - (Dsk.used d.now : Int) < (n : Int)) = true := decide_eq_true (by omega)
      rw [e]
      obtain ⟨R, hR⟩ : ∃ R : Int, (d.room : Int) = R := ⟨_, rfl⟩
      obtain ⟨U, hU⟩ : ∃ U : Nat, Dsk.used d.now = U := ⟨_, rfl⟩
      rw [hU] at hw1 hdd hq
      rw [hR] at c0 hw1 hdd
      clear e hd h1 hok hr hfull hR hU hroom hused
      go_enter Tryd.func136, Tryd.ntmps136
      go_wp2_with fail
      refine (named_any w s hs).mono ?_
      rintro e w1 ⟨rfl, rfl⟩
      go_wp2_with fail
      go_region_held3 (fun w' => w'.cell? ⟨B, 0, none⟩ = some (.int .i64 R) ∧ w'.cell? ⟨B, 2, none⟩ = some (.map (some bn)))
        (first | exact ⟨c0', c2'⟩ | exact ⟨c0, c2⟩)
        ((go_at_call 157; refine hq.mono ?_; rintro e w2 ⟨rfl, hb2⟩; have c0' : w2.cell? ⟨B, 0, none⟩ = some (.int .i64 R) := (World.cell?_of_block (hb2.block B hlt)).trans c0; have c2' : w2.cell? ⟨B, 2, none⟩ = some (.map (some bn)) := (World.cell?_of_block (hb2.block B hlt)).trans c2))
      go_wp2
      go_ret
      have hb3 : Below w1.heap.size w1 w2 := ⟨hb2.os, hb2.tape, hb2.output, hb2.size, hb2.block⟩
      exact (OpAft.same (H.out.below hb3) (by omega)).pre hb3 hlo
    · have e : d.append s l = d.putr ⟨0, s, [], l, 0⟩ (Dsk.put d.now s (Dsk.val d.now s ++ l)) := by unfold Dsk.Dk.append; rw [if_neg (by rw [hd]; simp), if_neg hfull]
      have hw1 := wrapi' ((d.room : Int) - (Dsk.used d.now : Int)) (by omega)
      have hdd : decide ((d.room : Int) - (Dsk.used d.now : Int) < (n : Int)) = false := decide_eq_false (by omega)
      have hdo : Dsk.do2 d.room d.now ⟨0, s, [], l, 0⟩ = some (Dsk.put d.now s (Dsk.val d.now s ++ l)) := by
        have h1 := Dsk.used_put hap s (Dsk.val d.now s ++ l)
        rw [List.length_append] at h1
        have h2 := Dsk.len_put d.now s (Dsk.val d.now s ++ l)
        unfold Dsk.do2 Dsk.do1
        simp only
        rw [if_pos ⟨by omega, by omega⟩]
      have hn2 : l.length ≤ 16777216 := by omega
      rw [e]
      obtain ⟨R, hR⟩ : ∃ R : Int, (d.room : Int) = R := ⟨_, rfl⟩
      obtain ⟨U, hU⟩ : ∃ U : Nat, Dsk.used d.now = U := ⟨_, rfl⟩
      rw [hU] at hw1 hdd hq
      rw [hR] at c0 hw1 hdd
      have HDO := Lib.hid hdo
      have HL := Lib.hid hl
      have HN2 := Lib.hid hn2
      clear e hd h1 hok hr hfull hR hU hroom hused hdo hl hn2
      go_enter Tryd.func136, Tryd.ntmps136
      go_wp2_with fail
      refine (named_any w s hs).mono ?_
      rintro e w1 ⟨rfl, rfl⟩
      go_wp2_with fail
      go_region_held3 (fun w' => w'.cell? ⟨B, 0, none⟩ = some (.int .i64 R) ∧ w'.cell? ⟨B, 2, none⟩ = some (.map (some bn)))
        (first | exact ⟨c0', c2'⟩ | exact ⟨c0, c2⟩)
        ((go_at_call 157; refine hq.mono ?_; rintro e w2 ⟨rfl, hb2⟩; have c0' : w2.cell? ⟨B, 0, none⟩ = some (.int .i64 R) := (World.cell?_of_block (hb2.block B hlt)).trans c0; have c2' : w2.cell? ⟨B, 2, none⟩ = some (.map (some bn)) := (World.cell?_of_block (hb2.block B hlt)).trans c2))
      have hb3 : Below w1.heap.size w1 w2 := ⟨hb2.os, hb2.tape, hb2.output, hb2.size, hb2.block⟩
      clear hb2 c0' c2'
      go_wp2_with fail
      refine (clone_any w2 a n c l (HR.out.below hb3 (fun h0 b o e => by subst e; exact HR.out.lt h0)) hz (by omega)).mono ?_
      rintro e w3 ⟨a', c', rfl, hown, hb4⟩
      have hb5 := hb3.trans (hb4.mono hb3.size)
      have hk3 : Keeps w3 a' l.length c' l := by have := Keeps.of_own (by rw [HL.out]; exact hown) HL.out; rw [HL.out]; exact this
      have hput := putr_any w3 lo B d (H.out.below hb5) hw ⟨0, s, [], l, 0⟩ (by simp) ⟨hs.2, by simp⟩ a' c' hk3 HN2.out _ HDO.out
      rw [show (Dsk.Wk.mk 0 s [] l 0).b.length = n from HL.out] at hput
      clear hb3 hb4 hown hk3
      go_wp2_with fail
      refine hput.mono ?_
      rintro e w4 h4
      obtain ⟨v, hv⟩ : ∃ v, v = errv (d.putr ⟨0, s, [], l, 0⟩ (Dsk.put d.now s (Dsk.val d.now s ++ l))).2 := ⟨_, rfl⟩
      have h4' := h4.pre hb5 hlo
      obtain ⟨rfl, _⟩ := h4
      go_wp2
      go_ret
      exact h4'
end Go.Proofs.YtdlpehlgmfhheaaDoor
