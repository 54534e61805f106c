/- The reference's SaveRoot and LoadRoot. -/
import Derived.Test.YtggdbdjaobgeeaaGreatDoorDpOps
import Derived.Test.YtggdbdjaobgeeaaGreatDoorRtSaveW
import Derived.Test.YtggdbdjaobgeeaaGreatDoorRtRdRef
namespace Go.Proofs.YtggdbdjaobgeeaaGreatDoor
open Go.RowKit Go.Tap Go.Maps
set_option linter.unusedVariables false
set_option linter.unusedSimpArgs false

namespace Dsk
theorem Ok.app {d : Dk} (h : Ok d) (ha : Apart d.now) (hw : d.works ≤ 99999) (s : Name) (hs : good s) (l : List UInt8) : Ok (d.append s l).1 := by
  unfold Dk.append
  split
  · exact h
  · split
    · exact h
    · rename_i hfull
      have hr := h.room
      have hu := h.small'
      have hn := h.len
      have hdo : do2 d.room d.now ⟨0, s, [], l, 0⟩ = some (Dsk.put d.now s (Dsk.val d.now s ++ l)) := by
        have h1 := Dsk.used_put ha s (Dsk.val d.now s ++ l)
        rw [List.length_append] at h1
        have h2 := Dsk.len_put d.now s (Dsk.val d.now s ++ l)
        unfold Dsk.do2 Dsk.do1
        simp only
        rw [if_pos ⟨by omega, by omega⟩]
      exact h.putr hw ⟨0, s, [], l, 0⟩ ⟨⟨hs.2, by simp⟩, by simp, by simp only; omega⟩ _ hdo
theorem Ok.rem {d : Dk} (h : Ok d) (ha : Apart d.now) (hw : d.works ≤ 99999) (s : Name) (hs : good s) : Ok (d.remove s).1 := by
  unfold Dk.remove
  split
  · exact h.putr hw ⟨3, s, [], [], 0⟩ ⟨⟨hs.2, by simp⟩, by simp, by simp⟩ _ (rem2 h ha s)
  · exact h
theorem Ok.ren {d : Dk} (h : Ok d) (ha : Apart d.now) (hw : d.works ≤ 99999) (s t : Name) (hs : good s) (ht : good t) : Ok (d.rename s t).1 := by
  unfold Dk.rename
  split
  · exact h.putr hw ⟨2, s, t, [], 0⟩ ⟨⟨hs.2, ht.2⟩, by simp, by simp⟩ _ (ren2 h ha s t)
  · exact h
end Dsk
namespace Ref
open Dsk Rt
/-- A disk's answer and its like's. -/
structure Pair (p : Dk × Nat) (q : Rd × Nat) (n : Nat) : Prop where
  eq : Ref.Eq p.1 q.1
  code : q.2 = p.2
  ok : Ok p.1
  works : p.1.works ≤ n
theorem pair_append {d : Dk} {r : Rd} {n : Nat} (h : Ref.Eq d r) (ho : Ok d) (hw : d.works ≤ n) (hn : n ≤ 99999) (s : Name) (hs : good s) (l : List UInt8) : Pair (d.append s l) (r.append s l) (n + 1) :=
  ⟨(h.append ho s hs l).1, (h.append ho s hs l).2, ho.app (h.now ho).2 (by omega) s hs l, by have := wk_append d s l; omega⟩
theorem pair_remove {d : Dk} {r : Rd} {n : Nat} (h : Ref.Eq d r) (ho : Ok d) (hw : d.works ≤ n) (hn : n ≤ 99999) (s : Name) (hs : good s) : Pair (d.remove s) (r.remove s) (n + 1) :=
  ⟨(h.remove ho s hs).1, (h.remove ho s hs).2, ho.rem (h.now ho).2 (by omega) s hs, by have := wk_remove d s; omega⟩
theorem pair_rename {d : Dk} {r : Rd} {n : Nat} (h : Ref.Eq d r) (ho : Ok d) (hw : d.works ≤ n) (hn : n ≤ 99999) (s t : Name) (hs : good s) (ht : good t) : Pair (d.rename s t) (r.rename s t) (n + 1) :=
  ⟨(h.rename ho s t hs ht).1, (h.rename ho s t hs ht).2, ho.ren (h.now ho).2 (by omega) s t hs ht, by have := wk_rename d s t; omega⟩
theorem pair_sync {d : Dk} {r : Rd} {n : Nat} (h : Ref.Eq d r) (ho : Ok d) (hw : d.works ≤ n) (hn : n ≤ 99999) : Pair d.sync r.sync (n + 1) :=
  ⟨(h.sync ho).1, (h.sync ho).2, ho.sync (by omega), by have := wk_sync d; omega⟩
def bind (p : Rd × Nat) (f : Rd → Rd × Nat) : Rd × Nat := if p.2 = 0 then f p.1 else p
theorem bind_ok {p : Rd × Nat} {f : Rd → Rd × Nat} (h : p.2 = 0) : bind p f = f p.1 := if_pos h
theorem bind_no {p : Rd × Nat} {f : Rd → Rd × Nat} (h : p.2 ≠ 0) : bind p f = p := if_neg h
def Rd.clear (r : Rd) : Rd × Nat := if r.has nmA = true then r.remove nmA else (r, 0)
def Rd.save (r : Rd) (x : List UInt8) : Rd × Nat := Ref.bind r.clear fun r => Ref.bind (r.append nmA x) fun r => Ref.bind r.sync fun r => Ref.bind (r.rename nmA nmR) fun r => r.sync
theorem has_eq {d : Dk} {r : Rd} (h : Ref.Eq d r) (ho : Ok d) (s : Name) : r.has s = true ↔ d.dead = false ∧ (Dsk.get d.now s).isSome = true := by
  unfold Rd.has
  rw [h.dead]
  have hn := h.now ho
  cases hd : d.dead
  · rw [if_neg (by simp), hn.1.get hn.2 s]; simp
  · simp
theorem pair_clear {d : Dk} {r : Rd} {n : Nat} (h : Ref.Eq d r) (ho : Ok d) (hw : d.works ≤ n) (hn : n ≤ 99999) : Pair (Rt.clear d) r.clear (n + 1) := by
  unfold Rt.clear Rd.clear
  by_cases hc : d.dead = false ∧ (Dsk.get d.now nmA).isSome = true
  · rw [if_pos hc, if_pos ((has_eq h ho _).2 hc)]; exact pair_remove h ho hw hn _ goodA
  · rw [if_neg hc, if_neg (fun e => hc ((has_eq h ho _).1 e))]; exact ⟨h, rfl, ho, by show d.works ≤ _; omega⟩
theorem pair_bind {p : Dk × Nat} {q : Rd × Nat} {n k : Nat} {f : Dk → Dk × Nat} {g : Rd → Rd × Nat} (h : Pair p q n) (hnk : n ≤ k) (hf : ∀ d r, Ref.Eq d r → Ok d → d.works ≤ n → Pair (f d) (g r) k) : Pair (Rt.bind p f) (Ref.bind q g) k := by
  by_cases hc : p.2 = 0
  · rw [Rt.bind_ok hc, Ref.bind_ok (h.code.trans hc)]; exact hf _ _ h.eq h.ok h.works
  · rw [Rt.bind_no hc, Ref.bind_no (fun e => hc (h.code.symm.trans e))]; exact ⟨h.eq, h.code, h.ok, by have := h.works; omega⟩
theorem pair_save {d : Dk} {r : Rd} {n : Nat} (h : Ref.Eq d r) (ho : Ok d) (hw : d.works ≤ n) (hn : n ≤ 99900) (x : List UInt8) : Pair (Rt.saveB d x) (r.save x) (n + 5) :=
  pair_bind (pair_clear h ho hw (by omega)) (by omega) fun d r h ho hw => pair_bind (pair_append h ho hw (by omega) _ goodA x) (by omega) fun d r h ho hw => pair_bind (pair_sync h ho hw (by omega)) (by omega) fun d r h ho hw => pair_bind (pair_rename h ho hw (by omega) _ _ goodA goodR) (by omega) fun d r h ho hw => pair_sync h ho hw (by omega)
/-- What SaveRoot does. -/
def Rd.saveR (r : Rd) (t : Root) : Rd × Nat := if may t = true then r.save (lay t) else (r, 1)
/-- What LoadRoot answers. -/
def Rd.loadR (r : Rd) : Except Nat Root := if r.has nmR = true then Rt.read (r.vals nmR) else .error 11
/-- There is a disk that is like it, with few works. -/
def Rw (r : Rd) (n : Nat) : Prop := ∃ d, Ref.Eq d r ∧ Ok d ∧ d.works ≤ n
theorem Rw.ok {r : Rd} {n : Nat} (h : Rw r n) : Rok r := by obtain ⟨d, h1, h2, _⟩ := h; exact ⟨d, h1, h2⟩
theorem Rw.append {r : Rd} {n : Nat} (h : Rw r n) (hn : n ≤ 99999) (s : Name) (hs : good s) (l : List UInt8) : Rw (r.append s l).1 (n + 1) := by
  obtain ⟨d, h1, h2, h3⟩ := h; have p := pair_append h1 h2 h3 hn s hs l; exact ⟨_, p.eq, p.ok, p.works⟩
theorem Rw.remove {r : Rd} {n : Nat} (h : Rw r n) (hn : n ≤ 99999) (s : Name) (hs : good s) : Rw (r.remove s).1 (n + 1) := by
  obtain ⟨d, h1, h2, h3⟩ := h; have p := pair_remove h1 h2 h3 hn s hs; exact ⟨_, p.eq, p.ok, p.works⟩
theorem Rw.rename {r : Rd} {n : Nat} (h : Rw r n) (hn : n ≤ 99999) (s t : Name) (hs : good s) (ht : good t) : Rw (r.rename s t).1 (n + 1) := by
  obtain ⟨d, h1, h2, h3⟩ := h; have p := pair_rename h1 h2 h3 hn s t hs ht; exact ⟨_, p.eq, p.ok, p.works⟩
theorem Rw.sync {r : Rd} {n : Nat} (h : Rw r n) (hn : n ≤ 99999) : Rw r.sync.1 (n + 1) := by
  obtain ⟨d, h1, h2, h3⟩ := h; have p := pair_sync h1 h2 h3 hn; exact ⟨_, p.eq, p.ok, p.works⟩
theorem Rw.up {r : Rd} {n k : Nat} (h : Rw r n) (hn : n ≤ k) : Rw r k := by
  obtain ⟨d, h1, h2, h3⟩ := h; exact ⟨d, h1, h2, by omega⟩
theorem Rw.vals {r : Rd} {n : Nat} (h : Rw r n) (s : Name) : (r.vals s).length ≤ 16777216 := by
  have := h.ok.now
  unfold Rd.vals
  split
  · simp
  · exact Nat.le_trans (apart_used s) this.2
end Ref
/-- The bytes of a slice lie elsewhere than the disk. -/
theorem keeps_rd {X Y : World} {B : Nat} {r : Ref.Rd} (h : IsRd X B r) (ht : TStay (fun k => k = B) X Y) {a : Option Addr} {n c : Nat} {l : List UInt8} (hk : Keeps X a n c l) : Keeps Y a n c l := by
  obtain ⟨kv, pv, hv⟩ := h
  exact hk.stay (IsRv.keepB hv.blk ht).ku
theorem rop_trans {w X Y : World} {B : Nat} {q : Ref.Rd × Nat} {e : Ending} (ht : TStay (fun k => k = B) w X) (h : ROp X B q e Y) : ROp w B q e Y := ⟨h.1, h.2.1, ht.trans h.2.2 (fun _ _ h => h)⟩
set_option maxHeartbeats 8000000 in
set_option maxRecDepth 100000 in
theorem rsave_any (w : World) (B : Nat) (r : Ref.Rd) (h : IsRd w B r) (hr : Ref.Rw r 99900) (t : Rt.Root) (a : Option Addr) (n c : Nat) (hs : Ints w a n c t.logs) (hn : n ≤ 2097152) :
    Calls Tryz.prog 33 #[.pointer (some ⟨B, 0, none⟩), .agg #[.int .i64 t.gen, .slice a n c, .int .i64 t.idx]] w (ROp w B (r.saveR t)) := by
  obtain ⟨W1, hW1⟩ : ∃ W1, W1 = w.alloc (.cells #[.int .i64 t.gen, .slice a n c, .int .i64 t.idx] 71) := ⟨_, rfl⟩
  have hT1 : W1.heap[w.heap.size]? = some (.cells #[.int .i64 t.gen, .slice a n c, .int .i64 t.idx] 71 (0, 0)) := by rw [hW1]; exact heap_alloc_new _ _
  have hB1 : Below w.heap.size w W1 := by rw [hW1]; exact (Below.refl _ _).alloc (Nat.le_refl _) _
  have hly := refLay_any W1 t a n c (hs.below hB1 (Nat.le_refl _)) hn
  have H1 := Lib.hid (h.below hB1)
  have HB1 := Lib.hid hB1
  have HR := Lib.hid hr
  obtain ⟨R, hR⟩ : ∃ R, R = r.saveR t := ⟨_, rfl⟩
  rw [← hR]
  have HRR := Lib.hid hR
  clear h hr hs hT1 hB1 hR
  go_enter Tryz.func33, Tryz.ntmps33
  go_wp2_with fail
  rw [← hW1]
  clear hW1
  refine hly.mono ?_
  clear hly
  rintro e w2 ⟨hb2, hq⟩
  have B2 := Lib.hid (HB1.out.trans (hb2.mono HB1.out.size))
  have H2 := Lib.hid (H1.out.below hb2)
  by_cases hm : Rt.may t = true
  rotate_left
  · rw [if_neg hm] at hq
    subst hq
    have FIN : Hid (ROp w B R (.returned (.int .i64 1)) w2) := by
      refine Lib.hid ?_
      rw [show R = _ from HRR.out]; unfold Ref.Rd.saveR; rw [if_neg hm]
      exact ⟨rfl, H2.out, TStay.of_below B2.out _⟩
    clear hm hb2
    go_wp2
    go_ret
    exact FIN.out
  rw [if_pos hm] at hq
  obtain ⟨v, rfl, hown⟩ := hq
  obtain ⟨la, lc, rfl, _⟩ := ownsRow_slice hown
  have hll := Rt.lay_length t hm
  obtain ⟨x, hx⟩ : ∃ x, x = Rt.lay t := ⟨_, rfl⟩
  rw [← hx] at hown hll ⊢
  have HS0 : Hid (R = r.save x) := Lib.hid (by rw [show R = _ from HRR.out]; unfold Ref.Rd.saveR; rw [if_pos hm, hx])
  have K2 := Lib.hid (Keeps.of_own hown rfl)
  obtain ⟨xn, hxn⟩ : ∃ xn, xn = x.length := ⟨_, rfl⟩
  rw [← hxn] at hll K2 ⊢
  have T2 : Hid (TStay (fun k => k = B) w w2) := Lib.hid (TStay.of_below B2.out _)
  clear hx hown hm hb2 hxn
  have hrd := rreadd_any w2 B r H2.out HR.out.ok Rt.nmA
  obtain ⟨hv, hhv⟩ : ∃ hv, hv = r.has Rt.nmA := ⟨_, rfl⟩
  obtain ⟨vl, hvl⟩ : ∃ vl, vl = (r.vals Rt.nmA).length := ⟨_, rfl⟩
  rw [← hhv, ← hvl] at hrd
  have HHV := Lib.hid hhv
  clear hhv hvl
  go_wp2_with fail
  refine hrd.mono ?_
  clear hrd
  rintro e w3 ⟨ra, rc, rfl, _, hb3⟩
  have T3 := Lib.hid (T2.out.trans (TStay.of_below hb3 (fun k => k = B)) (fun _ _ h => h))
  have H3 := Lib.hid (H2.out.below hb3)
  have K3 := Lib.hid (K2.out.stay (KeepU.below hb3 (Nat.le_refl _)))
  clear hb3 T2 H2 K2
  have hbd : ∀ q, r.clear = q → R = Ref.bind q fun r => Ref.bind (r.append Rt.nmA x) fun r => Ref.bind r.sync fun r => Ref.bind (r.rename Rt.nmA Rt.nmR) fun r => r.sync := fun q h => by rw [← h]; exact HS0.out
  have HBD := Lib.hid hbd
  clear hbd
  cases hv with
  | false =>
    have HB : Hid (R = Ref.bind (r.append Rt.nmA x) fun r => Ref.bind r.sync fun r => Ref.bind (r.rename Rt.nmA Rt.nmR) fun r => r.sync) := by
      refine Lib.hid ((HBD.out (r, 0) ?_).trans (Ref.bind_ok rfl))
      unfold Ref.Rd.clear
      rw [if_neg (by rw [← show false = _ from HHV.out]; simp)]
    obtain ⟨q4, hq4⟩ : ∃ q, q = (r.append Rt.nmA x) := ⟨_, rfl⟩
    have hc4 := rappend_any w3 B r H3.out HR.out.ok Rt.nmA la xn lc x K3.out.rds K3.out.none (by omega)
    have hw4 := HR.out.append (by omega) _ Rt.goodA x
    rw [← hq4] at hc4 hw4
    have HQ4 := Lib.hid hq4
    obtain ⟨r4, j4⟩ := q4
    have RW4 := Lib.hid hw4
    clear hq4 hw4
    go_wp2_with fail
    refine hc4.mono ?_
    clear hc4
    intro e w4 hop
    have hk4 := keeps_rd H3.out hop.2.2 K3.out
    obtain ⟨rfl, h4, t4⟩ := rop_trans T3.out hop
    have H4 := Lib.hid h4
    have T4 := Lib.hid t4
    have K4 := Lib.hid hk4
    clear hop h4 t4 hk4
    rcases Nat.eq_zero_or_pos j4 with rfl | hj
    rotate_left
    · have e0 : ((j4 : Int) != 0) = true := bne_iff_ne.2 (by omega)
      have e1 : ((j4 : Int) == 0) = false := beq_eq_false_iff_ne.2 (by omega)
      have FIN : Hid (ROp w B R (.returned (.int .i64 (j4 : Int))) w4) := Lib.hid (by rw [show R = _ from HB.out, ← show (r4, j4) = _ from HQ4.out, Ref.bind_no (by simp only; omega)]; exact ⟨rfl, H4.out, T4.out⟩)
      go_wp2_with fail
      go_ret
      exact FIN.out
    have HB4 : Hid (R = Ref.bind (r4.sync) fun r => Ref.bind (r.rename Rt.nmA Rt.nmR) fun r => r.sync) := Lib.hid (by rw [show R = _ from HB.out, ← show (r4, 0) = _ from HQ4.out]; exact Ref.bind_ok rfl)
    clear HQ4
    obtain ⟨q5, hq5⟩ : ∃ q, q = (r4.sync) := ⟨_, rfl⟩
    have hc5 := rsync_any w4 B r4 H4.out RW4.out.ok
    have hw5 := RW4.out.sync (by omega)
    rw [← hq5] at hc5 hw5
    have HQ5 := Lib.hid hq5
    obtain ⟨r5, j5⟩ := q5
    have RW5 := Lib.hid hw5
    clear hq5 hw5
    go_wp2_with fail
    refine hc5.mono ?_
    clear hc5
    intro e w5 hop
    have hk5 := keeps_rd H4.out hop.2.2 K4.out
    obtain ⟨rfl, h5, t5⟩ := rop_trans T4.out hop
    have H5 := Lib.hid h5
    have T5 := Lib.hid t5
    have K5 := Lib.hid hk5
    clear hop h5 t5 hk5
    rcases Nat.eq_zero_or_pos j5 with rfl | hj
    rotate_left
    · have e0 : ((j5 : Int) != 0) = true := bne_iff_ne.2 (by omega)
      have e1 : ((j5 : Int) == 0) = false := beq_eq_false_iff_ne.2 (by omega)
      have FIN : Hid (ROp w B R (.returned (.int .i64 (j5 : Int))) w5) := Lib.hid (by rw [show R = _ from HB4.out, ← show (r5, j5) = _ from HQ5.out, Ref.bind_no (by simp only; omega)]; exact ⟨rfl, H5.out, T5.out⟩)
      go_wp2_with fail
      go_ret
      exact FIN.out
    have HB5 : Hid (R = Ref.bind (r5.rename Rt.nmA Rt.nmR) fun r => r.sync) := Lib.hid (by rw [show R = _ from HB4.out, ← show (r5, 0) = _ from HQ5.out]; exact Ref.bind_ok rfl)
    clear HQ5
    obtain ⟨q6, hq6⟩ : ∃ q, q = (r5.rename Rt.nmA Rt.nmR) := ⟨_, rfl⟩
    have hc6 := rrename_any w5 B r5 H5.out RW5.out.ok Rt.nmA Rt.nmR
    have hw6 := RW5.out.rename (by omega) _ _ Rt.goodA Rt.goodR
    rw [← hq6] at hc6 hw6
    have HQ6 := Lib.hid hq6
    obtain ⟨r6, j6⟩ := q6
    have RW6 := Lib.hid hw6
    clear hq6 hw6
    go_wp2_with fail
    refine hc6.mono ?_
    clear hc6
    intro e w6 hop
    have hk6 := keeps_rd H5.out hop.2.2 K5.out
    obtain ⟨rfl, h6, t6⟩ := rop_trans T5.out hop
    have H6 := Lib.hid h6
    have T6 := Lib.hid t6
    have K6 := Lib.hid hk6
    clear hop h6 t6 hk6
    rcases Nat.eq_zero_or_pos j6 with rfl | hj
    rotate_left
    · have e0 : ((j6 : Int) != 0) = true := bne_iff_ne.2 (by omega)
      have e1 : ((j6 : Int) == 0) = false := beq_eq_false_iff_ne.2 (by omega)
      have FIN : Hid (ROp w B R (.returned (.int .i64 (j6 : Int))) w6) := Lib.hid (by rw [show R = _ from HB5.out, ← show (r6, j6) = _ from HQ6.out, Ref.bind_no (by simp only; omega)]; exact ⟨rfl, H6.out, T6.out⟩)
      go_wp2_with fail
      go_ret
      exact FIN.out
    have HB6 : Hid (R = r6.sync) := Lib.hid (by rw [show R = _ from HB5.out, ← show (r6, 0) = _ from HQ6.out]; exact Ref.bind_ok rfl)
    clear HQ6
    obtain ⟨q7, hq7⟩ : ∃ q, q = (r6.sync) := ⟨_, rfl⟩
    have hc7 := rsync_any w6 B r6 H6.out RW6.out.ok
    rw [← hq7] at hc7
    have HQ7 := Lib.hid hq7
    obtain ⟨r7, j7⟩ := q7
    clear hq7
    go_wp2_with fail
    refine hc7.mono ?_
    clear hc7
    intro e w7 hop
    skip
    obtain ⟨rfl, h7, t7⟩ := rop_trans T6.out hop
    have FIN : Hid (ROp w B R (.returned (.int .i64 (j7 : Int))) w7) := Lib.hid (by rw [show R = _ from HB6.out, ← show (r7, j7) = _ from HQ7.out]; exact ⟨rfl, h7, t7⟩)
    clear hop h7 t7
    go_wp2_with fail
    go_ret
    exact FIN.out
  | true =>
    have hcl : r.clear = r.remove Rt.nmA := by unfold Ref.Rd.clear; rw [if_pos HHV.out.symm]
    obtain ⟨q3, hq3⟩ : ∃ q, q = r.remove Rt.nmA := ⟨_, rfl⟩
    have hc3 := rremove_any w3 B r H3.out HR.out.ok Rt.nmA
    have hw3 := HR.out.remove (by omega) Rt.nmA Rt.goodA
    rw [← hq3] at hc3 hw3 hcl
    have HB0 := Lib.hid (HBD.out _ hcl)
    obtain ⟨r3, j3⟩ := q3
    have RW3 := Lib.hid hw3
    clear hq3 hw3 hcl
    go_wp2_with fail
    refine hc3.mono ?_
    clear hc3
    intro e w4 hop
    have hk4 := keeps_rd H3.out hop.2.2 K3.out
    obtain ⟨rfl, h4, t4⟩ := rop_trans T3.out hop
    have H4 := Lib.hid h4
    have T4 := Lib.hid t4
    have K4 := Lib.hid hk4
    clear hop h4 t4 hk4
    rcases Nat.eq_zero_or_pos j3 with rfl | hj
    rotate_left
    · have e0 : ((j3 : Int) != 0) = true := bne_iff_ne.2 (by omega)
      have e1 : ((j3 : Int) == 0) = false := beq_eq_false_iff_ne.2 (by omega)
      have FIN : Hid (ROp w B R (.returned (.int .i64 (j3 : Int))) w4) := Lib.hid (by rw [show R = _ from HB0.out, Ref.bind_no (by simp only; omega)]; exact ⟨rfl, H4.out, T4.out⟩)
      go_wp2_with fail
      go_ret
      exact FIN.out
    have HB : Hid (R = Ref.bind (r3.append Rt.nmA x) fun r => Ref.bind r.sync fun r => Ref.bind (r.rename Rt.nmA Rt.nmR) fun r => r.sync) := Lib.hid (HB0.out.trans (Ref.bind_ok rfl))
    obtain ⟨q5, hq5⟩ : ∃ q, q = (r3.append Rt.nmA x) := ⟨_, rfl⟩
    have hc5 := rappend_any w4 B r3 H4.out RW3.out.ok Rt.nmA la xn lc x K4.out.rds K4.out.none (by omega)
    have hw5 := RW3.out.append (by omega) _ Rt.goodA x
    rw [← hq5] at hc5 hw5
    have HQ5 := Lib.hid hq5
    obtain ⟨r5, j5⟩ := q5
    have RW5 := Lib.hid hw5
    clear hq5 hw5
    go_wp2_with fail
    refine hc5.mono ?_
    clear hc5
    intro e w5 hop
    have hk5 := keeps_rd H4.out hop.2.2 K4.out
    obtain ⟨rfl, h5, t5⟩ := rop_trans T4.out hop
    have H5 := Lib.hid h5
    have T5 := Lib.hid t5
    have K5 := Lib.hid hk5
    clear hop h5 t5 hk5
    rcases Nat.eq_zero_or_pos j5 with rfl | hj
    rotate_left
    · have e0 : ((j5 : Int) != 0) = true := bne_iff_ne.2 (by omega)
      have e1 : ((j5 : Int) == 0) = false := beq_eq_false_iff_ne.2 (by omega)
      have FIN : Hid (ROp w B R (.returned (.int .i64 (j5 : Int))) w5) := Lib.hid (by rw [show R = _ from HB.out, ← show (r5, j5) = _ from HQ5.out, Ref.bind_no (by simp only; omega)]; exact ⟨rfl, H5.out, T5.out⟩)
      go_wp2_with fail
      go_ret
      exact FIN.out
    have HB5 : Hid (R = Ref.bind (r5.sync) fun r => Ref.bind (r.rename Rt.nmA Rt.nmR) fun r => r.sync) := Lib.hid (by rw [show R = _ from HB.out, ← show (r5, 0) = _ from HQ5.out]; exact Ref.bind_ok rfl)
    clear HQ5
    obtain ⟨q6, hq6⟩ : ∃ q, q = (r5.sync) := ⟨_, rfl⟩
    have hc6 := rsync_any w5 B r5 H5.out RW5.out.ok
    have hw6 := RW5.out.sync (by omega)
    rw [← hq6] at hc6 hw6
    have HQ6 := Lib.hid hq6
    obtain ⟨r6, j6⟩ := q6
    have RW6 := Lib.hid hw6
    clear hq6 hw6
    go_wp2_with fail
    refine hc6.mono ?_
    clear hc6
    intro e w6 hop
    have hk6 := keeps_rd H5.out hop.2.2 K5.out
    obtain ⟨rfl, h6, t6⟩ := rop_trans T5.out hop
    have H6 := Lib.hid h6
    have T6 := Lib.hid t6
    have K6 := Lib.hid hk6
    clear hop h6 t6 hk6
    rcases Nat.eq_zero_or_pos j6 with rfl | hj
    rotate_left
    · have e0 : ((j6 : Int) != 0) = true := bne_iff_ne.2 (by omega)
      have e1 : ((j6 : Int) == 0) = false := beq_eq_false_iff_ne.2 (by omega)
      have FIN : Hid (ROp w B R (.returned (.int .i64 (j6 : Int))) w6) := Lib.hid (by rw [show R = _ from HB5.out, ← show (r6, j6) = _ from HQ6.out, Ref.bind_no (by simp only; omega)]; exact ⟨rfl, H6.out, T6.out⟩)
      go_wp2_with fail
      go_ret
      exact FIN.out
    have HB6 : Hid (R = Ref.bind (r6.rename Rt.nmA Rt.nmR) fun r => r.sync) := Lib.hid (by rw [show R = _ from HB5.out, ← show (r6, 0) = _ from HQ6.out]; exact Ref.bind_ok rfl)
    clear HQ6
    obtain ⟨q7, hq7⟩ : ∃ q, q = (r6.rename Rt.nmA Rt.nmR) := ⟨_, rfl⟩
    have hc7 := rrename_any w6 B r6 H6.out RW6.out.ok Rt.nmA Rt.nmR
    have hw7 := RW6.out.rename (by omega) _ _ Rt.goodA Rt.goodR
    rw [← hq7] at hc7 hw7
    have HQ7 := Lib.hid hq7
    obtain ⟨r7, j7⟩ := q7
    have RW7 := Lib.hid hw7
    clear hq7 hw7
    go_wp2_with fail
    refine hc7.mono ?_
    clear hc7
    intro e w7 hop
    have hk7 := keeps_rd H6.out hop.2.2 K6.out
    obtain ⟨rfl, h7, t7⟩ := rop_trans T6.out hop
    have H7 := Lib.hid h7
    have T7 := Lib.hid t7
    have K7 := Lib.hid hk7
    clear hop h7 t7 hk7
    rcases Nat.eq_zero_or_pos j7 with rfl | hj
    rotate_left
    · have e0 : ((j7 : Int) != 0) = true := bne_iff_ne.2 (by omega)
      have e1 : ((j7 : Int) == 0) = false := beq_eq_false_iff_ne.2 (by omega)
      have FIN : Hid (ROp w B R (.returned (.int .i64 (j7 : Int))) w7) := Lib.hid (by rw [show R = _ from HB6.out, ← show (r7, j7) = _ from HQ7.out, Ref.bind_no (by simp only; omega)]; exact ⟨rfl, H7.out, T7.out⟩)
      go_wp2_with fail
      go_ret
      exact FIN.out
    have HB7 : Hid (R = r7.sync) := Lib.hid (by rw [show R = _ from HB6.out, ← show (r7, 0) = _ from HQ7.out]; exact Ref.bind_ok rfl)
    clear HQ7
    obtain ⟨q8, hq8⟩ : ∃ q, q = (r7.sync) := ⟨_, rfl⟩
    have hc8 := rsync_any w7 B r7 H7.out RW7.out.ok
    rw [← hq8] at hc8
    have HQ8 := Lib.hid hq8
    obtain ⟨r8, j8⟩ := q8
    clear hq8
    go_wp2_with fail
    refine hc8.mono ?_
    clear hc8
    intro e w8 hop
    skip
    obtain ⟨rfl, h8, t8⟩ := rop_trans T7.out hop
    have FIN : Hid (ROp w B R (.returned (.int .i64 (j8 : Int))) w8) := Lib.hid (by rw [show R = _ from HB7.out, ← show (r8, j8) = _ from HQ8.out]; exact ⟨rfl, h8, t8⟩)
    clear hop h8 t8
    go_wp2_with fail
    go_ret
    exact FIN.out
/-- A root that was loaded, or an errno. -/
def RLoadAft (w : World) (q : Except Nat Rt.Root) (e : Ending) (w' : World) : Prop :=
  Below w.heap.size w w' ∧ match q with
  | .error k => e = .returned (.tuple #[root0, .int .i64 (k : Int)])
  | .ok r => ∃ a n c, e = .returned (.tuple #[.agg #[.int .i64 r.gen, .slice a n c, .int .i64 r.idx], .int .i64 0]) ∧ w'.ownsRow w.heap.size 3 1 (.slice a n c) n (iv r.logs) ∧ n ≤ 8
set_option maxHeartbeats 4000000 in
set_option maxRecDepth 100000 in
theorem rload_any (w : World) (B : Nat) (r : Ref.Rd) (h : IsRd w B r) (hr : Rok r) :
    Calls Tryz.prog 36 #[.pointer (some ⟨B, 0, none⟩)] w (RLoadAft w r.loadR) := by
  obtain ⟨W1, hW1⟩ : ∃ W1, W1 = w.alloc (.cells #[.int .i64 0, .slice none 0 0, .int .i64 0] 71) := ⟨_, rfl⟩
  have hT1 : W1.heap[w.heap.size]? = some (.cells #[.int .i64 0, .slice none 0 0, .int .i64 0] 71 (0, 0)) := by rw [hW1]; exact heap_alloc_new _ _
  have hB1 : Below w.heap.size w W1 := by rw [hW1]; exact (Below.refl _ _).alloc (Nat.le_refl _) _
  have hs1 : W1.heap.size = w.heap.size + 1 := by rw [hW1]; simp
  have hrd := rreadd_any W1 B r (h.below hB1) hr Rt.nmR
  have hlen : (r.vals Rt.nmR).length ≤ 16777216 := by
    have := hr.now
    unfold Ref.Rd.vals
    split
    · simp
    · exact Nat.le_trans (apart_used _) this.2
  obtain ⟨L, hL⟩ : ∃ L, L = r.vals Rt.nmR := ⟨_, rfl⟩
  obtain ⟨is, his⟩ : ∃ is, is = r.has Rt.nmR := ⟨_, rfl⟩
  rw [← hL] at hlen
  rw [← hL, ← his] at hrd
  have HQ : Hid (r.loadR = if is = true then Rt.read L else .error 11) := Lib.hid (by unfold Ref.Rd.loadR; rw [← hL, ← his])
  have HT1 := Lib.hid hT1
  have HB1 := Lib.hid hB1
  have HS1 := Lib.hid hs1
  obtain ⟨Q, hQ⟩ : ∃ Q, Q = r.loadR := ⟨_, rfl⟩
  rw [← hQ] at HQ ⊢
  clear h hT1 hB1 hs1 hr hL his hQ
  go_enter Tryz.func36, Tryz.ntmps36
  go_wp2_with fail
  rw [← hW1]
  clear hW1
  refine hrd.mono ?_
  clear hrd
  rintro e w2 ⟨a2, c2, rfl, hk2, hb2⟩
  have hT2 := Lib.hid ((hb2.block w.heap.size (by rw [HS1.out]; omega)).trans HT1.out)
  have bw2 := HB1.out.trans (hb2.mono HB1.out.size)
  have hsz2 := blk_lt hT2.out
  have r0 : w2.cell? ⟨w.heap.size, 0, none⟩ = some (.int .i64 0) := blk_cell (i := 0) hT2.out rfl
  have r1 : w2.cell? ⟨w.heap.size, 1, none⟩ = some (.slice none 0 0) := blk_cell (i := 1) hT2.out rfl
  have r2 : w2.cell? ⟨w.heap.size, 2, none⟩ = some (.int .i64 0) := blk_cell (i := 2) hT2.out rfl
  have e0 := blk_free hT2.out 0
  have e1 := blk_free hT2.out 1
  have e2 := blk_free hT2.out 2
  cases is with
  | false =>
    clear hk2 hb2
    go_wp2
    (try simp only [Exit.inBlock, Exit.then])
    refine bodyPost_ret (ret_ref (by rfl) (by rfl) (set3 hT2.out _ _ _)) rfl ⟨((bw2.setCell (Nat.le_refl _) _).setCell (Nat.le_refl _) _).setCell (Nat.le_refl _) _, ?_⟩
    rw [show Q = _ from HQ.out]
    rfl
  | true =>
    have hread := refRead_any w2 a2 L.length c2 L hk2.rds hk2.le hk2.none (by omega)
    unfold RefReadAft at hread
    rw [Rt.readR_eq] at hread
    clear hk2 hb2 r0 r1 r2 e0 e1 e2
    go_wp2_with fail
    refine hread.mono ?_
    clear hread
    rintro e w3 ⟨hb3, hq⟩
    have hT3 := Lib.hid ((hb3.block w.heap.size hsz2).trans hT2.out)
    have bw3 := bw2.trans (hb3.mono bw2.size)
    have r0 : w3.cell? ⟨w.heap.size, 0, none⟩ = some (.int .i64 0) := blk_cell (i := 0) hT3.out rfl
    have r1 : w3.cell? ⟨w.heap.size, 1, none⟩ = some (.slice none 0 0) := blk_cell (i := 1) hT3.out rfl
    have r2 : w3.cell? ⟨w.heap.size, 2, none⟩ = some (.int .i64 0) := blk_cell (i := 2) hT3.out rfl
    have e0 := blk_free hT3.out 0
    have e1 := blk_free hT3.out 1
    have e2 := blk_free hT3.out 2
    have HQ1 : Hid (Q = Rt.read L) := Lib.hid HQ.out
    cases hR : Rt.read L with
    | error k =>
      rw [hR] at hq
      simp only at hq
      subst hq
      unfold root0
      have HR := Lib.hid hR
      clear hb3 hR
      go_wp2
      (try simp only [Exit.inBlock, Exit.then])
      refine bodyPost_ret (ret_ref (by rfl) (by rfl) (set3 hT3.out _ _ _)) rfl ⟨((bw3.setCell (Nat.le_refl _) _).setCell (Nat.le_refl _) _).setCell (Nat.le_refl _) _, ?_⟩
      rw [show Q = _ from HQ1.out, HR.out]
      rfl
    | ok rt =>
      rw [hR] at hq
      simp only at hq
      obtain ⟨a3, n3, c3, rfl, ho3, hn3⟩ := hq
      have HR := Lib.hid hR
      have HO := Lib.hid ho3
      clear hb3 hR ho3
      go_wp2
      (try simp only [Exit.inBlock, Exit.then])
      refine bodyPost_ret (ret_ref (by rfl) (by rfl) (set3 hT3.out _ _ _)) rfl ⟨((bw3.setCell (Nat.le_refl _) _).setCell (Nat.le_refl _) _).setCell (Nat.le_refl _) _, ?_⟩
      rw [show Q = _ from HQ1.out, HR.out]
      exact ⟨a3, n3, c3, rfl, ownsRow_base (ownsRow_setCell_below (ownsRow_setCell_below (ownsRow_setCell_below HO.out hsz2 _) hsz2 _) hsz2 _) (by omega), hn3⟩
end Go.Proofs.YtggdbdjaobgeeaaGreatDoor
