/- root.Load, save, Save: what they answer. -/
import Derived.Test.YtggdbdjaobgeeaaGreatDoorRtRead
import Derived.Test.YtggdbdjaobgeeaaGreatDoorRtSave
import Derived.Test.YtggdbdjaobgeeaaGreatDoorKindSt
import Derived.Test.YtggdbdjaobgeeaaGreatDoorDskKn
namespace Go.Proofs.YtggdbdjaobgeeaaGreatDoor
open Go.RowKit Go.Tap Go.Maps
set_option linter.unusedVariables false
attribute [local go_sem ↓] Go.wp_at_zero Go.wp_at_succ

namespace Dsk
theorem wk_putr (d : Dk) (x : Wk) (g : Files) : (d.putr x g).1.works ≤ d.works + 1 := by
  have := d.one_works
  unfold Dk.putr; split
  · exact this.2.1
  · exact this.2.1
theorem wk_append (d : Dk) (s : Name) (l : List UInt8) : (d.append s l).1.works ≤ d.works + 1 := by
  unfold Dk.append; split
  · exact Nat.le_succ _
  · split
    · exact Nat.le_succ _
    · exact wk_putr _ _ _
theorem wk_remove (d : Dk) (s : Name) : (d.remove s).1.works ≤ d.works + 1 := by
  unfold Dk.remove; split
  · exact wk_putr _ _ _
  · exact Nat.le_succ _
theorem wk_rename (d : Dk) (s t : Name) : (d.rename s t).1.works ≤ d.works + 1 := by
  unfold Dk.rename; split
  · exact wk_putr _ _ _
  · exact Nat.le_succ _
theorem wk_sync (d : Dk) : d.sync.1.works ≤ d.works + 1 := by
  have := d.one_works
  unfold Dk.sync; split
  · exact this.2.1
  · exact this.2.1
end Dsk
namespace Rt
open Dsk
theorem wk_clear (d : Dk) : (clear d).1.works ≤ d.works + 1 := by
  unfold clear; split
  · exact wk_remove _ _
  · exact Nat.le_succ _
end Rt
def ErrT (k : Int) : Value := .tuple #[root0, .iface 35 (.int .i64 k)]
theorem load_nil (w : World) : Calls Tryz.prog 35 #[.pointer none] w fun e w' => e = .returned (ErrT 1) ∧ Below w.heap.size w w' := by
  have hT := heap_alloc_new w (.cells #[.int .i64 0, .slice none 0 0, .int .i64 0] 67)
  have hb : Below w.heap.size w (w.alloc (.cells #[.int .i64 0, .slice none 0 0, .int .i64 0] 67)) := (Below.refl _ _).alloc (Nat.le_refl _) _
  have HT := Lib.hid hT
  clear hT
  go_enter Tryz.func35, Tryz.ntmps35
  go_wp2
  (try simp only [Exit.inBlock, Exit.then])
  refine bodyPost_ret (ret_root (by rfl) (by rfl) HT.out) rfl ⟨rfl, hb⟩
/-- What a Load comes to. -/
def RtLoadAft (w : World) (d : Dsk.Dk) (e : Ending) (w' : World) : Prop :=
  Below w.heap.size w w' ∧ match Dsk.get d.now Rt.nmR with
  | none => e = .returned (ErrT 11)
  | some b => match Rt.read b with
    | .error k => e = .returned (ErrT (k : Int))
    | .ok r => ∃ a n c, e = .returned (.tuple #[.agg #[.int .i64 r.gen, .slice a n c, .int .i64 r.idx], .nilIface]) ∧ w'.ownsRow w.heap.size 3 1 (.slice a n c) n (iv r.logs) ∧ n ≤ 8
set_option maxHeartbeats 4000000 in
set_option maxRecDepth 100000 in
theorem load_any (w : World) (lo B : Nat) (d : Dsk.Dk) (h : IsDk w lo B d) (hd : d.dead = false) (hlen : (Dsk.val d.now Rt.nmR).length ≤ 1048576) :
    Calls Tryz.prog 35 #[.pointer (some ⟨B, 0, none⟩)] w (RtLoadAft w d) := by
  obtain ⟨W1, hW1⟩ : ∃ W1, W1 = w.alloc (.cells #[.int .i64 0, .slice none 0 0, .int .i64 0] 67) := ⟨_, rfl⟩
  have hT1 : W1.heap[w.heap.size]? = some (.cells #[.int .i64 0, .slice none 0 0, .int .i64 0] 67 (0, 0)) := by rw [hW1]; exact heap_alloc_new _ _
  have hB1 : Below w.heap.size w W1 := by rw [hW1]; exact (Below.refl _ _).alloc (Nat.le_refl _) _
  have hs1 : W1.heap.size = w.heap.size + 1 := by rw [hW1]; simp
  obtain ⟨L, hL⟩ : ∃ L, L = Dsk.val d.now Rt.nmR := ⟨_, rfl⟩
  obtain ⟨is, his⟩ : ∃ is, is = (Dsk.get d.now Rt.nmR).isSome := ⟨_, rfl⟩
  have hrd := read_is W1 lo B d (h.below hB1) hd Rt.nmR (by decide) L is L.length hL.symm his.symm rfl
  rw [← hL] at hlen
  have HT1 := Lib.hid hT1
  have HB1 := Lib.hid hB1
  have HS1 := Lib.hid hs1
  have HL := Lib.hid hL
  have HIS := Lib.hid his
  clear h hT1 hB1 hs1 hd hL his
  go_enter Tryz.func35, Tryz.ntmps35
  go_wp2_with fail
  rw [← hW1]
  clear hW1
  refine hrd.mono ?_
  clear hrd
  rintro e w2 ⟨a2, c2, rfl, hown2, hb2⟩
  have hT2 := Lib.hid ((hb2.block w.heap.size (by rw [HS1.out]; omega)).trans HT1.out)
  have bw2 := HB1.out.trans (hb2.mono HB1.out.size)
  have hsz2 := blk_lt hT2.out
  have r0 : w2.cell? ⟨w.heap.size, 0, none⟩ = some (.int .i64 0) := blk_cell (i := 0) hT2.out rfl
  have r1 : w2.cell? ⟨w.heap.size, 1, none⟩ = some (.slice none 0 0) := blk_cell (i := 1) hT2.out rfl
  have r2 : w2.cell? ⟨w.heap.size, 2, none⟩ = some (.int .i64 0) := blk_cell (i := 2) hT2.out rfl
  have e0 := blk_free hT2.out 0
  have e1 := blk_free hT2.out 1
  have e2 := blk_free hT2.out 2
  cases is with
  | false =>
    have hg : Dsk.get d.now Rt.nmR = none := by
      have := HIS.out
      cases hh : Dsk.get d.now Rt.nmR with
      | none => rfl
      | some b => rw [hh] at this; cases this
    have HG := Lib.hid hg
    clear hown2 hb2 hg
    go_wp2
    (try simp only [Exit.inBlock, Exit.then])
    refine bodyPost_ret (ret_root (by rfl) (by rfl) (set3 hT2.out _ _ _)) rfl ⟨((bw2.setCell (Nat.le_refl _) _).setCell (Nat.le_refl _) _).setCell (Nat.le_refl _) _, ?_⟩
    rw [HG.out]
    rfl
  | true =>
    have hg : Dsk.get d.now Rt.nmR = some L := by
      have := HIS.out
      have h2 := HL.out
      unfold Dsk.val at h2
      cases hh : Dsk.get d.now Rt.nmR with
      | none => rw [hh] at this; cases this
      | some b => rw [hh] at h2; rw [h2]; rfl
    have HG := Lib.hid hg
    obtain ⟨_, _, hsl, hnc, _, hno, _⟩ := ownsRow_slice hown2
    simp only [Value.slice.injEq] at hsl
    obtain ⟨rfl, _, rfl⟩ := hsl
    have hread := rtRead_any w2 a2 L.length c2 L (Rds.of_own hown2 rfl) hnc hno (by omega)
    clear hown2 hb2 hg r0 r1 r2 e0 e1 e2 hnc hno
    go_wp2_with fail
    refine hread.mono ?_
    clear hread
    rintro e w3 ⟨hb3, hq⟩
    have hT3 := Lib.hid ((hb3.block w.heap.size hsz2).trans hT2.out)
    have bw3 := bw2.trans (hb3.mono bw2.size)
    have r0 : w3.cell? ⟨w.heap.size, 0, none⟩ = some (.int .i64 0) := blk_cell (i := 0) hT3.out rfl
    have r1 : w3.cell? ⟨w.heap.size, 1, none⟩ = some (.slice none 0 0) := blk_cell (i := 1) hT3.out rfl
    have r2 : w3.cell? ⟨w.heap.size, 2, none⟩ = some (.int .i64 0) := blk_cell (i := 2) hT3.out rfl
    have e0 := blk_free hT3.out 0
    have e1 := blk_free hT3.out 1
    have e2 := blk_free hT3.out 2
    cases hR : Rt.read L with
    | error k =>
      rw [hR] at hq
      simp only at hq
      subst hq
      unfold root0
      have HR := Lib.hid hR
      clear hb3 hR
      go_wp2
      (try simp only [Exit.inBlock, Exit.then])
      refine bodyPost_ret (ret_root (by rfl) (by rfl) (set3 hT3.out _ _ _)) rfl ⟨((bw3.setCell (Nat.le_refl _) _).setCell (Nat.le_refl _) _).setCell (Nat.le_refl _) _, ?_⟩
      rw [HG.out]
      simp only
      rw [HR.out]
      rfl
    | ok r =>
      rw [hR] at hq
      simp only at hq
      obtain ⟨a3, n3, c3, rfl, ho3, hn3⟩ := hq
      have HR := Lib.hid hR
      have HO := Lib.hid ho3
      clear hb3 hR ho3
      go_wp2
      (try simp only [Exit.inBlock, Exit.then])
      refine bodyPost_ret (ret_root (by rfl) (by rfl) (set3 hT3.out _ _ _)) rfl ⟨((bw3.setCell (Nat.le_refl _) _).setCell (Nat.le_refl _) _).setCell (Nat.le_refl _) _, ?_⟩
      rw [HG.out]
      simp only
      rw [HR.out]
      exact ⟨a3, n3, c3, rfl, ownsRow_base (ownsRow_setCell_below (ownsRow_setCell_below (ownsRow_setCell_below HO.out hsz2 _) hsz2 _) hsz2 _) (by omega), hn3⟩
set_option maxHeartbeats 8000000 in
set_option maxRecDepth 100000 in
theorem save_any (w : World) (lo B : Nat) (d : Dsk.Dk) (h : IsDk w lo B d) (hd : d.dead = false) (hw : d.works ≤ 99990) (a : Option Addr) (n c : Nat) (x : List UInt8) (hk : Keeps w a n c x) (hn : n ≤ 1048576) :
    Calls Tryz.prog 85 #[.pointer (some ⟨B, 0, none⟩), .slice a n c] w (OpAft w lo B (Rt.saveB d x)) := by
  obtain ⟨is, his⟩ : ∃ is, is = (Dsk.get d.now Rt.nmA).isSome := ⟨_, rfl⟩
  have hrd := read_is w lo B d h hd Rt.nmA (by decide) _ is _ rfl his.symm rfl
  have hlo := h.lo_le
  have HD := Lib.hid hd
  have HIS := Lib.hid his
  have HK := Lib.hid hk
  have H := Lib.hid h
  clear h hd his hk
  go_enter Tryz.func85, Tryz.ntmps85
  go_wp2_with fail
  refine hrd.mono ?_
  clear hrd
  rintro e w2 ⟨a2, c2, rfl, _, hb2⟩
  have h2 := H.out.below hb2
  have k2 := HK.out.stay (KeepU.below hb2 (Nat.le_refl _))
  have bw2 := hb2.mono hlo
  have kw2 := KeepT.below hb2 (Nat.le_refl _)
  have hbind : Rt.saveB d x = Rt.bind (Rt.clear d) fun d => Rt.bind (d.append Rt.nmA x) fun d => Rt.bind d.sync fun d => Rt.bind (d.rename Rt.nmA Rt.nmR) fun d => d.sync := rfl
  have hcl := Rt.wk_clear d
  obtain ⟨q1, hq1⟩ : ∃ q, q = Rt.clear d := ⟨_, rfl⟩
  rw [← hq1] at hbind hcl
  obtain ⟨d1, j1⟩ := q1
  have HBD := Lib.hid hbind
  have HQ1 := Lib.hid hq1
  -- behind the first step
  clear hb2 hbind hq1
  cases is with
  | true =>
    have hcd : d.remove Rt.nmA = (d1, j1) := by
      have := HQ1.out
      unfold Rt.clear at this
      rw [if_pos ⟨HD.out, HIS.out.symm⟩] at this
      exact this.symm
    have hrm := remove_is w2 lo B d d1 j1 h2 (by omega) Rt.nmA Rt.goodA hcd
    clear h2 hcd
    go_wp2_with fail
    refine hrm.mono ?_
    clear hrm
    intro e w3 hop
    rcases Nat.eq_zero_or_pos j1 with rfl | hj
    · obtain ⟨rfl, h3, hb3, kt3⟩ := hop.ok
      have bw3 := bw2.trans hb3
      have kw3 := kw2.trans kt3
      have k3 := k2.stay kt3.ku
      have HB1 : Hid (Rt.saveB d x = Rt.bind (d1.append Rt.nmA x) fun d => Rt.bind d.sync fun d => Rt.bind (d.rename Rt.nmA Rt.nmR) fun d => d.sync) := by
        show _ = _
        rw [show Rt.saveB d x = _ from HBD.out]; exact Rt.bind_ok rfl
      clear hop hb3 kt3 bw2 kw2 k2
      have wk4 := Dsk.wk_append d1 Rt.nmA x
      obtain ⟨q4, hq2⟩ : ∃ q, q = d1.append Rt.nmA x := ⟨_, rfl⟩
      rw [← hq2] at wk4
      obtain ⟨d2, j2⟩ := q4
      simp only at wk4
      have hc4 := append_is w3 lo B d1 d2 j2 h3 (by omega) Rt.nmA Rt.goodA a n c x k3.rds k3.none (by omega) hq2.symm
      have HQ2 := Lib.hid hq2
      clear hq2 h3
      go_wp2_with fail
      refine hc4.mono ?_
      clear hc4
      intro e w4 hop
      rcases Nat.eq_zero_or_pos j2 with rfl | hj
      rotate_left
      · obtain ⟨rfl, h4, hb4, kt4⟩ := hop.no (by omega)
        have hfin : Rt.saveB d x = (d2, j2) := by
          rw [show Rt.saveB d x = _ from HB1.out, ← HQ2.out]; exact Rt.bind_no (by simp only; omega)
        have HFI := Lib.hid (show OpAft w lo B (Rt.saveB d x) (.returned (.iface 35 (.int .i64 (j2 : Int)))) w4 by
          rw [hfin]
          exact ⟨by show _ = Ending.returned (errv j2); rw [errv, if_neg (by omega)], h4, bw3.trans hb4, kw3.trans kt4⟩)
        clear hop h4 hb4 kt4 hfin
        go_wp2
        go_ret
        exact HFI.out
      · obtain ⟨rfl, h4, hb4, kt4⟩ := hop.ok
        have bw4 := bw3.trans hb4
        have kw4 := kw3.trans kt4
        have k4 := k3.stay kt4.ku
        have HB2 : Hid (Rt.saveB d x = Rt.bind (d2.sync) fun d => Rt.bind (d.rename Rt.nmA Rt.nmR) fun d => d.sync) := by
          show _ = _
          rw [show Rt.saveB d x = _ from HB1.out, ← HQ2.out]; exact Rt.bind_ok rfl
        clear hop hb4 kt4 bw3 kw3 k3
        have wk5 := Dsk.wk_sync d2
        obtain ⟨q5, hq3⟩ : ∃ q, q = d2.sync  := ⟨_, rfl⟩
        rw [← hq3] at wk5
        obtain ⟨d3, j3⟩ := q5
        simp only at wk5
        have hc5 := sync_is w4 lo B d2 d3 j3 h4 (by omega) hq3.symm
        have HQ3 := Lib.hid hq3
        clear hq3 h4
        go_wp2_with fail
        refine hc5.mono ?_
        clear hc5
        intro e w5 hop
        rcases Nat.eq_zero_or_pos j3 with rfl | hj
        rotate_left
        · obtain ⟨rfl, h5, hb5, kt5⟩ := hop.no (by omega)
          have hfin : Rt.saveB d x = (d3, j3) := by
            rw [show Rt.saveB d x = _ from HB2.out, ← HQ3.out]; exact Rt.bind_no (by simp only; omega)
          have HFI := Lib.hid (show OpAft w lo B (Rt.saveB d x) (.returned (.iface 35 (.int .i64 (j3 : Int)))) w5 by
            rw [hfin]
            exact ⟨by show _ = Ending.returned (errv j3); rw [errv, if_neg (by omega)], h5, bw4.trans hb5, kw4.trans kt5⟩)
          clear hop h5 hb5 kt5 hfin
          go_wp2
          go_ret
          exact HFI.out
        · obtain ⟨rfl, h5, hb5, kt5⟩ := hop.ok
          have bw5 := bw4.trans hb5
          have kw5 := kw4.trans kt5
          have k5 := k4.stay kt5.ku
          have HB3 : Hid (Rt.saveB d x = Rt.bind (d3.rename Rt.nmA Rt.nmR) fun d => d.sync) := by
            show _ = _
            rw [show Rt.saveB d x = _ from HB2.out, ← HQ3.out]; exact Rt.bind_ok rfl
          clear hop hb5 kt5 bw4 kw4 k4
          have wk6 := Dsk.wk_rename d3 Rt.nmA Rt.nmR
          obtain ⟨q6, hq4⟩ : ∃ q, q = d3.rename Rt.nmA Rt.nmR := ⟨_, rfl⟩
          rw [← hq4] at wk6
          obtain ⟨d4, j4⟩ := q6
          simp only at wk6
          have hc6 := rename_is w5 lo B d3 d4 j4 h5 (by omega) Rt.nmA Rt.nmR Rt.goodA Rt.goodR hq4.symm
          have HQ4 := Lib.hid hq4
          clear hq4 h5
          go_wp2_with fail
          refine hc6.mono ?_
          clear hc6
          intro e w6 hop
          rcases Nat.eq_zero_or_pos j4 with rfl | hj
          rotate_left
          · obtain ⟨rfl, h6, hb6, kt6⟩ := hop.no (by omega)
            have hfin : Rt.saveB d x = (d4, j4) := by
              rw [show Rt.saveB d x = _ from HB3.out, ← HQ4.out]; exact Rt.bind_no (by simp only; omega)
            have HFI := Lib.hid (show OpAft w lo B (Rt.saveB d x) (.returned (.iface 35 (.int .i64 (j4 : Int)))) w6 by
              rw [hfin]
              exact ⟨by show _ = Ending.returned (errv j4); rw [errv, if_neg (by omega)], h6, bw5.trans hb6, kw5.trans kt6⟩)
            clear hop h6 hb6 kt6 hfin
            go_wp2
            go_ret
            exact HFI.out
          · obtain ⟨rfl, h6, hb6, kt6⟩ := hop.ok
            have bw6 := bw5.trans hb6
            have kw6 := kw5.trans kt6
            have k6 := k5.stay kt6.ku
            have HB4 : Hid (Rt.saveB d x = d4.sync) := by
              show _ = _
              rw [show Rt.saveB d x = _ from HB3.out, ← HQ4.out]; exact Rt.bind_ok rfl
            clear hop hb6 kt6 bw5 kw5 k5
            have wk7 := Dsk.wk_sync d4
            obtain ⟨q7, hq5⟩ : ∃ q, q = d4.sync  := ⟨_, rfl⟩
            rw [← hq5] at wk7
            obtain ⟨d5, j5⟩ := q7
            simp only at wk7
            have hc7 := sync_is w6 lo B d4 d5 j5 h6 (by omega) hq5.symm
            have HQ5 := Lib.hid hq5
            clear hq5 h6
            go_wp2_with fail
            refine hc7.mono ?_
            clear hc7
            intro e w7 hop
            have hfin : Rt.saveB d x = (d5, j5) := by rw [show Rt.saveB d x = _ from HB4.out, ← HQ5.out]
            obtain ⟨rfl, h7, hb7, kt7⟩ := hop
            have HFI := Lib.hid (show OpAft w lo B (Rt.saveB d x) (.returned (errv j5)) w7 by rw [hfin]; exact ⟨rfl, h7, bw6.trans hb7, kw6.trans kt7⟩)
            have hev : ∃ ev, ev = errv j5 := ⟨_, rfl⟩
            obtain ⟨ev, hev⟩ := hev
            simp only
            rw [← hev] at HFI ⊢
            clear hfin hev h7 hb7 kt7
            go_wp2
            go_ret
            exact HFI.out
    · obtain ⟨rfl, h3, hb3, kt3⟩ := hop.no (by omega)
      have hfin : Rt.saveB d x = (d1, j1) := by rw [show Rt.saveB d x = _ from HBD.out]; exact Rt.bind_no (by simp only; omega)
      have HFI := Lib.hid (show OpAft w lo B (Rt.saveB d x) (.returned (.iface 35 (.int .i64 (j1 : Int)))) w3 by
        rw [hfin]
        exact ⟨by show _ = Ending.returned (errv j1); rw [errv, if_neg (by omega)], h3, bw2.trans hb3, kw2.trans kt3⟩)
      clear hop h3 hb3 kt3 hfin
      go_wp2
      go_ret
      exact HFI.out
  | false =>
    have hcd : (d1, j1) = (d, 0) := by
      rw [HQ1.out]
      unfold Rt.clear
      rw [if_neg (fun h => by have := HIS.out; rw [h.2] at this; cases this)]
    simp only [Prod.mk.injEq] at hcd
    obtain ⟨rfl, rfl⟩ := hcd
    have HB1 : Hid (Rt.saveB d1 x = Rt.bind (d1.append Rt.nmA x) fun d => Rt.bind d.sync fun d => Rt.bind (d.rename Rt.nmA Rt.nmR) fun d => d.sync) := by
      show _ = _
      rw [show Rt.saveB d1 x = _ from HBD.out]; exact Rt.bind_ok rfl
    have bw3 := bw2
    have kw3 := kw2
    have k3 := k2
    have h3 := h2
    clear bw2 kw2 k2 h2
    have wk4 := Dsk.wk_append d1 Rt.nmA x
    obtain ⟨q4, hq2⟩ : ∃ q, q = d1.append Rt.nmA x := ⟨_, rfl⟩
    rw [← hq2] at wk4
    obtain ⟨d2, j2⟩ := q4
    simp only at wk4
    have hc4 := append_is w2 lo B d1 d2 j2 h3 (by omega) Rt.nmA Rt.goodA a n c x k3.rds k3.none (by omega) hq2.symm
    have HQ2 := Lib.hid hq2
    clear hq2 h3
    go_wp2_with fail
    refine hc4.mono ?_
    clear hc4
    intro e w4 hop
    rcases Nat.eq_zero_or_pos j2 with rfl | hj
    rotate_left
    · obtain ⟨rfl, h4, hb4, kt4⟩ := hop.no (by omega)
      have hfin : Rt.saveB d1 x = (d2, j2) := by
        rw [show Rt.saveB d1 x = _ from HB1.out, ← HQ2.out]; exact Rt.bind_no (by simp only; omega)
      have HFI := Lib.hid (show OpAft w lo B (Rt.saveB d1 x) (.returned (.iface 35 (.int .i64 (j2 : Int)))) w4 by
        rw [hfin]
        exact ⟨by show _ = Ending.returned (errv j2); rw [errv, if_neg (by omega)], h4, bw3.trans hb4, kw3.trans kt4⟩)
      clear hop h4 hb4 kt4 hfin
      go_wp2
      go_ret
      exact HFI.out
    · obtain ⟨rfl, h4, hb4, kt4⟩ := hop.ok
      have bw4 := bw3.trans hb4
      have kw4 := kw3.trans kt4
      have k4 := k3.stay kt4.ku
      have HB2 : Hid (Rt.saveB d1 x = Rt.bind (d2.sync) fun d => Rt.bind (d.rename Rt.nmA Rt.nmR) fun d => d.sync) := by
        show _ = _
        rw [show Rt.saveB d1 x = _ from HB1.out, ← HQ2.out]; exact Rt.bind_ok rfl
      clear hop hb4 kt4 bw3 kw3 k3
      have wk5 := Dsk.wk_sync d2
      obtain ⟨q5, hq3⟩ : ∃ q, q = d2.sync  := ⟨_, rfl⟩
      rw [← hq3] at wk5
      obtain ⟨d3, j3⟩ := q5
      simp only at wk5
      have hc5 := sync_is w4 lo B d2 d3 j3 h4 (by omega) hq3.symm
      have HQ3 := Lib.hid hq3
      clear hq3 h4
      go_wp2_with fail
      refine hc5.mono ?_
      clear hc5
      intro e w5 hop
      rcases Nat.eq_zero_or_pos j3 with rfl | hj
      rotate_left
      · obtain ⟨rfl, h5, hb5, kt5⟩ := hop.no (by omega)
        have hfin : Rt.saveB d1 x = (d3, j3) := by
          rw [show Rt.saveB d1 x = _ from HB2.out, ← HQ3.out]; exact Rt.bind_no (by simp only; omega)
        have HFI := Lib.hid (show OpAft w lo B (Rt.saveB d1 x) (.returned (.iface 35 (.int .i64 (j3 : Int)))) w5 by
          rw [hfin]
          exact ⟨by show _ = Ending.returned (errv j3); rw [errv, if_neg (by omega)], h5, bw4.trans hb5, kw4.trans kt5⟩)
        clear hop h5 hb5 kt5 hfin
        go_wp2
        go_ret
        exact HFI.out
      · obtain ⟨rfl, h5, hb5, kt5⟩ := hop.ok
        have bw5 := bw4.trans hb5
        have kw5 := kw4.trans kt5
        have k5 := k4.stay kt5.ku
        have HB3 : Hid (Rt.saveB d1 x = Rt.bind (d3.rename Rt.nmA Rt.nmR) fun d => d.sync) := by
          show _ = _
          rw [show Rt.saveB d1 x = _ from HB2.out, ← HQ3.out]; exact Rt.bind_ok rfl
        clear hop hb5 kt5 bw4 kw4 k4
        have wk6 := Dsk.wk_rename d3 Rt.nmA Rt.nmR
        obtain ⟨q6, hq4⟩ : ∃ q, q = d3.rename Rt.nmA Rt.nmR := ⟨_, rfl⟩
        rw [← hq4] at wk6
        obtain ⟨d4, j4⟩ := q6
        simp only at wk6
        have hc6 := rename_is w5 lo B d3 d4 j4 h5 (by omega) Rt.nmA Rt.nmR Rt.goodA Rt.goodR hq4.symm
        have HQ4 := Lib.hid hq4
        clear hq4 h5
        go_wp2_with fail
        refine hc6.mono ?_
        clear hc6
        intro e w6 hop
        rcases Nat.eq_zero_or_pos j4 with rfl | hj
        rotate_left
        · obtain ⟨rfl, h6, hb6, kt6⟩ := hop.no (by omega)
          have hfin : Rt.saveB d1 x = (d4, j4) := by
            rw [show Rt.saveB d1 x = _ from HB3.out, ← HQ4.out]; exact Rt.bind_no (by simp only; omega)
          have HFI := Lib.hid (show OpAft w lo B (Rt.saveB d1 x) (.returned (.iface 35 (.int .i64 (j4 : Int)))) w6 by
            rw [hfin]
            exact ⟨by show _ = Ending.returned (errv j4); rw [errv, if_neg (by omega)], h6, bw5.trans hb6, kw5.trans kt6⟩)
          clear hop h6 hb6 kt6 hfin
          go_wp2
          go_ret
          exact HFI.out
        · obtain ⟨rfl, h6, hb6, kt6⟩ := hop.ok
          have bw6 := bw5.trans hb6
          have kw6 := kw5.trans kt6
          have k6 := k5.stay kt6.ku
          have HB4 : Hid (Rt.saveB d1 x = d4.sync) := by
            show _ = _
            rw [show Rt.saveB d1 x = _ from HB3.out, ← HQ4.out]; exact Rt.bind_ok rfl
          clear hop hb6 kt6 bw5 kw5 k5
          have wk7 := Dsk.wk_sync d4
          obtain ⟨q7, hq5⟩ : ∃ q, q = d4.sync  := ⟨_, rfl⟩
          rw [← hq5] at wk7
          obtain ⟨d5, j5⟩ := q7
          simp only at wk7
          have hc7 := sync_is w6 lo B d4 d5 j5 h6 (by omega) hq5.symm
          have HQ5 := Lib.hid hq5
          clear hq5 h6
          go_wp2_with fail
          refine hc7.mono ?_
          clear hc7
          intro e w7 hop
          have hfin : Rt.saveB d1 x = (d5, j5) := by rw [show Rt.saveB d1 x = _ from HB4.out, ← HQ5.out]
          obtain ⟨rfl, h7, hb7, kt7⟩ := hop
          have HFI := Lib.hid (show OpAft w lo B (Rt.saveB d1 x) (.returned (errv j5)) w7 by rw [hfin]; exact ⟨rfl, h7, bw6.trans hb7, kw6.trans kt7⟩)
          have hev : ∃ ev, ev = errv j5 := ⟨_, rfl⟩
          obtain ⟨ev, hev⟩ := hev
          simp only
          rw [← hev] at HFI ⊢
          clear hfin hev h7 hb7 kt7
          go_wp2
          go_ret
          exact HFI.out
theorem wrap_nil (w : World) (s : ByteArray) : Calls Tryz.prog 63 #[.string s, .nilIface] w fun e w' => e = .returned .nilIface ∧ w' = w := by
  go_enter Tryz.func63, Tryz.ntmps63
  go_wp2
  go_ret
  exact ⟨rfl, rfl⟩
/-- What a Save comes to. -/
def RtSaveAft (w : World) (lo B : Nat) (d : Dsk.Dk) (r : Rt.Root) (e : Ending) (w' : World) : Prop :=
  if Rt.may r = true then IsDk w' lo B (Rt.saveB d (Rt.lay r)).1 ∧ Below lo w w' ∧ KeepT w w' ∧ (if (Rt.saveB d (Rt.lay r)).2 = 0 then e = .returned .nilIface else ∃ pb, e = .returned (.iface 196 (.pointer (some ⟨pb, 0, none⟩))) ∧ IsSt w' pb ((Rt.saveB d (Rt.lay r)).2 : Int))
  else e = .returned (.iface 35 (.int .i64 1)) ∧ Below w.heap.size w w'
set_option maxHeartbeats 4000000 in
set_option maxRecDepth 100000 in
theorem rtSave_any (w : World) (lo B : Nat) (d : Dsk.Dk) (h : IsDk w lo B d) (hd : d.dead = false) (hw : d.works ≤ 99990) (r : Rt.Root) (a : Option Addr) (n c : Nat) (hs : Ints w a n c r.logs) (hn : n ≤ 2097152) :
    Calls Tryz.prog 32 #[.pointer (some ⟨B, 0, none⟩), .agg #[.int .i64 r.gen, .slice a n c, .int .i64 r.idx]] w (RtSaveAft w lo B d r) := by
  have hlo := h.lo_le
  obtain ⟨W1, hW1⟩ : ∃ W1, W1 = w.alloc (.cells #[.int .i64 r.gen, .slice a n c, .int .i64 r.idx] 67) := ⟨_, rfl⟩
  have hT1 : W1.heap[w.heap.size]? = some (.cells #[.int .i64 r.gen, .slice a n c, .int .i64 r.idx] 67 (0, 0)) := by rw [hW1]; exact heap_alloc_new _ _
  have hB1 : Below w.heap.size w W1 := by rw [hW1]; exact (Below.refl _ _).alloc (Nat.le_refl _) _
  have hlay := rtLay_any W1 r a n c (hs.below hB1 (Nat.le_refl _)) hn
  have h1 := Lib.hid (h.below hB1)
  have HB1 := Lib.hid hB1
  have HD := Lib.hid hd
  clear hs hT1 hB1 h hd
  go_enter Tryz.func32, Tryz.ntmps32
  go_wp2_with fail
  rw [← hW1]
  clear hW1
  refine hlay.mono ?_
  clear hlay
  rintro e w2 ⟨hb2, hla⟩
  have bw2 := HB1.out.trans (hb2.mono HB1.out.size)
  by_cases hm : Rt.may r = true
  · rw [if_pos hm] at hla
    obtain ⟨v2, rfl, ho2⟩ := hla
    obtain ⟨a2, c2, rfl, _⟩ := ownsRow_slice ho2
    have hll := Rt.lay_length r hm
    have h2 := h1.out.below hb2
    have hsv := save_any w2 lo B d h2 HD.out hw a2 _ c2 _ (Keeps.of_own ho2 rfl) (by omega)
    have kw2 := KeepT.below bw2 (Nat.le_refl _)
    obtain ⟨q, hq⟩ : ∃ q, q = Rt.saveB d (Rt.lay r) := ⟨_, rfl⟩
    rw [← hq] at hsv
    obtain ⟨d3, k3⟩ := q
    have HQ := Lib.hid hq
    have HM := Lib.hid hm
    clear ho2 h2 hb2 hll hq hm
    go_wp2_with fail
    refine hsv.mono ?_
    clear hsv
    rintro e w3 ⟨rfl, h3, hb3, kt3⟩
    have bw3 := (bw2.mono hlo).trans hb3
    have kw3 := kw2.trans kt3
    rcases Nat.eq_zero_or_pos k3 with rfl | hk
    · rw [show errv (d3, 0).2 = .nilIface from rfl]
      have fin : RtSaveAft w lo B d r (.returned .nilIface) w3 := by
        unfold RtSaveAft
        rw [if_pos HM.out, ← show (d3, 0) = _ from HQ.out]
        exact ⟨h3, bw3, kw3, by rw [if_pos rfl]⟩
      have FIN := Lib.hid fin
      clear h3 hb3 kt3 bw2 kw2 bw3 kw3 fin
      go_wp2_with fail
      refine (wrap_nil w3 _).mono ?_
      rintro e w' ⟨rfl, hh⟩
      obtain rfl := hh.symm
      go_wp2
      go_ret
      exact FIN.out
    · rw [show errv (d3, k3).2 = .iface 35 (.int .i64 (k3 : Int)) from if_neg (by show k3 ≠ 0; omega)]
      have H3 := Lib.hid h3
      clear h3 hb3 kt3 bw2 kw2
      go_wp2_with fail
      refine (wrap_any w3 _ (k3 : Int)).mono ?_
      rintro e w4 ⟨pb, rfl, hst, hb4⟩
      have bw4 := bw3.trans (hb4.mono (by have := bw3.size; omega))
      have kw4 := kw3.trans (KeepT.below hb4 (Nat.le_refl _))
      have fin : RtSaveAft w lo B d r (.returned (.iface 196 (.pointer (some ⟨pb, 0, none⟩)))) w4 := by
        unfold RtSaveAft
        rw [if_pos HM.out, ← show (d3, k3) = _ from HQ.out]
        exact ⟨H3.out.below hb4, bw4, kw4, by rw [if_neg (by show k3 ≠ 0; omega)]; exact ⟨pb, rfl, hst⟩⟩
      have FIN := Lib.hid fin
      clear hst hb4 bw3 kw3 bw4 kw4 fin
      go_wp2
      go_ret
      exact FIN.out
  · rw [if_neg hm] at hla
    subst hla
    have fin : RtSaveAft w lo B d r (.returned (.iface 35 (.int .i64 1))) w2 := by
      unfold RtSaveAft
      rw [if_neg hm]
      exact ⟨rfl, bw2⟩
    have FIN := Lib.hid fin
    clear hb2 fin hm
    go_wp2
    go_ret
    exact FIN.out
end Go.Proofs.YtggdbdjaobgeeaaGreatDoor
