/- The program's Save and Load, of a dead disk too. -/
import Derived.Test.YtggdbdjaobgeeaaGreatDoorRpSave
import Derived.Test.YtggdbdjaobgeeaaGreatDoorRtWhPl
namespace Go.Proofs.YtggdbdjaobgeeaaGreatDoor
open Go.RowKit Go.Tap Go.Maps
set_option linter.unusedVariables false
set_option linter.unusedSimpArgs false

theorem save_dead (w : World) (lo B : Nat) (d : Dsk.Dk) (h : IsDk w lo B d) (hd : d.dead = true) (hw : d.works ≤ 99990) (a : Option Addr) (n c : Nat) (x : List UInt8) (hk : Keeps w a n c x) (hn : n ≤ 1048576) :
    Calls Tryz.prog 85 #[.pointer (some ⟨B, 0, none⟩), .slice a n c] w fun e w' => e = .returned (errv 7) ∧ IsDk w' lo B d ∧ Below lo w w' ∧ KeepT w w' := by
  have hrd := read_dead w lo B d h hd Rt.nmA
  have hap := append_is w lo B d d 7 h (by omega) Rt.nmA Rt.goodA a n c x hk.rds hk.none (by omega) (by unfold Dsk.Dk.append; rw [if_pos hd])
  clear h hk hd
  go_enter Tryz.func85, Tryz.ntmps85
  go_wp2_with fail
  refine hrd.mono ?_
  clear hrd
  rintro e w' ⟨rfl, hww⟩
  obtain rfl := hww.symm
  go_wp2_with fail
  refine hap.mono ?_
  clear hap
  intro e w4 hop
  obtain ⟨rfl, h4, hb4, kt4⟩ := hop.no (by omega)
  have FIN := Lib.hid (And.intro h4 (And.intro hb4 kt4))
  clear hop h4 hb4 kt4
  go_wp2
  go_ret
  exact ⟨rfl, FIN.out.1, FIN.out.2.1, FIN.out.2.2⟩
theorem saveB_dead {d : Dsk.Dk} (hd : d.dead = true) (x : List UInt8) : Rt.saveB d x = (d, 7) := by
  unfold Rt.saveB
  have e1 : Rt.clear d = (d, 0) := by unfold Rt.clear; rw [if_neg (by rw [hd]; simp)]
  rw [e1, Rt.bind_ok rfl]
  have e2 : d.append Rt.nmA x = (d, 7) := by unfold Dsk.Dk.append; rw [if_pos hd]
  show Rt.bind (d.append Rt.nmA x) _ = _
  rw [e2, Rt.bind_no (by simp)]
theorem saveD_any (w : World) (lo B : Nat) (d : Dsk.Dk) (h : IsDk w lo B d) (hw : d.works ≤ 99990) (a : Option Addr) (n c : Nat) (x : List UInt8) (hk : Keeps w a n c x) (hn : n ≤ 1048576) :
    Calls Tryz.prog 85 #[.pointer (some ⟨B, 0, none⟩), .slice a n c] w (OpAft w lo B (Rt.saveB d x)) := by
  cases hd : d.dead
  · exact save_any w lo B d h hd hw a n c x hk hn
  · rw [saveB_dead hd x]
    exact save_dead w lo B d h hd hw a n c x hk hn
set_option maxHeartbeats 4000000 in
set_option maxRecDepth 100000 in
theorem load16_any (w : World) (lo B : Nat) (d : Dsk.Dk) (h : IsDk w lo B d) (hd : d.dead = false) (hlen : (Dsk.val d.now Rt.nmR).length ≤ 16777216) :
    Calls Tryz.prog 35 #[.pointer (some ⟨B, 0, none⟩)] w (RtLoadAft w d) := by
  obtain ⟨W1, hW1⟩ : ∃ W1, W1 = w.alloc (.cells #[.int .i64 0, .slice none 0 0, .int .i64 0] 67) := ⟨_, rfl⟩
  have hT1 : W1.heap[w.heap.size]? = some (.cells #[.int .i64 0, .slice none 0 0, .int .i64 0] 67 (0, 0)) := by rw [hW1]; exact heap_alloc_new _ _
  have hB1 : Below w.heap.size w W1 := by rw [hW1]; exact (Below.refl _ _).alloc (Nat.le_refl _) _
  have hs1 : W1.heap.size = w.heap.size + 1 := by rw [hW1]; simp
  obtain ⟨L, hL⟩ : ∃ L, L = Dsk.val d.now Rt.nmR := ⟨_, rfl⟩
  obtain ⟨is, his⟩ : ∃ is, is = (Dsk.get d.now Rt.nmR).isSome := ⟨_, rfl⟩
  have hrd := read_is W1 lo B d (h.below hB1) hd Rt.nmR (by decide) L is L.length hL.symm his.symm rfl
  rw [← hL] at hlen
  have HT1 := Lib.hid hT1
  have HB1 := Lib.hid hB1
  have HS1 := Lib.hid hs1
  have HL := Lib.hid hL
  have HIS := Lib.hid his
  clear h hT1 hB1 hs1 hd hL his
  go_enter Tryz.func35, Tryz.ntmps35
  go_wp2_with fail
  rw [← hW1]
  clear hW1
  refine hrd.mono ?_
  clear hrd
  rintro e w2 ⟨a2, c2, rfl, hown2, hb2⟩
  have hT2 := Lib.hid ((hb2.block w.heap.size (by rw [HS1.out]; omega)).trans HT1.out)
  have bw2 := HB1.out.trans (hb2.mono HB1.out.size)
  have hsz2 := blk_lt hT2.out
  have r0 : w2.cell? ⟨w.heap.size, 0, none⟩ = some (.int .i64 0) := blk_cell (i := 0) hT2.out rfl
  have r1 : w2.cell? ⟨w.heap.size, 1, none⟩ = some (.slice none 0 0) := blk_cell (i := 1) hT2.out rfl
  have r2 : w2.cell? ⟨w.heap.size, 2, none⟩ = some (.int .i64 0) := blk_cell (i := 2) hT2.out rfl
  have e0 := blk_free hT2.out 0
  have e1 := blk_free hT2.out 1
  have e2 := blk_free hT2.out 2
  cases is with
  | false =>
    have hg : Dsk.get d.now Rt.nmR = none := by
      have := HIS.out
      cases hh : Dsk.get d.now Rt.nmR with
      | none => rfl
      | some b => rw [hh] at this; cases this
    have HG := Lib.hid hg
    clear hown2 hb2 hg
    go_wp2
    (try simp only [Exit.inBlock, Exit.then])
    refine bodyPost_ret (ret_root (by rfl) (by rfl) (set3 hT2.out _ _ _)) rfl ⟨((bw2.setCell (Nat.le_refl _) _).setCell (Nat.le_refl _) _).setCell (Nat.le_refl _) _, ?_⟩
    rw [HG.out]
    rfl
  | true =>
    have hg : Dsk.get d.now Rt.nmR = some L := by
      have := HIS.out
      have h2 := HL.out
      unfold Dsk.val at h2
      cases hh : Dsk.get d.now Rt.nmR with
      | none => rw [hh] at this; cases this
      | some b => rw [hh] at h2; rw [h2]; rfl
    have HG := Lib.hid hg
    obtain ⟨_, _, hsl, hnc, _, hno, _⟩ := ownsRow_slice hown2
    simp only [Value.slice.injEq] at hsl
    obtain ⟨rfl, _, rfl⟩ := hsl
    have hread := rtRead_any w2 a2 L.length c2 L (Rds.of_own hown2 rfl) hnc hno (by omega)
    clear hown2 hb2 hg r0 r1 r2 e0 e1 e2 hnc hno
    go_wp2_with fail
    refine hread.mono ?_
    clear hread
    rintro e w3 ⟨hb3, hq⟩
    have hT3 := Lib.hid ((hb3.block w.heap.size hsz2).trans hT2.out)
    have bw3 := bw2.trans (hb3.mono bw2.size)
    have r0 : w3.cell? ⟨w.heap.size, 0, none⟩ = some (.int .i64 0) := blk_cell (i := 0) hT3.out rfl
    have r1 : w3.cell? ⟨w.heap.size, 1, none⟩ = some (.slice none 0 0) := blk_cell (i := 1) hT3.out rfl
    have r2 : w3.cell? ⟨w.heap.size, 2, none⟩ = some (.int .i64 0) := blk_cell (i := 2) hT3.out rfl
    have e0 := blk_free hT3.out 0
    have e1 := blk_free hT3.out 1
    have e2 := blk_free hT3.out 2
    cases hR : Rt.read L with
    | error k =>
      rw [hR] at hq
      simp only at hq
      subst hq
      unfold root0
      have HR := Lib.hid hR
      clear hb3 hR
      go_wp2
      (try simp only [Exit.inBlock, Exit.then])
      refine bodyPost_ret (ret_root (by rfl) (by rfl) (set3 hT3.out _ _ _)) rfl ⟨((bw3.setCell (Nat.le_refl _) _).setCell (Nat.le_refl _) _).setCell (Nat.le_refl _) _, ?_⟩
      rw [HG.out]
      simp only
      rw [HR.out]
      rfl
    | ok r =>
      rw [hR] at hq
      simp only at hq
      obtain ⟨a3, n3, c3, rfl, ho3, hn3⟩ := hq
      have HR := Lib.hid hR
      have HO := Lib.hid ho3
      clear hb3 hR ho3
      go_wp2
      (try simp only [Exit.inBlock, Exit.then])
      refine bodyPost_ret (ret_root (by rfl) (by rfl) (set3 hT3.out _ _ _)) rfl ⟨((bw3.setCell (Nat.le_refl _) _).setCell (Nat.le_refl _) _).setCell (Nat.le_refl _) _, ?_⟩
      rw [HG.out]
      simp only
      rw [HR.out]
      exact ⟨a3, n3, c3, rfl, ownsRow_base (ownsRow_setCell_below (ownsRow_setCell_below (ownsRow_setCell_below HO.out hsz2 _) hsz2 _) hsz2 _) (by omega), hn3⟩
set_option maxHeartbeats 4000000 in
set_option maxRecDepth 100000 in
theorem rtSaveD_any (w : World) (lo B : Nat) (d : Dsk.Dk) (h : IsDk w lo B d) (hw : d.works ≤ 99990) (r : Rt.Root) (a : Option Addr) (n c : Nat) (hs : Ints w a n c r.logs) (hn : n ≤ 2097152) :
    Calls Tryz.prog 32 #[.pointer (some ⟨B, 0, none⟩), .agg #[.int .i64 r.gen, .slice a n c, .int .i64 r.idx]] w (RtSaveAft w lo B d r) := by
  have hlo := h.lo_le
  obtain ⟨W1, hW1⟩ : ∃ W1, W1 = w.alloc (.cells #[.int .i64 r.gen, .slice a n c, .int .i64 r.idx] 67) := ⟨_, rfl⟩
  have hT1 : W1.heap[w.heap.size]? = some (.cells #[.int .i64 r.gen, .slice a n c, .int .i64 r.idx] 67 (0, 0)) := by rw [hW1]; exact heap_alloc_new _ _
  have hB1 : Below w.heap.size w W1 := by rw [hW1]; exact (Below.refl _ _).alloc (Nat.le_refl _) _
  have hlay := rtLay_any W1 r a n c (hs.below hB1 (Nat.le_refl _)) hn
  have h1 := Lib.hid (h.below hB1)
  have HB1 := Lib.hid hB1
  clear hs hT1 hB1 h
  go_enter Tryz.func32, Tryz.ntmps32
  go_wp2_with fail
  rw [← hW1]
  clear hW1
  refine hlay.mono ?_
  clear hlay
  rintro e w2 ⟨hb2, hla⟩
  have bw2 := HB1.out.trans (hb2.mono HB1.out.size)
  by_cases hm : Rt.may r = true
  · rw [if_pos hm] at hla
    obtain ⟨v2, rfl, ho2⟩ := hla
    obtain ⟨a2, c2, rfl, _⟩ := ownsRow_slice ho2
    have hll := Rt.lay_length r hm
    have h2 := h1.out.below hb2
    have hsv := saveD_any w2 lo B d h2 hw a2 _ c2 _ (Keeps.of_own ho2 rfl) (by omega)
    have kw2 := KeepT.below bw2 (Nat.le_refl _)
    obtain ⟨q, hq⟩ : ∃ q, q = Rt.saveB d (Rt.lay r) := ⟨_, rfl⟩
    rw [← hq] at hsv
    obtain ⟨d3, k3⟩ := q
    have HQ := Lib.hid hq
    have HM := Lib.hid hm
    clear ho2 h2 hb2 hll hq hm
    go_wp2_with fail
    refine hsv.mono ?_
    clear hsv
    rintro e w3 ⟨rfl, h3, hb3, kt3⟩
    have bw3 := (bw2.mono hlo).trans hb3
    have kw3 := kw2.trans kt3
    rcases Nat.eq_zero_or_pos k3 with rfl | hk
    · rw [show errv (d3, 0).2 = .nilIface from rfl]
      have fin : RtSaveAft w lo B d r (.returned .nilIface) w3 := by
        unfold RtSaveAft
        rw [if_pos HM.out, ← show (d3, 0) = _ from HQ.out]
        exact ⟨h3, bw3, kw3, by rw [if_pos rfl]⟩
      have FIN := Lib.hid fin
      clear h3 hb3 kt3 bw2 kw2 bw3 kw3 fin
      go_wp2_with fail
      refine (wrap_nil w3 _).mono ?_
      rintro e w' ⟨rfl, hh⟩
      obtain rfl := hh.symm
      go_wp2
      go_ret
      exact FIN.out
    · rw [show errv (d3, k3).2 = .iface 35 (.int .i64 (k3 : Int)) from if_neg (by show k3 ≠ 0; omega)]
      have H3 := Lib.hid h3
      clear h3 hb3 kt3 bw2 kw2
      go_wp2_with fail
      refine (wrap_any w3 _ (k3 : Int)).mono ?_
      rintro e w4 ⟨pb, rfl, hst, hb4⟩
      have bw4 := bw3.trans (hb4.mono (by have := bw3.size; omega))
      have kw4 := kw3.trans (KeepT.below hb4 (Nat.le_refl _))
      have fin : RtSaveAft w lo B d r (.returned (.iface 196 (.pointer (some ⟨pb, 0, none⟩)))) w4 := by
        unfold RtSaveAft
        rw [if_pos HM.out, ← show (d3, k3) = _ from HQ.out]
        exact ⟨H3.out.below hb4, bw4, kw4, by rw [if_neg (by show k3 ≠ 0; omega)]; exact ⟨pb, rfl, hst⟩⟩
      have FIN := Lib.hid fin
      clear hst hb4 bw3 kw3 bw4 kw4 fin
      go_wp2
      go_ret
      exact FIN.out
  · rw [if_neg hm] at hla
    subst hla
    have fin : RtSaveAft w lo B d r (.returned (.iface 35 (.int .i64 1))) w2 := by
      unfold RtSaveAft
      rw [if_neg hm]
      exact ⟨rfl, bw2⟩
    have FIN := Lib.hid fin
    clear hb2 fin hm
    go_wp2
    go_ret
    exact FIN.out
/-- A root that was loaded, or an error of a kind. -/
def DLoadAft (w : World) (q : Except Nat Rt.Root) (e : Ending) (w' : World) : Prop :=
  Below w.heap.size w w' ∧ match q with
  | .error k => e = .returned (ErrT (k : Int))
  | .ok r => ∃ a n c, e = .returned (.tuple #[.agg #[.int .i64 r.gen, .slice a n c, .int .i64 r.idx], .nilIface]) ∧ w'.ownsRow w.heap.size 3 1 (.slice a n c) n (iv r.logs) ∧ n ≤ 8
set_option maxHeartbeats 4000000 in
set_option maxRecDepth 100000 in
theorem load_dead (w : World) (lo B : Nat) (d : Dsk.Dk) (h : IsDk w lo B d) (hd : d.dead = true) :
    Calls Tryz.prog 35 #[.pointer (some ⟨B, 0, none⟩)] w (DLoadAft w (.error 11)) := by
  obtain ⟨W1, hW1⟩ : ∃ W1, W1 = w.alloc (.cells #[.int .i64 0, .slice none 0 0, .int .i64 0] 67) := ⟨_, rfl⟩
  have hT1 : W1.heap[w.heap.size]? = some (.cells #[.int .i64 0, .slice none 0 0, .int .i64 0] 67 (0, 0)) := by rw [hW1]; exact heap_alloc_new _ _
  have hB1 : Below w.heap.size w W1 := by rw [hW1]; exact (Below.refl _ _).alloc (Nat.le_refl _) _
  have hrd := read_dead W1 lo B d (h.below hB1) hd Rt.nmR
  have HT1 := Lib.hid hT1
  have HB1 := Lib.hid hB1
  clear h hT1 hB1 hd
  go_enter Tryz.func35, Tryz.ntmps35
  go_wp2_with fail
  rw [← hW1]
  clear hW1
  refine hrd.mono ?_
  clear hrd
  rintro e w2 ⟨rfl, hww⟩
  obtain rfl := hww.symm
  have hsz2 := blk_lt HT1.out
  have r0 : W1.cell? ⟨w.heap.size, 0, none⟩ = some (.int .i64 0) := blk_cell (i := 0) HT1.out rfl
  have r1 : W1.cell? ⟨w.heap.size, 1, none⟩ = some (.slice none 0 0) := blk_cell (i := 1) HT1.out rfl
  have r2 : W1.cell? ⟨w.heap.size, 2, none⟩ = some (.int .i64 0) := blk_cell (i := 2) HT1.out rfl
  have e0 := blk_free HT1.out 0
  have e1 := blk_free HT1.out 1
  have e2 := blk_free HT1.out 2
  go_wp2
  (try simp only [Exit.inBlock, Exit.then])
  exact bodyPost_ret (ret_root (by rfl) (by rfl) (set3 HT1.out _ _ _)) rfl ⟨((HB1.out.setCell (Nat.le_refl _) _).setCell (Nat.le_refl _) _).setCell (Nat.le_refl _) _, rfl⟩
theorem dload_any (w : World) (lo B : Nat) (d : Dsk.Dk) (h : IsDk w lo B d) (r : Ref.Rd) (he : Ref.Eq d r) (ho : Dsk.Ok d) :
    Calls Tryz.prog 35 #[.pointer (some ⟨B, 0, none⟩)] w (DLoadAft w r.loadR) := by
  cases hd : d.dead
  · obtain ⟨hl, ha⟩ := he.now ho
    have hu := ho.small'
    have hv := Dsk.val_le ha Rt.nmR
    have hro := ho.room
    refine (load16_any w lo B d h hd (by omega)).mono ?_
    rintro e w' ⟨hb, hq⟩
    refine ⟨hb, ?_⟩
    have hrd : r.dead = false := he.dead.trans hd
    unfold Ref.Rd.loadR Ref.Rd.has Ref.Rd.vals
    have hnd : ¬ r.dead = true := by rw [hrd]; simp
    rw [if_neg hnd, if_neg hnd, hl.get ha, hl.val ha]
    unfold Dsk.val
    cases hg : Dsk.get d.now Rt.nmR with
    | none => rw [hg] at hq; exact hq
    | some b => rw [hg] at hq; exact hq
  · have e : r.loadR = .error 11 := by
      have hrd : r.dead = true := he.dead.trans hd
      unfold Ref.Rd.loadR Ref.Rd.has
      rw [if_pos hrd]; rfl
    rw [e]
    exact load_dead w lo B d h hd
def Rt.saveA (d : Dsk.Dk) (t : Rt.Root) : Dsk.Dk × Nat := if Rt.may t = true then Rt.saveB d (Rt.lay t) else (d, 1)
theorem Ref.pair_saveA {d : Dsk.Dk} {r : Ref.Rd} {n : Nat} (h : Ref.Eq d r) (ho : Dsk.Ok d) (hw : d.works ≤ n) (hn : n ≤ 99900) (t : Rt.Root) : Ref.Pair (Rt.saveA d t) (r.saveR t) (n + 5) := by
  unfold Rt.saveA Ref.Rd.saveR
  by_cases hm : Rt.may t = true
  · rw [if_pos hm, if_pos hm]; exact Ref.pair_save h ho hw hn _
  · rw [if_neg hm, if_neg hm]; exact ⟨h, rfl, ho, by show d.works ≤ _; omega⟩
/-- An error of a kind. -/
def EvIs (X : World) (ev : Value) (k : Nat) : Prop := (ev = .nilIface ∧ k = 0) ∨ (ev = .iface 35 (.int .i64 (k : Int))) ∨ ∃ pb, ev = .iface 196 (.pointer (some ⟨pb, 0, none⟩)) ∧ IsSt X pb (k : Int)
theorem EvIs.below {X Y : World} {ev : Value} {k : Nat} (h : EvIs X ev k) (hb : Below X.heap.size X Y) : EvIs Y ev k := by
  rcases h with h | h | ⟨pb, h1, h2⟩
  · exact .inl h
  · exact .inr (.inl h)
  · exact .inr (.inr ⟨pb, h1, h2.keep hb⟩)
theorem EvIs.ref {X Y : World} {ev : Value} {k B : Nat} {r : Ref.Rd} (h : EvIs X ev k) (hr : IsRd X B r) (ht : TStay (fun j => j = B) X Y) : EvIs Y ev k := by
  rcases h with h | h | ⟨pb, h1, h2⟩
  · exact .inl h
  · exact .inr (.inl h)
  · refine .inr (.inr ⟨pb, h1, ?_⟩)
    have hne : pb ≠ B := by
      rintro rfl
      obtain ⟨kv, pv, hv⟩ := hr
      have c1 : X.cell? ⟨pb, 1, none⟩ = some kv := blk_cell (i := 1) hv.blk rfl
      obtain ⟨a, c, rfl, _⟩ := hv.kept.slice
      unfold IsSt at h2
      rw [c1] at h2
      cases h2
    unfold IsSt at h2 ⊢
    exact (blk_same (ht.block pb (World.block_lt_of_cell? X _ h2) hne) 1).trans h2
theorem EvIs.kind {X : World} {ev : Value} {k : Nat} (h : EvIs X ev k) (hg : EType X) : Calls Tryz.prog 15 #[ev] X fun e w' => e = .returned (.int .i64 (k : Int)) ∧ Below X.heap.size X w' := by
  rcases h with ⟨rfl, rfl⟩ | rfl | ⟨pb, rfl, h2⟩
  · exact (kind_nil X).mono fun e w' ⟨h1, h2⟩ => ⟨h1, by rw [h2]; exact Below.refl _ _⟩
  · exact kind_errno X k hg
  · exact kind_step X pb k h2 hg
/-- The state in the middle of a statement that saves a root on a disk and on its like: which of the two is done. -/
structure RpPS (w : World) (B RB xb : Nat) (cs : Array Value) (T : TypeId) (rb : Nat) (t : Rt.Root) (a : Option Addr) (n c : Nat) (d : Dsk.Dk) (r : Ref.Rd) (X : World) (sv rs : Bool) (ev : Value) : Prop where
  st : DpSt w B RB xb cs T X (if sv = true then (Rt.saveA d t).1 else d) (if rs = true then (r.saveR t).1 else r)
  rt : X.heap[rb]? = some (.cells #[.int .i64 t.gen, .slice a n c, .int .i64 t.idx] 67 (0, 0))
  own : X.ownsRow w.heap.size 3 1 (.slice a n c) n (iv t.logs)
  ev : sv = true → EvIs X ev (Rt.saveA d t).2
theorem RpPS.below {w : World} {B RB xb : Nat} {cs : Array Value} {T : TypeId} {rb : Nat} {t : Rt.Root} {a : Option Addr} {n c : Nat} {d : Dsk.Dk} {r : Ref.Rd} {X Y : World} {sv rs : Bool} {ev : Value} (h : RpPS w B RB xb cs T rb t a n c d r X sv rs ev) (hb : Below X.heap.size X Y) : RpPS w B RB xb cs T rb t a n c d r Y sv rs ev :=
  ⟨h.st.below hb, (hb.block rb (blk_lt h.rt)).trans h.rt, own_blw h.own hb, fun e => (h.ev e).below hb⟩
theorem RpPS.save {w : World} {B RB xb : Nat} {cs : Array Value} {T : TypeId} {rb : Nat} {t : Rt.Root} {a : Option Addr} {n c : Nat} {d : Dsk.Dk} {r : Ref.Rd} {X : World} {rs : Bool} {ev : Value} (h : RpPS w B RB xb cs T rb t a n c d r X false rs ev) (hw : d.works ≤ 99990) (hn : n ≤ 2097152) :
    Calls Tryz.prog 32 #[.pointer (some ⟨B, 0, none⟩), .agg #[.int .i64 t.gen, .slice a n c, .int .i64 t.idx]] X fun e Y => ∃ ev, e = .returned ev ∧ RpPS w B RB xb cs T rb t a n c d r Y true rs ev := by
  have hst := h.st
  simp only [Bool.false_eq_true, if_false] at hst
  refine (rtSaveD_any X w.heap.size B d hst.dk hw t a n c (Ints.of_own h.own) hn).mono ?_
  intro e Y hq
  unfold RtSaveAft at hq
  by_cases hm : Rt.may t = true
  · have e1 : Rt.saveA d t = Rt.saveB d (Rt.lay t) := by unfold Rt.saveA; rw [if_pos hm]
    rw [if_pos hm, ← e1] at hq
    obtain ⟨q1, q2, q3, q4⟩ := hq
    by_cases h0 : (Rt.saveA d t).2 = 0
    · rw [if_pos h0] at q4
      exact ⟨_, q4, by simpa using hst.go q1 q2 q3, (q3 _ _ _ _ h.rt (by decide) (by decide)).trans h.rt, rown_nd h.own q3 (by decide) (by decide), fun _ => .inl ⟨rfl, h0⟩⟩
    · rw [if_neg h0] at q4
      obtain ⟨pb, q5, q6⟩ := q4
      exact ⟨_, q5, by simpa using hst.go q1 q2 q3, (q3 _ _ _ _ h.rt (by decide) (by decide)).trans h.rt, rown_nd h.own q3 (by decide) (by decide), fun _ => .inr (.inr ⟨pb, rfl, q6⟩)⟩
  · have e1 : Rt.saveA d t = (d, 1) := by unfold Rt.saveA; rw [if_neg hm]
    rw [if_neg hm] at hq
    obtain ⟨q1, q2⟩ := hq
    have hb := h.below q2
    exact ⟨_, q1, by rw [if_pos rfl, e1]; simpa using hb.st, hb.rt, hb.own, fun _ => by rw [e1]; exact .inr (.inl rfl)⟩
theorem RpPS.ref {w : World} {B RB xb : Nat} {cs : Array Value} {T : TypeId} {rb : Nat} {t : Rt.Root} {a : Option Addr} {n c : Nat} {d : Dsk.Dk} {r : Ref.Rd} {X : World} {sv : Bool} {ev : Value} (h : RpPS w B RB xb cs T rb t a n c d r X sv false ev) (hw : Ref.Rw r 99900) (hn : n ≤ 2097152) :
    Calls Tryz.prog 33 #[.pointer (some ⟨RB, 0, none⟩), .agg #[.int .i64 t.gen, .slice a n c, .int .i64 t.idx]] X fun e Y => e = .returned (.int .i64 ((r.saveR t).2 : Int)) ∧ RpPS w B RB xb cs T rb t a n c d r Y sv true ev := by
  have hst := h.st
  simp only [Bool.false_eq_true, if_false] at hst
  refine (rsave_any X RB r hst.rd hw t a n c (Ints.of_own h.own) hn).mono ?_
  rintro e Y ⟨q1, q2, q3⟩
  have hrd := hst.rd
  obtain ⟨kv, pv, hr⟩ := hst.rd
  have hne : rb ≠ RB := by
    rintro rfl
    have := h.rt
    rw [hr.blk] at this
    simp only [Option.some.injEq, Obj.cells.injEq] at this
    exact absurd this.2.1 (by decide)
  refine ⟨q1, by simpa using hst.stay q2 q3, (q3.block rb (blk_lt h.rt) hne).trans h.rt, ?_, fun e => (h.ev e).ref hrd q3⟩
  exact own_keep h.own (fun k cur hk => q3.block k (blk_lt hk) (fun e => by
    subst e
    rw [hr.blk] at hk
    simp only [Option.some.injEq, Obj.cells.injEq] at hk
    exact absurd hk.2.1 (by decide)))
theorem RpPS.etype {w : World} {B RB xb : Nat} {cs : Array Value} {T : TypeId} {rb : Nat} {t : Rt.Root} {a : Option Addr} {n c : Nat} {d : Dsk.Dk} {r : Ref.Rd} {X : World} {sv rs : Bool} {ev : Value} (h : RpPS w B RB xb cs T rb t a n c d r X sv rs ev) (hg : EType w) : EType X := hg.below h.st.bel hg.pos
theorem RpPS.kind {w : World} {B RB xb : Nat} {cs : Array Value} {T : TypeId} {rb : Nat} {t : Rt.Root} {a : Option Addr} {n c : Nat} {d : Dsk.Dk} {r : Ref.Rd} {X : World} {rs : Bool} {ev : Value} (h : RpPS w B RB xb cs T rb t a n c d r X true rs ev) (hg : EType w) :
    Calls Tryz.prog 15 #[ev] X fun e Y => e = .returned (.int .i64 ((Rt.saveA d t).2 : Int)) ∧ RpPS w B RB xb cs T rb t a n c d r Y true rs ev :=
  ((h.ev rfl).kind (h.etype hg)).mono fun e Y ⟨h1, h2⟩ => ⟨h1, h.below h2⟩
theorem RpPS.plain {w : World} {B RB xb : Nat} {cs : Array Value} {T : TypeId} {rb : Nat} {t : Rt.Root} {a : Option Addr} {n c : Nat} {d : Dsk.Dk} {r : Ref.Rd} {X : World} {sv rs : Bool} {ev : Value} (h : RpPS w B RB xb cs T rb t a n c d r X sv rs ev) :
    Calls Tryz.prog 34 #[.agg #[.int .i64 t.gen, .slice a n c, .int .i64 t.idx]] X fun e Y => e = .returned (.agg #[.int .i64 t.gen, .slice a n c, .int .i64 t.idx]) ∧ RpPS w B RB xb cs T rb t a n c d r Y sv rs ev :=
  (plain_any X t.gen t.idx a n c).mono fun e Y ⟨h1, h2⟩ => ⟨h1, h.below h2⟩
def QIs (q : Except Nat Rt.Root) (s : Rt.Root) (kc : Nat) : Prop := match q with | .error k => s = ⟨0, [], 0⟩ ∧ kc = k | .ok r => s = r ∧ kc = 0
theorem dload_kv {w w' : World} {q : Except Nat Rt.Root} {e : Ending} (h : DLoadAft w q e w') : Below w.heap.size w w' ∧ ∃ s a n c fv kc, e = .returned (.tuple #[.agg #[.int .i64 s.gen, .slice a n c, .int .i64 s.idx], fv]) ∧ w'.ownsRow w.heap.size 3 1 (.slice a n c) n (iv s.logs) ∧ n ≤ 8 ∧ (∀ W, EvIs W fv kc) ∧ QIs q s kc := by
  obtain ⟨hb, h⟩ := h
  refine ⟨hb, ?_⟩
  unfold QIs
  cases q with
  | error k => exact ⟨⟨0, [], 0⟩, none, 0, 0, _, k, h, World.ownsRow_nil _ _ _ _, by omega, fun W => .inr (.inl rfl), rfl, rfl⟩
  | ok r =>
    obtain ⟨a, n, c, h1, h2, h3⟩ := h
    exact ⟨r, a, n, c, _, 0, h1, h2, h3, fun W => .inl ⟨rfl, rfl⟩, rfl, rfl⟩
theorem rload_kv {w w' : World} {q : Except Nat Rt.Root} {e : Ending} {s : Rt.Root} {kc : Nat} (h : RLoadAft w q e w') (hs : QIs q s kc) : Below w.heap.size w w' ∧ ∃ a n c, e = .returned (.tuple #[.agg #[.int .i64 s.gen, .slice a n c, .int .i64 s.idx], .int .i64 (kc : Int)]) ∧ w'.ownsRow w.heap.size 3 1 (.slice a n c) n (iv s.logs) ∧ n ≤ 8 := by
  obtain ⟨hb, h⟩ := h
  refine ⟨hb, ?_⟩
  unfold QIs at hs
  cases q with
  | error k =>
    obtain ⟨rfl, rfl⟩ := hs
    exact ⟨none, 0, 0, h, World.ownsRow_nil _ _ _ _, by omega⟩
  | ok r =>
    obtain ⟨rfl, rfl⟩ := hs
    obtain ⟨a, n, c, h1, h2, h3⟩ := h
    exact ⟨a, n, c, h1, h2, h3⟩
end Go.Proofs.YtggdbdjaobgeeaaGreatDoor
