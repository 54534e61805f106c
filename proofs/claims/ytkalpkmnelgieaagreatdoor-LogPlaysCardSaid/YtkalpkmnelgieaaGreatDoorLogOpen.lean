/- log.Open, where it goes well; Add, where it goes well. -/
import Derived.Test.YtkalpkmnelgieaaGreatDoorLogOp
namespace Go.Proofs.YtkalpkmnelgieaaGreatDoor
open Go.RowKit Go.Tap Go.Maps
set_option linter.unusedVariables false
attribute [local go_sem ↓] Go.wp_at_zero Go.wp_at_succ

theorem RecsIs.slice {w : World} {lo : Nat} {v : Value} {l : List Rec} (h : RecsIs w lo v l) : ∃ a c, v = .slice a l.length c := by
  obtain ⟨ps, h1, _, h3⟩ := h
  obtain ⟨a, c, rfl, _⟩ := h3.form
  exact ⟨a, c, by rw [← h1, List.length_map]⟩
/-- What an opening leaves of the disk. -/
def openD (d : Dsk.Dk) (nm : Dsk.Name) (len : Nat) : Dsk.Dk × Nat := if len < (Dsk.val d.now nm).length then d.trunc nm (len : Int) else (d, 0)
set_option maxHeartbeats 4000000 in
set_option maxRecDepth 100000 in
theorem open_ok (w : World) (lo B : Nat) (d d' : Dsk.Dk) (h : IsDk w lo B d) (hw : d.works ≤ 99999) (hd : d.dead = false) (nm : List UInt8) (hnm : Dsk.good nm) (len : Nat) (hle : len ≤ (Dsk.val d.now nm).length)
    (rs : List Rec) (hsc : scanF ((Dsk.val d.now nm).take len) = (rs, 0)) (ho : openD d nm len = (d', 0)) :
    Calls Tryz.prog 10 #[.pointer (some ⟨B, 0, none⟩), .string (str nm), .int .i64 (len : Int)] w fun e w' => ∃ LB, e = .returned (.tuple #[.pointer (some ⟨LB, 0, none⟩), .nilIface]) ∧ IsDk w' lo B d' ∧ LogIs w' lo LB B nm rs ∧ Below lo w w' ∧ KeepT w w' := by
  have hlo := h.lo_le
  obtain ⟨L, hL⟩ : ∃ L, Dsk.val d.now nm = L := ⟨_, rfl⟩
  have hLs : L.length ≤ 16777216 := by
    obtain ⟨bd, bn, pv, h1, hok⟩ := h
    have q1 := Dsk.val_le h1.now.apart nm; have q2 := hok.small'; have q3 := hok.room; rw [hL] at q1; omega
  have hrd := read_is w lo B d h hd nm (by have := hnm.2; omega) L _ L.length hL rfl rfl
  unfold openD at ho
  rw [hL] at hle hsc ho
  have H := Lib.hid h
  have d0 : decide ((len : Int) < 0) = false := decide_eq_false (by omega)
  have d1 : decide ((L.length : Int) < (len : Int)) = false := decide_eq_false (by omega)
  have d1' : decide (L.length < len) = false := decide_eq_false (by omega)
  have hq0 : (0 : Int) ≤ (len : Int) := by omega
  have HSC := Lib.hid hsc
  clear h hL hsc hd
  obtain ⟨n, hn⟩ : ∃ n, n = L.length := ⟨_, rfl⟩
  rw [← hn] at hrd d1 d1' hle hLs ho
  have HN := Lib.hid hn
  clear hn
  obtain ⟨t, q2, q2', hT⟩ : ∃ t : Bool, decide ((len : Int) < (n : Int)) = t ∧ decide (len < n) = t ∧ (t = true ↔ len < n) := by
    by_cases h : len < n
    · exact ⟨true, decide_eq_true (by omega), decide_eq_true h, by simp [h]⟩
    · exact ⟨false, decide_eq_false (by omega), decide_eq_false h, by simp [h]⟩
  go_enter Tryz.func10, Tryz.ntmps10
  go_wp2_with fail
  refine hrd.mono ?_
  clear hrd
  rintro e w1 ⟨a, c, rfl, hown, hb1⟩
  obtain ⟨_, _, hsl, hnc, _, hno, _⟩ := ownsRow_slice hown
  simp only [Value.slice.injEq] at hsl
  obtain ⟨rfl, _, rfl⟩ := hsl
  have hr1 := Rds.of_own (n := n) (l := L) (by rw [← show n = L.length from HN.out]; exact hown) HN.out.symm
  obtain ⟨W2, hW2⟩ : ∃ W2, W2 = w1.alloc (.cells #[.pointer (some ⟨B, 0, none⟩), .string (str nm), .slice none 0 0] 95) := ⟨_, rfl⟩
  have hT2 : W2.heap[w1.heap.size]? = some (.cells #[.pointer (some ⟨B, 0, none⟩), .string (str nm), .slice none 0 0] 95 (0, 0)) := by rw [hW2]; exact heap_alloc_new _ _
  have hB2 : Below w1.heap.size w1 W2 := by rw [hW2]; exact (Below.refl _ _).alloc (Nat.le_refl _) _
  have hs2 : W2.heap.size = w1.heap.size + 1 := by rw [hW2]; simp
  have hr2 : Rds W2 a n L := hr1.below hB2 (fun h0 b o e => by subst e; exact hr1.lt h0)
  have bw2 : Below w.heap.size w W2 := hb1.trans (hB2.mono hb1.size)
  have HT2 := Lib.hid hT2
  have HS2 := Lib.hid hs2
  have hscan := scan_any W2 a len c (L.take len) (hr2.take hle) (by omega) hno (by omega)
  rw [HSC.out] at hscan
  have hsz1 := hb1.size
  clear hown hr1 hT2 hB2 hs2 hr2 hb1
  have fin : ∀ w3 rv, RecsIs w3 W2.heap.size rv rs → Below W2.heap.size W2 w3 → w3.cell? ⟨w1.heap.size, 2, none⟩ = some (.slice none 0 0) ∧ w3.frozen? ⟨w1.heap.size, 2, none⟩ = false ∧
      (IsDk (w3.setCell ⟨w1.heap.size, 2, none⟩ rv) lo B d ∧ LogIs (w3.setCell ⟨w1.heap.size, 2, none⟩ rv) lo w1.heap.size B nm rs ∧ Below w.heap.size w (w3.setCell ⟨w1.heap.size, 2, none⟩ rv)) := fun w3 rv hrec hb3 => by
    have hT3 := (hb3.block w1.heap.size (by rw [HS2.out]; omega)).trans HT2.out
    have bw3 := bw2.trans (hb3.mono bw2.size)
    have hku : KeepU w3 (w3.setCell ⟨w1.heap.size, 2, none⟩ rv) := KeepU.setCell (p := ⟨w1.heap.size, 2, none⟩) hT3 (by decide) _
    have hts : TStay (fun k => k = w1.heap.size) w3 (w3.setCell ⟨w1.heap.size, 2, none⟩ rv) := (TStay.refl (fun k => k = w1.heap.size) w3).setCell (p := ⟨w1.heap.size, 2, none⟩) (.inl rfl) _
    have hbf : Below w.heap.size w (w3.setCell ⟨w1.heap.size, 2, none⟩ rv) := bw3.setCell hsz1 _
    refine ⟨blk_cell (i := 2) hT3 rfl, blk_free hT3 2, H.out.below hbf, ⟨rv, heap_setCell_same w3 w1.heap.size 2 _ _ rv hT3, by omega, ?_⟩, hbf⟩
    obtain ⟨ps, g1, g2, g3⟩ := hrec.stay hku (fun k e => by
      obtain ⟨ps, _, _, h4⟩ := hrec
      obtain ⟨_, _, _, _, _, h5⟩ := h4.form
      obtain ⟨_, hge, cur, hc⟩ := h5 k e
      exact hts.block k (blk_lt hc) (fun e' => by have := HS2.out; omega))
    refine ⟨ps, g1, g2, ?_⟩
    have hlo2 : lo ≤ W2.heap.size := by have := HS2.out; omega
    rcases g3 with g3 | ⟨g, cur, e1, e2, e3⟩
    · exact .inl (ownsRow_base g3 hlo2)
    · exact .inr ⟨g, cur, e1, Nat.le_trans hlo2 e2, e3⟩
  have FIN := Lib.hid fin
  clear fin
  cases a with
  | none =>
    have hc0 := hno rfl
    subst hc0
    obtain rfl : n = 0 := by omega
    obtain rfl : len = 0 := by omega
    rw [if_neg (by omega)] at ho
    simp only [Prod.mk.injEq, and_true] at ho
    subst ho
    have ht : t = false := by cases t; rfl; exact absurd (hT.1 rfl) (by omega)
    subst ht
    clear hT
    go_wp2_with fail
    rw [← hW2]
    clear hW2
    refine hscan.mono ?_
    rintro e w3 ⟨rv, rfl, hrec, hb3⟩
    obtain ⟨ra, rc, rfl⟩ := hrec.slice
    obtain ⟨c3, f3, hdk, hlog, hbf⟩ := FIN.out w3 _ hrec hb3
    have HD := Lib.hid hdk
    have HL := Lib.hid hlog
    rw [show errv (rs, 0).2 = .nilIface from rfl]
    clear hrec hb3 hdk hlog
    go_wp2
    go_ret2
    exact ⟨_, rfl, HD.out, HL.out, hbf.mono hlo, KeepT.below hbf (Nat.le_refl _)⟩
  | some aa =>
    clear hno
    have hlc : (len : Int) ≤ (c : Int) := by omega
    have hlc' : len ≤ c := by omega
    cases t with
    | false =>
      have hnl : ¬ len < n := fun h => by have := hT.2 h; cases this
      rw [if_neg hnl] at ho
      simp only [Prod.mk.injEq, and_true] at ho
      subst ho
      clear hT hnl
      go_wp2_with fail
      rw [← hW2]
      clear hW2
      refine hscan.mono ?_
      rintro e w3 ⟨rv, rfl, hrec, hb3⟩
      obtain ⟨ra, rc, rfl⟩ := hrec.slice
      obtain ⟨c3, f3, hdk, hlog, hbf⟩ := FIN.out w3 _ hrec hb3
      have HD := Lib.hid hdk
      have HL := Lib.hid hlog
      rw [show errv (rs, 0).2 = .nilIface from rfl]
      clear hrec hb3 hdk hlog
      go_wp2
      go_ret2
      exact ⟨_, rfl, HD.out, HL.out, hbf.mono hlo, KeepT.below hbf (Nat.le_refl _)⟩
    | true =>
      rw [if_pos (hT.1 rfl)] at ho
      clear hT
      go_wp2_with fail
      rw [← hW2]
      clear hW2
      refine hscan.mono ?_
      rintro e w3 ⟨rv, rfl, hrec, hb3⟩
      obtain ⟨ra, rc, rfl⟩ := hrec.slice
      obtain ⟨c3, f3, hdk, hlog, hbf⟩ := FIN.out w3 _ hrec hb3
      have htr := trunc_any _ lo B d hdk hw nm hnm (len : Int)
      rw [ho] at htr
      have HL := Lib.hid hlog
      rw [show errv (rs, 0).2 = .nilIface from rfl]
      clear hrec hb3 hdk hlog hscan
      go_wp2_with fail
      refine htr.mono ?_
      rintro e w5 ⟨rfl, hdk5, hb5, kt5⟩
      have hlog5 := HL.out.keep kt5
      have bw5 := (hbf.mono hlo).trans hb5
      have kw5 := (KeepT.below hbf (Nat.le_refl _)).trans kt5
      have HD := Lib.hid hdk5
      have HL5 := Lib.hid hlog5
      rw [show errv (d', 0).2 = .nilIface from rfl]
      clear htr hb5 kt5 hdk5 hlog5 hbf c3 f3
      go_wp2
      go_ret2
      exact ⟨_, rfl, HD.out, HL5.out, bw5, kw5⟩
end Go.Proofs.YtkalpkmnelgieaaGreatDoor
