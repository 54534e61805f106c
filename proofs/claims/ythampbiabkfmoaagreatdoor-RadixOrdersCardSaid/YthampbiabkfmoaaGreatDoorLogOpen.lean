/- log.Open, where it goes well; Add, where it goes well. -/
import Derived.Test.YthampbiabkfmoaaGreatDoorLogSt
import Derived.Test.YthampbiabkfmoaaGreatDoorDskKn
import Derived.Lib.SmallJoins
namespace Go.Proofs.YthampbiabkfmoaaGreatDoor
open Go.RowKit Go.Tap Go.Maps
set_option linter.unusedVariables false
attribute [local go_sem ↓] Go.wp_at_zero Go.wp_at_succ

theorem RecsIs.slice {w : World} {lo : Nat} {v : Value} {l : List Rec} (h : RecsIs w lo v l) : ∃ a c, v = .slice a l.length c := by
  obtain ⟨ps, h1, _, h3⟩ := h
  obtain ⟨a, c, rfl, _⟩ := h3.form
  exact ⟨a, c, by rw [← h1, List.length_map]⟩
/-- What an opening leaves of the disk. -/
def openD (d : Dsk.Dk) (nm : Dsk.Name) (len : Nat) : Dsk.Dk × Nat := if len < (Dsk.val d.now nm).length then d.trunc nm (len : Int) else (d, 0)
set_option maxHeartbeats 4000000 in
set_option maxRecDepth 100000 in
theorem open_ok (w : World) (lo B : Nat) (d d' : Dsk.Dk) (h : IsDk w lo B d) (hw : d.works ≤ 99999) (hd : d.dead = false) (nm : List UInt8) (hnm : Dsk.good nm) (len : Nat) (hle : len ≤ (Dsk.val d.now nm).length)
    (rs : List Rec) (hsc : scanF ((Dsk.val d.now nm).take len) = (rs, 0)) (ho : openD d nm len = (d', 0)) :
    Calls Tryz.prog 7 #[.pointer (some ⟨B, 0, none⟩), .string (str nm), .int .i64 (len : Int)] w fun e w' => ∃ LB, e = .returned (.tuple #[.pointer (some ⟨LB, 0, none⟩), .nilIface]) ∧ IsDk w' lo B d' ∧ LogIs w' lo LB B nm rs ∧ Below lo w w' ∧ KeepT w w' := by
  have hlo := h.lo_le
  obtain ⟨L, hL⟩ : ∃ L, Dsk.val d.now nm = L := ⟨_, rfl⟩
  have hLs : L.length ≤ 16777216 := by
    obtain ⟨bd, bn, pv, h1, hok⟩ := h
    have q1 := Dsk.val_le h1.now.apart nm; have q2 := hok.small'; have q3 := hok.room; rw [hL] at q1; omega
  have hrd := read_is w lo B d h hd nm (by have := hnm.2; omega) L _ L.length hL rfl rfl
  unfold openD at ho
  rw [hL] at hle hsc ho
  have H := Lib.hid h
  have d0 : decide ((len : Int) < 0) = false := decide_eq_false (by omega)
  have d1 : decide ((L.length : Int) < (len : Int)) = false := decide_eq_false (by omega)
  have d1' : decide (L.length < len) = false := decide_eq_false (by omega)
  have hq0 : (0 : Int) ≤ (len : Int) := by omega
  have HSC := Lib.hid hsc
  clear h hL hsc hd
  obtain ⟨n, hn⟩ : ∃ n, n = L.length := ⟨_, rfl⟩
  rw [← hn] at hrd d1 d1' hle hLs ho
  have HN := Lib.hid hn
  clear hn
  obtain ⟨t, q2, q2', hT⟩ : ∃ t : Bool, decide ((len : Int) < (n : Int)) = t ∧ decide (len < n) = t ∧ (t = true ↔ len < n) := by
    by_cases h : len < n
    · exact ⟨true, decide_eq_true (by omega), decide_eq_true h, by simp [h]⟩
    · exact ⟨false, decide_eq_false (by omega), decide_eq_false h, by simp [h]⟩
  go_enter Tryz.func7, Tryz.ntmps7
  go_wp2_with fail
  refine hrd.mono ?_
  clear hrd
  rintro e w1 ⟨a, c, rfl, hown, hb1⟩
  obtain ⟨_, _, hsl, hnc, _, hno, _⟩ := ownsRow_slice hown
  simp only [Value.slice.injEq] at hsl
  obtain ⟨rfl, _, rfl⟩ := hsl
  have hr1 := Rds.of_own (n := n) (l := L) (by rw [← show n = L.length from HN.out]; exact hown) HN.out.symm
  obtain ⟨W2, hW2⟩ : ∃ W2, W2 = w1.alloc (.cells #[.pointer (some ⟨B, 0, none⟩), .string (str nm), .slice none 0 0] 71) := ⟨_, rfl⟩
  have hT2 : W2.heap[w1.heap.size]? = some (.cells #[.pointer (some ⟨B, 0, none⟩), .string (str nm), .slice none 0 0] 71 (0, 0)) := by rw [hW2]; exact heap_alloc_new _ _
  have hB2 : Below w1.heap.size w1 W2 := by rw [hW2]; exact (Below.refl _ _).alloc (Nat.le_refl _) _
  have hs2 : W2.heap.size = w1.heap.size + 1 := by rw [hW2]; simp
  have hr2 : Rds W2 a n L := hr1.below hB2 (fun h0 b o e => by subst e; exact hr1.lt h0)
  have bw2 : Below w.heap.size w W2 := hb1.trans (hB2.mono hb1.size)
  have HT2 := Lib.hid hT2
  have HS2 := Lib.hid hs2
  have hscan := scan_any W2 a len c (L.take len) (hr2.take hle) (by omega) hno (by omega)
  rw [HSC.out] at hscan
  have hsz1 := hb1.size
  clear hown hr1 hT2 hB2 hs2 hr2 hb1
  have fin : ∀ w3 rv, RecsIs w3 W2.heap.size rv rs → Below W2.heap.size W2 w3 → w3.cell? ⟨w1.heap.size, 2, none⟩ = some (.slice none 0 0) ∧ w3.frozen? ⟨w1.heap.size, 2, none⟩ = false ∧
      (IsDk (w3.setCell ⟨w1.heap.size, 2, none⟩ rv) lo B d ∧ LogIs (w3.setCell ⟨w1.heap.size, 2, none⟩ rv) lo w1.heap.size B nm rs ∧ Below w.heap.size w (w3.setCell ⟨w1.heap.size, 2, none⟩ rv)) := fun w3 rv hrec hb3 => by
    have hT3 := (hb3.block w1.heap.size (by rw [HS2.out]; omega)).trans HT2.out
    have bw3 := bw2.trans (hb3.mono bw2.size)
    have hku : KeepU w3 (w3.setCell ⟨w1.heap.size, 2, none⟩ rv) := KeepU.setCell (p := ⟨w1.heap.size, 2, none⟩) hT3 (by decide) _
    have hts : TStay (fun k => k = w1.heap.size) w3 (w3.setCell ⟨w1.heap.size, 2, none⟩ rv) := (TStay.refl (fun k => k = w1.heap.size) w3).setCell (p := ⟨w1.heap.size, 2, none⟩) (.inl rfl) _
    have hbf : Below w.heap.size w (w3.setCell ⟨w1.heap.size, 2, none⟩ rv) := bw3.setCell hsz1 _
    refine ⟨blk_cell (i := 2) hT3 rfl, blk_free hT3 2, H.out.below hbf, ⟨rv, heap_setCell_same w3 w1.heap.size 2 _ _ rv hT3, by omega, ?_⟩, hbf⟩
    obtain ⟨ps, g1, g2, g3⟩ := hrec.stay hku (fun k e => by
      obtain ⟨ps, _, _, h4⟩ := hrec
      obtain ⟨_, _, _, _, _, h5⟩ := h4.form
      obtain ⟨_, hge, cur, hc⟩ := h5 k e
      exact hts.block k (blk_lt hc) (fun e' => by have := HS2.out; omega))
    refine ⟨ps, g1, g2, ?_⟩
    have hlo2 : lo ≤ W2.heap.size := by have := HS2.out; omega
    rcases g3 with g3 | ⟨g, cur, e1, e2, e3⟩
    · exact .inl (ownsRow_base g3 hlo2)
    · exact .inr ⟨g, cur, e1, Nat.le_trans hlo2 e2, e3⟩
  have FIN := Lib.hid fin
  clear fin
  cases a with
  | none =>
    have hc0 := hno rfl
    subst hc0
    obtain rfl : n = 0 := by omega
    obtain rfl : len = 0 := by omega
    rw [if_neg (by omega)] at ho
    simp only [Prod.mk.injEq, and_true] at ho
    subst ho
    have ht : t = false := by cases t; rfl; exact absurd (hT.1 rfl) (by omega)
    subst ht
    clear hT
    go_wp2_with fail
    rw [← hW2]
    clear hW2
    refine hscan.mono ?_
    rintro e w3 ⟨rv, rfl, hrec, hb3⟩
    obtain ⟨ra, rc, rfl⟩ := hrec.slice
    obtain ⟨c3, f3, hdk, hlog, hbf⟩ := FIN.out w3 _ hrec hb3
    have HD := Lib.hid hdk
    have HL := Lib.hid hlog
    rw [show errv (rs, 0).2 = .nilIface from rfl]
    clear hrec hb3 hdk hlog
    go_wp2
    go_ret2
    exact ⟨_, rfl, HD.out, HL.out, hbf.mono hlo, KeepT.below hbf (Nat.le_refl _)⟩
  | some aa =>
    clear hno
    have hlc : (len : Int) ≤ (c : Int) := by omega
    have hlc' : len ≤ c := by omega
    cases t with
    | false =>
      have hnl : ¬ len < n := fun h => by have := hT.2 h; cases this
      rw [if_neg hnl] at ho
      simp only [Prod.mk.injEq, and_true] at ho
      subst ho
      clear hT hnl
      go_wp2_with fail
      rw [← hW2]
      clear hW2
      refine hscan.mono ?_
      rintro e w3 ⟨rv, rfl, hrec, hb3⟩
      obtain ⟨ra, rc, rfl⟩ := hrec.slice
      obtain ⟨c3, f3, hdk, hlog, hbf⟩ := FIN.out w3 _ hrec hb3
      have HD := Lib.hid hdk
      have HL := Lib.hid hlog
      rw [show errv (rs, 0).2 = .nilIface from rfl]
      clear hrec hb3 hdk hlog
      go_wp2
      go_ret2
      exact ⟨_, rfl, HD.out, HL.out, hbf.mono hlo, KeepT.below hbf (Nat.le_refl _)⟩
    | true =>
      rw [if_pos (hT.1 rfl)] at ho
      clear hT
      go_wp2_with fail
      rw [← hW2]
      clear hW2
      refine hscan.mono ?_
      rintro e w3 ⟨rv, rfl, hrec, hb3⟩
      obtain ⟨ra, rc, rfl⟩ := hrec.slice
      obtain ⟨c3, f3, hdk, hlog, hbf⟩ := FIN.out w3 _ hrec hb3
      have htr := trunc_any _ lo B d hdk hw nm hnm (len : Int)
      rw [ho] at htr
      have HL := Lib.hid hlog
      rw [show errv (rs, 0).2 = .nilIface from rfl]
      clear hrec hb3 hdk hlog hscan
      go_wp2_with fail
      refine htr.mono ?_
      rintro e w5 ⟨rfl, hdk5, hb5, kt5⟩
      have hlog5 := HL.out.keep kt5
      have bw5 := (hbf.mono hlo).trans hb5
      have kw5 := (KeepT.below hbf (Nat.le_refl _)).trans kt5
      have HD := Lib.hid hdk5
      have HL5 := Lib.hid hlog5
      rw [show errv (d', 0).2 = .nilIface from rfl]
      clear htr hb5 kt5 hdk5 hlog5 hbf c3 f3
      go_wp2
      go_ret2
      exact ⟨_, rfl, HD.out, HL5.out, bw5, kw5⟩
end Go.Proofs.YthampbiabkfmoaaGreatDoor
/- log.Add, where it goes well. -/
namespace Go.Proofs.YthampbiabkfmoaaGreatDoor
open Go.RowKit Go.Tap Go.Maps
set_option linter.unusedVariables false
attribute [local go_sem ↓] Go.wp_at_zero Go.wp_at_succ

theorem step_append_rds0 {w : World} {ops : Array Oper} {o : Oper} {a : Act} {K : Act → World → Prop} {Q : Exit → Act → World → Prop} {E : Prop} {P : Program} (hgd : o.guard = none) (s x : Operand) (t : TypeId)
    (ho : o.op = .call { callee := .builtin .append, args := #[s, x], argTypes := #[t, t] })
    (base : Nat) (e : TypeId) (i : TypeInfo) (ht : P.underlying t = some (.slice e)) (hi : P.info? e = some i) (hz : i.zero = some (.int .u8 0)) (hsize : i.size = 1) (hby : i.bytes = 1)
    (v : Value) (hs : a.eval s = v) (hown : w.ownsRow base e 1 v 0 (bv []))
    (ao : Option Addr) (m c : Nat) (hx : a.eval x = .slice ao m c) (hnone : ao = none → c = 0) (l : List UInt8) (hr : Rds w ao m l) (hb : m ≤ 140737488355328) (hbase : base ≤ w.heap.size)
    (h : ∀ a' c' w', w'.ownsRow base e 1 (.slice a' m c') m (bv l) → w.grownBy w' v.ownBlock → K (a.put o.dst (.slice a' m c')) w') :
    if Region.wanted o (yielded ops a.tmps) = true then Oper.wp P o a w K Q else E :=
  step_append_rds hgd s x t ho base e i ht hi hz hsize hby v 0 [] hs hown ao m c hx hnone l hr (by omega) hbase (fun a' c' w' h1 h2 => by
    rw [Nat.zero_add, List.nil_append] at *
    exact h a' c' w' h1 h2)
/-- Length called at a step of a region that draws its order. -/
theorem step_length {w : World} {ops : Array Oper} {o : Oper} {a : Act} {K : Act → World → Prop} {Q : Exit → Act → World → Prop} {E : Prop} (hgd : o.guard = none) (t : Nat) (ty : TypeId)
    (ho : o.op = .call { callee := .value (.func 70), args := #[.tmp t], argTypes := #[ty] }) (v r : Value) (hx : a.tmps[t]?.getD undef = v) (hc : Calls Tryz.prog 70 #[v] w fun e w' => e = .returned r ∧ w' = w) (h : K (a.put o.dst r) w) :
    if Region.wanted o (yielded ops a.tmps) = true then Oper.wp Tryz.prog o a w K Q else E := by
  have hw : Region.wanted o (yielded ops a.tmps) = true := by simp [Region.wanted, hgd]
  rw [if_pos hw]
  obtain ⟨dst, op, type, pos, after, guard⟩ := o
  simp only at ho hgd
  subst ho hgd
  clear hw
  have hf := Tryz.func70
  go_simp
  refine hc.mono ?_
  rintro e w' ⟨rfl, rfl⟩
  simpa [Act.put] using h
theorem bel_drew1 (w : World) : Below w.heap.size w w.drew := ⟨rfl, rfl, rfl, Nat.le_refl _, fun _ _ => rfl⟩
theorem log3 {w' : World} {LB B : Nat} {nm : Dsk.Name} {rv : Value} (h : w'.heap[LB]? = some (.cells #[.pointer (some ⟨B, 0, none⟩), .string (str nm), rv] 71 (0, 0))) :
    w'.cell? ⟨LB, 0, none⟩ = some (.pointer (some ⟨B, 0, none⟩)) ∧ w'.cell? ⟨LB, 1, none⟩ = some (.string (str nm)) := ⟨blk_cell (i := 0) h rfl, blk_cell (i := 1) h rfl⟩
set_option maxHeartbeats 8000000 in
set_option maxRecDepth 100000 in
theorem add_ok (w : World) (lo LB B : Nat) (nm : Dsk.Name) (d d' : Dsk.Dk) (rs : List Rec) (h : IsDk w lo B d) (hg : LogIs w lo LB B nm rs) (hw : d.works ≤ 99999) (hnm : Dsk.good nm) (k : Nat) (hk : 1 ≤ k ∧ k ≤ 255)
    (a : Option Addr) (n c : Nat) (l : List UInt8) (hkk : Keeps w a n c l) (hn : n ≤ 1048576) (hap : d.append nm (frm (k : Int) l) = (d', 0)) (hrs : rs.length ≤ 1000000) (hle : lenOf rs ≤ 1099511627776) :
    Calls Tryz.prog 44 #[.pointer (some ⟨LB, 0, none⟩), .int .i64 (k : Int), .slice a n c] w fun e w' => e = .returned .nilIface ∧ IsDk w' lo B d' ∧ LogIs w' lo LB B nm (rs ++ [⟨k, l, lenOf rs + (9 + l.length)⟩]) ∧ Below lo w w' ∧ KeepG w w' := by
  obtain ⟨i0, hi, hz0, hz1, hz2'⟩ := info_parts Tryz.infoB
  have hr := hkk.rds
  have hz := hkk.none
  have HKK := Lib.hid hkk
  have hl := hr.1
  have hlo := h.lo_le
  have H := Lib.hid h
  have HG := Lib.hid hg
  have HR := Lib.hid hr
  have HAP := Lib.hid hap
  clear h hg hr hap hkk
  have hlay := lay_any w (k : Int) (by omega) (by omega) a n c l HR.out hz hn
  obtain ⟨F, hF⟩ : ∃ F, F = frm (k : Int) l := ⟨_, rfl⟩
  have hFl : F.length = 9 + n := by rw [hF, frm_length, hl]
  rw [← hF] at hlay
  have HF := Lib.hid hF
  obtain ⟨N, hN⟩ : ∃ N, N = F.length := ⟨_, rfl⟩
  rw [← hN] at hlay
  have HN := Lib.hid hN
  have hNb : N ≤ 1048585 := by omega
  have HNN := Lib.hid (show N = 9 + n by omega)
  clear hF hN hFl
  go_enter Tryz.func44, Tryz.ntmps44
  go_wp2_with fail
  refine hlay.mono ?_
  clear hlay
  rintro e w1 ⟨v1, rfl, ho1, hb1⟩
  obtain ⟨a1, c1, rfl, _, _, hz1', _⟩ := ownsRow_slice ho1
  have hr1 : Rds w1 a1 N F := Rds.of_own (by rw [← show N = F.length from HN.out]; exact ho1) (show N = F.length from HN.out).symm
  have hd1 := H.out.below hb1
  have hg1 := HG.out.below hb1
  obtain ⟨rv, hB1, hlo1, hrec1⟩ := hg1
  have HB1 := Lib.hid hB1
  have HG1 := Lib.hid (HG.out.below hb1)
  have happ := append_yes w1.drew lo B d d' (hd1.below (bel_drew1 w1)) hw nm hnm a1 N c1 F hr1.drew hz1' (by omega) (by rw [show F = _ from HF.out]; exact HAP.out)
  clear ho1 hrec1 hB1
  go_wp2_with fail
  go_region_held3 (fun w' => w'.cell? ⟨LB, 0, none⟩ = some (.pointer (some ⟨B, 0, none⟩)) ∧ w'.cell? ⟨LB, 1, none⟩ = some (.string (str nm)))
    (first | exact log3 HB2.out | exact log3 HB1.out)
    ((go_at_call 69; refine happ.mono ?_; rintro e w2 ⟨rfl, hd2, hb2, kt2⟩; have HB2 := Lib.hid ((kt2 LB _ _ _ HB1.out (by decide) (by decide)).trans HB1.out)))
  have hb2' : Below lo w1 w2 := ⟨hb2.os, hb2.tape, hb2.output, hb2.size, hb2.block⟩
  have kt2' : KeepT w1 w2 := fun k' xs t fr hk' h1 h2 => kt2 k' xs t fr hk' h1 h2
  have bw2 : Below lo w w2 := (hb1.mono hlo).trans hb2'
  have hg2 := HG1.out.keep kt2'
  have kg2 : KeepG w w2 := (KeepG.below hb1 (Nat.le_refl _)).trans (.ofT kt2')
  obtain ⟨rv', hB2', _, hrec2⟩ := hg2
  have hrv : rv' = rv := by
    have := hB2'.symm.trans HB2.out
    simp only [Option.some.injEq, Obj.cells.injEq, Array.mk.injEq, List.cons.injEq, true_and, and_true] at this
    exact this
  subst hrv
  have hk2 := HKK.out.stay kg2.ku
  obtain ⟨ps, hps, hpk, hpr⟩ := hrec2
  obtain ⟨ra, rc, rfl, _, _, hrb⟩ := hpr.form
  obtain ⟨LF, hLF⟩ : ∃ LF, LF = lenOf rs := ⟨_, rfl⟩
  obtain ⟨E, hE⟩ : ∃ E, E = LF + N := ⟨_, rfl⟩
  have hwE : IntKind.i64.wrap ((LF : Int) + (N : Int)) = (E : Int) := by rw [hE]; push_cast; exact wrapi' _ (by omega)
  have hlogX : ∀ X : World, KeepN w2 X → X.heap[LB]? = w2.heap[LB]? → (∀ k', (Value.slice ra ps.length rc).ownBlock = some k' → X.heap[k']? = w2.heap[k']?) → LogIs X lo LB B nm rs := fun X h1 h2 h3 =>
    ⟨_, h2.trans HB2.out, hlo1, RecsIs.stay (w := w2) ⟨ps, hps, hpk, hpr⟩ h1.ku h3⟩
  have hlen : ∀ X : World, KeepN w2 X → X.heap[LB]? = w2.heap[LB]? → (∀ k', (Value.slice ra ps.length rc).ownBlock = some k' → X.heap[k']? = w2.heap[k']?) → Calls Tryz.prog 70 #[.pointer (some ⟨LB, 0, none⟩)] X fun e w' => e = .returned (.int .i64 (LF : Int)) ∧ w' = X := fun X h1 h2 h3 => by
    have := length_any X lo LB B nm rs (hlogX X h1 h2 h3) (by omega)
    rw [← hLF] at this; exact this
  have hltB := blk_lt HB2.out
  have hsz2 : lo ≤ w2.heap.size := by omega
  have hneB : (Value.slice ra ps.length rc).ownBlock ≠ some LB := fun e => by
    obtain ⟨_, _, cur, hc⟩ := hrb LB e
    rw [HB2.out] at hc
    simp at hc
  have hltR : ∀ k', (Value.slice ra ps.length rc).ownBlock = some k' → k' < w2.heap.size := fun k' e => by obtain ⟨_, _, cur, hc⟩ := hrb k' e; exact blk_lt hc
  have hlen0 := hlen w2.drew (fun _ _ _ _ => rfl) rfl (fun _ _ => rfl)
  have hlen1 := hlen (w2.alloc (.cells #[] 5)).drew (fun k' o hk' _ => (MapKept.heap_alloc w2 _).2 k' (blk_lt hk')) ((MapKept.heap_alloc w2 _).2 _ hltB) (fun k' e => (MapKept.heap_alloc w2 _).2 k' (hltR k' e))
  have hplen : ps.length ≤ 1000000 := by rw [← hps, List.length_map] at hrs; exact hrs
  have c2 : w2.cell? ⟨LB, 2, none⟩ = some (.slice ra ps.length rc) := blk_cell (i := 2) HB2.out rfl
  have f2 : w2.frozen? ⟨LB, 2, none⟩ = false := blk_free HB2.out 2
  have c2' : ∀ o, (w2.alloc o).cell? ⟨LB, 2, none⟩ = some (.slice ra ps.length rc) := fun o => (World.cell?_of_block ((MapKept.heap_alloc w2 o).2 _ hltB)).trans c2
  have HK2 := Lib.hid hk2
  have HPR := Lib.hid hpr
  have HPK := Lib.hid hpk
  have HPS := Lib.hid hps
  have HE := Lib.hid hE
  have HLF := Lib.hid hLF
  have HLEN := Lib.hid hlen
  have HRB := Lib.hid hrb
  have HLR := Lib.hid hltR
  clear hk2 hpr hpk hps hE hLF hlogX hlen hrb hltR hb2 kt2
  go_wp2_with fail
  subst hl
  go_region_law (first
    | (refine step_append_rds0 (by rfl) (.tmp 38) (.tmp 39) 66 (by rfl) w2.heap.size 5 i0 Tryz.underlying66 hi hz0 hz1 hz2' _ (by rfl) (own_empty w2 _) a l.length c (by rfl) hz l (HK2.out.stay (KeepU.alloc w2 _)).rds (by omega) (by simp) ?_; intro a3 c3 w3 hown3 hg3; have hg3' := grown_undrew hg3; have hB3 : w3.heap[LB]? = w2.heap[LB]? := (hg3'.block LB (by simp; omega) (by intro e; simp [Value.ownBlock] at e; omega)).trans ((MapKept.heap_alloc w2 _).2 _ hltB); have c23 : w3.cell? ⟨LB, 2, none⟩ = some (.slice ra ps.length rc) := (World.cell?_of_block hB3).trans c2; have kn3 : ∀ k', k' < w2.heap.size → w3.heap[k']? = w2.heap[k']? := (fun k' hk' => (hg3'.block k' (by simp; omega) (by intro e; simp [Value.ownBlock] at e; omega)).trans ((MapKept.heap_alloc w2 _).2 _ hk')); have hs3 : w2.heap.size ≤ w3.heap.size := (by have := hg3'.size; simp at this; omega); have c23' : ∀ o, (w3.alloc o).cell? ⟨LB, 2, none⟩ = some (.slice ra ps.length rc) := (fun o => (World.cell?_of_block ((MapKept.heap_alloc w3 o).2 LB (by omega))).trans c23); have hlen3 := HLEN.out w3 (fun k' o hk' _ => kn3 k' (blk_lt hk')) hB3 (fun k' e => kn3 k' (HLR.out k' e)))
    | (refine step_length (by rfl) 41 28 (by rfl) _ (.int .i64 (LF : Int)) (by rfl) hlen3 ?_)
    | (refine step_append_rec (by rfl) (.tmp 36) (.tmp 47) (by rfl) lo _ ps.length _ (by rfl) (HPR.out.stay (w' := w3.alloc (.cells (Rp.mk ⟨k, l, E⟩ a3 c3).cells.toArray 103)) (fun k' e => ((MapKept.heap_alloc w3 _).2 k' (by have h1 := HLR.out k' e; have h2 := hs3; omega)).trans (kn3 k' (HLR.out k' e)))) (by have h1 := hsz2; have h2 := hs3; simp; omega) w3.heap.size 1 (by rfl) (Rp.mk ⟨k, l, E⟩ a3 c3).cells.toArray (by have := heap_alloc_new w3 (.cells (Rp.mk ⟨k, l, E⟩ a3 c3).cells.toArray 103); exact this) rfl (by simp [Rp.cells, Value.oneCell']) (by omega) ?_; intro a5 c5 w5 hown5 hg5; have hB5 : w5.heap[LB]? = w2.heap[LB]? := (hg5.block LB (by simp; omega) (fun e => hneB e.symm)).trans (((MapKept.heap_alloc w3 _).2 LB (by omega)).trans hB3); have c25 : w5.cell? ⟨LB, 2, none⟩ = some (.slice ra ps.length rc) := (World.cell?_of_block hB5).trans c2; have f25 : w5.frozen? ⟨LB, 2, none⟩ = false := (World.frozen?_of_block hB5).trans f2))
  all_goals
    obtain ⟨W5, hW5⟩ : ∃ W5, W5 = w5.setCell ⟨LB, 2, none⟩ (.slice a5 (ps.length + 1) c5) := ⟨_, rfl⟩
    rw [← hW5]
    have hB5c := hB5.trans HB2.out
    have hne5 : (Value.slice a5 (ps.length + 1) c5).ownBlock ≠ some LB := own_ne' hown5 hB5c (by decide)
    have hother : ∀ k', k' < w2.heap.size → k' ≠ LB → (Value.slice ra ps.length rc).ownBlock ≠ some k' → W5.heap[k']? = w2.heap[k']? := fun k' h1 h2 h3 => by
      rw [hW5]
      have t1 := ((TStay.refl (fun k => k = LB) w5).setCell (p := ⟨LB, 2, none⟩) (.inl rfl) (.slice a5 (ps.length + 1) c5)).block k' (by have := hg5.size; simp at this; omega) h2
      rw [t1]
      exact (hg5.block k' (by simp; omega) (fun e => h3 e.symm)).trans (((MapKept.heap_alloc w3 _).2 k' (by omega)).trans (kn3 k' h1))
    have hkn : KeepN w2 W5 := fun k' o hk' hno => hother k' (blk_lt hk') (fun e => by subst e; rw [HB2.out] at hk'; cases hk'; exact (hno _ _ _ rfl).1 rfl) (fun e => by
      obtain ⟨_, _, cur, hc⟩ := HRB.out k' e
      rw [hc] at hk'; cases hk'; exact (hno _ _ _ rfl).2 rfl)
    have hk35 : KeepU w3 W5 := fun k' xs fr hk' => by
      rw [hW5]
      have hne : k' ≠ LB := fun e => by subst e; rw [hB3, HB2.out] at hk'; simp at hk'
      have t1 := ((TStay.refl (fun k => k = LB) w5).setCell (p := ⟨LB, 2, none⟩) (.inl rfl) (.slice a5 (ps.length + 1) c5)).block k' (by have := hg5.size; have := blk_lt hk'; simp at *; omega) hne
      rw [t1]
      refine (hg5.block k' (by have := blk_lt hk'; simp; omega) (fun e => ?_)).trans ((MapKept.heap_alloc w3 _).2 k' (blk_lt hk'))
      obtain ⟨_, _, cur, hc⟩ := HRB.out k' e.symm
      rw [kn3 k' (HLR.out k' e.symm), hc] at hk'
      simp at hk'
    have hbody := (Keeps.of_own hown3 rfl).stay hk35
    have hb5 : Below lo w2 W5 := by
      rw [hW5]
      exact ((((((Below.refl lo w2).alloc hsz2 _).grown hg3' (by simp; omega) (by intro j hj; simp [Value.ownBlock] at hj; omega)).alloc (by omega) _).grown hg5 (by simp; omega) (fun j hj => (HRB.out j hj).2.1))).setCell hlo1 _
    have hlog : LogIs W5 lo LB B nm (rs ++ [⟨k, l, E⟩]) := by
      refine ⟨.slice a5 (ps.length + 1) c5, by rw [hW5]; exact heap_setCell_same w5 LB 2 _ _ _ hB5c, hlo1, ?_⟩
      rw [← show ps.map Rp.x = rs from HPS.out]
      refine recs_snoc (fun p hp => (HPK.out p hp).stay hkn.ku) hbody ?_
      rw [hW5]
      exact ownsRow_stay hown5 ((TStay.refl (fun k => k = LB) w5).setCell (p := ⟨LB, 2, none⟩) (.inl rfl) _) (fun k' hk' e => by subst e; exact hne5 hk')
    have hdk := KeepN.dk hd2 hkn
    have HLOG := Lib.hid hlog
    have HDK := Lib.hid hdk
    have HB5 := Lib.hid hb5
    have HKN := Lib.hid hkn
    clear hlog hdk hb5 hkn hother hbody hk35 hown5 hg5 hown3 hg3 hg3' kn3 hW5 hB5 hB5c hne5 c25 f25 hB3 c23 c23' hlen3
    go_wp2
    go_ret
    refine ⟨rfl, HDK.out, ?_, bw2.trans HB5.out, kg2.trans (.ofN HKN.out)⟩
    rw [show lenOf rs + (9 + l.length) = E by rw [show E = LF + N from HE.out, show LF = lenOf rs from HLF.out, show N = 9 + l.length from HNN.out]]
    exact HLOG.out
end Go.Proofs.YthampbiabkfmoaaGreatDoor
/- A disk with one file, as a log uses it: said plainly; taprootlaw7's known. -/
namespace Go.Proofs.YthampbiabkfmoaaGreatDoor
open Go.RowKit Go.Tap Go.Maps
set_option linter.unusedVariables false
namespace Dsk
/-- One file of that name, or none and nothing. -/
def One (fs : Files) (s : Name) (c : List UInt8) : Prop := fs = [(s, c)] ∨ (fs = [] ∧ c = [])
theorem One.val {fs : Files} {s : Name} {c : List UInt8} (h : One fs s c) : Dsk.val fs s = c := by
  rcases h with rfl | ⟨rfl, rfl⟩
  · simp [Dsk.val, Dsk.get]
  · rfl
theorem One.used {fs : Files} {s : Name} {c : List UInt8} (h : One fs s c) : Dsk.used fs = c.length := by
  rcases h with rfl | ⟨rfl, rfl⟩
  · simp [Dsk.used]
  · rfl
theorem One.put {fs : Files} {s : Name} {c : List UInt8} (h : One fs s c) (b : List UInt8) : Dsk.put fs s b = [(s, b)] := by
  rcases h with rfl | ⟨rfl, rfl⟩
  · simp [Dsk.put, Dsk.del]
  · rfl
theorem One.some {fs : Files} {s : Name} {c : List UInt8} (h : One fs s c) (hc : c ≠ []) : (get fs s).isSome = true := by
  rcases h with rfl | ⟨rfl, rfl⟩
  · simp [get]
  · exact absurd rfl hc
structure DsN (d : Dk) (room : Nat) (s : Name) (c : List UInt8) (w : Nat) : Prop where
  room : d.room = room
  dead : d.dead = false
  fuse : d.fuse = -1
  now : One d.now s c
  works : d.works ≤ w
structure DsP (d : Dk) (room : Nat) (s : Name) (c0 : List UInt8) (L : List (List UInt8)) (w : Nat) : Prop where
  n : DsN d room s (c0 ++ L.flatten) w
  done : One d.done s c0
  pend : d.pend = pends s L
theorem dsN_new (room : Nat) (s : Name) : DsN (newD room) room s [] 0 := ⟨rfl, rfl, rfl, .inr ⟨rfl, rfl⟩, Nat.le_refl _⟩
theorem dsN_app {d : Dk} {room w : Nat} {s : Name} {c : List UInt8} (h : DsN d room s c w) (b : List UInt8) (hb : c.length + b.length ≤ room) : ∃ d', d.append s b = (d', 0) ∧ DsN d' room s (c ++ b) (w + 1) := by
  refine ⟨_, append_eq h.dead h.fuse s b (by rw [h.now.used, h.room]; exact hb), ⟨h.room, h.dead, h.fuse, .inl ?_, by have := h.works; show d.works + 1 ≤ _; omega⟩⟩
  show Dsk.put d.now s (Dsk.val d.now s ++ b) = _
  rw [h.now.put, h.now.val]
theorem dsP_app {d : Dk} {room w : Nat} {s : Name} {c0 : List UInt8} {L : List (List UInt8)} (h : DsP d room s c0 L w) (b : List UInt8) (hb : (c0 ++ L.flatten).length + b.length ≤ room) : ∃ d', d.append s b = (d', 0) ∧ DsP d' room s c0 (L ++ [b]) (w + 1) := by
  refine ⟨_, append_eq h.n.dead h.n.fuse s b (by rw [h.n.now.used, h.n.room]; exact hb), ⟨⟨h.n.room, h.n.dead, h.n.fuse, .inl ?_, by have := h.n.works; show d.works + 1 ≤ _; omega⟩, h.done, ?_⟩⟩
  · show Dsk.put d.now s (Dsk.val d.now s ++ b) = _
    rw [h.n.now.put, h.n.now.val]
    simp
  · show d.pend ++ [_] = _
    rw [h.pend]; simp [pends]
theorem dsP_sync {d : Dk} {room w : Nat} {s : Name} {c : List UInt8} (h : DsN d room s c w) : ∃ d', d.sync = (d', 0) ∧ DsP d' room s c [] (w + 1) := by
  refine ⟨_, sync_eq h.dead h.fuse, ⟨⟨h.room, h.dead, h.fuse, ?_, by have := h.works; show d.works + 1 ≤ _; omega⟩, h.now, rfl⟩⟩
  rw [List.flatten_nil, List.append_nil]; exact h.now
theorem cr_one (s : Name) (c0 : List UInt8) (L : List (List UInt8)) (fs : Files) (h : One fs s c0) (k : Nat) (part : Int) : ∀ j, j ≤ L.length →
    One (cr k part fs (pends s L) j) s (cont c0 L k (part % (((L.getD k []).length : Int) + 1)).toNat j)
  | 0, _ => by
    have e : cont c0 L k (part % (((L.getD k []).length : Int) + 1)).toNat 0 = c0 := by simp [cont]
    rw [e]; exact h
  | j + 1, hj => by
    have ih := cr_one s c0 L fs h k part j (by omega)
    have hb : L[j]? = some (L[j]'(by omega)) := List.getElem?_eq_getElem _
    generalize (L[j]'(by omega)) = b at hb
    have hx : (pends s L)[j]? = some ⟨0, s, [], b, 0⟩ := by unfold pends; rw [List.getElem?_map, hb]; rfl
    rw [cr_succ hx, stp]
    by_cases h1 : j < k
    · rw [if_pos h1]
      left
      show (some (Dsk.put _ s (Dsk.val _ s ++ b))).getD _ = _
      rw [Option.getD_some, ih.put, ih.val]
      unfold cont
      rw [if_pos (by omega), if_pos (by omega), flat_succ hb, List.append_assoc]
    · rw [if_neg h1]
      by_cases h2 : j = k
      · subst h2
        have hg : L.getD j [] = b := by rw [List.getD_eq_getElem?_getD, hb]; rfl
        have hpl : pl part (⟨0, s, [], b, 0⟩ : Wk) = (part % (((L.getD j []).length : Int) + 1)).toNat := by unfold pl; rw [hg]
        rw [hpl]
        generalize (part % (((L.getD j []).length : Int) + 1)).toNat = p at ih
        by_cases h3 : 0 < p
        · rw [if_pos ⟨rfl, rfl, h3⟩]
          left
          show Dsk.put _ s (Dsk.val _ s ++ b.take p) = _
          rw [ih.put, ih.val]
          unfold cont
          rw [if_pos (Nat.le_refl _), if_neg (by omega), hg]
        · rw [if_neg (fun h => h3 h.2.2)]
          unfold cont at ih ⊢
          rw [if_pos (Nat.le_refl _)] at ih
          rw [if_neg (by omega), show p = 0 by omega]
          simpa using ih
      · rw [if_neg (fun h => h2 h.1)]
        unfold cont at ih ⊢
        rw [if_neg (by omega)] at ih
        rw [if_neg (by omega)]
        exact ih
theorem dsN_crash {d : Dk} {room w : Nat} {s : Name} {c0 : List UInt8} {L : List (List UInt8)} (h : DsP d room s c0 L w) (done part : Int) : DsN (d.crash done part) room s (after c0 L (done % ((L.length : Int) + 1)).toNat part) w := by
  have e : d.pend.length = L.length := by rw [h.pend]; simp [pends]
  refine ⟨h.n.room, rfl, rfl, ?_, h.n.works⟩
  show One (cr _ part d.done d.pend d.pend.length) s _
  rw [e, h.pend]
  exact cr_one s c0 L d.done h.done _ part L.length (Nat.le_refl _)
theorem trunc_eq {d : Dk} (h1 : d.dead = false) (h2 : d.fuse = -1) (s : Name) (n : Nat) (h3 : (get d.now s).isSome = true) (h4 : n ≤ (Dsk.val d.now s).length) :
    d.trunc s (n : Int) = ({ d with pend := d.pend ++ [⟨1, s, [], [], n⟩], now := Dsk.put d.now s ((Dsk.val d.now s).take n), works := d.works + 1 }, 0) := by
  have ht : d.there s = 0 := by unfold Dk.there; rw [if_neg (by rw [h1]; simp), if_pos h3]
  unfold Dk.trunc Dk.putr
  rw [if_pos ht, if_neg (by omega), one_eq h1 h2, if_pos rfl, Int.toNat_natCast]
end Dsk
theorem dsN_open {d : Dsk.Dk} {room w : Nat} {s : Dsk.Name} {c : List UInt8} (h : Dsk.DsN d room s c w) (len : Nat) (hl : len ≤ c.length) : ∃ d', openD d s len = (d', 0) ∧ Dsk.DsN d' room s (c.take len) (w + 1) := by
  unfold openD
  rw [h.now.val]
  by_cases hlt : len < c.length
  · rw [if_pos hlt]
    have hc : c ≠ [] := fun e => by rw [e] at hlt; simp at hlt
    refine ⟨_, Dsk.trunc_eq h.dead h.fuse s len (h.now.some hc) (by rw [h.now.val]; exact hl), ⟨h.room, h.dead, h.fuse, .inl ?_, by have := h.works; show d.works + 1 ≤ _; omega⟩⟩
    show Dsk.put d.now s ((Dsk.val d.now s).take len) = _
    rw [h.now.put, h.now.val]
  · rw [if_neg hlt]
    refine ⟨d, rfl, h.room, h.dead, h.fuse, ?_, by have := h.works; omega⟩
    rw [List.take_of_length_le (by omega)]
    exact h.now

/-- Open and Add on such a disk. -/
theorem open_n (w : World) (lo B : Nat) (d : Dsk.Dk) (room wk : Nat) (c : List UInt8) (h : IsDk w lo B d) (hn : Dsk.DsN d room [102] c wk) (hw : wk ≤ 99999) (len : Nat) (its : List (Nat × List UInt8)) (hits : ∀ p ∈ its, Ok1 p) (hle : len ≤ c.length) (hc : c.take len = frs its) :
    Calls Tryz.prog 7 #[.pointer (some ⟨B, 0, none⟩), .string (str [102]), .int .i64 (len : Int)] w fun e w' => ∃ LB d', e = .returned (.tuple #[.pointer (some ⟨LB, 0, none⟩), .nilIface]) ∧ IsDk w' lo B d' ∧ Dsk.DsN d' room [102] (frs its) (wk + 1) ∧ LogIs w' lo LB B [102] (recsAt 0 its) ∧ Below lo w w' ∧ KeepT w w' := by
  obtain ⟨d', ho, hd'⟩ := dsN_open hn len hle
  rw [hc] at hd'
  refine (open_ok w lo B d d' h (by have := hn.works; omega) hn.dead [102] goodf len (by rw [hn.now.val]; exact hle) (recsAt 0 its) (by rw [hn.now.val, hc, scan_frs its hits]) ho).mono ?_
  rintro e w' ⟨LB, rfl, h1, h2, h3, h4⟩
  exact ⟨LB, d', rfl, h1, hd', h2, h3, h4⟩
theorem add_n (w : World) (lo LB B : Nat) (d : Dsk.Dk) (room wk : Nat) (its : List (Nat × List UInt8)) (h : IsDk w lo B d) (hn : Dsk.DsN d room [102] (frs its) wk) (hw : wk ≤ 99999) (hg : LogIs w lo LB B [102] (recsAt 0 its)) (hil : its.length ≤ 1000000)
    (k : Nat) (hk : 1 ≤ k ∧ k ≤ 255) (a : Option Addr) (n c : Nat) (l : List UInt8) (hkk : Keeps w a n c l) (hnn : n ≤ 1048576) (hroom : (frs its).length + (9 + n) ≤ room) (hr24 : room ≤ 16777216) :
    Calls Tryz.prog 44 #[.pointer (some ⟨LB, 0, none⟩), .int .i64 (k : Int), .slice a n c] w fun e w' => ∃ d', e = .returned .nilIface ∧ IsDk w' lo B d' ∧ Dsk.DsN d' room [102] (frs (its ++ [(k, l)])) (wk + 1) ∧ LogIs w' lo LB B [102] (recsAt 0 (its ++ [(k, l)])) ∧ Below lo w w' ∧ KeepG w w' := by
  have hll := hkk.len
  obtain ⟨d', hap, hd'⟩ := Dsk.dsN_app hn (frm (k : Int) l) (by rw [frm_length]; omega)
  rw [frs_snoc, recsAt_snoc]
  refine (add_ok w lo LB B [102] d d' _ h hg (by have := hn.works; omega) goodf k hk a n c l hkk hnn hap (by rw [recsAt_length]; exact hil) (by rw [lenOf_recs]; omega)).mono ?_
  rintro e w' ⟨rfl, h1, h2, h3, h4⟩
  rw [lenOf_recs] at h2
  exact ⟨d', rfl, h1, hd', by rw [Nat.zero_add]; exact h2, h3, h4⟩
theorem add_p (w : World) (lo LB B : Nat) (d : Dsk.Dk) (room wk : Nat) (its : List (Nat × List UInt8)) (c0 : List UInt8) (L : List (List UInt8)) (h : IsDk w lo B d) (hn : Dsk.DsP d room [102] c0 L wk) (hc : c0 ++ L.flatten = frs its) (hw : wk ≤ 99999) (hg : LogIs w lo LB B [102] (recsAt 0 its)) (hil : its.length ≤ 1000000)
    (k : Nat) (hk : 1 ≤ k ∧ k ≤ 255) (a : Option Addr) (n c : Nat) (l : List UInt8) (hkk : Keeps w a n c l) (hnn : n ≤ 1048576) (hroom : (frs its).length + (9 + n) ≤ room) (hr24 : room ≤ 16777216) :
    Calls Tryz.prog 44 #[.pointer (some ⟨LB, 0, none⟩), .int .i64 (k : Int), .slice a n c] w fun e w' => ∃ d', e = .returned .nilIface ∧ IsDk w' lo B d' ∧ Dsk.DsP d' room [102] c0 (L ++ [frm (k : Int) l]) (wk + 1) ∧ LogIs w' lo LB B [102] (recsAt 0 (its ++ [(k, l)])) ∧ Below lo w w' ∧ KeepG w w' := by
  have hll := hkk.len
  obtain ⟨d', hap, hd'⟩ := Dsk.dsP_app hn (frm (k : Int) l) (by rw [hc, frm_length]; omega)
  rw [recsAt_snoc]
  refine (add_ok w lo LB B [102] d d' _ h hg (by have := hn.n.works; omega) goodf k hk a n c l hkk hnn hap (by rw [recsAt_length]; exact hil) (by rw [lenOf_recs]; omega)).mono ?_
  rintro e w' ⟨rfl, h1, h2, h3, h4⟩
  rw [lenOf_recs] at h2
  exact ⟨d', rfl, h1, hd', by rw [Nat.zero_add]; exact h2, h3, h4⟩
theorem keeps_lit (w : World) (l : List UInt8) (fr : Nat × Nat := (0, 0)) : Keeps (w.alloc (.cells (bv l).toArray 5 fr)) (some ⟨w.heap.size, 0, none⟩) l.length l.length l :=
  ⟨rds_lit w _ l _, fun _ k o e => by simp only [Option.some.injEq, Addr.mk.injEq] at e; obtain ⟨rfl, _⟩ := e; exact ⟨_, _, heap_alloc_new w _⟩, Nat.le_refl _, fun h => by cases h⟩
theorem new1000 (w : World) : Calls Tryz.prog 6 #[.int .i64 1000] w fun e w' => ∃ B, e = .returned (.pointer (some ⟨B, 0, none⟩)) ∧ IsDk w' w.heap.size B (Dsk.newD 1000) ∧ Below w.heap.size w w' := by
  have := new_any w 1000 (by omega)
  rw [show ((1000 : Nat) : Int) = 1000 from rfl] at this
  exact this
end Go.Proofs.YthampbiabkfmoaaGreatDoor
