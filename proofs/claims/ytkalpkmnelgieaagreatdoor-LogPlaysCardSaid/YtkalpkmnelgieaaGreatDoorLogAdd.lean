/- log.Add, where it goes well. -/
import Derived.Test.YtkalpkmnelgieaaGreatDoorLogOpen
namespace Go.Proofs.YtkalpkmnelgieaaGreatDoor
open Go.RowKit Go.Tap Go.Maps
set_option linter.unusedVariables false
attribute [local go_sem ↓] Go.wp_at_zero Go.wp_at_succ

theorem step_append_rds0 {w : World} {ops : Array Oper} {o : Oper} {a : Act} {K : Act → World → Prop} {Q : Exit → Act → World → Prop} {E : Prop} {P : Program} (hgd : o.guard = none) (s x : Operand) (t : TypeId)
    (ho : o.op = .call { callee := .builtin .append, args := #[s, x], argTypes := #[t, t] })
    (base : Nat) (e : TypeId) (i : TypeInfo) (ht : P.underlying t = some (.slice e)) (hi : P.info? e = some i) (hz : i.zero = some (.int .u8 0)) (hsize : i.size = 1) (hby : i.bytes = 1)
    (v : Value) (hs : a.eval s = v) (hown : w.ownsRow base e 1 v 0 (bv []))
    (ao : Option Addr) (m c : Nat) (hx : a.eval x = .slice ao m c) (hnone : ao = none → c = 0) (l : List UInt8) (hr : Rds w ao m l) (hb : m ≤ 140737488355328) (hbase : base ≤ w.heap.size)
    (h : ∀ a' c' w', w'.ownsRow base e 1 (.slice a' m c') m (bv l) → w.grownBy w' v.ownBlock → K (a.put o.dst (.slice a' m c')) w') :
    if Region.wanted o (yielded ops a.tmps) = true then Oper.wp P o a w K Q else E :=
  step_append_rds hgd s x t ho base e i ht hi hz hsize hby v 0 [] hs hown ao m c hx hnone l hr (by omega) hbase (fun a' c' w' h1 h2 => by
    rw [Nat.zero_add, List.nil_append] at *
    exact h a' c' w' h1 h2)
/-- Length called at a step of a region that draws its order. -/
theorem step_length {w : World} {ops : Array Oper} {o : Oper} {a : Act} {K : Act → World → Prop} {Q : Exit → Act → World → Prop} {E : Prop} (hgd : o.guard = none) (t : Nat) (ty : TypeId)
    (ho : o.op = .call { callee := .value (.func 12), args := #[.tmp t], argTypes := #[ty] }) (v r : Value) (hx : a.tmps[t]?.getD undef = v) (hc : Calls Tryz.prog 12 #[v] w fun e w' => e = .returned r ∧ w' = w) (h : K (a.put o.dst r) w) :
    if Region.wanted o (yielded ops a.tmps) = true then Oper.wp Tryz.prog o a w K Q else E := by
  have hw : Region.wanted o (yielded ops a.tmps) = true := by simp [Region.wanted, hgd]
  rw [if_pos hw]
  obtain ⟨dst, op, type, pos, after, guard⟩ := o
  simp only at ho hgd
  subst ho hgd
  clear hw
  have hf := Tryz.func12
  go_simp
  refine hc.mono ?_
  rintro e w' ⟨rfl, rfl⟩
  simpa [Act.put] using h
theorem bel_drew1 (w : World) : Below w.heap.size w w.drew := ⟨rfl, rfl, rfl, Nat.le_refl _, fun _ _ => rfl⟩
theorem log3 {w' : World} {LB B : Nat} {nm : Dsk.Name} {rv : Value} (h : w'.heap[LB]? = some (.cells #[.pointer (some ⟨B, 0, none⟩), .string (str nm), rv] 95 (0, 0))) :
    w'.cell? ⟨LB, 0, none⟩ = some (.pointer (some ⟨B, 0, none⟩)) ∧ w'.cell? ⟨LB, 1, none⟩ = some (.string (str nm)) := ⟨blk_cell (i := 0) h rfl, blk_cell (i := 1) h rfl⟩
set_option maxHeartbeats 8000000 in
set_option maxRecDepth 100000 in
theorem add_ok (w : World) (lo LB B : Nat) (nm : Dsk.Name) (d d' : Dsk.Dk) (rs : List Rec) (h : IsDk w lo B d) (hg : LogIs w lo LB B nm rs) (hw : d.works ≤ 99999) (hnm : Dsk.good nm) (k : Nat) (hk : 1 ≤ k ∧ k ≤ 255)
    (a : Option Addr) (n c : Nat) (l : List UInt8) (hkk : Keeps w a n c l) (hn : n ≤ 1048576) (hap : d.append nm (frm (k : Int) l) = (d', 0)) (hrs : rs.length ≤ 1000000) (hle : lenOf rs ≤ 1099511627776) :
    Calls Tryz.prog 22 #[.pointer (some ⟨LB, 0, none⟩), .int .i64 (k : Int), .slice a n c] w fun e w' => e = .returned .nilIface ∧ IsDk w' lo B d' ∧ LogIs w' lo LB B nm (rs ++ [⟨k, l, lenOf rs + (9 + l.length)⟩]) ∧ Below lo w w' ∧ KeepG w w' := by
  obtain ⟨i0, hi, hz0, hz1, hz2'⟩ := info_parts Tryz.infoB
  have hr := hkk.rds
  have hz := hkk.none
  have HKK := Lib.hid hkk
  have hl := hr.1
  have hlo := h.lo_le
  have H := Lib.hid h
  have HG := Lib.hid hg
  have HR := Lib.hid hr
  have HAP := Lib.hid hap
  clear h hg hr hap hkk
  have hlay := lay_any w (k : Int) (by omega) (by omega) a n c l HR.out hz hn
  obtain ⟨F, hF⟩ : ∃ F, F = frm (k : Int) l := ⟨_, rfl⟩
  have hFl : F.length = 9 + n := by rw [hF, frm_length, hl]
  rw [← hF] at hlay
  have HF := Lib.hid hF
  obtain ⟨N, hN⟩ : ∃ N, N = F.length := ⟨_, rfl⟩
  rw [← hN] at hlay
  have HN := Lib.hid hN
  have hNb : N ≤ 1048585 := by omega
  have HNN := Lib.hid (show N = 9 + n by omega)
  clear hF hN hFl
  go_enter Tryz.func22, Tryz.ntmps22
  go_wp2_with fail
  refine hlay.mono ?_
  clear hlay
  rintro e w1 ⟨v1, rfl, ho1, hb1⟩
  obtain ⟨a1, c1, rfl, _, _, hz1', _⟩ := ownsRow_slice ho1
  have hr1 : Rds w1 a1 N F := Rds.of_own (by rw [← show N = F.length from HN.out]; exact ho1) (show N = F.length from HN.out).symm
  have hd1 := H.out.below hb1
  have hg1 := HG.out.below hb1
  obtain ⟨rv, hB1, hlo1, hrec1⟩ := hg1
  have HB1 := Lib.hid hB1
  have HG1 := Lib.hid (HG.out.below hb1)
  have happ := append_yes w1.drew lo B d d' (hd1.below (bel_drew1 w1)) hw nm hnm a1 N c1 F hr1.drew hz1' (by omega) (by rw [show F = _ from HF.out]; exact HAP.out)
  clear ho1 hrec1 hB1
  go_wp2_with fail
  go_region_held3 (fun w' => w'.cell? ⟨LB, 0, none⟩ = some (.pointer (some ⟨B, 0, none⟩)) ∧ w'.cell? ⟨LB, 1, none⟩ = some (.string (str nm)))
    (first | exact log3 HB2.out | exact log3 HB1.out)
    ((go_at_call 50; refine happ.mono ?_; rintro e w2 ⟨rfl, hd2, hb2, kt2⟩; have HB2 := Lib.hid ((kt2 LB _ _ _ HB1.out (by decide) (by decide)).trans HB1.out)))
  have hb2' : Below lo w1 w2 := ⟨hb2.os, hb2.tape, hb2.output, hb2.size, hb2.block⟩
  have kt2' : KeepT w1 w2 := fun k' xs t fr hk' h1 h2 => kt2 k' xs t fr hk' h1 h2
  have bw2 : Below lo w w2 := (hb1.mono hlo).trans hb2'
  have hg2 := HG1.out.keep kt2'
  have kg2 : KeepG w w2 := (KeepG.below hb1 (Nat.le_refl _)).trans (.ofT kt2')
  obtain ⟨rv', hB2', _, hrec2⟩ := hg2
  have hrv : rv' = rv := by
    have := hB2'.symm.trans HB2.out
    simp only [Option.some.injEq, Obj.cells.injEq, Array.mk.injEq, List.cons.injEq, true_and, and_true] at this
    exact this
  subst hrv
  have hk2 := HKK.out.stay kg2.ku
  obtain ⟨ps, hps, hpk, hpr⟩ := hrec2
  obtain ⟨ra, rc, rfl, _, _, hrb⟩ := hpr.form
  obtain ⟨LF, hLF⟩ : ∃ LF, LF = lenOf rs := ⟨_, rfl⟩
  obtain ⟨E, hE⟩ : ∃ E, E = LF + N := ⟨_, rfl⟩
  have hwE : IntKind.i64.wrap ((LF : Int) + (N : Int)) = (E : Int) := by rw [hE]; push_cast; exact wrapi' _ (by omega)
  have hlogX : ∀ X : World, KeepN w2 X → X.heap[LB]? = w2.heap[LB]? → (∀ k', (Value.slice ra ps.length rc).ownBlock = some k' → X.heap[k']? = w2.heap[k']?) → LogIs X lo LB B nm rs := fun X h1 h2 h3 =>
    ⟨_, h2.trans HB2.out, hlo1, RecsIs.stay (w := w2) ⟨ps, hps, hpk, hpr⟩ h1.ku h3⟩
  have hlen : ∀ X : World, KeepN w2 X → X.heap[LB]? = w2.heap[LB]? → (∀ k', (Value.slice ra ps.length rc).ownBlock = some k' → X.heap[k']? = w2.heap[k']?) → Calls Tryz.prog 12 #[.pointer (some ⟨LB, 0, none⟩)] X fun e w' => e = .returned (.int .i64 (LF : Int)) ∧ w' = X := fun X h1 h2 h3 => by
    have := length_any X lo LB B nm rs (hlogX X h1 h2 h3) (by omega)
    rw [← hLF] at this; exact this
  have hltB := blk_lt HB2.out
  have hsz2 : lo ≤ w2.heap.size := by omega
  have hneB : (Value.slice ra ps.length rc).ownBlock ≠ some LB := fun e => by
    obtain ⟨_, _, cur, hc⟩ := hrb LB e
    rw [HB2.out] at hc
    simp at hc
  have hltR : ∀ k', (Value.slice ra ps.length rc).ownBlock = some k' → k' < w2.heap.size := fun k' e => by obtain ⟨_, _, cur, hc⟩ := hrb k' e; exact blk_lt hc
  have hlen0 := hlen w2.drew (fun _ _ _ _ => rfl) rfl (fun _ _ => rfl)
  have hlen1 := hlen (w2.alloc (.cells #[] 5)).drew (fun k' o hk' _ => (MapKept.heap_alloc w2 _).2 k' (blk_lt hk')) ((MapKept.heap_alloc w2 _).2 _ hltB) (fun k' e => (MapKept.heap_alloc w2 _).2 k' (hltR k' e))
  have hplen : ps.length ≤ 1000000 := by rw [← hps, List.length_map] at hrs; exact hrs
  have c2 : w2.cell? ⟨LB, 2, none⟩ = some (.slice ra ps.length rc) := blk_cell (i := 2) HB2.out rfl
  have f2 : w2.frozen? ⟨LB, 2, none⟩ = false := blk_free HB2.out 2
  have c2' : ∀ o, (w2.alloc o).cell? ⟨LB, 2, none⟩ = some (.slice ra ps.length rc) := fun o => (World.cell?_of_block ((MapKept.heap_alloc w2 o).2 _ hltB)).trans c2
  have HK2 := Lib.hid hk2
  have HPR := Lib.hid hpr
  have HPK := Lib.hid hpk
  have HPS := Lib.hid hps
  have HE := Lib.hid hE
  have HLF := Lib.hid hLF
  have HLEN := Lib.hid hlen
  have HRB := Lib.hid hrb
  have HLR := Lib.hid hltR
  clear hk2 hpr hpk hps hE hLF hlogX hlen hrb hltR hb2 kt2
  go_wp2_with fail
  subst hl
  go_region_law (first
    | (refine step_append_rds0 (by rfl) (.tmp 38) (.tmp 39) 38 (by rfl) w2.heap.size 5 i0 Tryz.underlying38 hi hz0 hz1 hz2' _ (by rfl) (own_empty w2 _) a l.length c (by rfl) hz l (HK2.out.stay (KeepU.alloc w2 _)).rds (by omega) (by simp) ?_; intro a3 c3 w3 hown3 hg3; have hg3' := grown_undrew hg3; have hB3 : w3.heap[LB]? = w2.heap[LB]? := (hg3'.block LB (by simp; omega) (by intro e; simp [Value.ownBlock] at e; omega)).trans ((MapKept.heap_alloc w2 _).2 _ hltB); have c23 : w3.cell? ⟨LB, 2, none⟩ = some (.slice ra ps.length rc) := (World.cell?_of_block hB3).trans c2; have kn3 : ∀ k', k' < w2.heap.size → w3.heap[k']? = w2.heap[k']? := (fun k' hk' => (hg3'.block k' (by simp; omega) (by intro e; simp [Value.ownBlock] at e; omega)).trans ((MapKept.heap_alloc w2 _).2 _ hk')); have hs3 : w2.heap.size ≤ w3.heap.size := (by have := hg3'.size; simp at this; omega); have c23' : ∀ o, (w3.alloc o).cell? ⟨LB, 2, none⟩ = some (.slice ra ps.length rc) := (fun o => (World.cell?_of_block ((MapKept.heap_alloc w3 o).2 LB (by omega))).trans c23); have hlen3 := HLEN.out w3 (fun k' o hk' _ => kn3 k' (blk_lt hk')) hB3 (fun k' e => kn3 k' (HLR.out k' e)))
    | (refine step_length (by rfl) 41 29 (by rfl) _ (.int .i64 (LF : Int)) (by rfl) hlen3 ?_)
    | (refine step_append_rec (by rfl) (.tmp 36) (.tmp 47) (by rfl) lo _ ps.length _ (by rfl) (HPR.out.stay (w' := w3.alloc (.cells (Rp.mk ⟨k, l, E⟩ a3 c3).cells.toArray 104)) (fun k' e => ((MapKept.heap_alloc w3 _).2 k' (by have h1 := HLR.out k' e; have h2 := hs3; omega)).trans (kn3 k' (HLR.out k' e)))) (by have h1 := hsz2; have h2 := hs3; simp; omega) w3.heap.size 1 (by rfl) (Rp.mk ⟨k, l, E⟩ a3 c3).cells.toArray (by have := heap_alloc_new w3 (.cells (Rp.mk ⟨k, l, E⟩ a3 c3).cells.toArray 104); exact this) rfl (by simp [Rp.cells, Value.oneCell']) (by omega) ?_; intro a5 c5 w5 hown5 hg5; have hB5 : w5.heap[LB]? = w2.heap[LB]? := (hg5.block LB (by simp; omega) (fun e => hneB e.symm)).trans (((MapKept.heap_alloc w3 _).2 LB (by omega)).trans hB3); have c25 : w5.cell? ⟨LB, 2, none⟩ = some (.slice ra ps.length rc) := (World.cell?_of_block hB5).trans c2; have f25 : w5.frozen? ⟨LB, 2, none⟩ = false := (World.frozen?_of_block hB5).trans f2))
  all_goals
    obtain ⟨W5, hW5⟩ : ∃ W5, W5 = w5.setCell ⟨LB, 2, none⟩ (.slice a5 (ps.length + 1) c5) := ⟨_, rfl⟩
    rw [← hW5]
    have hB5c := hB5.trans HB2.out
    have hne5 : (Value.slice a5 (ps.length + 1) c5).ownBlock ≠ some LB := own_ne' hown5 hB5c (by decide)
    have hother : ∀ k', k' < w2.heap.size → k' ≠ LB → (Value.slice ra ps.length rc).ownBlock ≠ some k' → W5.heap[k']? = w2.heap[k']? := fun k' h1 h2 h3 => by
      rw [hW5]
      have t1 := ((TStay.refl (fun k => k = LB) w5).setCell (p := ⟨LB, 2, none⟩) (.inl rfl) (.slice a5 (ps.length + 1) c5)).block k' (by have := hg5.size; simp at this; omega) h2
      rw [t1]
      exact (hg5.block k' (by simp; omega) (fun e => h3 e.symm)).trans (((MapKept.heap_alloc w3 _).2 k' (by omega)).trans (kn3 k' h1))
    have hkn : KeepN w2 W5 := fun k' o hk' hno => hother k' (blk_lt hk') (fun e => by subst e; rw [HB2.out] at hk'; cases hk'; exact (hno _ _ _ rfl).1 rfl) (fun e => by
      obtain ⟨_, _, cur, hc⟩ := HRB.out k' e
      rw [hc] at hk'; cases hk'; exact (hno _ _ _ rfl).2 rfl)
    have hk35 : KeepU w3 W5 := fun k' xs fr hk' => by
      rw [hW5]
      have hne : k' ≠ LB := fun e => by subst e; rw [hB3, HB2.out] at hk'; simp at hk'
      have t1 := ((TStay.refl (fun k => k = LB) w5).setCell (p := ⟨LB, 2, none⟩) (.inl rfl) (.slice a5 (ps.length + 1) c5)).block k' (by have := hg5.size; have := blk_lt hk'; simp at *; omega) hne
      rw [t1]
      refine (hg5.block k' (by have := blk_lt hk'; simp; omega) (fun e => ?_)).trans ((MapKept.heap_alloc w3 _).2 k' (blk_lt hk'))
      obtain ⟨_, _, cur, hc⟩ := HRB.out k' e.symm
      rw [kn3 k' (HLR.out k' e.symm), hc] at hk'
      simp at hk'
    have hbody := (Keeps.of_own hown3 rfl).stay hk35
    have hb5 : Below lo w2 W5 := by
      rw [hW5]
      exact ((((((Below.refl lo w2).alloc hsz2 _).grown hg3' (by simp; omega) (by intro j hj; simp [Value.ownBlock] at hj; omega)).alloc (by omega) _).grown hg5 (by simp; omega) (fun j hj => (HRB.out j hj).2.1))).setCell hlo1 _
    have hlog : LogIs W5 lo LB B nm (rs ++ [⟨k, l, E⟩]) := by
      refine ⟨.slice a5 (ps.length + 1) c5, by rw [hW5]; exact heap_setCell_same w5 LB 2 _ _ _ hB5c, hlo1, ?_⟩
      rw [← show ps.map Rp.x = rs from HPS.out]
      refine recs_snoc (fun p hp => (HPK.out p hp).stay hkn.ku) hbody ?_
      rw [hW5]
      exact ownsRow_stay hown5 ((TStay.refl (fun k => k = LB) w5).setCell (p := ⟨LB, 2, none⟩) (.inl rfl) _) (fun k' hk' e => by subst e; exact hne5 hk')
    have hdk := KeepN.dk hd2 hkn
    have HLOG := Lib.hid hlog
    have HDK := Lib.hid hdk
    have HB5 := Lib.hid hb5
    have HKN := Lib.hid hkn
    clear hlog hdk hb5 hkn hother hbody hk35 hown5 hg5 hown3 hg3 hg3' kn3 hW5 hB5 hB5c hne5 c25 f25 hB3 c23 c23' hlen3
    go_wp2
    go_ret
    refine ⟨rfl, HDK.out, ?_, bw2.trans HB5.out, kg2.trans (.ofN HKN.out)⟩
    rw [show lenOf rs + (9 + l.length) = E by rw [show E = LF + N from HE.out, show LF = lenOf rs from HLF.out, show N = 9 + l.length from HNN.out]]
    exact HLOG.out
end Go.Proofs.YtkalpkmnelgieaaGreatDoor
