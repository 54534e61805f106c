/- The statement WireKnown, walked. -/
import Derived.Test.YtkalpkmnelgieaaDoorWiKn
import Derived.Test.YtkalpkmnelgieaaDoorWiItems
namespace Go
namespace Tap
open Go.RowKit
section
variable {P : Program} {ops : Array Oper} {Q : Exit → Act → World → Prop}
theorem ex_cmp {o : Oper} {a : Act} {w : World} (op : BinOp) (T T' : TypeId) (x y : Operand) (ho : o.op = .binOp op T x y T') (X Y : Array Value) (hx : a.eval x = .agg X) (hy : a.eval y = .agg Y)
    (hm : P.eqGuardType P.depth T = false) (b : Bool) (hr : (binOp op T (.agg X) (.agg Y)).run P w = .ok (.bool b) w) : (execOp a.eval o).run P w = .ok (.value (.bool b)) w := by
  unfold execOp
  simp only [ho, hx, hy, Sem.run_bind, run_eqGuard_agg _ op T x y X Y hm, Result.andThen_ok, hr, Sem.run_pure]
theorem ex_cell {o : Oper} {a : Act} {w : World} (T : TypeId) (x : Operand) (ho : o.op = .load T x) (g of : Nat) (hx : a.eval x = .pointer (some ⟨g, of, none⟩)) (e : TypeId) (hu : P.underlying T = some (.slice e)) (v : Value) (hc : w.cell? ⟨g, of, none⟩ = some v) :
    (execOp a.eval o).run P w = .ok (.value v) w := by
  unfold execOp
  simp [ho, hx, Instr.loadAt, Instr.sureAddr, loadVar, isAgg, underlying, hu, hc, Result.andThen]
/-- A call of a Go function at a step of a drawn region. -/
theorem step_call {w : World} {o : Oper} {a : Act} {K : Act → World → Prop} {E : Prop} {F : Ending → World → Prop} (hw : Region.wanted o (yielded ops a.tmps) = true) (f : FuncId) (vs : Array Value)
    (hen : (execOp a.eval o).run P w = .ok (.enter f vs) w) (hc : Calls P f vs w F) (h : ∀ e w', F e w' → ∃ r, e = .returned r ∧ K (a.put o.dst r) w') :
    if Region.wanted o (yielded ops a.tmps) = true then Oper.wp P o a w K Q else E := by
  rw [if_pos hw]
  unfold Oper.wp
  rw [hen, Oper.upon_enter]
  refine hc.mono ?_
  rintro e w' hF
  obtain ⟨r, rfl, hk⟩ := h e w' hF
  exact hk
theorem callH {md : Region.Mode} {S : World → Prop} {i : Nat} {oi : Oper} {F : Ending → World → Prop} {fuel : Nat} {listed : Array Bool} {a : Act} {w : World} (f : FuncId) (vs : Array Value) (hi : ops[i]? = some oi)
    (hr : Region.ready md ops listed = [i]) (hw : Region.wanted oi (yielded ops a.tmps) = true) (hen : (execOp a.eval oi).run P w = .ok (.enter f vs) w) (hc : Calls P f vs w F)
    (h : ∀ e w', F e w' → ∃ r, e = .returned r ∧ S w' ∧ (S w' → wpAnyH P md ops Q S fuel (listed.setIfInBounds i true) (a.put oi.dst r) w')) : wpAnyH P md ops Q S (fuel + 1) listed a w := by
  refine wpAnyH_ready hr (by simp) ?_
  refine AllReadyH.cons hi (fun K hK => ?_) AllReadyH.nil
  refine step_call hw f vs hen hc ?_
  intro e w' hF
  obtain ⟨r, he, hs, hk⟩ := h e w' hF
  exact ⟨r, he, hK.out _ _ hs hk⟩
theorem takeK {md : Region.Mode} {S : World → Prop} {i : Nat} {oi : Oper} (v : Value) (d : Option Tmp) {fuel : Nat} {listed : Array Bool} {a : Act} {w : World} (hi : ops[i]? = some oi) (hd : oi.dst = d)
    (hs : Region.noSelect ops = true) (hf : Region.free md ops listed i = true) (hr : (Region.ready md ops listed).contains i = true)
    (hQ : ∀ c a w, Q (.panic c) (a.put d v) w → Q (.panic c) a w) (hw : Region.wanted oi (yielded ops a.tmps) = true) (hy : ∀ w, S w → (execOp a.eval oi).run P w = .ok (.value v) w) (hS : S w)
    (h : wpAnyH P md ops Q S fuel (listed.setIfInBounds i true) (a.put d v) w) : wpAnyH P md ops Q S (fuel + 1) listed a w := by
  subst hd
  exact takeH v hi hs hf hr hQ hw hy hS h
theorem callK {md : Region.Mode} {S : World → Prop} {i : Nat} {oi : Oper} {F : Ending → World → Prop} {fuel : Nat} {listed : Array Bool} {a : Act} {w : World} (f : FuncId) (vs : Array Value) (d : Option Tmp) (hi : ops[i]? = some oi) (hd : oi.dst = d)
    (hr : Region.ready md ops listed = [i]) (hw : Region.wanted oi (yielded ops a.tmps) = true) (hen : (execOp a.eval oi).run P w = .ok (.enter f vs) w) (hc : Calls P f vs w F)
    (h : ∀ e w', F e w' → ∃ r, e = .returned r ∧ S w' ∧ (S w' → wpAnyH P md ops Q S fuel (listed.setIfInBounds i true) (a.put d r) w')) : wpAnyH P md ops Q S (fuel + 1) listed a w := by
  subst hd
  exact callH f vs hi hr hw hen hc h
end
end Tap
end Go
namespace Go.Proofs.YtkalpkmnelgieaaDoor
open Go.RowKit Go.Tap
set_option linter.unusedVariables false
set_option linter.unusedSimpArgs false
def Wi.hAB : List UInt8 := 171 :: List.replicate 31 0
def Wi.h5 : List UInt8 := 5 :: List.replicate 31 0
def Wi.enK : Wi.En := ⟨1, Wi.h5, 3, Wi.hAB⟩
def Wi.rpK : Wi.Rp := ⟨Wi.rqK, [Wi.enK]⟩
def Wi.rpH : Wi.Rp := ⟨Wi.rqK, []⟩
def Wi.rqI : Wi.Rq := ⟨1, 2, []⟩
def Wi.itA : Wi.It := ⟨Wi.z32, 0, [97]⟩
def Wi.it0 : Wi.It := ⟨Wi.z32, 0, []⟩
def Wi.rqJ : Wi.Rq := ⟨0, 1, [Wi.itA]⟩
def Wi.rqL : Wi.Rq := ⟨0, 3, [Wi.it0]⟩
def Wi.en3 : Wi.En := ⟨3, Wi.z32, 0, Wi.z32⟩
def Wi.rpL : Wi.Rp := ⟨⟨0, 1, [Wi.it0]⟩, [Wi.en3]⟩
theorem enK_ok : Wi.enK.ok := ⟨by show Wi.i64ok 1; unfold Wi.i64ok; omega, rfl, by show Wi.i64ok 3; unfold Wi.i64ok; omega, rfl⟩
theorem en3_ok : Wi.en3.ok := zen_ok 3 (by unfold Wi.i64ok; omega)
theorem it0_ok : Wi.it0.ok := ⟨rfl, by show Wi.i64ok 0; unfold Wi.i64ok; omega, by show 0 ≤ _; omega⟩
theorem itA_ok : Wi.itA.ok := ⟨rfl, by show Wi.i64ok 0; unfold Wi.i64ok; omega, by show 1 ≤ _; omega⟩
theorem i64s (z : Int) (h0 : -100 ≤ z) (h1 : z ≤ 100) : Wi.i64ok z := by unfold Wi.i64ok; omega
theorem rpK_ok : Wi.rpK.ok := ⟨rqK_ok, fun i hi => by simp only [Wi.rpK, List.mem_singleton] at hi; subst hi; exact enK_ok⟩
theorem rpH_ok : Wi.rpH.ok := ⟨rqK_ok, fun i hi => by cases hi⟩
theorem rqI_ok : Wi.rqI.ok := ⟨i64s 1 (by omega) (by omega), i64s 2 (by omega) (by omega), fun i hi => by cases hi⟩
theorem rqJ_ok : Wi.rqJ.ok := ⟨i64s 0 (by omega) (by omega), i64s 1 (by omega) (by omega), fun i hi => by simp only [Wi.rqJ, List.mem_singleton] at hi; subst hi; exact itA_ok⟩
theorem rqL_ok : Wi.rqL.ok := ⟨i64s 0 (by omega) (by omega), i64s 3 (by omega) (by omega), fun i hi => by simp only [Wi.rqL, List.mem_singleton] at hi; subst hi; exact it0_ok⟩
theorem rpL_ok : Wi.rpL.ok := ⟨⟨i64s 0 (by omega) (by omega), i64s 1 (by omega) (by omega), fun i hi => by simp only [Wi.rpL, List.mem_singleton] at hi; subst hi; exact it0_ok⟩, fun i hi => by simp only [Wi.rpL, List.mem_singleton] at hi; subst hi; exact en3_ok⟩
theorem rpK_lay : Wi.layRp Wi.rpK = some (Wi.sumB (Wi.headB 2 Wi.rqK ++ Wi.ensB 2 [Wi.enK])) := if_pos ⟨rqK_may, rfl, by decide⟩
theorem rpH_lay : Wi.layRp Wi.rpH = none := if_neg (by intro h; cases h.2.1)
theorem rqI_lay : Wi.layRq Wi.rqI = none := if_neg (by decide)
theorem rqJ_lay : Wi.layRq Wi.rqJ = none := if_neg (by decide)
theorem rqL_lay : Wi.layRq Wi.rqL = none := if_neg (by decide)
theorem rpL_lay : Wi.layRp Wi.rpL = none := if_neg (by intro h; exact absurd h.2.2 (by decide))
theorem bu_AB : Tryd.prog.built 33 [(0, .int .u8 171)] = some (hashC Wi.hAB) := by kernel_rfl
theorem bu_5 : Tryd.prog.built 33 [(0, .int .u8 5)] = some (hashC Wi.h5) := by kernel_rfl
theorem bu_en : Tryd.prog.built 78 [(0, .int .i64 1), (2, .agg (hashC Wi.hAB)), (1, .agg (pathC Wi.h5 3))] = some (enC Wi.enK) := by kernel_rfl
theorem bu_it0 : Tryd.prog.built 71 [] = some (itC Wi.it0) := by kernel_rfl
theorem len_rpK : (Wi.sumB (Wi.headB 2 Wi.rqK ++ Wi.ensB 2 [Wi.enK])).length ≤ 3000 := layRp_le rpK_ok rpK_lay
/-- A row of one item, of one entry, laid. -/
theorem rdI_new (w : World) (x : Wi.It) : RdI (w.alloc (.cells (itC x) 71)) (some ⟨w.heap.size, 0, none⟩) 1 [x] := ⟨rfl, fun _ => ⟨_, 0, rfl, by simp, fun j y hy => by
  have hj : j = 0 := by have := (List.getElem?_eq_some_iff.1 hy).1; simp at this; omega
  subst hj
  simp at hy; subst hy
  have := Part.of_blk (heap_alloc_new w (.cells (itC x) 71))
  simpa using this⟩⟩
theorem rdE_new (w : World) (x : Wi.En) : RdE (w.alloc (.cells (enC x) 78)) (some ⟨w.heap.size, 0, none⟩) 1 [x] := ⟨rfl, fun _ => ⟨_, 0, rfl, by simp, fun j y hy => by
  have hj : j = 0 := by have := (List.getElem?_eq_some_iff.1 hy).1; simp at this; omega
  subst hj
  simp at hy; subst hy
  have := Part.of_blk (heap_alloc_new w (.cells (enC x) 78))
  simpa using this⟩⟩
theorem ne_KI : ¬ Wi.rqK = Wi.rqI := by
  intro h
  have h2 := congrArg (fun q => q.items.length) h
  exact absurd h2 (by decide)
theorem part_ne {w : World} {b o g : Nat} {cs : Array Value} {x y z : Value} {t : TypeId} (h : Part w b o cs) (hs : 3 < cs.size) (hg : w.heap[g]? = some (.cells #[x, y, z] t (0, 0))) : b ≠ g := by
  rintro rfl
  have h3 := h 3 (cs[3]'hs) (Array.getElem?_eq_getElem hs)
  simp only [World.cell?, hg] at h3
  have h4 : (#[x, y, z] : Array Value)[o + 3]? = none := Array.getElem?_eq_none (by show 3 ≤ o + 3; omega)
  simp [h4] at h3
theorem below_self {w w' w'' : World} {B : Nat} (h : Below B w w') (hb : B ≤ w.heap.size) (k : Below w'.heap.size w' w'') : Below B w w'' := h.trans (k.mono (Nat.le_trans hb h.size))
set_option maxHeartbeats 8000000 in
set_option maxRecDepth 100000 in
theorem wireKnown_walk (W : World) (hg : EType W) : Calls Tryd.prog 6 #[] W fun e w' => e = .returned (.bool true) ∧ Below W.heap.size W w' := by
  have HG := Lib.hid hg
  clear hg
  go_enter Tryd.func6, Tryd.ntmps6
  go_wp2_with fail
  refine (req_any W).mono ?_
  rintro e w1 ⟨B, rfl, hB, r1, b1⟩
  obtain ⟨WA, hWA⟩ : ∃ WA, WA = w1.alloc (.cells #[.int .i64 1, .int .i64 2, .slice (some ⟨B, 0, none⟩) 1 1] 50) := ⟨_, rfl⟩
  have ba : Below w1.heap.size w1 WA := by rw [hWA]; exact (Below.refl _ _).alloc (Nat.le_refl _) _
  have TA : Hid (WA.heap[w1.heap.size]? = some (.cells #[.int .i64 1, .int .i64 2, .slice (some ⟨B, 0, none⟩) 1 1] 50 (0, 0))) := Lib.hid (by rw [hWA]; exact heap_alloc_new _ _)
  have RA := Lib.hid (r1.below ba)
  have OW0 : Hid (W.heap.size ≤ w1.heap.size) := Lib.hid b1.size
  have O0 : Hid (Below W.heap.size W WA) := Lib.hid (below_self b1 (Nat.le_refl _) ba)
  have NB : Hid (B < w1.heap.size) := Lib.hid (r1.lt (by omega))
  have HWA := Lib.hid hWA
  clear hWA ba b1 r1 hB
  go_upto_region 2 with (fail)
  rw [← HWA.out]
  obtain ⟨g0, g1, g2⟩ := cells3 TA.out
  obtain ⟨WC, hWC⟩ : ∃ WC, WC = (WA.alloc (.cells (enC Wi.enK) 78)).alloc (.cells #[.int .i64 1, .int .i64 2, .slice (some ⟨B, 0, none⟩) 1 1, .slice (some ⟨WA.heap.size, 0, none⟩) 1 1] 55) := ⟨_, rfl⟩
  have bc : Below WA.heap.size WA WC := by rw [hWC]; exact ((Below.refl _ _).alloc (Nat.le_refl _) _).alloc (by simp) _
  have TC : Hid (WC.heap[WA.heap.size + 1]? = some (.cells #[.int .i64 1, .int .i64 2, .slice (some ⟨B, 0, none⟩) 1 1, .slice (some ⟨WA.heap.size, 0, none⟩) 1 1] 55 (0, 0))) := Lib.hid (by rw [hWC]; exact heap_alloc2_new _ _ _)
  have EC : Hid (RdE WC (some ⟨WA.heap.size, 0, none⟩) 1 [Wi.enK]) := Lib.hid (by rw [hWC]; exact (rdE_new WA Wi.enK).below ((Below.refl _ _).alloc (Nat.le_refl _) _))
  have OW : Hid (W.heap.size ≤ w1.heap.size) := Lib.hid OW0.out
  have TA2 := Lib.hid ((bc.block _ (blk_lt TA.out)).trans TA.out)
  have RC := Lib.hid (RA.out.below bc)
  have O1 : Hid (Below W.heap.size W WC) := Lib.hid (below_self O0.out (Nat.le_refl _) bc)
  have HWC := Lib.hid hWC
  have NA : Hid (w1.heap.size < WA.heap.size) := Lib.hid (blk_lt TA.out)
  clear hWC bc TA RA O0 HWA
  go_upto_region 3 with (first | (refine wpL_mk (by kernel_rfl) 33 #[(0, .const (.int .u8 171))] rfl [(0, .int .u8 171)] (by rfl) (hashC Wi.hAB) bu_AB ?_) | (refine wpL_mk (by kernel_rfl) 33 #[(0, .const (.int .u8 5))] rfl [(0, .int .u8 5)] (by rfl) (hashC Wi.h5) bu_5 ?_) | (refine wpL_mk (by kernel_rfl) 69 #[(0, .tmp 23), (1, .const (.int .i64 3))] rfl [(0, .agg (hashC Wi.h5)), (1, .int .i64 3)] (by rfl) (pathC Wi.h5 3) (bt_path Wi.h5 3 rfl) ?_) | (refine wpL_mk (by kernel_rfl) 78 #[(0, .const (.int .i64 1)), (2, .tmp 22), (1, .tmp 24)] rfl [(0, .int .i64 1), (2, .agg (hashC Wi.hAB)), (1, .agg (pathC Wi.h5 3))] (by rfl) (enC Wi.enK) bu_en ?_) | (refine wpL_rowOne rfl 53 78 (.tmp 25) rfl 26 rfl Tryd.underlying53 (enC Wi.enK) (by rfl) (.agg (enC ⟨0, Wi.z32, 0, Wi.z32⟩)) 66 zi_entry (by decide) (enC_size _ enK_ok) ?_))
  rw [← HWC.out]
  clear HWC g0 g1 g2
  obtain ⟨bk, hbk⟩ : ∃ b, Wi.layRp Wi.rpK = some b := ⟨_, rpK_lay⟩
  have LB : bk.length ≤ 3000 := layRp_le rpK_ok hbk
  have h3 := layReply_any WC Wi.rpK rpK_ok (some ⟨B, 0, none⟩) 1 1 RC.out (by omega) (some ⟨WA.heap.size, 0, none⟩) 1 1 EC.out (by omega)
  rw [hbk] at h3
  go_wp2_with (refine wpL_load (by kernel_rfl) 55 (.tmp 2) rfl (WA.heap.size + 1) 0 (by rfl) #[.int .i64 1, .int .i64 2, .slice (some ⟨B, 0, none⟩) 1 1, .slice (some ⟨WA.heap.size, 0, none⟩) 1 1] _ (Part.of_blk TC.out) Tryd.underlying55 rfl (sz_rp _ _ _ _) ?_)
  refine h3.mono ?_
  clear h3
  rintro e w3 ⟨b3, a3, c3, rfl, o3⟩
  obtain ⟨_, _, q3, hnc, _, hz, _⟩ := ownsRow_slice o3
  simp only [Value.slice.injEq] at q3
  obtain ⟨rfl, _, rfl⟩ := q3
  have r3 : Rds w3 a3 bk.length bk := Rds.of_own o3 rfl
  have h4 := readReply_any w3 a3 bk.length c3 bk r3 hnc hz (by omega)
  rw [Wi.readRp_lay Wi.rpK rpK_ok bk hbk] at h4
  have D3 := Lib.hid b3
  have R3 := Lib.hid r3
  clear b3 o3 r3
  go_wp2_with fail
  refine h4.mono ?_
  clear h4
  rintro e w4 ⟨b4, a4, c4, a5, c5, he, r4, e4⟩
  obtain rfl : e = .returned (.tuple #[.agg #[.int .i64 1, .int .i64 2, .slice a4 1 c4, .slice a5 1 c5], .nilIface]) := he
  obtain ⟨b5, o5, rfl, _, _⟩ := e4.at (k := 0) (x := Wi.enK) rfl
  obtain ⟨WD, hWD⟩ : ∃ WD, WD = w4.alloc (.cells #[.int .i64 1, .int .i64 2, .slice a4 1 c4, .slice (some ⟨b5, o5, none⟩) 1 c5] 55) := ⟨_, rfl⟩
  have bd : Below w3.heap.size w3 WD := by rw [hWD]; exact b4.alloc b4.size _
  have N4 := Lib.hid (show WC.heap.size ≤ w4.heap.size from Nat.le_trans D3.out.size b4.size)
  have D4 := Lib.hid (D3.out.trans (bd.mono D3.out.size))
  have r3 : Rds WD a3 bk.length bk := R3.out.below bd (fun h0 b o e => by subst e; exact R3.out.lt h0)
  have TD : Hid (WD.heap[w4.heap.size]? = some (.cells #[.int .i64 1, .int .i64 2, .slice a4 1 c4, .slice (some ⟨b5, o5, none⟩) 1 c5] 55 (0, 0))) := Lib.hid (by rw [hWD]; exact heap_alloc_new _ _)
  have ED : Hid (RdE WD (some ⟨b5, o5, none⟩) 1 [Wi.enK]) := Lib.hid (by rw [hWD]; exact e4.below ((Below.refl _ _).alloc (Nat.le_refl _) _))
  have h5 := readRequest_any WD a3 bk.length c3 bk r3 hnc hz (by omega)
  rw [Wi.readRq_reply Wi.rpK bk hbk] at h5
  have HWD := Lib.hid hWD
  clear bd b4 r4 e4 r3 R3 hWD D3
  go_wp2_with fail
  rw [← HWD.out]
  refine h5.mono ?_
  clear h5 HWD
  rintro e w5 ⟨b5', he⟩
  obtain rfl : e = _ := he
  obtain ⟨WE, hWE⟩ : ∃ WE, WE = w5.alloc (.cells #[.int .i64 0, .int .i64 0, .slice none 0 0] 50) := ⟨_, rfl⟩
  have be : Below WD.heap.size WD WE := by rw [hWE]; exact b5'.alloc b5'.size _
  have F5 := Lib.hid be
  have D5 := Lib.hid (D4.out.trans (be.mono D4.out.size))
  have h6 := layReply_any WE Wi.rpH rpH_ok (some ⟨B, 0, none⟩) 1 1 (RC.out.below D5.out) (by omega) none 0 0 ⟨rfl, fun h => absurd h (by omega)⟩ (by omega)
  rw [rpH_lay] at h6
  obtain ⟨_, _, g2⟩ := cells3 ((D5.out.block _ (blk_lt TA2.out)).trans TA2.out)
  have HWE := Lib.hid hWE
  clear be b5' hWE D4
  rw [HWE.out] at g2
  go_wp2_with fail
  rw [← HWE.out]
  refine h6.mono ?_
  clear h6 HWE g2
  rintro e w6 ⟨b6, he⟩
  obtain rfl : e = _ := he
  have F6 := Lib.hid (F5.out.trans (b6.mono F5.out.size))
  have D6 := Lib.hid (D5.out.trans (b6.mono D5.out.size))
  have T6 := Lib.hid ((D6.out.block _ (blk_lt TA2.out)).trans TA2.out)
  clear b6 D5 F5
  have ne5 : b5 ≠ w1.heap.size := by
    obtain ⟨b', o', e, _, hp⟩ := (ED.out.below F6.out).at (k := 0) (x := Wi.enK) rfl
    simp only [Option.some.injEq, Addr.mk.injEq] at e
    obtain ⟨rfl, rfl, _⟩ := e
    exact part_ne hp (by rw [enC_size _ enK_ok]; decide) T6.out
  have l1 : w1.heap.size < WC.heap.size := blk_lt TA2.out
  have TSR : Hid ((w6.setCell ⟨w1.heap.size, 2, none⟩ (.slice none 0 0)).heap[w1.heap.size]? = some (.cells #[.int .i64 1, .int .i64 2, .slice none 0 0] 50 (0, 0))) := Lib.hid (heap_setCell_same _ _ 2 _ _ _ T6.out)
  obtain ⟨WS, hWS⟩ : ∃ WS, WS = w6.setCell ⟨w1.heap.size, 2, none⟩ (.slice none 0 0) := ⟨_, rfl⟩
  have S7 : TStay (fun k => k = w1.heap.size) w6 WS := by rw [hWS]; exact TStay.setCell (p := ⟨w1.heap.size, 2, none⟩) (TStay.refl (fun k => k = w1.heap.size) w6) (.inl rfl) _
  have TS : Hid (WS.heap[w1.heap.size]? = some (.cells #[.int .i64 1, .int .i64 2, .slice none 0 0] 50 (0, 0))) := Lib.hid (by rw [hWS]; exact TSR.out)
  have TDS := Lib.hid ((S7.block w4.heap.size (blk_lt ((F6.out.block _ (blk_lt TD.out)).trans TD.out)) (by show ¬ _ = _; have := N4.out; omega)).trans ((F6.out.block _ (blk_lt TD.out)).trans TD.out))
  have TCS := Lib.hid ((S7.block (WA.heap.size + 1) (blk_lt ((D6.out.block _ (blk_lt TC.out)).trans TC.out)) (by show ¬ _ = _; have := NA.out; omega)).trans ((D6.out.block _ (blk_lt TC.out)).trans TC.out))
  have EDS := Lib.hid ((ED.out.below F6.out).stay S7 (fun _ b o e => by
    simp only [Option.some.injEq, Addr.mk.injEq] at e
    obtain ⟨rfl, _, _⟩ := e
    exact ne5))
  have ECS := Lib.hid ((EC.out.below D6.out).stay S7 (fun _ b o e => by
    simp only [Option.some.injEq, Addr.mk.injEq] at e
    obtain ⟨rfl, _, _⟩ := e
    show ¬ _ = _
    have := NA.out; omega))
  have OS : Hid (Below W.heap.size W WS) := Lib.hid (Below.trans_stay (O1.out.trans (D6.out.mono O1.out.size)) S7 (Nat.le_refl _) (fun k hk e => by subst e; have := OW.out; omega))
  have HWS := Lib.hid hWS
  have g2 := (cells3 T6.out).2.2
  have f2 := blk_free T6.out 2
  have h8 := layRequest_any WS Wi.rqI rqI_ok none 0 0 (RdA.nil _ _) (by omega)
  rw [rqI_lay] at h8
  clear hWS S7 T6 TD TC ED EC F6 D6 TA2 RC N4 l1 ne5
  go_wp2_with (refine wpL_load (by kernel_rfl) 50 (.tmp 1) rfl w1.heap.size 0 (by rfl) #[.int .i64 1, .int .i64 2, .slice none 0 0] _ (Part.of_blk TSR.out) Tryd.underlying50 rfl (sz_rq _ _ _) ?_)
  rw [← HWS.out]
  refine h8.mono ?_
  clear h8 g2 f2 HWS TSR
  rintro e w8 ⟨b8, he⟩
  obtain rfl : e = _ := he
  have h9 := layRequest_any (w8.alloc (.cells (itC Wi.itA) 71)) Wi.rqJ rqJ_ok (some ⟨w8.heap.size, 0, none⟩) 1 1 (rdI_new w8 Wi.itA) (by omega)
  rw [rqJ_lay] at h9
  have F8 := Lib.hid b8
  clear b8
  go_wp2_with (first | (refine wpL_mk (by kernel_rfl) 71 #[(1, .const (.string { data := #[97] }))] rfl [(1, .string (str [97]))] (by rfl) (itC Wi.itA) (bt_item_text [97]) ?_) | (refine wpL_rowOne rfl 48 71 (.tmp 57) rfl 58 rfl Tryd.underlying48 (itC Wi.itA) (by rfl) (.agg (itC ⟨Wi.z32, 0, []⟩)) 34 zi_item (by decide) (itC_size _ itA_ok) ?_))
  refine h9.mono ?_
  clear h9
  rintro e w9 ⟨b9, he⟩
  obtain rfl : e = _ := he
  have F9 := Lib.hid (F8.out.trans ((((Below.refl _ _).alloc (Nat.le_refl _) _).trans (b9.mono (by simp))).mono F8.out.size))
  have h10 := layRequest_any (w9.alloc (.cells (itC Wi.it0) 71)) Wi.rqL rqL_ok (some ⟨w9.heap.size, 0, none⟩) 1 1 (rdI_new w9 Wi.it0) (by omega)
  rw [rqL_lay] at h10
  clear b9 F8
  go_wp2_with (first | (refine wpL_mk (by kernel_rfl) 71 #[] rfl [] (by rfl) (itC Wi.it0) bu_it0 ?_) | (refine wpL_rowOne rfl 48 71 (.tmp 64) rfl 65 rfl Tryd.underlying48 (itC Wi.it0) (by rfl) (.agg (itC ⟨Wi.z32, 0, []⟩)) 34 zi_item (by decide) (itC_size _ it0_ok) ?_))
  refine h10.mono ?_
  clear h10
  rintro e w10 ⟨b10, he⟩
  obtain rfl : e = _ := he
  have F10 := Lib.hid (F9.out.trans ((((Below.refl _ _).alloc (Nat.le_refl _) _).trans (b10.mono (by simp))).mono F9.out.size))
  have re10 : RdE ((w10.alloc (.cells (itC Wi.it0) 71)).alloc (.cells (enC Wi.en3) 78)) (some ⟨w10.heap.size + 1, 0, none⟩) 1 [Wi.en3] := by
    have := rdE_new (w10.alloc (.cells (itC Wi.it0) 71)) Wi.en3
    simpa using this
  have h11 := layReply_any ((w10.alloc (.cells (itC Wi.it0) 71)).alloc (.cells (enC Wi.en3) 78)) Wi.rpL rpL_ok (some ⟨w10.heap.size, 0, none⟩) 1 1 ((rdI_new w10 Wi.it0).below ((Below.refl _ _).alloc (Nat.le_refl _) _)) (by omega) (some ⟨w10.heap.size + 1, 0, none⟩) 1 1 re10 (by omega)
  rw [rpL_lay] at h11
  clear b10 F9 re10
  go_wp2_with (first | (refine wpL_mk (by kernel_rfl) 71 #[] rfl [] (by rfl) (itC Wi.it0) bu_it0 ?_) | (refine wpL_mk (by kernel_rfl) 78 #[(0, .const (.int .i64 3))] rfl [(0, .int .i64 3)] (by rfl) (enC Wi.en3) (bt_entry 3) ?_) | (refine wpL_rowOne rfl 48 71 (.tmp 71) rfl 72 rfl Tryd.underlying48 (itC Wi.it0) (by rfl) (.agg (itC ⟨Wi.z32, 0, []⟩)) 34 zi_item (by decide) (itC_size _ it0_ok) ?_) | (refine wpL_rowOne rfl 53 78 (.tmp 73) rfl 74 rfl Tryd.underlying53 (enC Wi.en3) (by rfl) (.agg (enC ⟨0, Wi.z32, 0, Wi.z32⟩)) 66 zi_entry (by decide) (enC_size _ en3_ok) ?_))
  refine h11.mono ?_
  clear h11
  rintro e w11 ⟨b11, he⟩
  obtain rfl : e = _ := he
  have F11 := Lib.hid (F10.out.trans (((((Below.refl _ _).alloc (Nat.le_refl _) _).alloc (by simp) _).trans (b11.mono (by simp; omega))).mono F10.out.size))
  clear b11 F10
  go_wp2_with fail
  dsimp only [List.append]
  have OB : Hid (Below W.heap.size W w11) := Lib.hid (OS.out.trans (F11.out.mono OS.out.size))
  have G5 : Hid (∀ w', Below w11.heap.size w11 w' → w'.cell? ⟨w4.heap.size, 3, none⟩ = some (.slice (some ⟨b5, o5, none⟩) 1 c5)) := Lib.hid (fun w' h => (cells4 (((F11.out.trans (h.mono F11.out.size)).block _ (blk_lt TDS.out)).trans TDS.out)).2.2.2)
  have G6 : Hid (∀ w', Below w11.heap.size w11 w' → w'.cell? ⟨WA.heap.size + 1, 3, none⟩ = some (.slice (some ⟨WA.heap.size, 0, none⟩) 1 1)) := Lib.hid (fun w' h => (cells4 (((F11.out.trans (h.mono F11.out.size)).block _ (blk_lt TCS.out)).trans TCS.out)).2.2.2)
  have P5 : Hid (∀ w', Below w11.heap.size w11 w' → Part w' b5 o5 (enC Wi.enK)) := Lib.hid (fun w' h => by
    obtain ⟨b', o', e, _, hp⟩ := (EDS.out.below (F11.out.trans (h.mono F11.out.size))).at (k := 0) (x := Wi.enK) rfl
    simp only [Option.some.injEq, Addr.mk.injEq] at e
    obtain ⟨rfl, rfl, _⟩ := e
    simpa using hp)
  have P6 : Hid (∀ w', Below w11.heap.size w11 w' → Part w' WA.heap.size 0 (enC Wi.enK)) := Lib.hid (fun w' h => by
    obtain ⟨b', o', e, _, hp⟩ := (ECS.out.below (F11.out.trans (h.mono F11.out.size))).at (k := 0) (x := Wi.enK) rfl
    simp only [Option.some.injEq, Addr.mk.injEq] at e
    obtain ⟨rfl, rfl, _⟩ := e
    simpa using hp)
  have PT : Hid (∀ w', Below w11.heap.size w11 w' → Part w' w1.heap.size 0 #[.int .i64 1, .int .i64 2, .slice none 0 0]) := Lib.hid (fun w' h => Part.of_blk (((F11.out.trans (h.mono F11.out.size)).block _ (blk_lt TS.out)).trans TS.out))
  have HGK : Hid (∀ w', Below w11.heap.size w11 w' → EType w') := Lib.hid (fun w' h => HG.out.keep (OB.out.trans (h.mono OB.out.size)))
  clear TDS TCS EDS ECS TS F11 OS O1 NA NB OW OW0 HG
  have EE : ∀ w', (binOp .eql 78 (.agg (enC Wi.enK)) (.agg (enC Wi.enK))).run Tryd.prog w' = .ok (.bool true) w' := fun w' => by rw [cmp_entry Wi.enK Wi.enK enK_ok enK_ok, decide_eq_true rfl]
  have HEE := Lib.hid EE
  clear EE
  refine wp_region_held_drew (S := fun w' => Below w11.heap.size w11 w') (by kernel_rfl) ⟨rfl, rfl, rfl, Nat.le_refl _, fun _ _ => rfl⟩ (fun hS0 => ?_)
  refine callK (i := 0) 20 #[] (some 79) rfl (by kernel_rfl) (by kernel_rfl) (by kernel_rfl) (by kernel_rfl) (known23 _ (HGK.out _ hS0)) ?_
  rintro e v1 ⟨rfl, b1⟩
  have s1 := hS0.trans (b1.mono hS0.size)
  refine ⟨.bool true, rfl, s1, fun hS1 => ?_⟩
  simp only [Act.put, List.setIfInBounds_toArray, List.set_cons_zero, List.set_cons_succ]
  clear b1 s1 hS0
  refine takeK (i := 1) (.bool true) (some 80) rfl (by kernel_rfl) (by kernel_rfl) (by kernel_rfl) (by kernel_rfl) (fun _ _ _ h => h) (by kernel_rfl) (fun w' _ => by kernel_rfl) hS1 ?_
  simp only [Act.put, List.setIfInBounds_toArray, List.set_cons_zero, List.set_cons_succ]
  refine takeK (i := 2) (.nilIface) (some 81) rfl (by kernel_rfl) (by kernel_rfl) (by kernel_rfl) (by kernel_rfl) (fun _ _ _ h => h) (by kernel_rfl) (fun w' _ => by kernel_rfl) hS1 ?_
  simp only [Act.put, List.setIfInBounds_toArray, List.set_cons_zero, List.set_cons_succ]
  refine takeK (i := 3) (.bool true) (some 82) rfl (by kernel_rfl) (by kernel_rfl) (by kernel_rfl) (by kernel_rfl) (fun _ _ _ h => h) (by kernel_rfl) (fun w' _ => by kernel_rfl) hS1 ?_
  simp only [Act.put, List.setIfInBounds_toArray, List.set_cons_zero, List.set_cons_succ]
  refine takeK (i := 4) (.bool true) (some 83) rfl (by kernel_rfl) (by kernel_rfl) (by kernel_rfl) (by kernel_rfl) (fun _ _ _ h => h) (by kernel_rfl) (fun w' _ => by kernel_rfl) hS1 ?_
  simp only [Act.put, List.setIfInBounds_toArray, List.set_cons_zero, List.set_cons_succ]
  refine takeK (i := 5) (.bool true) (some 84) rfl (by kernel_rfl) (by kernel_rfl) (by kernel_rfl) (by kernel_rfl) (fun _ _ _ h => h) (by kernel_rfl) (fun w' _ => by kernel_rfl) hS1 ?_
  simp only [Act.put, List.setIfInBounds_toArray, List.set_cons_zero, List.set_cons_succ]
  refine takeK (i := 6) (.nilIface) (some 85) rfl (by kernel_rfl) (by kernel_rfl) (by kernel_rfl) (by kernel_rfl) (fun _ _ _ h => h) (by kernel_rfl) (fun w' _ => by kernel_rfl) hS1 ?_
  simp only [Act.put, List.setIfInBounds_toArray, List.set_cons_zero, List.set_cons_succ]
  refine takeK (i := 7) (.bool true) (some 86) rfl (by kernel_rfl) (by kernel_rfl) (by kernel_rfl) (by kernel_rfl) (fun _ _ _ h => h) (by kernel_rfl) (fun w' _ => by kernel_rfl) hS1 ?_
  simp only [Act.put, List.setIfInBounds_toArray, List.set_cons_zero, List.set_cons_succ]
  refine takeK (i := 8) (.bool true) (some 87) rfl (by kernel_rfl) (by kernel_rfl) (by kernel_rfl) (by kernel_rfl) (fun _ _ _ h => h) (by kernel_rfl) (fun w' _ => by kernel_rfl) hS1 ?_
  simp only [Act.put, List.setIfInBounds_toArray, List.set_cons_zero, List.set_cons_succ]
  refine takeK (i := 9) (.bool true) (some 88) rfl (by kernel_rfl) (by kernel_rfl) (by kernel_rfl) (by kernel_rfl) (fun _ _ _ h => h) (by kernel_rfl) (fun w' _ => by kernel_rfl) hS1 ?_
  simp only [Act.put, List.setIfInBounds_toArray, List.set_cons_zero, List.set_cons_succ]
  refine takeK (i := 10) (.pointer (some ⟨w4.heap.size, 3, none⟩)) (some 89) rfl (by kernel_rfl) (by kernel_rfl) (by kernel_rfl) (by kernel_rfl) (fun _ _ _ h => h) (by kernel_rfl) (fun w' _ => by kernel_rfl) hS1 ?_
  simp only [Act.put, List.setIfInBounds_toArray, List.set_cons_zero, List.set_cons_succ]
  refine takeK (i := 11) (.slice (some ⟨b5, o5, none⟩) 1 c5) (some 90) rfl (by kernel_rfl) (by kernel_rfl) (by kernel_rfl) (by kernel_rfl) (fun _ _ _ h => h) (by kernel_rfl) (fun w' h => ex_cell 53 (.tmp 89) rfl w4.heap.size 3 (by kernel_rfl) _ Tryd.underlying53 _ (G5.out w' h)) hS1 ?_
  simp only [Act.put, List.setIfInBounds_toArray, List.set_cons_zero, List.set_cons_succ]
  refine takeK (i := 12) (.int .i64 1) (some 91) rfl (by kernel_rfl) (by kernel_rfl) (by kernel_rfl) (by kernel_rfl) (fun _ _ _ h => h) (by kernel_rfl) (fun w' _ => by kernel_rfl) hS1 ?_
  simp only [Act.put, List.setIfInBounds_toArray, List.set_cons_zero, List.set_cons_succ]
  refine takeK (i := 13) (.bool true) (some 92) rfl (by kernel_rfl) (by kernel_rfl) (by kernel_rfl) (by kernel_rfl) (fun _ _ _ h => h) (by kernel_rfl) (fun w' _ => by kernel_rfl) hS1 ?_
  simp only [Act.put, List.setIfInBounds_toArray, List.set_cons_zero, List.set_cons_succ]
  refine takeK (i := 14) (.bool true) (some 93) rfl (by kernel_rfl) (by kernel_rfl) (by kernel_rfl) (by kernel_rfl) (fun _ _ _ h => h) (by kernel_rfl) (fun w' _ => by kernel_rfl) hS1 ?_
  simp only [Act.put, List.setIfInBounds_toArray, List.set_cons_zero, List.set_cons_succ]
  refine takeK (i := 15) (.bool true) (some 94) rfl (by kernel_rfl) (by kernel_rfl) (by kernel_rfl) (by kernel_rfl) (fun _ _ _ h => h) (by kernel_rfl) (fun w' _ => by kernel_rfl) hS1 ?_
  simp only [Act.put, List.setIfInBounds_toArray, List.set_cons_zero, List.set_cons_succ]
  refine takeK (i := 16) (.pointer (some ⟨w4.heap.size, 3, none⟩)) (some 95) rfl (by kernel_rfl) (by kernel_rfl) (by kernel_rfl) (by kernel_rfl) (fun _ _ _ h => h) (by kernel_rfl) (fun w' _ => by kernel_rfl) hS1 ?_
  simp only [Act.put, List.setIfInBounds_toArray, List.set_cons_zero, List.set_cons_succ]
  refine takeK (i := 17) (.slice (some ⟨b5, o5, none⟩) 1 c5) (some 96) rfl (by kernel_rfl) (by kernel_rfl) (by kernel_rfl) (by kernel_rfl) (fun _ _ _ h => h) (by kernel_rfl) (fun w' h => ex_cell 53 (.tmp 95) rfl w4.heap.size 3 (by kernel_rfl) _ Tryd.underlying53 _ (G5.out w' h)) hS1 ?_
  simp only [Act.put, List.setIfInBounds_toArray, List.set_cons_zero, List.set_cons_succ]
  refine takeK (i := 18) (.pointer (some ⟨b5, o5, none⟩)) (some 97) rfl (by kernel_rfl) (by kernel_rfl) (by kernel_rfl) (by kernel_rfl) (fun _ _ _ h => h) (by kernel_rfl) (fun w' _ => by kernel_rfl) hS1 ?_
  simp only [Act.put, List.setIfInBounds_toArray, List.set_cons_zero, List.set_cons_succ]
  refine takeK (i := 19) (.agg (enC Wi.enK)) (some 98) rfl (by kernel_rfl) (by kernel_rfl) (by kernel_rfl) (by kernel_rfl) (fun _ _ _ h => h) (by kernel_rfl) (fun w' h => ex_load 78 (.tmp 97) rfl b5 o5 (by kernel_rfl) (enC Wi.enK) _ (P5.out w' h) Tryd.underlying78 rfl (by rw [enC_size _ enK_ok]; exact sz_entry)) hS1 ?_
  simp only [Act.put, List.setIfInBounds_toArray, List.set_cons_zero, List.set_cons_succ]
  refine takeK (i := 20) (.pointer (some ⟨WA.heap.size + 1, 3, none⟩)) (some 99) rfl (by kernel_rfl) (by kernel_rfl) (by kernel_rfl) (by kernel_rfl) (fun _ _ _ h => h) (by kernel_rfl) (fun w' _ => by kernel_rfl) hS1 ?_
  simp only [Act.put, List.setIfInBounds_toArray, List.set_cons_zero, List.set_cons_succ]
  refine takeK (i := 21) (.slice (some ⟨WA.heap.size, 0, none⟩) 1 1) (some 100) rfl (by kernel_rfl) (by kernel_rfl) (by kernel_rfl) (by kernel_rfl) (fun _ _ _ h => h) (by kernel_rfl) (fun w' h => ex_cell 53 (.tmp 99) rfl (WA.heap.size + 1) 3 (by kernel_rfl) _ Tryd.underlying53 _ (G6.out w' h)) hS1 ?_
  simp only [Act.put, List.setIfInBounds_toArray, List.set_cons_zero, List.set_cons_succ]
  refine takeK (i := 22) (.pointer (some ⟨WA.heap.size, 0, none⟩)) (some 101) rfl (by kernel_rfl) (by kernel_rfl) (by kernel_rfl) (by kernel_rfl) (fun _ _ _ h => h) (by kernel_rfl) (fun w' _ => by kernel_rfl) hS1 ?_
  simp only [Act.put, List.setIfInBounds_toArray, List.set_cons_zero, List.set_cons_succ]
  refine takeK (i := 23) (.agg (enC Wi.enK)) (some 102) rfl (by kernel_rfl) (by kernel_rfl) (by kernel_rfl) (by kernel_rfl) (fun _ _ _ h => h) (by kernel_rfl) (fun w' h => ex_load 78 (.tmp 101) rfl WA.heap.size 0 (by kernel_rfl) (enC Wi.enK) _ (P6.out w' h) Tryd.underlying78 rfl (by rw [enC_size _ enK_ok]; exact sz_entry)) hS1 ?_
  simp only [Act.put, List.setIfInBounds_toArray, List.set_cons_zero, List.set_cons_succ]
  refine takeK (i := 24) (.bool true) (some 103) rfl (by kernel_rfl) (by kernel_rfl) (by kernel_rfl) (by kernel_rfl) (fun _ _ _ h => h) (by kernel_rfl) (fun w' _ => ex_cmp .eql 78 78 (.tmp 98) (.tmp 102) rfl (enC Wi.enK) (enC Wi.enK) (by kernel_rfl) (by kernel_rfl) gd_entry true (HEE.out w')) hS1 ?_
  simp only [Act.put, List.setIfInBounds_toArray, List.set_cons_zero, List.set_cons_succ]
  refine takeK (i := 25) (.bool true) (some 104) rfl (by kernel_rfl) (by kernel_rfl) (by kernel_rfl) (by kernel_rfl) (fun _ _ _ h => h) (by kernel_rfl) (fun w' _ => by kernel_rfl) hS1 ?_
  simp only [Act.put, List.setIfInBounds_toArray, List.set_cons_zero, List.set_cons_succ]
  refine takeK (i := 26) (.bool true) (some 105) rfl (by kernel_rfl) (by kernel_rfl) (by kernel_rfl) (by kernel_rfl) (fun _ _ _ h => h) (by kernel_rfl) (fun w' _ => by kernel_rfl) hS1 ?_
  simp only [Act.put, List.setIfInBounds_toArray, List.set_cons_zero, List.set_cons_succ]
  refine takeK (i := 27) (.iface 61 (.int .i64 2)) (some 106) rfl (by kernel_rfl) (by kernel_rfl) (by kernel_rfl) (by kernel_rfl) (fun _ _ _ h => h) (by kernel_rfl) (fun w' _ => by kernel_rfl) hS1 ?_
  simp only [Act.put, List.setIfInBounds_toArray, List.set_cons_zero, List.set_cons_succ]
  refine callK (i := 28) 23 #[.iface 61 (.int .i64 2)] (some 107) rfl (by kernel_rfl) (by kernel_rfl) (by kernel_rfl) (by kernel_rfl) (kind_errno _ 2 (HGK.out _ hS1)) ?_
  rintro e v2 ⟨rfl, b2⟩
  have s2 := hS1.trans (b2.mono hS1.size)
  refine ⟨.int .i64 2, rfl, s2, fun hS2 => ?_⟩
  simp only [Act.put, List.setIfInBounds_toArray, List.set_cons_zero, List.set_cons_succ]
  clear b2 s2 hS1
  refine takeK (i := 29) (.bool true) (some 108) rfl (by kernel_rfl) (by kernel_rfl) (by kernel_rfl) (by kernel_rfl) (fun _ _ _ h => h) (by kernel_rfl) (fun w' _ => by kernel_rfl) hS2 ?_
  simp only [Act.put, List.setIfInBounds_toArray, List.set_cons_zero, List.set_cons_succ]
  refine takeK (i := 30) (.bool true) (some 109) rfl (by kernel_rfl) (by kernel_rfl) (by kernel_rfl) (by kernel_rfl) (fun _ _ _ h => h) (by kernel_rfl) (fun w' _ => by kernel_rfl) hS2 ?_
  simp only [Act.put, List.setIfInBounds_toArray, List.set_cons_zero, List.set_cons_succ]
  refine takeK (i := 31) (.bool true) (some 110) rfl (by kernel_rfl) (by kernel_rfl) (by kernel_rfl) (by kernel_rfl) (fun _ _ _ h => h) (by kernel_rfl) (fun w' _ => by kernel_rfl) hS2 ?_
  simp only [Act.put, List.setIfInBounds_toArray, List.set_cons_zero, List.set_cons_succ]
  refine takeK (i := 32) (.iface 61 (.int .i64 1)) (some 111) rfl (by kernel_rfl) (by kernel_rfl) (by kernel_rfl) (by kernel_rfl) (fun _ _ _ h => h) (by kernel_rfl) (fun w' _ => by kernel_rfl) hS2 ?_
  simp only [Act.put, List.setIfInBounds_toArray, List.set_cons_zero, List.set_cons_succ]
  refine callK (i := 33) 23 #[.iface 61 (.int .i64 1)] (some 112) rfl (by kernel_rfl) (by kernel_rfl) (by kernel_rfl) (by kernel_rfl) (kind_errno _ 1 (HGK.out _ hS2)) ?_
  rintro e v3 ⟨rfl, b3⟩
  have s3 := hS2.trans (b3.mono hS2.size)
  refine ⟨.int .i64 1, rfl, s3, fun hS3 => ?_⟩
  simp only [Act.put, List.setIfInBounds_toArray, List.set_cons_zero, List.set_cons_succ]
  clear b3 s3 hS2
  refine takeK (i := 34) (.bool true) (some 113) rfl (by kernel_rfl) (by kernel_rfl) (by kernel_rfl) (by kernel_rfl) (fun _ _ _ h => h) (by kernel_rfl) (fun w' _ => by kernel_rfl) hS3 ?_
  simp only [Act.put, List.setIfInBounds_toArray, List.set_cons_zero, List.set_cons_succ]
  refine takeK (i := 35) (.bool true) (some 114) rfl (by kernel_rfl) (by kernel_rfl) (by kernel_rfl) (by kernel_rfl) (fun _ _ _ h => h) (by kernel_rfl) (fun w' _ => by kernel_rfl) hS3 ?_
  simp only [Act.put, List.setIfInBounds_toArray, List.set_cons_zero, List.set_cons_succ]
  refine takeK (i := 36) (.bool true) (some 115) rfl (by kernel_rfl) (by kernel_rfl) (by kernel_rfl) (by kernel_rfl) (fun _ _ _ h => h) (by kernel_rfl) (fun w' _ => by kernel_rfl) hS3 ?_
  simp only [Act.put, List.setIfInBounds_toArray, List.set_cons_zero, List.set_cons_succ]
  refine takeK (i := 37) (.iface 61 (.int .i64 1)) (some 116) rfl (by kernel_rfl) (by kernel_rfl) (by kernel_rfl) (by kernel_rfl) (fun _ _ _ h => h) (by kernel_rfl) (fun w' _ => by kernel_rfl) hS3 ?_
  simp only [Act.put, List.setIfInBounds_toArray, List.set_cons_zero, List.set_cons_succ]
  refine callK (i := 38) 23 #[.iface 61 (.int .i64 1)] (some 117) rfl (by kernel_rfl) (by kernel_rfl) (by kernel_rfl) (by kernel_rfl) (kind_errno _ 1 (HGK.out _ hS3)) ?_
  rintro e v4 ⟨rfl, b4⟩
  have s4 := hS3.trans (b4.mono hS3.size)
  refine ⟨.int .i64 1, rfl, s4, fun hS4 => ?_⟩
  simp only [Act.put, List.setIfInBounds_toArray, List.set_cons_zero, List.set_cons_succ]
  clear b4 s4 hS3
  refine takeK (i := 39) (.bool true) (some 118) rfl (by kernel_rfl) (by kernel_rfl) (by kernel_rfl) (by kernel_rfl) (fun _ _ _ h => h) (by kernel_rfl) (fun w' _ => by kernel_rfl) hS4 ?_
  simp only [Act.put, List.setIfInBounds_toArray, List.set_cons_zero, List.set_cons_succ]
  refine takeK (i := 40) (.bool true) (some 119) rfl (by kernel_rfl) (by kernel_rfl) (by kernel_rfl) (by kernel_rfl) (fun _ _ _ h => h) (by kernel_rfl) (fun w' _ => by kernel_rfl) hS4 ?_
  simp only [Act.put, List.setIfInBounds_toArray, List.set_cons_zero, List.set_cons_succ]
  refine takeK (i := 41) (.bool true) (some 120) rfl (by kernel_rfl) (by kernel_rfl) (by kernel_rfl) (by kernel_rfl) (fun _ _ _ h => h) (by kernel_rfl) (fun w' _ => by kernel_rfl) hS4 ?_
  simp only [Act.put, List.setIfInBounds_toArray, List.set_cons_zero, List.set_cons_succ]
  refine takeK (i := 42) (.iface 61 (.int .i64 1)) (some 121) rfl (by kernel_rfl) (by kernel_rfl) (by kernel_rfl) (by kernel_rfl) (fun _ _ _ h => h) (by kernel_rfl) (fun w' _ => by kernel_rfl) hS4 ?_
  simp only [Act.put, List.setIfInBounds_toArray, List.set_cons_zero, List.set_cons_succ]
  refine callK (i := 43) 23 #[.iface 61 (.int .i64 1)] (some 122) rfl (by kernel_rfl) (by kernel_rfl) (by kernel_rfl) (by kernel_rfl) (kind_errno _ 1 (HGK.out _ hS4)) ?_
  rintro e v5 ⟨rfl, b5⟩
  have s5 := hS4.trans (b5.mono hS4.size)
  refine ⟨.int .i64 1, rfl, s5, fun hS5 => ?_⟩
  simp only [Act.put, List.setIfInBounds_toArray, List.set_cons_zero, List.set_cons_succ]
  clear b5 s5 hS4
  refine takeK (i := 44) (.bool true) (some 123) rfl (by kernel_rfl) (by kernel_rfl) (by kernel_rfl) (by kernel_rfl) (fun _ _ _ h => h) (by kernel_rfl) (fun w' _ => by kernel_rfl) hS5 ?_
  simp only [Act.put, List.setIfInBounds_toArray, List.set_cons_zero, List.set_cons_succ]
  refine takeK (i := 45) (.bool true) (some 124) rfl (by kernel_rfl) (by kernel_rfl) (by kernel_rfl) (by kernel_rfl) (fun _ _ _ h => h) (by kernel_rfl) (fun w' _ => by kernel_rfl) hS5 ?_
  simp only [Act.put, List.setIfInBounds_toArray, List.set_cons_zero, List.set_cons_succ]
  refine takeK (i := 46) (.bool true) (some 125) rfl (by kernel_rfl) (by kernel_rfl) (by kernel_rfl) (by kernel_rfl) (fun _ _ _ h => h) (by kernel_rfl) (fun w' _ => by kernel_rfl) hS5 ?_
  simp only [Act.put, List.setIfInBounds_toArray, List.set_cons_zero, List.set_cons_succ]
  refine takeK (i := 47) (.iface 61 (.int .i64 1)) (some 126) rfl (by kernel_rfl) (by kernel_rfl) (by kernel_rfl) (by kernel_rfl) (fun _ _ _ h => h) (by kernel_rfl) (fun w' _ => by kernel_rfl) hS5 ?_
  simp only [Act.put, List.setIfInBounds_toArray, List.set_cons_zero, List.set_cons_succ]
  refine callK (i := 48) 23 #[.iface 61 (.int .i64 1)] (some 127) rfl (by kernel_rfl) (by kernel_rfl) (by kernel_rfl) (by kernel_rfl) (kind_errno _ 1 (HGK.out _ hS5)) ?_
  rintro e v6 ⟨rfl, b6⟩
  have s6 := hS5.trans (b6.mono hS5.size)
  refine ⟨.int .i64 1, rfl, s6, fun hS6 => ?_⟩
  simp only [Act.put, List.setIfInBounds_toArray, List.set_cons_zero, List.set_cons_succ]
  clear b6 s6 hS5
  refine takeK (i := 49) (.bool true) (some 128) rfl (by kernel_rfl) (by kernel_rfl) (by kernel_rfl) (by kernel_rfl) (fun _ _ _ h => h) (by kernel_rfl) (fun w' _ => by kernel_rfl) hS6 ?_
  simp only [Act.put, List.setIfInBounds_toArray, List.set_cons_zero, List.set_cons_succ]
  refine takeK (i := 50) (.bool true) (some 129) rfl (by kernel_rfl) (by kernel_rfl) (by kernel_rfl) (by kernel_rfl) (fun _ _ _ h => h) (by kernel_rfl) (fun w' _ => by kernel_rfl) hS6 ?_
  simp only [Act.put, List.setIfInBounds_toArray, List.set_cons_zero, List.set_cons_succ]
  refine takeK (i := 51) (.bool true) (some 130) rfl (by kernel_rfl) (by kernel_rfl) (by kernel_rfl) (by kernel_rfl) (fun _ _ _ h => h) (by kernel_rfl) (fun w' _ => by kernel_rfl) hS6 ?_
  simp only [Act.put, List.setIfInBounds_toArray, List.set_cons_zero, List.set_cons_succ]
  refine takeK (i := 52) (.iface 61 (.int .i64 1)) (some 131) rfl (by kernel_rfl) (by kernel_rfl) (by kernel_rfl) (by kernel_rfl) (fun _ _ _ h => h) (by kernel_rfl) (fun w' _ => by kernel_rfl) hS6 ?_
  simp only [Act.put, List.setIfInBounds_toArray, List.set_cons_zero, List.set_cons_succ]
  refine callK (i := 53) 23 #[.iface 61 (.int .i64 1)] (some 132) rfl (by kernel_rfl) (by kernel_rfl) (by kernel_rfl) (by kernel_rfl) (kind_errno _ 1 (HGK.out _ hS6)) ?_
  rintro e v7 ⟨rfl, b7⟩
  have s7 := hS6.trans (b7.mono hS6.size)
  refine ⟨.int .i64 1, rfl, s7, fun hS7 => ?_⟩
  simp only [Act.put, List.setIfInBounds_toArray, List.set_cons_zero, List.set_cons_succ]
  clear b7 s7 hS6
  refine takeK (i := 54) (.bool true) (some 133) rfl (by kernel_rfl) (by kernel_rfl) (by kernel_rfl) (by kernel_rfl) (fun _ _ _ h => h) (by kernel_rfl) (fun w' _ => by kernel_rfl) hS7 ?_
  simp only [Act.put, List.setIfInBounds_toArray, List.set_cons_zero, List.set_cons_succ]
  refine takeK (i := 55) (.bool true) (some 134) rfl (by kernel_rfl) (by kernel_rfl) (by kernel_rfl) (by kernel_rfl) (fun _ _ _ h => h) (by kernel_rfl) (fun w' _ => by kernel_rfl) hS7 ?_
  simp only [Act.put, List.setIfInBounds_toArray, List.set_cons_zero, List.set_cons_succ]
  refine takeK (i := 56) (.bool true) (some 135) rfl (by kernel_rfl) (by kernel_rfl) (by kernel_rfl) (by kernel_rfl) (fun _ _ _ h => h) (by kernel_rfl) (fun w' _ => by kernel_rfl) hS7 ?_
  simp only [Act.put, List.setIfInBounds_toArray, List.set_cons_zero, List.set_cons_succ]
  refine callK (i := 57) 27 #[] (some 136) rfl (by kernel_rfl) (by kernel_rfl) (by kernel_rfl) (by kernel_rfl) ((fun (_ : Below _ _ _) => req_any _) hS7) ?_
  rintro e v8 ⟨B1, rfl, _, r1, b8⟩
  have s8 := hS7.trans (b8.mono hS7.size)
  refine ⟨(.agg #[.int .i64 1, .int .i64 2, .slice (some ⟨B1, 0, none⟩) 1 1]), rfl, s8, fun hS8 => ?_⟩
  simp only [Act.put, List.setIfInBounds_toArray, List.set_cons_zero, List.set_cons_succ]
  clear b8 s8 hS7
  refine callK (i := 58) 27 #[] (some 137) rfl (by kernel_rfl) (by kernel_rfl) (by kernel_rfl) (by kernel_rfl) ((fun (_ : Below _ _ _) => req_any _) hS8) ?_
  rintro e v9 ⟨B2, rfl, _, r2, b9⟩
  have s9 := hS8.trans (b9.mono hS8.size)
  have r1 := r1.below b9
  refine ⟨(.agg #[.int .i64 1, .int .i64 2, .slice (some ⟨B2, 0, none⟩) 1 1]), rfl, s9, fun hS9 => ?_⟩
  simp only [Act.put, List.setIfInBounds_toArray, List.set_cons_zero, List.set_cons_succ]
  clear b9 s9 hS8
  refine callK (i := 59) 28 #[(.agg #[.int .i64 1, .int .i64 2, .slice (some ⟨B1, 0, none⟩) 1 1]), (.agg #[.int .i64 1, .int .i64 2, .slice (some ⟨B2, 0, none⟩) 1 1])] (some 138) rfl (by kernel_rfl) (by kernel_rfl) (by kernel_rfl) (by kernel_rfl) ((fun (_ : Below _ _ _) => sameRequest_any _ Wi.rqK Wi.rqK rqK_ok rqK_ok (some ⟨B1, 0, none⟩) 1 1 r1 (some ⟨B2, 0, none⟩) 1 1 r2 (by omega) (by omega)) hS9) ?_
  rintro e v10 ⟨he, b10⟩
  rw [decide_eq_true (rfl : Wi.rqK = Wi.rqK)] at he
  subst he
  have s10 := hS9.trans (b10.mono hS9.size)
  refine ⟨.bool true, rfl, s10, fun hS10 => ?_⟩
  simp only [Act.put, List.setIfInBounds_toArray, List.set_cons_zero, List.set_cons_succ]
  clear b10 s10 hS9
  refine takeK (i := 60) (.bool true) (some 139) rfl (by kernel_rfl) (by kernel_rfl) (by kernel_rfl) (by kernel_rfl) (fun _ _ _ h => h) (by kernel_rfl) (fun w' _ => by kernel_rfl) hS10 ?_
  simp only [Act.put, List.setIfInBounds_toArray, List.set_cons_zero, List.set_cons_succ]
  refine takeK (i := 61) (.bool true) (some 140) rfl (by kernel_rfl) (by kernel_rfl) (by kernel_rfl) (by kernel_rfl) (fun _ _ _ h => h) (by kernel_rfl) (fun w' _ => by kernel_rfl) hS10 ?_
  simp only [Act.put, List.setIfInBounds_toArray, List.set_cons_zero, List.set_cons_succ]
  refine takeK (i := 63) (.agg #[.int .i64 1, .int .i64 2, .slice none 0 0]) (some 142) rfl (by kernel_rfl) (by kernel_rfl) (by kernel_rfl) (by kernel_rfl) (fun _ _ _ h => h) (by kernel_rfl) (fun w' h => ex_load 50 (.tmp 1) rfl w1.heap.size 0 (by kernel_rfl) #[.int .i64 1, .int .i64 2, .slice none 0 0] _ (PT.out w' h) Tryd.underlying50 rfl (sz_rq _ _ _)) hS10 ?_
  simp only [Act.put, List.setIfInBounds_toArray, List.set_cons_zero, List.set_cons_succ]
  refine callK (i := 62) 27 #[] (some 141) rfl (by kernel_rfl) (by kernel_rfl) (by kernel_rfl) (by kernel_rfl) ((fun (_ : Below _ _ _) => req_any _) hS10) ?_
  rintro e v11 ⟨B3, rfl, _, r3, b11⟩
  have s11 := hS10.trans (b11.mono hS10.size)
  refine ⟨(.agg #[.int .i64 1, .int .i64 2, .slice (some ⟨B3, 0, none⟩) 1 1]), rfl, s11, fun hS11 => ?_⟩
  simp only [Act.put, List.setIfInBounds_toArray, List.set_cons_zero, List.set_cons_succ]
  clear b11 s11 hS10
  refine callK (i := 64) 28 #[(.agg #[.int .i64 1, .int .i64 2, .slice (some ⟨B3, 0, none⟩) 1 1]), (.agg #[.int .i64 1, .int .i64 2, .slice none 0 0])] (some 143) rfl (by kernel_rfl) (by kernel_rfl) (by kernel_rfl) (by kernel_rfl) ((fun (_ : Below _ _ _) => sameRequest_any _ Wi.rqK Wi.rqI rqK_ok rqI_ok (some ⟨B3, 0, none⟩) 1 1 r3 none 0 0 (RdA.nil _ _) (by omega) (by omega)) hS11) ?_
  rintro e v12 ⟨he, b12⟩
  rw [decide_eq_false ne_KI] at he
  subst he
  have s12 := hS11.trans (b12.mono hS11.size)
  refine ⟨.bool false, rfl, s12, fun hS12 => ?_⟩
  simp only [Act.put, List.setIfInBounds_toArray, List.set_cons_zero, List.set_cons_succ]
  clear b12 s12 hS11
  refine takeK (i := 65) (.bool true) (some 144) rfl (by kernel_rfl) (by kernel_rfl) (by kernel_rfl) (by kernel_rfl) (fun _ _ _ h => h) (by kernel_rfl) (fun w' _ => by kernel_rfl) hS12 ?_
  simp only [Act.put, List.setIfInBounds_toArray, List.set_cons_zero, List.set_cons_succ]
  refine takeK (i := 66) (.bool true) (some 145) rfl (by kernel_rfl) (by kernel_rfl) (by kernel_rfl) (by kernel_rfl) (fun _ _ _ h => h) (by kernel_rfl) (fun w' _ => by kernel_rfl) hS12 ?_
  simp only [Act.put, List.setIfInBounds_toArray, List.set_cons_zero, List.set_cons_succ]
  refine takeK (i := 67) (.bool true) (some 0) rfl (by kernel_rfl) (by kernel_rfl) (by kernel_rfl) (by kernel_rfl) (fun _ _ _ h => h) (by kernel_rfl) (fun w' _ => by kernel_rfl) hS12 ?_
  simp only [Act.put, List.setIfInBounds_toArray, List.set_cons_zero, List.set_cons_succ]
  have HOUT := Lib.hid (OB.out.trans (hS12.mono OB.out.size))
  refine wpAnyH_done (by kernel_rfl) ?_ _
  clear hS12
  go_wp2
  all_goals go_ret
  refine ⟨?_, HOUT.out⟩
  show _ = _
  kernel_rfl
end Go.Proofs.YtkalpkmnelgieaaDoor
