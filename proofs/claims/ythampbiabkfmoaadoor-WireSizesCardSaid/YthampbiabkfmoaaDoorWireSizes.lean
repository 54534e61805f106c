/- The statement WireSizes, walked. -/
import Derived.Test.YthampbiabkfmoaaDoorRwLay
import Derived.Test.YthampbiabkfmoaaDoorWiAsk
import Derived.Test.YthampbiabkfmoaaDoorHand2
namespace Go.Proofs.YthampbiabkfmoaaDoor
open Go.RowKit Go.Tap
set_option linter.unusedVariables false
set_option linter.unusedSimpArgs false
theorem rdz_of23 {N : Nat} {W : World} {a : Option Addr} {n c : Nat} {l : List Int} (g : ArgI N W a n c l) : RdZ W a n l := by
  refine ⟨g.len, fun z hz => ?_, fun h0 => ?_⟩
  · have h0 : 0 < n := by have := List.length_pos_of_mem hz; have := g.len; omega
    obtain ⟨b, o, _, hx⟩ := g.at_ h0
    obtain ⟨i, hi, rfl⟩ := List.getElem_of_mem hz
    exact (hx i _ (List.getElem?_eq_getElem hi)).2
  · obtain ⟨b, o, e, hx⟩ := g.at_ h0
    have hi : 0 < l.length := by have := g.len; omega
    have hc := (hx 0 _ (List.getElem?_eq_getElem hi)).1
    refine ⟨b, o, e, block_lt_of_cell hc, fun i z hz => ?_⟩
    have := (hx i z hz).1
    rwa [Nat.mul_one] at this
theorem argX_of23 {W : World} {r : RawW} (g : ArgRW 140737488351232 W r) : ArgX W r :=
  ⟨g.1, rdz_of23 g.2.1, rdz_of23 g.2.2, by have h1 := g.2.1.le; have h2 := g.2.1.cap; omega, by have h1 := g.2.2.le; have h2 := g.2.2.cap; omega⟩
/-- Kind of what ReadRequest answers. -/
theorem rqAft_kind {w w' : World} {r : Except Nat Wi.Rq} {e : Ending} (h : RqAft w r e w') : Below w.heap.size w w' ∧ ∃ sq kd a n c ve, e = .returned (.tuple #[.agg #[.int .i64 sq, .int .i64 kd, .slice a n c], ve]) ∧ ∀ X, EType X → Calls Tryd.prog 13 #[ve] X (fun e w' => e = .returned (.int .i64 (rqN r : Int)) ∧ Below X.heap.size X w') := by
  refine ⟨h.1, ?_⟩
  cases r with
  | error k => exact ⟨0, 0, none, 0, 0, _, h.2, fun X hX => kind_errno X (k : Int) hX⟩
  | ok q =>
    obtain ⟨a, c, h1, _⟩ := h.2
    exact ⟨q.seq, q.kind, a, q.items.length, c, _, h1, fun X hX => (kind_nil X).mono (fun e w' h => ⟨h.1, by rw [h.2]; exact Below.refl _ _⟩)⟩
theorem its_step {q : Wi.Rq} {kd : Int} {k : Nat} {x : Wi.It} (hx : q.items[k]? = some x) : (Wi.itsB kd (q.items.take (k + 1))).length = (Wi.itsB kd (q.items.take k)).length + (Wi.itB kd x).length := by
  rw [List.take_add_one, hx, Option.toList_some, Wi.itsB_snoc, List.length_append]
set_option maxHeartbeats 8000000 in
set_option maxRecDepth 100000 in
theorem wireSizes_walk (W : World) (hg : EType W) (r : RawW) (g : ArgRW 140737488351232 W r) (cut : Int) (bc0 : -9223372036854775808 ≤ cut ∧ cut ≤ 9223372036854775807) (s2 : Option Addr) (n2 c2 : Nat) (l2 : List UInt8) (g2 : ArgB 140737488351232 W s2 n2 c2 l2) :
    Calls Tryd.prog 3 #[.agg r.cells.toArray, .int .i64 cut, .slice s2 n2 c2] W fun e w' => e = .returned (.bool true) ∧ Below W.heap.size W w' := by
  have HA := Lib.hid (argX_of23 g)
  have HG := Lib.hid hg
  have G2 := Lib.hid g2
  have BC0 := Lib.hid bc0
  obtain ⟨x, hx⟩ : ∃ x, x = rawOf r := ⟨_, rfl⟩
  obtain ⟨q, hq⟩ : ∃ q, q = Wi.askQ x := ⟨_, rfl⟩
  have OX : x.ok := by rw [hx]; exact HA.out.raw
  have OQ : Hid q.ok := Lib.hid (by rw [hq]; exact askQ_ok x OX)
  have LQ : Hid (q.items.length ≤ 18) := Lib.hid (by rw [hq]; exact askQ_len x)
  have HASK : Hid (∀ X, Below W.heap.size W X → Calls Tryd.prog 5 #[.agg r.cells.toArray] X fun e w' => ∃ a c, e = .returned (.agg #[.int .i64 q.seq, .int .i64 q.kind, .slice a q.items.length c]) ∧ RdI w' a q.items.length q.items ∧ Below X.heap.size X w') := Lib.hid (fun X hb => by
    have := ask_any X r (HA.out.below hb)
    rw [← hx, ← hq] at this
    exact this.mono (fun e w' ⟨a, c, h1, h2, _, h3⟩ => ⟨a, c, h1, h2, h3⟩))
  obtain ⟨rc, hrc⟩ : ∃ rc, rc = r.cells.toArray := ⟨_, rfl⟩
  have SZ5 : Hid ((Tryd.prog.info? 24).map (·.size) = some rc.size) := Lib.hid (by rw [hrc]; kernel_rfl)
  rw [← hrc] at HASK ⊢
  obtain ⟨sq, hsq⟩ : ∃ sq, sq = q.seq := ⟨_, rfl⟩
  obtain ⟨kd, hkd⟩ : ∃ kd, kd = q.kind := ⟨_, rfl⟩
  obtain ⟨N, hN⟩ : ∃ N, N = q.items.length := ⟨_, rfl⟩
  rw [← hsq, ← hkd, ← hN] at HASK
  rw [← hN] at LQ
  have HSQ := Lib.hid hsq
  have HKD := Lib.hid hkd
  have HN := Lib.hid hN
  obtain ⟨W1, hW1⟩ : ∃ W1, W1 = W.alloc (.cells rc 24) := ⟨_, rfl⟩
  have B1 : Hid (Below W.heap.size W W1) := Lib.hid (by rw [hW1]; exact (Below.refl _ _).alloc (Nat.le_refl _) _)
  have T0 : Hid (W1.heap[W.heap.size]? = some (.cells rc 24 (0, 0))) := Lib.hid (by rw [hW1]; exact heap_alloc_new _ _)
  have PT : Hid (Part W1 W.heap.size 0 rc) := Lib.hid (Part.of_blk T0.out)
  have hak := HASK.out W1 B1.out
  clear g hg g2 bc0 hx hq OX hrc hsq hkd hN HASK HA
  go_enter Tryd.func3, Tryd.ntmps3
  go_upto_region 1 with (fail)
  rw [← hW1]
  clear hW1
  go_wp2_with (refine wpL_load ?hw 24 (.tmp 3) rfl W.heap.size 0 rfl rc _ PT.out Tryd.underlying24 rfl SZ5.out ?_; case hw => kernel_rfl)
  refine hak.mono ?_
  clear hak PT
  rintro e w2 ⟨a, c, rfl, i2, b2⟩
  obtain ⟨W3, hW3⟩ : ∃ W3, W3 = w2.alloc (.cells #[.int .i64 sq, .int .i64 kd, .slice a N c] 28) := ⟨_, rfl⟩
  have b3 : Below w2.heap.size w2 W3 := by rw [hW3]; exact (Below.refl _ _).alloc (Nat.le_refl _) _
  obtain ⟨b3r, hb3r⟩ : ∃ b3r, b3r = w2.heap.size := ⟨_, rfl⟩
  have T3 : Hid (W3.heap[b3r]? = some (.cells #[.int .i64 sq, .int .i64 kd, .slice a N c] 28 (0, 0))) := Lib.hid (by rw [hW3, hb3r]; exact heap_alloc_new _ _)
  have I3 := Lib.hid (i2.below b3)
  have PQ3 : Hid (Part W3 b3r 0 #[.int .i64 sq, .int .i64 kd, .slice a N c]) := Lib.hid (Part.of_blk T3.out)
  have B3 := Lib.hid (B1.out.trans ((b2.trans (b3.mono b2.size)).mono B1.out.size))
  obtain ⟨A, hA⟩ : ∃ A, A = Wi.layRq q := ⟨_, rfl⟩
  have hlq := layRequest_any W3 q OQ.out a N c I3.out (by have := LQ.out; omega)
  rw [← hA, ← show sq = _ from HSQ.out, ← show kd = _ from HKD.out] at hlq
  have HLA := Lib.hid hA
  clear i2 b2 b3 T0 B1 hA
  go_upto_region 2 with (fail)
  rw [← hW3, ← hb3r]
  clear hW3 hb3r
  go_wp2_with (refine wpL_load ?hw 28 (.tmp 7) rfl b3r 0 rfl #[.int .i64 sq, .int .i64 kd, .slice a N c] _ PQ3.out Tryd.underlying28 rfl (sz_rq _ _ _) ?_; case hw => kernel_rfl)
  refine hlq.mono ?_
  clear hlq PQ3
  rintro e w6 ⟨b6, he⟩
  have B6 := Lib.hid (B3.out.trans (b6.mono B3.out.size))
  have T6 := Lib.hid ((b6.block _ (blk_lt T3.out)).trans T3.out)
  have I6 := Lib.hid (I3.out.below b6)
  have hkn := known23 w6 (HG.out.keep B6.out)
  clear b6 T3 I3 B3
  cases A with
  | none =>
    obtain rfl := he
    go_wp2_with fail
    refine hkn.mono ?_
    clear hkn
    rintro e w7 ⟨rfl, b7⟩
    have B7 := Lib.hid (B6.out.trans (b7.mono B6.out.size))
    have hkn := known23 w7 (HG.out.keep B7.out)
    clear b7
    go_wp2_with fail
    refine hkn.mono ?_
    clear hkn
    rintro e w8 ⟨rfl, b8⟩
    have B8 := Lib.hid (B7.out.trans (b8.mono B7.out.size))
    clear b8
    go_wp2
    go_ret
    exact ⟨rfl, B8.out⟩
  | some b =>
    obtain ⟨ba, bc, rfl, ob⟩ := he
    have hparts := Wi.layRq_parts HLA.out.symm
    have HMR : Hid (Wi.mayRq q = true) := Lib.hid hparts.1
    have HKK : Hid (kd = 1 ∨ kd = 2) := Lib.hid (by rw [show kd = _ from HKD.out]; exact Wi.mayRq_kind hparts.1)
    obtain ⟨nb, hnb⟩ : ∃ nb, nb = b.length := ⟨_, rfl⟩
    have HNB : Hid (nb = 11 + (Wi.itsB kd q.items).length) := Lib.hid (by rw [hnb, hparts.2, Wi.sumB_len, Wi.headB_len, ← show kd = _ from HKD.out]; omega)
    have HNL : Hid (nb ≤ 1051) := Lib.hid (by rw [hnb, hparts.2, Wi.sumB_len]; have := Wi.headB_le hparts.1 OQ.out 1; omega)
    have rb : Rds w6 ba nb b := Rds.of_own (by rw [hnb]; exact ob) hnb.symm
    obtain ⟨ba', bc', heq, hbc, _, hbz, _⟩ := ownsRow_slice ob
    have hcc : nb ≤ bc ∧ (ba = none → bc = 0) := by
      simp only [Value.slice.injEq] at heq
      obtain ⟨rfl, _, rfl⟩ := heq
      exact ⟨by rw [hnb]; exact hbc, hbz⟩
    have HCC := Lib.hid hcc
    rw [← hnb]
    obtain ⟨bb, bo, hba, _⟩ := rb.2 (by have := HNB.out; omega)
    subst hba
    have HB : Hid (∀ X, Below w6.heap.size w6 X → Rds X (some ⟨bb, bo, none⟩) nb b) := Lib.hid (fun X hX => rb.below hX (fun h0 b o e => by cases e; exact rb.lt h0))
    have TR : Hid (∀ X, Below w6.heap.size w6 X → X.heap[b3r]? = some (.cells #[.int .i64 sq, .int .i64 kd, .slice a N c] 28 (0, 0))) := Lib.hid (fun X hX => (hX.block _ (blk_lt T6.out)).trans T6.out)
    clear hparts hnb rb heq hbc hbz hcc ob T6
    go_wp2_with fail
    refine hkn.mono ?_
    clear hkn
    rintro e w7 ⟨rfl, b7⟩
    have B7 := Lib.hid b7
    clear b7
    go_wp2_with fail
    go_loopw [10, 11] (fun nv iv wr => ∃ k m : Nat, k ≤ N ∧ iv = .int .i64 (k : Int) ∧ nv = .int .i64 (m : Int) ∧ Hid (Below w6.heap.size w6 wr) ∧ Hid (m = 11 + (Wi.itsB kd (q.items.take k)).length)) (fun _ iv _ => N - (intOf iv).toNat)
    case atStart => exact ⟨0, 11, Nat.zero_le _, rfl, rfl, B7, Lib.hid (by simp [Wi.itsB])⟩
    case round =>
      obtain ⟨k, m, hk, rfl, rfl, BR, HM⟩ := hrel
      clear B7
      obtain ⟨g0, g1, g2⟩ := cell3 (TR.out wr BR.out)
      by_cases hlt : k < N
      · have d0 : decide ((k : Int) < (N : Int)) = true := decide_eq_true (by omega)
        have d0' : decide (k < N) = true := decide_eq_true hlt
        have d1 : (k : Int) < (N : Int) := by omega
        have hx : q.items[k]? = some (q.items[k]'(by have := HN.out; omega)) := List.getElem?_eq_getElem _
        generalize q.items[k]'(by have := HN.out; omega) = x at hx
        obtain ⟨b', o, rfl, hb, hp⟩ := I6.out.at hx
        have HX := Lib.hid hx
        have HOK : Hid x.ok := Lib.hid (OQ.out.items x (List.mem_of_getElem? hx))
        have PX : Hid (∀ w', Below w6.heap.size w6 w' → Part w' b' (o + k * 34) (itC x)) := Lib.hid (fun w' h c v hv => (h.cell (p := ⟨b', o + k * 34 + c, none⟩) hb).trans (hp c v hv))
        have C32 : Hid (∀ w', Below w6.heap.size w6 w' → w'.cell? ⟨b', o + k * 34 + 32, none⟩ = some (.int .i64 x.steps)) := Lib.hid (fun w' h => PX.out w' h 32 _ (itC_steps x HOK.out))
        have C33 : Hid (∀ w', Below w6.heap.size w6 w' → w'.cell? ⟨b', o + k * 34 + 33, none⟩ = some (.string (str x.text))) := Lib.hid (fun w' h => PX.out w' h 33 _ (itC_text x HOK.out))
        have hw := wrapi' ((k : Int) + 1) (by have := LQ.out; omega)
        have HNX : Hid (11 + (Wi.itsB kd (q.items.take (k + 1))).length = m + (Wi.itB kd x).length) := Lib.hid (by rw [its_step hx, HM.out]; omega)
        have HMB : Hid (11 + (Wi.itsB kd (q.items.take (k + 1))).length ≤ 1051) := Lib.hid (by have := Wi.itsB_take_le HMR.out OQ.out (k + 1); rw [← show kd = _ from HKD.out] at this; omega)
        clear hx hp hb
        rcases HKK.out with rfl | rfl
        · as_aux_lemma =>
            obtain ⟨WB, hWB⟩ : ∃ WB, WB = wr.heap.size := ⟨_, rfl⟩
            obtain ⟨W9, hW9⟩ : ∃ W9, W9 = wr.alloc (.cells #[.slice none 0 0] 37) := ⟨_, rfl⟩
            have b9 : Below wr.heap.size wr W9 := by rw [hW9]; exact (Below.refl _ _).alloc (Nat.le_refl _) _
            have h9 : Wr 37 wr W9 WB [] := ⟨⟨.slice none 0 0, ⟨by rw [hW9, hWB]; exact heap_alloc_new _ _, World.ownsRow_nil _ _ _ _⟩, fun k hk => by cases hk⟩, by omega, b9⟩
            have B9 := BR.out.trans (b9.mono BR.out.size)
            have hv := rw_var h9 x.steps (by simp)
            rw [List.nil_append] at hv
            obtain ⟨g0', g1', g2'⟩ := cell3 (TR.out W9 B9)
            have ci := C32.out W9 B9
            obtain ⟨xs, hxs⟩ : ∃ xs, xs = x.steps := ⟨_, rfl⟩
            obtain ⟨V, hV⟩ : ∃ V, V = Oct.var (Oct.u64 x.steps) := ⟨_, rfl⟩
            have HNV : Hid (11 + (Wi.itsB 1 (q.items.take (k + 1))).length = m + 32 + V.length) := Lib.hid (by rw [HNX.out, Wi.itB_len, if_pos rfl, HOK.out.high, hV]; omega)
            rw [← hV] at hv
            rw [← hxs] at hv ci
            have hw1 : IntKind.i64.wrap ((m : Int) + 32) = ((m + 32 : Nat) : Int) := by rw [wrapi' _ (by have := HNV.out; have := HMB.out; omega)]; omega
            have hw2 : IntKind.i64.wrap (((m + 32 : Nat) : Int) + (V.length : Int)) = ((m + 32 + V.length : Nat) : Int) := by rw [wrapi' _ (by have := HNV.out; have := HMB.out; omega)]; omega
            obtain ⟨m2, hm2⟩ : ∃ m2, m2 = m + 32 := ⟨_, rfl⟩
            rw [← hm2] at hw1 hw2
            obtain ⟨m3, hm3⟩ : ∃ m3, m3 = m2 + V.length := ⟨_, rfl⟩
            rw [← hm3] at hw2
            have HM3 : Hid (m3 = 11 + (Wi.itsB 1 (q.items.take (k + 1))).length) := Lib.hid (by rw [HNV.out, hm3, hm2])
            clear b9 h9 hxs hV hm2 hm3
            go_upto_region 11 with (fail)
            rw [← hW9, ← hWB]
            clear hW9 hWB g0 g1 g2
            go_wp2_with fail
            refine hv.mono ?_
            clear hv g0' g1' g2' ci
            rintro e w10 ⟨rfl, h10, k10⟩
            obtain ⟨va, vc, hrow, _⟩ := h10.row
            have B10 := Lib.hid (BR.out.trans (h10.bel.mono BR.out.size))
            clear h10 k10 B9
            go_wp2
            go_roundw
            case rel => exact ⟨k + 1, m3, by omega, by go_num, rfl, B10, HM3⟩
            case measure => simp [intOf]; omega
        · as_aux_lemma =>
            have ci := C33.out wr BR.out
            obtain ⟨ST, hST⟩ : ∃ ST, ST = str x.text := ⟨_, rfl⟩
            obtain ⟨tl, htl⟩ : ∃ tl, tl = x.text.length := ⟨_, rfl⟩
            have hsz : ST.size = tl := by rw [hST, str_size, htl]
            rw [← hST] at ci
            have HNV : Hid (11 + (Wi.itsB 2 (q.items.take (k + 1))).length = m + 1 + tl) := Lib.hid (by rw [HNX.out, Wi.itB_len, if_neg (by decide), htl]; omega)
            have hw1 : IntKind.i64.wrap ((m : Int) + 1) = ((m + 1 : Nat) : Int) := by rw [wrapi' _ (by have := HNV.out; have := HMB.out; omega)]; omega
            have hw2 : IntKind.i64.wrap (((m + 1 : Nat) : Int) + (tl : Int)) = ((m + 1 + tl : Nat) : Int) := by rw [wrapi' _ (by have := HNV.out; have := HMB.out; omega)]; omega
            obtain ⟨m2, hm2⟩ : ∃ m2, m2 = m + 1 := ⟨_, rfl⟩
            rw [← hm2] at hw1 hw2
            obtain ⟨m3, hm3⟩ : ∃ m3, m3 = m2 + tl := ⟨_, rfl⟩
            rw [← hm3] at hw2
            have HM3 : Hid (m3 = 11 + (Wi.itsB 2 (q.items.take (k + 1))).length) := Lib.hid (by rw [HNV.out, hm3, hm2])
            clear hST htl hm2 hm3
            go_wp2
            go_roundw
            case rel => exact ⟨k + 1, m3, by omega, by go_num, rfl, BR, HM3⟩
            case measure => simp [intOf]; omega
      · obtain rfl : k = N := by omega
        have d0 : decide ((k : Int) < (k : Int)) = false := decide_eq_false (by omega)
        obtain rfl : m = nb := by rw [HM.out, HNB.out, List.take_of_length_le (by have := HN.out; omega)]
        clear HM HKK HMR TR I6 hlt hk LQ
        obtain ⟨r, hrr⟩ : ∃ r : Nat, cut % (m : Int) = (r : Int) := Int.eq_ofNat_of_zero_le (Int.emod_nonneg _ (by have := HNB.out; omega))
        have hr1 : r < m := by have := Int.emod_lt_of_pos cut (show (0 : Int) < (m : Int) by have := HNB.out; omega); omega
        have HPK : Hid (∀ X : World, Calls Tryd.prog 10 #[.int .i64 cut, .int .i64 (m : Int)] X fun e w' => e = .returned (.int .i64 (r : Int)) ∧ X = w') := Lib.hid (fun X => by
          have := pick_any X cut (m : Int) BC0.out.1 BC0.out.2 (by have := HNB.out; omega) (by have := HNL.out; omega)
          rw [hrr] at this
          exact this)
        have HRT : Hid (∀ X, Below w6.heap.size w6 X → Rds X (some ⟨bb, bo, none⟩) r (b.take r)) := Lib.hid (fun X hX => (HB.out X hX).take (by omega))
        have i0 : (0 : Int) ≤ (r : Int) := by omega
        have i1 : (r : Int) ≤ (bc : Int) := by have := HCC.out.1; omega
        have hbc0 : (bc = 0) = False := by simp; have := HCC.out.1; have := HNB.out; omega
        have HRC : Hid (r ≤ bc ∧ r ≤ 1051) := Lib.hid ⟨by have := HCC.out.1; omega, by have := HNL.out; omega⟩
        obtain ⟨K1, hK1⟩ : ∃ K1, K1 = rqN (Wi.readRq (b.take r)) := ⟨_, rfl⟩
        have hpk := HPK.out wr
        have hrw := readWire_any wr _ r bc _ (HRT.out wr BR.out) HRC.out.1 (fun e => by cases e) (by have := HRC.out; omega)
        rw [← hK1] at hrw
        have HK1 := Lib.hid hK1
        clear hrr hr1 hK1
        go_wp2_with fail
        refine hpk.mono ?_
        clear hpk
        rintro e w' ⟨rfl, rfl⟩
        go_wp2_with fail
        refine hrw.mono ?_
        clear hrw
        rintro e y1 ⟨b1, q1, k1, a1, n1, c1, rfl⟩
        obtain ⟨y2, hy2⟩ : ∃ y2, y2 = y1.alloc (.cells #[.int .i64 q1, .int .i64 k1, .slice a1 n1 c1] 28) := ⟨_, rfl⟩
        have Y2 : Hid (Below w6.heap.size w6 y2) := Lib.hid (by rw [hy2]; exact (BR.out.trans (b1.mono BR.out.size)).alloc (Nat.le_trans BR.out.size b1.size) _)
        have hpk := HPK.out y2
        have hrq := readRequest_any y2 _ r bc _ (HRT.out y2 Y2.out) HRC.out.1 (fun e => by cases e) (by have := HRC.out; omega)
        clear b1 BR
        go_upto_region 17 with (fail)
        rw [← hy2]
        clear hy2
        go_wp2_with fail
        refine hpk.mono ?_
        clear hpk
        rintro e w' ⟨rfl, rfl⟩
        go_wp2_with fail
        refine hrq.mono ?_
        clear hrq
        rintro e y3 hrq
        obtain ⟨b3, q3, k3, a3, n3, c3, v3, rfl, hk3⟩ := rqAft_kind hrq
        rw [← show K1 = _ from HK1.out] at hk3
        have HK3 := Lib.hid hk3
        obtain ⟨y4, hy4⟩ : ∃ y4, y4 = y3.alloc (.cells #[.int .i64 q3, .int .i64 k3, .slice a3 n3 c3] 28) := ⟨_, rfl⟩
        have Y4 : Hid (Below w6.heap.size w6 y4) := Lib.hid (by rw [hy4]; exact (Y2.out.trans (b3.mono Y2.out.size)).alloc (Nat.le_trans Y2.out.size b3.size) _)
        have HFW : Hid (∀ X, Below w6.heap.size w6 X → Calls Tryd.prog 12 #[.slice (some ⟨bb, bo, none⟩) m bc, .int .i64 (m : Int)] X (FreshN X m b)) := Lib.hid (fun X hX => few_allw X _ m bc b (HB.out X hX) HCC.out.1 (fun e => by cases e) (by have := HNL.out; omega))
        have HR2 : Hid (∀ X, Below w6.heap.size w6 X → Rds X s2 n2 l2) := Lib.hid (fun X hX => G2.out.rds.below (B6.out.trans (hX.mono B6.out.size)) (fun h0 b o e => by subst e; exact G2.out.rds.lt h0))
        have hN2 : n2 ≤ 140737488351232 := by have := G2.out.le; have := G2.out.reach; omega
        have HZ2 : Hid (s2 = none → c2 = 0) := Lib.hid G2.out.none
        obtain ⟨iB, hiB, hzB, hsB, hbB⟩ := info_parts Tryd.infoB
        have IB1 := Lib.hid hiB
        have IB2 := Lib.hid hzB
        have IB3 := Lib.hid hsB
        have IB4 := Lib.hid hbB
        have HN2 := Lib.hid hN2
        have hfw := HFW.out y4 Y4.out
        clear b3 hrq hk3 hiB hzB hsB hbB hN2 Y2
        go_upto_region 18 with (fail)
        rw [← hy4]
        clear hy4
        go_wp2_with fail
        refine hfw.mono ?_
        clear hfw
        rintro e y5 ⟨fa, fc, rfl, o5, b5⟩
        have Y5 := Lib.hid (Y4.out.trans (b5.mono Y4.out.size))
        have O5 := Lib.hid o5
        have B5L : Hid (y4.heap.size ≤ y5.heap.size) := Lib.hid b5.size
        have L5 : Hid (∀ j, (Value.slice fa m fc).ownBlock = some j → w6.heap.size ≤ j) := Lib.hid (fun j hj => Nat.le_trans Y4.out.size (o5.lt j hj).1)
        obtain ⟨K2, hK2⟩ : ∃ K2, K2 = rqN (Wi.readRq (b ++ l2)) := ⟨_, rfl⟩
        have HK2 := Lib.hid hK2
        have LBM : Hid (b.length = m) := Lib.hid (HB.out w6 (Below.refl _ _)).1
        have LL2 : Hid (l2.length = n2) := Lib.hid (HR2.out w6 (Below.refl _ _)).1
        clear o5 b5 hK2
        go_wp2_with (at_builtin; refine wpList_append_rds _ rfl (.tmp 99) (.tmp 100) 25 rfl y4.heap.size 5 iB Tryd.underlying25 IB1.out IB2.out IB3.out IB4.out _ m b rfl O5.out s2 n2 c2 rfl HZ2.out l2 (HR2.out _ Y5.out) (by have := HNL.out; have := HN2.out; omega) B5L.out ?_)
        intro v6 y6 o6 g6
        have Y6 := Lib.hid (Y5.out.grown g6 Y5.out.size L5.out)
        obtain ⟨va, vc, rfl, hvc, hvn, hvz, _⟩ := ownsRow_slice o6
        have R6 : Hid (Rds y6 va (m + n2) (b ++ l2)) := Lib.hid (by
          have hlen : (b ++ l2).length = m + n2 := by rw [List.length_append, LBM.out, LL2.out]
          exact Rds.of_own (by rw [hlen]; exact o6) hlen)
        have V6 : Hid (m + n2 ≤ vc ∧ (va = none → vc = 0)) := Lib.hid ⟨by first | exact hvc | exact hvn | omega, by first | exact hvn | exact hvz⟩
        have hrq := readRequest_any y6 va (m + n2) vc (b ++ l2) R6.out V6.out.1 V6.out.2 (by have := HNL.out; have := HN2.out; omega)
        clear o6 g6 hvc hvn hvz R6 V6 O5 L5 B5L Y5
        go_wp2_with fail
        refine hrq.mono ?_
        clear hrq
        rintro e y7 hrq
        obtain ⟨b7, q7, k7, a7, n7, c7, v7, rfl, hk7⟩ := rqAft_kind hrq
        rw [← show K2 = _ from HK2.out] at hk7
        have HK7 := Lib.hid hk7
        obtain ⟨y8, hy8⟩ : ∃ y8, y8 = y7.alloc (.cells #[.int .i64 q7, .int .i64 k7, .slice a7 n7 c7] 28) := ⟨_, rfl⟩
        have Y8 : Hid (Below w6.heap.size w6 y8) := Lib.hid (by rw [hy8]; exact (Y6.out.trans (b7.mono Y6.out.size)).alloc (Nat.le_trans Y6.out.size b7.size) _)
        have hfw := HFW.out y8 Y8.out
        clear b7 hrq hk7 Y6 Y4
        go_upto_region 19 with (fail)
        rw [← hy8]
        clear hy8
        go_wp2_with fail
        refine hfw.mono ?_
        clear hfw
        rintro e y9 ⟨fa9, fc9, rfl, o9, b9⟩
        have Y9 := Lib.hid (Y8.out.trans (b9.mono Y8.out.size))
        have O9 := Lib.hid o9
        have B9L : Hid (y8.heap.size ≤ y9.heap.size) := Lib.hid b9.size
        have L9 : Hid (∀ j, (Value.slice fa9 m fc9).ownBlock = some j → w6.heap.size ≤ j) := Lib.hid (fun j hj => Nat.le_trans Y8.out.size (o9.lt j hj).1)
        clear o9 b9
        go_wp2_with (at_builtin; refine wpList_append_rds _ rfl (.tmp 108) (.tmp 109) 25 rfl y8.heap.size 5 iB Tryd.underlying25 IB1.out IB2.out IB3.out IB4.out _ m b rfl O9.out s2 n2 c2 rfl HZ2.out l2 (HR2.out _ Y9.out) (by have := HNL.out; have := HN2.out; omega) B9L.out ?_)
        intro v10 y10 o10 g10
        have Y10 := Lib.hid (Y9.out.grown g10 Y9.out.size L9.out)
        obtain ⟨va9, vc9, rfl, hvc, hvn, hvz, _⟩ := ownsRow_slice o10
        have R10 : Hid (Rds y10 va9 (m + n2) (b ++ l2)) := Lib.hid (by
          have hlen : (b ++ l2).length = m + n2 := by rw [List.length_append, LBM.out, LL2.out]
          exact Rds.of_own (by rw [hlen]; exact o10) hlen)
        have V10 : Hid (m + n2 ≤ vc9 ∧ (va9 = none → vc9 = 0)) := Lib.hid ⟨by first | exact hvc | exact hvn | omega, by first | exact hvn | exact hvz⟩
        have hrw := readWire_any y10 va9 (m + n2) vc9 (b ++ l2) R10.out V10.out.1 V10.out.2 (by have := HNL.out; have := HN2.out; omega)
        rw [← show K2 = _ from HK2.out] at hrw
        clear o10 g10 hvc hvn hvz R10 V10 O9 L9 B9L Y9
        go_wp2_with fail
        refine hrw.mono ?_
        clear hrw
        rintro e y11 ⟨b11, q11, k11, a11, n11, c11, rfl⟩
        obtain ⟨y12, hy12⟩ : ∃ y12, y12 = y11.alloc (.cells #[.int .i64 q11, .int .i64 k11, .slice a11 n11 c11] 28) := ⟨_, rfl⟩
        have Y12 : Hid (Below w6.heap.size w6 y12) := Lib.hid (by rw [hy12]; exact (Y10.out.trans (b11.mono Y10.out.size)).alloc (Nat.le_trans Y10.out.size b11.size) _)
        have Z12 := Lib.hid (B6.out.trans (Y12.out.mono B6.out.size))
        have hkd := HK3.out y12 (HG.out.keep Z12.out)
        clear b11 Y10 Y8 Y12
        go_upto_region 20 with (fail)
        rw [← hy12]
        clear hy12
        go_wp2_with fail
        refine hkd.mono ?_
        clear hkd
        rintro e y13 ⟨rfl, b13⟩
        have Z13 := Lib.hid (Z12.out.trans (b13.mono Z12.out.size))
        have hkd := HK7.out y13 (HG.out.keep Z13.out)
        clear b13
        go_wp2_with fail
        refine hkd.mono ?_
        clear hkd
        rintro e y14 ⟨rfl, b14⟩
        have Z14 := Lib.hid (Z13.out.trans (b14.mono Z13.out.size))
        clear b14
        go_wp2
        go_ret
        exact ⟨ret_bool (by simp), Z14.out⟩
end Go.Proofs.YthampbiabkfmoaaDoor
