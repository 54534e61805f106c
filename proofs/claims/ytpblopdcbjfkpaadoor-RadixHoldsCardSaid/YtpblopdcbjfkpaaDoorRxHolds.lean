/- taprootlaw9.RadixHolds: the walk. -/
import Derived.Test.YtpblopdcbjfkpaaDoorRxKn
import Derived.Test.YtpblopdcbjfkpaaDoorRxOpen
namespace Go.Proofs.YtpblopdcbjfkpaaDoor
open Go.RowKit Go.Tap
set_option linter.unusedVariables false
set_option linter.unusedSimpArgs false
abbrev RdP (w : World) (a : Option Addr) (n : Nat) (l : List Rx.Pr) : Prop := RdA prC 35 w a n l
theorem sz_pair (p : Rx.Pr) (h : p.h.length = 32) : (Tryd.prog.info? 35).map (·.size) = some (prC p).size := by rw [prC_size p h]; kernel_rfl
theorem bt_kept : Tryd.prog.built 30 [] = some #[.slice none 0 0, .slice none 0 0] := by kernel_rfl
theorem own_none (w : World) (lo e sz : Nat) : w.ownsRow lo e sz (.slice none 0 0) 0 [] := World.ownsRow_nil _ _ _ _
/-- The two states. -/
structure Hl (w wr : World) (TB KB : Nat) (t : Rx.T) (k : Rx.K) (vh vn : Value) : Prop where
  tree : TreeAt wr w.heap.size TB t
  kept : KeptAt wr w.heap.size KB k vh vn
  mt : Rx.Mt t k
  below : Below w.heap.size w wr
theorem Hl.step {w wr w' : World} {TB KB : Nat} {t : Rx.T} {k : Rx.K} {vh vn : Value} (h : Hl w wr TB KB t k vh vn) (hb : Below wr.heap.size wr w') : Hl w w' TB KB t k vh vn :=
  ⟨h.tree.below hb, h.kept.below hb, h.mt, h.below.trans (hb.mono h.below.size)⟩
/-- Behind a Put; the kept ones still lack it. -/
structure Hm (w wr : World) (TB KB : Nat) (t' : Rx.T) (k : Rx.K) (h : List UInt8) (n : Int) (vh vn : Value) : Prop where
  tree : TreeAt wr w.heap.size TB t'
  kept : KeptAt wr w.heap.size KB k vh vn
  mt : Rx.Mt t' (Rx.kput k h n)
  below : Below w.heap.size w wr
theorem Hl.put {w wr w' : World} {TB KB : Nat} {t : Rx.T} {k : Rx.K} {vh vn : Value} (h : Hl w wr TB KB t k vh vn) {x : List UInt8} {n : Int} (hx : x.length = 32) (hp : PutT wr w.heap.size TB x n t w') :
    ∃ t', Hm w w' TB KB t' k x n vh vn := by
  obtain ⟨t', f, h1, h2, h3⟩ := hp
  refine ⟨t', h1, h.kept.stay h3 (fun j hj _ hty hS => KS.tree h.tree j hS w.heap.size ⟨hj, hty⟩), h.mt.put h2 hx, Below.trans_stay h.below h3 (Nat.le_refl _) (fun j hj e => ?_)⟩
  rcases e with rfl | e
  · have := h.tree.lo_; omega
  · have := h.tree.mem j e; omega
theorem Hm.step {w wr w' : World} {TB KB : Nat} {t : Rx.T} {k : Rx.K} {x : List UInt8} {n : Int} {vh vn : Value} (h : Hm w wr TB KB t k x n vh vn) (hb : Below wr.heap.size wr w') : Hm w w' TB KB t k x n vh vn :=
  ⟨h.tree.below hb, h.kept.below hb, h.mt, h.below.trans (hb.mono h.below.size)⟩
theorem Hm.keep {w wr w' : World} {TB KB : Nat} {t : Rx.T} {k : Rx.K} {x : List UInt8} {n : Int} {vh vn vh' vn' : Value} (h : Hm w wr TB KB t k x n vh vn) (hk : KeptAt w' w.heap.size KB (Rx.kput k x n) vh' vn') (hs : TStay (KS wr w.heap.size) wr w') :
    Hl w w' TB KB t (Rx.kput k x n) vh' vn' :=
  ⟨h.tree.stay hs (fun y hy => KS.tree h.tree y hy w.heap.size), hk, h.mt, Below.trans_stay h.below hs (Nat.le_refl _) (fun j hj e => by have := e.1; omega)⟩
set_option maxHeartbeats 4000000 in
set_option maxRecDepth 100000 in
theorem radixHolds_any (w : World) (hE : EType w) (a : Option Addr) (n c : Nat) (l : List Rx.Pr) (hr : RdP w a n l) (hok : ∀ p ∈ l, Rx.prOk p) (pa : Option Addr) (pn pc : Nat) (pl : List Int) (hp : RdZ w pa pn pl) :
    Calls Tryd.prog 3 #[.slice a n c, .slice pa pn pc] w fun e w' => e = .returned (.bool true) ∧ Below w.heap.size w w' := by
  have hnew := rnew_any w
  have HE := Lib.hid hE
  have HR := Lib.hid hr
  have HO := Lib.hid hok
  have HP := Lib.hid hp
  clear hE hr hok hp
  go_enter Tryd.func3, Tryd.ntmps3
  go_wp2_with fail
  refine hnew.mono ?_
  clear hnew
  rintro e w1 ⟨rfl, hT, b1⟩
  have hkn := known9_any w1 (HE.out.keep b1)
  obtain ⟨TB, hTB⟩ : ∃ TB, TB = w.heap.size := ⟨_, rfl⟩
  have T1 : Hid (TreeAt w1 w.heap.size TB .nil) := Lib.hid (by rw [hTB]; exact hT)
  rw [← hTB]
  have B1 := Lib.hid b1
  clear hT b1 hTB
  go_wp2_with fail
  refine hkn.mono ?_
  clear hkn
  rintro e w2 ⟨rfl, b2⟩
  have T2 := Lib.hid (T1.out.below b2)
  have B2 := Lib.hid (B1.out.trans (b2.mono B1.out.size))
  clear b2
  go_wp2_with (first | (refine wpL_mk (by kernel_rfl) 30 #[] rfl [] (by rfl) #[.slice none 0 0, .slice none 0 0] bt_kept ?_))
  obtain ⟨w3, hw3⟩ : ∃ w3, w3 = w2.alloc (.cells #[.slice none 0 0, .slice none 0 0] 30) := ⟨_, rfl⟩
  rw [← hw3]
  obtain ⟨KB, hKB⟩ : ∃ KB, KB = w2.heap.size := ⟨_, rfl⟩
  rw [← hKB]
  have b3 : Below w2.heap.size w2 w3 := by rw [hw3]; exact (Below.refl _ _).alloc (Nat.le_refl _) _
  have A3 : w3.heap[KB]? = some (.cells #[.slice none 0 0, .slice none 0 0] 30 (0, 0)) := by rw [hw3, hKB]; exact heap_alloc_new _ _
  have H3 : Hid (Hl w w3 TB KB .nil [] (.slice none 0 0) (.slice none 0 0)) := Lib.hid ⟨T2.out.below b3, ⟨A3, own_none _ _ _ _, own_none _ _ _ _, by rw [hKB]; exact B2.out.size, fun x hx => by cases hx⟩, Rx.Mt.nil, B2.out.trans (b3.mono B2.out.size)⟩
  clear b3 A3 hw3 hKB
  go_loopw [7, 8] (fun kv _ wr => ∃ (i : Nat) (t : Rx.T) (k : Rx.K) (vh vn : Value), i ≤ n ∧ i ≤ 50 ∧ k.length ≤ i ∧ kv = .int .i64 (i : Int) ∧ Hid (Hl w wr TB KB t k vh vn)) (fun kv _ _ => 50 - (intOf kv).toNat)
  case atStart => exact ⟨0, .nil, [], _, _, Nat.zero_le _, by omega, Nat.le_refl _, rfl, H3⟩
  case round =>
    obtain ⟨i, t, k, vh, vn, hi, h50, hkl, rfl, HH⟩ := hrel
    have HKL := Lib.hid hkl
    by_cases hlt : i < n
    · have d0 : decide ((i : Int) < (n : Int)) = true := decide_eq_true (by omega)
      have d0' : decide (i < n) = true := decide_eq_true hlt
      by_cases h8 : i < 50
      · have d1 : decide ((i : Int) < 50) = true := decide_eq_true (by omega)
        have d1' : decide (i < 50) = true := decide_eq_true h8
        have i0 : (0 : Int) ≤ (i : Int) := by omega
        have i1 : (i : Int) < (n : Int) := by omega
        have hw := wrapi' ((i : Int) + 1) (by omega)
        have hz : l[i]? = some (l[i]'(by have := HR.out.1; omega)) := List.getElem?_eq_getElem _
        generalize l[i]'(by have := HR.out.1; omega) = p at hz
        have hpo := HO.out p (List.mem_of_getElem? hz)
        obtain ⟨pb, po, rfl, hpb, hpc⟩ := HR.out.at hz
        have PX : Hid (∀ w', Below w.heap.size w w' → Part w' pb (po + i * 35) (prC p)) := Lib.hid (fun w' h c v hv => (h.cell (p := ⟨pb, po + i * 35 + c, none⟩) hpb).trans (hpc c v hv))
        have cv : wr.cell? ⟨pb, po + i * 35 + 1, none⟩ = some (.int .i64 p.v) := PX.out wr HH.out.below 1 _ (prC_v p)
        have hpk := pick_any wr p.v 1000 hpo.2.2.1 hpo.2.2.2 (by omega) (by omega)
        obtain ⟨r, hrr⟩ : ∃ r : Nat, p.v % 1000 = (r : Int) := Int.eq_ofNat_of_zero_le (Int.emod_nonneg _ (by omega))
        have hr1 : r < 1000 := by have := Int.emod_lt_of_pos p.v (show (0 : Int) < 1000 by omega); omega
        rw [hrr] at hpk
        obtain ⟨m, hm⟩ : ∃ m : Int, m = (r : Int) - 5 := ⟨_, rfl⟩
        have hwm : IntKind.i64.wrap ((r : Int) - 5) = m := by rw [hm]; exact wrapi' _ (by omega)
        have HM : Hid (-5 ≤ m ∧ m ≤ 1000) := Lib.hid (by omega)
        have HPO := Lib.hid hpo
        clear hz hpo hpb hpc hrr hr1 hm
        go_wp2_with fail
        refine hpk.mono ?_
        clear hpk
        rintro e w' ⟨rfl, rfl⟩
        clear cv
        have PP : Hid (Part wr pb (po + i * 35) (prC p)) := Lib.hid (PX.out wr HH.out.below)
        have hph := pairHash_any wr p HPO.out.1 HPO.out.2.1
        obtain ⟨X, hX⟩ : ∃ X, X = Rx.hashOf p := ⟨_, rfl⟩
        have HX : Hid (X.length = 32) := Lib.hid (by rw [hX]; exact hashOf_len p HPO.out.1)
        rw [← hX] at hph
        have HPH : Hid (∀ W, Calls Tryd.prog 12 #[.agg (prC p)] W fun e w' => e = .returned (.agg (hashC X)) ∧ Below W.heap.size W w') := Lib.hid (fun W => by rw [hX]; exact pairHash_any W p HPO.out.1 HPO.out.2.1)
        clear hX
        go_wp2_with (first | (refine wpL_load ?hw 35 (.tmp 38) rfl pb (po + i * 35) (by kernel_rfl) (prC p) _ PP.out Tryd.underlying35 rfl (sz_pair p HPO.out.1) ?_; case hw => kernel_rfl))
        refine hph.mono ?_
        clear hph
        rintro e w4 ⟨rfl, b4⟩
        have H4 : Hid (Hl w w4 TB KB t k vh vn) := Lib.hid (HH.out.step b4)
        clear b4
        by_cases hm0 : m < 0
        · have g0 : decide ((0 : Int) ≤ m) = false := decide_eq_false (by omega)
          have hpt := rPut_neg w4 TB X m hm0
          clear hm0
          go_wp2_with fail
          refine hpt.mono ?_
          clear hpt
          rintro e w5 ⟨rfl, b5⟩
          have H5 : Hid (Hl w w5 TB KB t k vh vn) := Lib.hid (H4.out.step b5)
          clear b5
          go_wp2
          go_roundw
          case rel => exact ⟨i + 1, t, k, vh, vn, by omega, by omega, by omega, by go_num, H5⟩
          case measure => simp [intOf]; omega
        · have g0 : decide ((0 : Int) ≤ m) = true := decide_eq_true (by omega)
          have hpt := rPut_any w4 w.heap.size TB t H4.out.tree X m HX.out (by have := HM.out; omega) (by rw [H4.out.mt.cnt H4.out.tree.ok]; omega) H4.out.below.size
          clear hm0
          go_wp2_with fail
          refine hpt.mono ?_
          clear hpt
          rintro e w5 ⟨rfl, hpt⟩
          obtain ⟨t', hm5⟩ := H4.out.put HX.out hpt
          have H5 := Lib.hid hm5
          have P5 : Hid (Part w5 pb (po + i * 35) (prC p)) := Lib.hid (PX.out w5 H5.out.below)
          have hph := HPH.out w5
          clear hpt hm5
          go_wp2_with (first | (refine wpL_load ?hw 35 (.tmp 51) rfl pb (po + i * 35) (by kernel_rfl) (prC p) _ P5.out Tryd.underlying35 rfl (sz_pair p HPO.out.1) ?_; case hw => kernel_rfl))
          refine hph.mono ?_
          clear hph
          rintro e w6 ⟨rfl, b6⟩
          have H6 := Lib.hid (H5.out.step b6)
          have hkp := kput_any w6 w.heap.size KB k vh vn H6.out.kept X m HX.out (by omega) H6.out.below.size
          clear b6
          go_wp2_with fail
          refine hkp.mono ?_
          clear hkp
          rintro e w7 ⟨rfl, vh', vn', h7, s7⟩
          have H7 := Lib.hid (H6.out.keep h7 s7)
          have HL7 := Rx.kput_len k X m
          clear h7 s7
          go_wp2
          go_roundw
          case rel => exact ⟨i + 1, t', Rx.kput k X m, vh', vn', by omega, by omega, by omega, by go_num, H7⟩
          case measure => simp [intOf]; omega
      · have d1 : decide ((i : Int) < 50) = false := decide_eq_false (by omega)
        have d1' : decide (i < 50) = false := decide_eq_false h8
        have his := is_any wr w.heap.size w.heap.size TB KB t k vh vn pa pn pc pl HH.out.tree HH.out.kept HH.out.mt (by omega) (HP.out.below HH.out.below) (HE.out.keep HH.out.below)
        go_wp2_with fail
        refine his.mono ?_
        clear his
        rintro e w9 ⟨rfl, b9⟩
        have B9 := HH.out.below.trans (b9.mono HH.out.below.size)
        have B9 := Lib.hid B9
        clear b9
        go_wp2
        go_ret
        exact ⟨rfl, B9.out⟩
    · have d0 : decide ((i : Int) < (n : Int)) = false := decide_eq_false (by omega)
      have d0' : decide (i < n) = false := decide_eq_false hlt
      have his := is_any wr w.heap.size w.heap.size TB KB t k vh vn pa pn pc pl HH.out.tree HH.out.kept HH.out.mt (by omega) (HP.out.below HH.out.below) (HE.out.keep HH.out.below)
      go_wp2_with fail
      refine his.mono ?_
      clear his
      rintro e w9 ⟨rfl, b9⟩
      have B9 := HH.out.below.trans (b9.mono HH.out.below.size)
      have B9 := Lib.hid B9
      clear b9
      go_wp2
      go_ret
      exact ⟨rfl, B9.out⟩
end Go.Proofs.YtpblopdcbjfkpaaDoor
