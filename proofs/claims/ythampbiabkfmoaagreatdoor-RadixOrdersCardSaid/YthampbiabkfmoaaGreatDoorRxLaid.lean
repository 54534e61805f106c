/- node.laid: the record of a node. -/
import Derived.Test.YthampbiabkfmoaaGreatDoorRxGet
import Derived.Test.YthampbiabkfmoaaGreatDoorRxPlain
import Derived.Test.YthampbiabkfmoaaGreatDoorWiWr
import Derived.Test.YthampbiabkfmoaaGreatDoorRxLs
import Derived.Test.YthampbiabkfmoaaGreatDoorRxEq
import Derived.Deep.RegionHeld3
namespace Go.Proofs.YthampbiabkfmoaaGreatDoor
open Go.RowKit Go.Tap
set_option linter.unusedVariables false
set_option linter.unusedSimpArgs false
theorem newWr_any (w0 w : World) (hb : Below w0.heap.size w0 w) : Calls Tryz.prog 64 #[] w fun e w' => ∃ B, e = .returned (.pointer (some ⟨B, 0, none⟩)) ∧ Wr 175 w0 w' B [] ∧ Below w.heap.size w w' :=
  (newWriter_any w).mono fun e w' ⟨B, h1, h2, h3, h4⟩ => ⟨B, h1, ⟨⟨_, h3, fun k hk => by simp [Value.ownBlock] at hk⟩, Nat.le_trans hb.size h2, hb.trans (h4.mono hb.size)⟩, h4⟩
/-- A record: its kind, and bytes of one's own. -/
def LaidAft (w : World) (r : Nat × List UInt8) (e : Ending) (w' : World) : Prop :=
  ∃ a c, e = .returned (.tuple #[.int .i64 (r.1 : Int), .slice a r.2.length c]) ∧ w'.ownsRow w.heap.size 5 1 (.slice a r.2.length c) r.2.length (bv r.2) ∧ Below w.heap.size w w'
theorem Wr.block {w0 w : World} {B : Nat} {l : List UInt8} (h : Wr 175 w0 w B l) {k : Nat} {o : Obj} (hk : w0.heap[k]? = some o) : w.heap[k]? = some o := (h.bel.block k (blk_lt hk)).trans hk
set_option maxHeartbeats 1000000 in
set_option maxRecDepth 100000 in
theorem laid_leaf (w : World) (b : Nat) (h : List UInt8) (n s : Int) (hA : w.heap[b]? = some (.cells (nodeC nilK true h n s) 85 (0, 0))) (hl : h.length = 32) :
    Calls Tryz.prog 43 #[.pointer (some ⟨b, 0, none⟩)] w (LaidAft w (Rx.body (.leaf h n))) := by
  have hnw := newWr_any w w (Below.refl _ _)
  have HA := Lib.hid hA
  have HL := Lib.hid hl
  have hsl := slice_arr
  clear hA hl
  go_enter Tryz.func43, Tryz.ntmps43
  go_wp2_with fail
  refine hnw.mono ?_
  clear hnw
  rintro e w1 ⟨B, rfl, h1, b1⟩
  have A1 := h1.block HA.out
  have c16 : w1.cell? ⟨b, 16, none⟩ = some (.bool true) := blk_cell (i := 16) A1 nodeC_leaf
  have hrd : Rds w1 (some ⟨b, 17, none⟩) 32 h := rds_part HL.out (part_of A1 (nodeC_hash HL.out))
  have hraw := wr_raw h1 (some ⟨b, 17, none⟩) 32 32 h hrd (by intro e; cases e) (by simp) (by omega)
  rw [List.nil_append] at hraw
  clear h1 b1 A1 hrd
  go_wp2_with fail
  refine hraw.mono ?_
  clear hraw c16
  rintro e w2 ⟨rfl, h2, k2⟩
  have A2 := h2.block HA.out
  have c49 : w2.cell? ⟨b, 49, none⟩ = some (.int .i64 n) := blk_cell (i := 49) A2 (nodeC_n HL.out)
  have hvar := wr_var h2 n (by have := HL.out; omega)
  clear h2 k2 A2
  go_wp2_with fail
  refine hvar.mono ?_
  clear hvar c49
  rintro e w3 ⟨rfl, h3, k3⟩
  have hlen := Rx.var_le (Oct.u64 n)
  have hby := wr_bytes h3 (by have := HL.out; rw [List.length_append]; omega)
  have B3 := Lib.hid h3.bel
  have HE : Hid (Rx.body (.leaf h n) = (1, h ++ Oct.var (Oct.u64 n))) := Lib.hid rfl
  clear h3 k3 hlen
  obtain ⟨L, hL⟩ : ∃ L, L = h ++ Oct.var (Oct.u64 n) := ⟨_, rfl⟩
  rw [← hL] at hby HE
  clear hL
  go_wp2_with fail
  refine hby.mono ?_
  clear hby
  rintro e w4 ⟨a4, c4, rfl, o4, b4⟩
  have O4 := Lib.hid o4
  have B4 := Lib.hid (B3.out.trans (b4.mono B3.out.size))
  clear o4 b4
  go_wp2
  go_ret2
  rw [HE.out]
  exact ⟨a4, c4, rfl, ownsRow_base O4.out B3.out.size, B4.out⟩
set_option maxHeartbeats 4000000 in
set_option maxRecDepth 100000 in
theorem laid_inner (w : World) (b : Nat) (K : Nat → Rx.T) (s : Int) (p : List Nat) (hA : w.heap[b]? = some (.cells (nodeC (kidV K) false Wi.z32 0 s) 85 (0, 0))) (hK : ∀ i, i < 16 → At w (K i) ∧ Rx.ok (K i) (p ++ [i])) :
    Calls Tryz.prog 43 #[.pointer (some ⟨b, 0, none⟩)] w (LaidAft w (Rx.body (.inner (Rx.places K)))) := by
  have hnw := newWr_any w w (Below.refl _ _)
  have HA := Lib.hid hA
  have HK := Lib.hid hK
  clear hA hK
  obtain ⟨KV, hKV⟩ : ∃ KV, KV = (kidL (kidV K)).toArray := ⟨_, rfl⟩
  have IX : Hid (∀ k : Nat, k < 16 → ∀ w, (Instr.index 83 (.agg KV) (.int .i64 (k : Int))).run Tryz.prog w = .ok (ptrV (K k).ptr) w) := Lib.hid (fun k hk w => by rw [hKV]; exact idx_kids (kidV K) k hk w)
  have SK : Hid ((Tryz.prog.info? 83).map (·.size) = some KV.size) := Lib.hid (by rw [hKV]; exact sz_kids _)
  have PKV : Hid (∀ w', w'.heap[b]? = some (.cells (nodeC (kidV K) false Wi.z32 0 s) 85 (0, 0)) → Part w' b 0 KV) := Lib.hid (fun w' h => by rw [hKV]; exact part_of h nodeC_kids)
  clear hKV
  go_enter Tryz.func43, Tryz.ntmps43
  go_wp2_with fail
  refine hnw.mono ?_
  clear hnw
  rintro e w1 ⟨B, rfl, h1, b1⟩
  have A1 := h1.block HA.out
  have c16 : w1.cell? ⟨b, 16, none⟩ = some (.bool false) := blk_cell (i := 16) A1 nodeC_leaf
  have PK := Lib.hid (PKV.out w1 A1)
  have H1 := Lib.hid h1
  clear h1 b1 A1
  go_upto_region 7 with (refine wpL_load ?hw 83 (.tmp 29) rfl b 0 rfl KV _ PK.out Tryz.underlying83 rfl SK.out ?_; case hw => kernel_rfl)
  clear c16 PK
  go_loopw [31] (fun kv wr => ∃ k : Nat, k ≤ 16 ∧ kv = .int .i64 (k : Int) ∧ Hid (Wr 175 w wr B (Rx.vb ((Rx.places K).take k)))) (fun kv _ => 16 - (intOf kv).toNat)
  case atStart => exact ⟨0, Nat.zero_le _, rfl, H1⟩
  case round =>
    obtain ⟨k, hk, rfl, HW⟩ := hrel
    clear H1
    by_cases hlt : k < 16
    · have d1 : decide ((k : Int) < 16) = true := decide_eq_true (by omega)
      have i0 : (0 : Int) ≤ (k : Int) := by omega
      have i1 : (k : Int) < 16 := by omega
      have hix := IX.out k hlt
      have hw := wrapi' ((k : Int) + 1) (by omega)
      have HS : Hid ((Rx.places K).take (k + 1) = (Rx.places K).take k ++ [(K k).saved]) := Lib.hid (Rx.places_take K k hlt)
      have hln : (Rx.vb ((Rx.places K).take k)).length ≤ 1000000 := by
        have := Rx.vb_le ((Rx.places K).take k)
        rw [List.length_take] at this
        have h2 : min k (Rx.places K).length ≤ k := Nat.min_le_left _ _
        omega
      have hvar := wr_var HW.out (K k).saved hln
      rw [← Rx.vb_snoc, ← HS.out] at hvar
      obtain ⟨q, hq⟩ : ∃ q, q = (K k).ptr := ⟨_, rfl⟩
      obtain ⟨sv, hsv⟩ : ∃ sv, sv = (K k).saved := ⟨_, rfl⟩
      have CS : Hid (∀ c, q = some c → wr.cell? ⟨c, 50, none⟩ = some (.int .i64 sv)) := Lib.hid (fun c hc => by rw [hsv]; exact ((HK.out k hlt).1.below HW.out.bel).saved (HK.out k hlt).2 (by rw [← hq, hc]))
      have C0 : Hid (q = none → sv = 0) := Lib.hid (fun hc => by rw [hsv, Rx.ptr_none (hq.symm.trans hc)]; rfl)
      rw [← hq] at hix
      rw [← hsv] at hvar
      clear hq hsv hln
      cases q with
      | none =>
        have hs0 := C0.out rfl
        subst hs0
        simp only [ptrV, Option.map_none] at hix
        go_wp2_with fail
        refine hvar.mono ?_
        clear hvar hix
        rintro e w5 ⟨rfl, h5, k5⟩
        have H5 := Lib.hid h5
        clear h5 k5
        go_wp2
        go_roundw
        case rel => exact ⟨k + 1, by omega, by go_num, H5⟩
        case measure => simp [intOf]; omega
      | some c =>
        have c50 := CS.out c rfl
        simp only [ptrV, Option.map_some] at hix
        go_wp2_with fail
        refine hvar.mono ?_
        clear hvar hix c50
        rintro e w5 ⟨rfl, h5, k5⟩
        have H5 := Lib.hid h5
        clear h5 k5
        go_wp2
        go_roundw
        case rel => exact ⟨k + 1, by omega, by go_num, H5⟩
        case measure => simp [intOf]; omega
    · obtain rfl : k = 16 := by omega
      have HW16 : Hid (Wr 175 w wr B (Rx.vb (Rx.places K))) := Lib.hid (by
        have := HW.out
        rwa [List.take_of_length_le (by rw [Rx.places_length]; exact Nat.le_refl _)] at this)
      have hby := wr_bytes HW16.out (by have := Rx.vb_le (Rx.places K); rw [Rx.places_length] at this; omega)
      have HE : Hid (Rx.body (.inner (Rx.places K)) = (2, Rx.vb (Rx.places K))) := Lib.hid rfl
      obtain ⟨L, hL⟩ : ∃ L, L = Rx.vb (Rx.places K) := ⟨_, rfl⟩
      have B3 := Lib.hid HW16.out.bel
      rw [← hL] at hby HE
      clear hL HW16 HW
      go_wp2_with fail
      refine hby.mono ?_
      clear hby
      rintro e w4 ⟨a4, c4, rfl, o4, b4⟩
      have O4 := Lib.hid o4
      have B4 := Lib.hid (B3.out.trans (b4.mono B3.out.size))
      clear o4 b4
      go_wp2
      go_ret2
      rw [HE.out]
      exact ⟨a4, c4, rfl, ownsRow_base O4.out B3.out.size, B4.out⟩
theorem laid_any (w : World) (t : Rx.T) (p : List Nat) (b : Nat) (hA : At w t) (ho : Rx.ok t p) (hb : t.ptr = some b) : Calls Tryz.prog 43 #[.pointer (some ⟨b, 0, none⟩)] w (LaidAft w (Rx.body (Rx.rcOf t))) := by
  cases t with
  | nil => cases hb
  | leaf b' h n s =>
    obtain rfl : b' = b := by simpa [Rx.T.ptr] using hb
    exact laid_leaf w b' h n s hA ho.1
  | inner b' K s =>
    obtain rfl : b' = b := by simpa [Rx.T.ptr] using hb
    exact laid_inner w b' K s p hA.1 (fun i hi => ⟨hA.2 i hi, ho.2 i hi⟩)
end Go.Proofs.YthampbiabkfmoaaGreatDoor
/- node.save, Tree.Save: what they leave. -/
namespace Go.Proofs.YthampbiabkfmoaaGreatDoor
open Go.RowKit Go.Tap
set_option linter.unusedVariables false
set_option linter.unusedSimpArgs false
theorem At.keepM {S : Nat → Prop} {w w' : World} {t : Rx.T} (h : At w t) (hk : KeepM S w w') (hd : ∀ x, Rx.mem t x → ¬ S x) : At w' t := h.keep fun x hx => by
  obtain ⟨cs, hc⟩ := h.ty x hx
  exact hk x cs _ _ hc (by decide) (by decide) (by decide) (by decide) (hd x hx)
theorem nodeC_congr {k1 k2 : Nat → Value} {leaf : Bool} {h : List UInt8} {n s : Int} (e : ∀ i, i < 16 → k1 i = k2 i) : nodeC k1 leaf h n s = nodeC k2 leaf h n s := by
  have : kidL k1 = kidL k2 := List.map_congr_left (fun i hi => e i (List.mem_range.1 hi))
  simp only [nodeC, nodeL, this]
/-- Behind a save. -/
def SaveAft (w : World) (lo LB B room : Nat) (t : Rx.T) (I : Rx.Its) (e : Ending) (w' : World) : Prop :=
  e = .returned .nilIface ∧ ∃ t' I', At w' t' ∧ Rx.Saves t I t' I' ∧ LS w' lo LB B room I' ∧ Below lo w w' ∧ KeepM (Rx.mem t) w w'
def SaveOK (t : Rx.T) : Prop := ∀ (w : World) (p : List Nat) (lo LB B room : Nat) (I : Rx.Its), At w t → Rx.sep t → Rx.ok t p → Rx.sv (Rx.Rof I) t → LS w lo LB B room I → (∀ x, Rx.mem t x → lo ≤ x) → I.length + Rx.uns t ≤ 90000 → 169 * (I.length + Rx.uns t) ≤ room → room ≤ 16777216 →
  Calls Tryz.prog 26 #[ptrV t.ptr, .pointer (some ⟨LB, 0, none⟩)] w (SaveAft w lo LB B room t I)
set_option maxHeartbeats 400000 in
theorem save_nil : SaveOK .nil := by
  intro w p lo LB B room I hA hs ho hv hl hm hb hr h24
  have HL := Lib.hid hl
  show Calls Tryz.prog 26 #[.pointer none, .pointer (some ⟨LB, 0, none⟩)] w _
  clear hl hA hs ho hv hm hb hr h24
  go_enter Tryz.func26, Tryz.ntmps26
  go_wp2
  go_ret
  exact ⟨rfl, .nil, I, trivial, Rx.saves_none I, HL.out, Below.refl _ _, KeepM.refl _ _⟩
/-- Some kids of a node have been saved. -/
structure SvSt (w wr : World) (lo LB B room b : Nat) (C : Array Value) (K K' : Nat → Rx.T) (I J : Rx.Its) (k : Nat) : Prop where
  mid : Rx.Mid K K' I J k
  at_ : ∀ i, i < 16 → At wr (K' i)
  blk : wr.heap[b]? = some (.cells C 85 (0, 0))
  ls : LS wr lo LB B room J
  bel : Below lo w wr
  keep : KeepM (fun x => x = b ∨ ∃ i, i < 16 ∧ Rx.mem (K i) x) w wr
theorem SvSt.step {w wr w' : World} {lo LB B room b : Nat} {C : Array Value} {K K' : Nat → Rx.T} {I J : Rx.Its} {k : Nat} {e : Ending} (h : SvSt w wr lo LB B room b C K K' I J k) (hk : k < 16)
    (hs : ∀ i, i < 16 → ¬ Rx.mem (K i) b ∧ ∀ j, j < 16 → i ≠ j → ∀ x, Rx.mem (K i) x → ¬ Rx.mem (K j) x) (ha : SaveAft wr lo LB B room (K k) J e w') :
    e = .returned .nilIface ∧ ∃ K2 J2, SvSt w w' lo LB B room b C K K2 I J2 (k + 1) := by
  obtain ⟨rfl, t', J2, a1, a2, a3, a4, a5⟩ := ha
  refine ⟨rfl, Rx.upd K' k t', J2, ⟨h.mid.step hk a2, fun i hi => ?_, ?_, a3, h.bel.trans a4, h.keep.trans (a5.mono (fun x hx => .inr ⟨k, hk, hx⟩))⟩⟩
  · by_cases e : i = k
    · subst e; rw [Rx.upd_same]; exact a1
    · rw [Rx.upd_ne _ _ e]
      exact (h.at_ i hi).keepM a5 (fun x hx => (hs i hi).2 k hk e x ((h.mid.mem hi x).1 hx))
  · exact (a5 _ _ _ _ h.blk (by decide) (by decide) (by decide) (by decide) (hs k hk).1).trans h.blk
set_option maxHeartbeats 4000000 in
set_option maxRecDepth 100000 in
theorem save_node (t : Rx.T) (b : Nat) (lf : Bool) (hh : List UInt8) (n s : Int) (K : Nat → Rx.T) (hl : hh.length = 32) (ht : t.ptr = some b) (IH : ∀ i, i < 16 → SaveOK (K i)) (w : World) (p : List Nat) (lo LB B room : Nat) (I : Rx.Its)
    (hA : w.heap[b]? = some (.cells (nodeC (kidV K) lf hh n s) 85 (0, 0))) (hAt : At w t) (hs : t.saved = s) (hs0 : 0 ≤ s)
    (hK : ∀ i, i < 16 → At w (K i) ∧ Rx.sep (K i) ∧ Rx.ok (K i) (p ++ [i]) ∧ Rx.sv (Rx.Rof I) (K i) ∧ (∀ x, Rx.mem (K i) x → Rx.mem t x)) (hsep : ∀ i, i < 16 → ¬ Rx.mem (K i) b ∧ ∀ j, j < 16 → i ≠ j → ∀ x, Rx.mem (K i) x → ¬ Rx.mem (K j) x)
    (hv : Rx.sv (Rx.Rof I) t) (hL : LS w lo LB B room I) (hm : ∀ x, Rx.mem t x → lo ≤ x) (hu : s = 0 → Rx.uns t = 1 + ((List.range 16).map fun i => Rx.uns (K i)).sum) (hb : I.length + Rx.uns t ≤ 90000) (hr : 169 * (I.length + Rx.uns t) ≤ room) (h24 : room ≤ 16777216)
    (hfin : s = 0 → ∀ K' J, Rx.Mid K K' I J 16 → ∃ r : Nat × List UInt8, (∀ W, W.heap[b]? = some (.cells (nodeC (kidV K) lf hh n 0) 85 (0, 0)) → (∀ i, i < 16 → At W (K' i)) → Calls Tryz.prog 43 #[.pointer (some ⟨b, 0, none⟩)] W (LaidAft W r)) ∧ (r.1 = 1 ∨ r.1 = 2) ∧ r.2.length ≤ 160 ∧
      ∃ t', Rx.Saves t I t' (J ++ [r]) ∧ ∀ W, W.heap[b]? = some (.cells (nodeC (kidV K) lf hh n ((J.length : Int) + 1)) 85 (0, 0)) → (∀ i, i < 16 → At W (K' i)) → At W t') :
    Calls Tryz.prog 26 #[.pointer (some ⟨b, 0, none⟩), .pointer (some ⟨LB, 0, none⟩)] w (SaveAft w lo LB B room t I) := by
  obtain ⟨C, hC⟩ : ∃ C, C = nodeC (kidV K) lf hh n s := ⟨_, rfl⟩
  have c50 : w.cell? ⟨b, 50, none⟩ = some (.int .i64 s) := blk_cell (i := 50) hA (nodeC_s hl)
  have MT : Hid (Rx.mem t b) := Lib.hid (ptr_mem ht)
  have HLS := Lib.hid hL
  have HV := Lib.hid hv
  have HAT := Lib.hid hAt
  have HS := Lib.hid hs
  have HM := Lib.hid hm
  by_cases hz : s = 0
  · have hu0 := hu hz
    have hfin0 := hfin hz
    subst hz
    have d0 : decide ((0 : Int) < 0) = false := rfl
    have HU := Lib.hid hu0
    have HF := Lib.hid hfin0
    have HB := Lib.hid hb
    have HR := Lib.hid hr
    have H24 := Lib.hid h24
    have HSEP := Lib.hid hsep
    have HIH := Lib.hid IH
    have HK := Lib.hid hK
    have HCC := Lib.hid hC
    have HL := Lib.hid hl
    obtain ⟨KV, hKV⟩ : ∃ KV, KV = (kidL (kidV K)).toArray := ⟨_, rfl⟩
    have IX : Hid (∀ k : Nat, k < 16 → ∀ w, (Instr.index 83 (.agg KV) (.int .i64 (k : Int))).run Tryz.prog w = .ok (ptrV (K k).ptr) w) := Lib.hid (fun k hk w => by rw [hKV]; exact idx_kids (kidV K) k hk w)
    have SK : Hid ((Tryz.prog.info? 83).map (·.size) = some KV.size) := Lib.hid (by rw [hKV]; exact sz_kids _)
    have PK : Hid (Part w b 0 KV) := Lib.hid (by rw [hKV]; exact part_of hA nodeC_kids)
    have S0 : Hid (SvSt w w lo LB B room b C K K I I 0) := Lib.hid ⟨Rx.mid_zero K I (fun i hi => (hK i hi).2.2.2.1), fun i hi => (hK i hi).1, by rw [hC]; exact hA, hL, Below.refl _ _, KeepM.refl _ _⟩
    clear hKV hA hC hL hv hAt hs hm hu hfin hu0 hfin0 hb hr h24 hsep IH hK ht hs0 hl
    go_enter Tryz.func26, Tryz.ntmps26
    go_upto_region 4 with (refine wpL_load ?hw 83 (.tmp 22) rfl b 0 rfl KV _ PK.out Tryz.underlying83 rfl SK.out ?_; case hw => kernel_rfl)
    clear c50 PK
    go_loopw [24] (fun kv wr => ∃ (k : Nat) (K' : Nat → Rx.T) (J : Rx.Its), k ≤ 16 ∧ kv = .int .i64 (k : Int) ∧ Hid (SvSt w wr lo LB B room b C K K' I J k)) (fun kv _ => 16 - (intOf kv).toNat)
    case atStart => exact ⟨0, K, I, Nat.zero_le _, rfl, S0⟩
    case round =>
      obtain ⟨k, K', J, hk, rfl, HST⟩ := hrel
      clear S0
      by_cases hlt : k < 16
      · have d1 : decide ((k : Int) < 16) = true := decide_eq_true (by omega)
        have i0 : (0 : Int) ≤ (k : Int) := by omega
        have i1 : (k : Int) < 16 := by omega
        have hix := IX.out k hlt
        have hw := wrapi' ((k : Int) + 1) (by omega)
        have hln := HST.out.mid.len
        have hsu := Rx.sum_range_succ (fun i => Rx.uns (K i)) k
        have hle := Rx.sum_range_le (fun i => Rx.uns (K i)) (k + 1) 16 (by omega)
        have hge := HST.out.mid.ge k (Nat.le_refl _)
        have hB := HB.out
        have hR := HR.out
        have hU := HU.out
        have hc := HIH.out k hlt wr (p ++ [k]) lo LB B room J (by have := HST.out.at_ k hlt; rwa [hge] at this) (HK.out k hlt).2.1 (HK.out k hlt).2.2.1 (by have := HST.out.mid.sv k hlt; rwa [hge] at this) HST.out.ls (fun x hx => HM.out x ((HK.out k hlt).2.2.2.2 x hx)) (by omega) (by omega) H24.out
        clear hln hsu hle hge hB hR hU
        go_wp2_with fail
        refine hc.mono ?_
        clear hc hix
        intro e w5 hse
        obtain ⟨rfl, K2, J2, hs2⟩ := HST.out.step hlt HSEP.out hse
        have HS2 := Lib.hid hs2
        clear hse hs2
        go_wp2
        go_roundw
        case rel => exact ⟨k + 1, K2, J2, by omega, by go_num, HS2⟩
        case measure => simp [intOf]; omega
      · obtain rfl : k = 16 := by omega
        obtain ⟨r, hlaid, hr1, hr2, t', hsv, hat'⟩ := HF.out K' J HST.out.mid
        have hla := hlaid wr (by have := HST.out.blk; rwa [show C = _ from HCC.out] at this) HST.out.at_
        have HR1 := Lib.hid hr1
        have HR2 := Lib.hid hr2
        have HSV := Lib.hid hsv
        have HAT' := Lib.hid hat'
        have HLEN := Lib.hid (HST.out.mid.len)
        clear hlaid hr1 hr2 hsv hat'
        go_wp2_with fail
        refine hla.mono ?_
        clear hla
        rintro e w5 ⟨a5, c5, rfl, o5, b5⟩
        have L5 := HST.out.ls.below b5
        have hadd := ls_add L5 r.1 a5 r.2.length c5 r.2 (Keeps.of_own o5 rfl) HR1.out HR2.out (by have := HLEN.out; have := HB.out; have := HU.out; omega) (by have := HLEN.out; have := HR.out; have := HU.out; omega) H24.out
        have BLK5 : Hid (w5.heap[b]? = some (.cells C 85 (0, 0))) := Lib.hid ((b5.block _ (blk_lt HST.out.blk)).trans HST.out.blk)
        have AT5 : Hid (∀ i, i < 16 → At w5 (K' i)) := Lib.hid (fun i hi => (HST.out.at_ i hi).below b5)
        have HLO : Hid (lo ≤ wr.heap.size) := Lib.hid (by have := HST.out.ls.lb; omega)
        have B5 : Hid (Below lo w w5) := Lib.hid (HST.out.bel.trans (b5.mono HLO.out))
        have KP5 : Hid (KeepM (fun x => x = b ∨ ∃ i, i < 16 ∧ Rx.mem (K i) x) w w5) := Lib.hid (HST.out.keep.trans (KeepM.below _ b5))
        clear o5 b5 L5
        go_wp2_with fail
        refine hadd.mono ?_
        clear hadd
        rintro e w6 ⟨rfl, l6, b6, k6⟩
        have L6 := Lib.hid l6
        have hcn := ls_count l6
        rw [show (((J ++ [r]).length : Nat) : Int) = (J.length : Int) + 1 by simp] at hcn
        have BLK6 : Hid (w6.heap[b]? = some (.cells C 85 (0, 0))) := Lib.hid ((k6 _ _ _ _ BLK5.out (by decide) (by decide) (by decide) (by decide)).trans BLK5.out)
        have AT6 : Hid (∀ i, i < 16 → At w6 (K' i)) := Lib.hid (fun i hi => (AT5.out i hi).keepM (KeepM.ofG (fun _ => False) k6) (fun _ _ h => h))
        have B6 : Hid (Below lo w w6) := Lib.hid (B5.out.trans b6)
        have KP6 : Hid (KeepM (fun x => x = b ∨ ∃ i, i < 16 ∧ Rx.mem (K i) x) w w6) := Lib.hid (KP5.out.trans (KeepM.ofG _ k6))
        obtain ⟨z, hz⟩ : ∃ z : Int, z = (J.length : Int) + 1 := ⟨_, rfl⟩
        rw [← hz] at hcn HAT'
        have HC2 : C = nodeC (kidV K) lf hh n 0 := HCC.out
        have d50 : w6.cell? ⟨b, 50, none⟩ = some (.int .i64 0) := blk_cell (i := 50) BLK6.out (by rw [HC2]; exact nodeC_s HL.out)
        have f50 : w6.frozen? ⟨b, 50, none⟩ = false := blk_free BLK6.out 50
        have FIN : Hid (SaveAft w lo LB B room t I (.returned .nilIface) (w6.setCell ⟨b, 50, none⟩ (.int .i64 z))) := Lib.hid (by
          have hst : TStay (fun j => j = b) w6 (w6.setCell ⟨b, 50, none⟩ (.int .i64 z)) := (TStay.refl (fun j => j = b) w6).setCell (p := ⟨b, 50, none⟩) (.inl rfl) _
          have hblk : (w6.setCell ⟨b, 50, none⟩ (.int .i64 z)).heap[b]? = some (.cells (nodeC (kidV K) lf hh n z) 85 (0, 0)) := by
            rw [heap_setCell_same w6 b 50 _ _ _ BLK6.out, HC2, nodeC_setS HL.out]
          have hlob : lo ≤ b := HM.out b MT.out
          refine ⟨rfl, t', J ++ [r], HAT'.out _ hblk (fun i hi => (AT6.out i hi).stay hst (fun x hx e => by subst e; exact (HSEP.out i hi).1 ((HST.out.mid.mem hi x).1 hx))), HSV.out, L6.out.keep (KeepL.tstay hst (fun k e _ => by subst e; exact ⟨_, _, _, BLK6.out, by decide, by decide, by decide, by decide, by decide⟩)), Below.trans_stay B6.out hst (by have := HLS.out.lb; omega) (fun j hj e => by omega), ?_⟩
          · refine (KP6.out.trans ((KeepM.tstay hst).mono (fun x e => .inl e))).mono (fun x hx => ?_)
            rcases hx with rfl | ⟨i, hi, hx⟩
            · exact MT.out
            · exact (HK.out i hi).2.2.2.2 x hx)
        clear l6 b6 k6 hz HC2
        go_wp2_with fail
        refine hcn.mono ?_
        clear hcn
        rintro e w7 ⟨rfl, rfl⟩
        go_wp2
        go_ret
        exact FIN.out
  · have d0 : decide ((0 : Int) < s) = true := decide_eq_true (by omega)
    have FIN : Hid (SaveAft w lo LB B room t I (.returned .nilIface) w) := Lib.hid ⟨rfl, t, I, hAt, Rx.saves_old hv (by rw [hs]; exact hz), hL, Below.refl _ _, KeepM.refl _ _⟩
    clear hA hC hL hv hAt hs hm hu hfin hb hr h24 hsep IH hK ht hs0 hl hz
    go_enter Tryz.func26, Tryz.ntmps26
    go_wp2
    go_ret
    exact FIN.out
theorem mid_no {K' : Nat → Rx.T} {I J : Rx.Its} (h : Rx.Mid Rx.noKids K' I J 16) : J = I := by
  obtain ⟨E, rfl, h1⟩ := h.ext
  have : E = [] := by
    have e : ((List.range 16).map fun i => Rx.uns (Rx.noKids i)).sum = 0 := rfl
    rw [e] at h1
    exact List.eq_nil_of_length_eq_zero (by omega)
  rw [this, List.append_nil]
theorem save_all : ∀ t : Rx.T, SaveOK t
  | .nil => save_nil
  | .leaf b h n s => by
    intro w p lo LB B room I hA hs ho hv hl hm hb hr h24
    refine save_node (.leaf b h n s) b true h n s Rx.noKids ho.1 rfl (fun i _ => save_nil) w p lo LB B room I hA hA rfl hv.1 (fun i _ => ⟨trivial, trivial, trivial, trivial, fun x hx => hx.elim⟩) (fun i _ => ⟨id, fun j _ _ x hx => hx.elim⟩) hv hl hm (fun e => ?_) hb hr h24 (fun e K' J hmid => ?_)
    · subst e
      have : ((List.range 16).map fun i => Rx.uns (Rx.noKids i)).sum = 0 := rfl
      rw [this]; rfl
    · subst e
      obtain rfl := mid_no hmid
      refine ⟨Rx.body (.leaf h n), fun W hW _ => laid_leaf W b h n 0 hW ho.1, .inl rfl, ?_, _, Rx.saves_leaf b h n J ho.1, fun W hW _ => hW⟩
      have := Rx.var_le (Oct.u64 n)
      have := ho.1
      simp only [Rx.body, List.length_append]; omega
  | .inner b K s => by
    intro w p lo LB B room I hA hs ho hv hl hm hb hr h24
    refine save_node (.inner b K s) b false Wi.z32 0 s K z32_len rfl (fun i _ => save_all (K i)) w p lo LB B room I hA.1 hA rfl hv.1.1 (fun i hi => ⟨hA.2 i hi, (hs.1 i hi).2, ho.2 i hi, hv.2 i hi, fun x hx => .inr ⟨i, hi, hx⟩⟩) (fun i hi => ⟨(hs.1 i hi).1, fun j hj hij x h1 h2 => hs.2 i j hi hj hij x h1 h2⟩) hv hl hm (fun e => ?_) hb hr h24 (fun e K' J hmid => ?_)
    · subst e; rfl
    · subst e
      have hc : ∀ i, i < 16 → kidV K i = kidV K' i := fun i hi => by unfold kidV; rw [hmid.ptr hi]
      refine ⟨Rx.body (.inner (Rx.places K')), fun W hW hat => laid_inner W b K' 0 p (by rw [← nodeC_congr hc]; exact hW) (fun i hi => ⟨hat i hi, Rx.er_ok (hmid.lt i hi hi).1 (ho.2 i hi)⟩), .inr rfl, ?_, _, hmid.done b, fun W hW hat => ⟨by rw [← nodeC_congr hc]; exact hW, hat⟩⟩
      have := Rx.vb_le (Rx.places K')
      rw [Rx.places_length] at this
      exact this
end Go.Proofs.YthampbiabkfmoaaGreatDoor
/- loading.leaf: a leaf read back. -/
namespace Go.Proofs.YthampbiabkfmoaaGreatDoor
open Go.RowKit Go.Tap
set_option linter.unusedVariables false
set_option linter.unusedSimpArgs false
/-- The way to a node, as digits of a text. -/
def Rx.way (p : List Nat) : List UInt8 := p.map Wi.hexc
theorem Rx.way_len (p : List Nat) : (Rx.way p).length = p.length := by simp [Rx.way]
theorem Rx.way_beg (h : List UInt8) (p : List Nat) (hl : h.length = 32) (hp : Rx.pre h p) (h64 : p.length ≤ 64) : Wi.beg h (Rx.way p) = true := by
  unfold Wi.beg
  rw [Rx.way_len, decide_eq_true h64, Bool.true_and, decide_eq_true_eq]
  apply List.ext_getElem?
  intro j
  by_cases hj : j < p.length
  · rw [List.getElem?_take_of_lt hj, hexT_get h j (by omega)]
    have e : p[j]? = some p[j] := List.getElem?_eq_getElem hj
    rw [Rx.way, List.getElem?_map, e, hp j _ e]; rfl
  · rw [List.getElem?_eq_none (by rw [List.length_take]; omega), List.getElem?_eq_none (by rw [Rx.way_len]; omega)]
theorem bt_leaf0 : Tryz.prog.built 85 [(1, .bool true), (2, .agg (hashC Wi.z32))] = some (nodeC nilK true Wi.z32 0 0) := by kernel_rfl
theorem step_copy_node {ops : Array Oper} {o : Oper} {a : Act} {Y : World} {K : Act → World → Prop} {Q : Exit → Act → World → Prop} {E : Prop} (hgd : o.guard = none) (d s : Operand)
    (ho : o.op = .call { callee := .builtin .copy, args := #[d, s], argTypes := #[66, 66] }) (g : Nat) (x : Option Addr) (c : Nat) (q : List UInt8) (hd : a.eval d = .slice (some ⟨g, 17, none⟩) 32 32) (hs : a.eval s = .slice x q.length c)
    (hg : Y.heap[g]? = some (.cells (nodeC nilK true Wi.z32 0 0) 85 (0, 0))) (hq : q.length = 32) (hr : Rds Y x q.length q)
    (h : ∀ w', w'.heap[g]? = some (.cells (nodeC nilK true q 0 0) 85 (0, 0)) → Below g Y w' → K (a.put o.dst (goInt q.length)) w') :
    if Region.wanted o (yielded ops a.tmps) = true then Oper.wp Tryz.prog o a Y K Q else E := by
  refine step_copy_splice hgd d s 66 66 ho 5 Tryz.underlying66 sz_u8 (some ⟨g, 17, none⟩) x 32 32 q.length c hd hs g 17 (nodeC nilK true Wi.z32 0 0).toList 85 (by rw [Array.toArray_toList]; exact hg) (bv q) ?_ ?_ ?_ (bv_one _) g Y (Below.refl _ _) (Nat.le_refl _) ?_
  · rw [bv_length, hq]; rfl
  · intro h0
    obtain ⟨b, o, e, hc⟩ := hr.2 (by rwa [bv_length] at h0)
    refine ⟨rfl, _, e, fun j v hj => ?_⟩
    rw [bv_getElem?] at hj
    obtain ⟨y, hy, rfl⟩ := Option.map_eq_some_iff.1 hj
    rw [Addr.add_lit]; exact hc j y hy
  · rw [bv_length, hq]; decide
  · intro w' h1 h2
    rw [bv_length]
    refine h w' ?_ h2
    have := h1.out
    rwa [show (splice (nodeC nilK true Wi.z32 0 0).toList 17 (bv q)).toArray = nodeC nilK true q 0 0 from by
      simp only [nodeC, nodeL]
      rw [← List.append_assoc (kidL nilK), splice_mid (kidL nilK ++ [Value.bool true]) (bv Wi.z32) (bv q) _ 17 (by simp [kidL_length]) (by rw [bv_length, bv_length, hq]; rfl), List.append_assoc]] at this
theorem nodeC_setN {kids : Nat → Value} {leaf : Bool} {h : List UInt8} {n s : Int} (hl : h.length = 32) (z : Int) : (nodeC kids leaf h n s).setIfInBounds 49 (.int .i64 z) = nodeC kids leaf h z s := by
  apply Array.ext'
  rw [Array.toList_setIfInBounds]
  simp only [nodeC, nodeL]
  rw [List.set_append_right _ _ (by rw [kidL_length]; omega), kidL_length, List.set_append_right _ _ (by simp), List.set_append_right _ _ (by simp [bv_length, hl])]
  simp [bv_length, hl]
/-- A loading. -/
def Lding (w : World) (OB LB : Nat) (c : Nat) : Prop := w.heap[OB]? = some (.cells #[.pointer (some ⟨LB, 0, none⟩), .int .i64 (c : Int)] 88 (0, 0))
def LeafAft (w : World) (OB LB c : Nat) (h : List UInt8) (n : Int) (e : Ending) (w' : World) : Prop :=
  ∃ X, e = .returned (.tuple #[.pointer (some ⟨X, 0, none⟩), .nilIface]) ∧ w.heap.size ≤ X ∧ w'.heap[X]? = some (.cells (nodeC nilK true h n 0) 85 (0, 0)) ∧ Lding w' OB LB (c + 1) ∧ TStay (fun k => k = OB) w w'
set_option maxHeartbeats 4000000 in
set_option maxRecDepth 100000 in
theorem ldLeaf_any (w : World) (OB LB c : Nat) (hO : Lding w OB LB c) (hc : c + 1 ≤ 2000) (h : List UInt8) (n : Int) (p : List Nat) (hl : h.length = 32) (hp : Rx.pre h p) (h64 : p.length ≤ 64) (hn : 0 ≤ n ∧ n ≤ 9223372036854775807) (a : Option Addr) (cp : Nat) (L : List UInt8) (hL : L = h ++ Oct.var (Oct.u64 n)) (hr : Rds w a L.length L) (hz : a = none → cp = 0) :
    Calls Tryz.prog 46 #[.pointer (some ⟨OB, 0, none⟩), .slice a L.length cp, .string (str (Rx.way p))] w (LeafAft w OB LB c h n) := by
  have hll : L.length ≤ 42 := by rw [hL, List.length_append]; have := Rx.var_le (Oct.u64 n); omega
  have hnr := newReader_q w a L.length cp L hr hz (by omega)
  have HO := Lib.hid hO
  have OLT : Hid (OB < w.heap.size) := Lib.hid (blk_lt hO)
  obtain ⟨V, hV⟩ : ∃ V, V = Oct.var (Oct.u64 n) := ⟨_, rfl⟩
  have RR : Hid (Oct.rdRaw 32 L false = (h, V, false)) := Lib.hid (by
    rw [hL, ← hV]
    unfold Oct.rdRaw
    rw [if_neg (by simp [hl]; omega)]
    rw [show ((32 : Int)).toNat = 32 from rfl, List.take_left' hl, List.drop_left' hl])
  have RV : Hid (Oct.rdVar V false = (n, [], false)) := Lib.hid (by
    have := Rx.rdVar_var n hn.1 hn.2 []
    rwa [List.append_nil, ← hV] at this)
  have HW := Lib.hid (Rx.way_beg h p hl hp h64)
  have HWL : Hid ((Rx.way p).length ≤ 64) := Lib.hid (by rw [Rx.way_len]; exact h64)
  have HL := Lib.hid hl
  have HN := Lib.hid hn
  have HC := Lib.hid hc
  obtain ⟨WY, hWY⟩ : ∃ WY, WY = Rx.way p := ⟨_, rfl⟩
  rw [← hWY] at HW HWL ⊢
  have hsl := slice_arr
  obtain ⟨Z, hZ⟩ : ∃ Z, Z = hashC Wi.z32 := ⟨_, rfl⟩
  obtain ⟨ZN, hZN⟩ : ∃ ZN, ZN = nodeC nilK true Wi.z32 0 0 := ⟨_, rfl⟩
  have BTZ : Hid (Tryz.prog.built 42 [] = some Z) := Lib.hid (by rw [hZ]; exact bt_hash0)
  have BTN : Hid (Tryz.prog.built 85 [(1, .bool true), (2, .agg Z)] = some ZN) := Lib.hid (by rw [hZ, hZN]; exact bt_leaf0)
  have HZN := Lib.hid hZN
  clear hO hr hL hll hV hl hn hp h64 hc hWY hZ hZN
  go_enter Tryz.func46, Tryz.ntmps46
  go_wp2_with fail
  refine hnr.mono ?_
  clear hnr
  rintro e w1 ⟨RB, D, rfl, hRB, hD, hRd, b1⟩
  obtain ⟨X, hX⟩ : ∃ X, X = w1.heap.size := ⟨_, rfl⟩
  obtain ⟨W2, hW2⟩ : ∃ W2, W2 = w1.alloc (.cells ZN 85) := ⟨_, rfl⟩
  have b2 : Below w1.heap.size w1 W2 := by rw [hW2]; exact (Below.refl _ _).alloc (Nat.le_refl _) _
  have RD2 := hRd.below b2
  have RLT : Hid (w.heap.size ≤ RB ∧ w.heap.size ≤ D ∧ RB < X ∧ D < X ∧ w.heap.size ≤ X) := Lib.hid (by have := hRd.lt; have := hRd.dlt; rw [hX]; exact ⟨hRB, hD, by omega, by omega, by omega⟩)
  have XB : Hid (W2.heap[X]? = some (.cells ZN 85 (0, 0))) := Lib.hid (by rw [hW2, hX]; exact heap_alloc_new _ _)
  have O2 : Hid (Lding W2 OB LB c) := Lib.hid ((b2.block _ (by have := OLT.out; have := b1.size; omega)).trans ((b1.block _ OLT.out).trans HO.out))
  have ST2 : Hid (TStay (fun k => k = OB) w W2) := Lib.hid (TStay.of_below (b1.trans (b2.mono b1.size)) _)
  have hraw : Calls Tryz.prog 71 #[.pointer (some ⟨RB, 0, none⟩), .int .i64 32] W2.drew (RdRaw 156 W2.drew RB D (h, V, false)) := by
    have := rd_raw (w := W2.drew) (RD2.below ⟨rfl, rfl, rfl, Nat.le_refl _, fun _ _ => rfl⟩) 32 (by omega)
    rw [show Oct.rdRaw 32 L false = _ from RR.out] at this
    exact this
  have HRAW := Lib.hid hraw
  clear hraw RD2 hRd hRB hD b1 b2
  go_upto_region 3 with (first | (refine wpL_mk (by kernel_rfl) 42 #[] rfl [] (by rfl) Z BTZ.out ?_) | (refine wpL_mk (by kernel_rfl) 85 #[(1, .const (.bool true)), (2, .tmp 12)] rfl [(1, .bool true), (2, .agg Z)] (by rfl) ZN BTN.out ?_))
  rw [← hW2, ← hX]
  clear hW2 hX
  go_region_held3 (fun w' => True) (trivial) (first | (go_at_call 71; refine HRAW.out.mono ?_; rintro e Y ⟨⟨x, cx, rfl, OY⟩, RY, SY⟩; replace OY := Lib.hid OY; replace RY := Lib.hid RY; replace SY := Lib.hid SY) | (refine step_copy_node (by rfl) (.tmp 18) (.tmp 20) (by rfl) X x cx h (by rfl) (by rfl) ((SY.out.block X (blk_lt XB.out) (by have := RLT.out; omega)).trans (by rw [← show ZN = _ from HZN.out]; exact XB.out)) HL.out (Rds.of_own OY.out rfl) ?_; intro w4 T4 B4; replace B4 := Lib.hid B4; replace T4 := Lib.hid T4))
  have SY' : Hid (TStay (fun k => k = RB) W2 Y) := Lib.hid ⟨SY.out.os, SY.out.tape, SY.out.output, SY.out.size, SY.out.block⟩
  have S4 : Hid (TStay (fun k => k = OB) w w4) := Lib.hid ((ST2.out.trans SY'.out (fun i hi e => by have := RLT.out; omega)).trans (TStay.mono (S := fun k => X ≤ k) ⟨B4.out.os, B4.out.tape, B4.out.output, B4.out.size, fun k _ hn => B4.out.block k (by omega)⟩ (fun i _ h => h)) (fun i hi e => by have := RLT.out; omega))
  have O4 : Hid (Lding w4 OB LB c) := Lib.hid ((B4.out.block _ (by have := RLT.out; have := OLT.out; omega)).trans ((SY'.out.block _ (blk_lt O2.out) (by have := RLT.out; have := OLT.out; omega)).trans O2.out))
  have R4 : Rd 156 w4 RB D V false := RY.out.stay (S := fun k => X ≤ k) ⟨B4.out.os, B4.out.tape, B4.out.output, B4.out.size, fun k _ hn => B4.out.block k (by omega)⟩ (by have := RLT.out; omega) (by have := RLT.out; omega)
  have hvar := rd_var R4
  rw [show Oct.rdVar V false = _ from RV.out] at hvar
  clear HRAW RY OY SY XB O2 ST2 R4
  go_wp2_with fail
  refine hvar.mono ?_
  clear hvar
  rintro e w5 ⟨rfl, _, s5⟩
  have T5 : Hid (w5.heap[X]? = some (.cells (nodeC nilK true h 0 0) 85 (0, 0))) := Lib.hid ((s5.block X (blk_lt T4.out) (by have := RLT.out; omega)).trans T4.out)
  have O5 : Hid (Lding w5 OB LB c) := Lib.hid ((s5.block _ (blk_lt O4.out) (by have := RLT.out; have := OLT.out; omega)).trans O4.out)
  have S5 : Hid (TStay (fun k => k = OB) w w5) := Lib.hid (S4.out.trans s5 (fun i hi e => by have := RLT.out; omega))
  clear s5
  obtain ⟨w6, hw6⟩ : ∃ w6, w6 = w5.setCell ⟨X, 49, none⟩ (.int .i64 n) := ⟨_, rfl⟩
  have c49 : w5.cell? ⟨X, 49, none⟩ = some (.int .i64 0) := blk_cell (i := 49) T5.out (nodeC_n HL.out)
  have f49 : w5.frozen? ⟨X, 49, none⟩ = false := blk_free T5.out 49
  have st6 : TStay (fun j => j = X) w5 w6 := by rw [hw6]; exact (TStay.refl (fun j => j = X) w5).setCell (p := ⟨X, 49, none⟩) (.inl rfl) _
  have T6 : Hid (w6.heap[X]? = some (.cells (nodeC nilK true h n 0) 85 (0, 0))) := Lib.hid (by rw [hw6, heap_setCell_same w5 X 49 _ _ _ T5.out, nodeC_setN HL.out])
  have O6 : Hid (Lding w6 OB LB c) := Lib.hid ((st6.block _ (blk_lt O5.out) (by have := RLT.out; have := OLT.out; omega)).trans O5.out)
  have S6 : Hid (TStay (fun k => k = OB) w w6) := Lib.hid (S5.out.trans st6 (fun i hi e => by have := RLT.out; omega))
  clear st6
  go_upto_region 5 with (fail)
  rw [← hw6]
  clear hw6 c49 f49
  obtain ⟨w7, hw7⟩ : ∃ w7, w7 = w6.setCell ⟨OB, 1, none⟩ (.int .i64 ((c : Int) + 1)) := ⟨_, rfl⟩
  have o61 : w6.cell? ⟨OB, 1, none⟩ = some (.int .i64 (c : Int)) := blk_cell (i := 1) O6.out rfl
  have fo61 : w6.frozen? ⟨OB, 1, none⟩ = false := blk_free O6.out 1
  have hwc : IntKind.i64.wrap ((c : Int) + 1) = (c : Int) + 1 := wrapi' _ (by have := HC.out; omega)
  have st7 : TStay (fun j => j = OB) w6 w7 := by rw [hw7]; exact (TStay.refl (fun j => j = OB) w6).setCell (p := ⟨OB, 1, none⟩) (.inl rfl) _
  have O7 : Hid (Lding w7 OB LB (c + 1)) := Lib.hid (by rw [hw7]; exact heap_setCell_same w6 OB 1 _ _ _ O6.out)
  have T7 : Hid (w7.heap[X]? = some (.cells (nodeC nilK true h n 0) 85 (0, 0))) := Lib.hid ((st7.block X (blk_lt T6.out) (by have := RLT.out; have := OLT.out; omega)).trans T6.out)
  have S7 : Hid (TStay (fun k => k = OB) w w7) := Lib.hid (S6.out.trans st7 (fun i hi e => e))
  clear st7
  go_upto_region 6 with (fail)
  rw [← hw7]
  clear hw7 o61 fo61 hwc
  have o71 : w7.cell? ⟨OB, 1, none⟩ = some (.int .i64 ((c + 1 : Nat) : Int)) := blk_cell (i := 1) O7.out rfl
  have c749 : w7.cell? ⟨X, 49, none⟩ = some (.int .i64 n) := blk_cell (i := 49) T7.out (nodeC_n HL.out)
  have d0 : decide ((2000 : Int) < ((c + 1 : Nat) : Int)) = false := decide_eq_false (by have := HC.out; omega)
  have d1 : decide (n < 0) = false := decide_eq_false (by have := HN.out; omega)
  have P17 : Hid (Part w7 X 17 (hashC h)) := Lib.hid (part_of T7.out (nodeC_hash HL.out))
  have hbg := begins_any w7 h WY HL.out (by have := HWL.out; omega)
  rw [HW.out] at hbg
  have LX : Hid (w.heap.size ≤ X) := Lib.hid (by have := RLT.out; omega)
  obtain ⟨z, hz⟩ : ∃ z : Int, z = ((c + 1 : Nat) : Int) := ⟨_, rfl⟩
  rw [← hz] at o71 d0
  clear hz
  go_wp2_with (refine wpL_load ?hw 42 (.tmp 49) rfl X 17 rfl (hashC h) _ P17.out Tryz.underlying42 rfl (by rw [hashC_size _ HL.out]; exact sz_hash) ?_; case hw => kernel_rfl)
  refine hbg.mono ?_
  clear hbg
  rintro e w8 ⟨rfl, b8⟩
  have T8 : Hid (w8.heap[X]? = some (.cells (nodeC nilK true h n 0) 85 (0, 0))) := Lib.hid ((b8.block _ (blk_lt T7.out)).trans T7.out)
  have O8 : Hid (Lding w8 OB LB (c + 1)) := Lib.hid ((b8.block _ (blk_lt O7.out)).trans O7.out)
  have S8 : Hid (TStay (fun k => k = OB) w w8) := Lib.hid (S7.out.trans (TStay.of_below b8 (fun k => k = OB)) (fun i hi e => e))
  clear b8
  go_wp2
  go_ret2
  exact ⟨X, rfl, LX.out, T8.out, O8.out, S8.out⟩
end Go.Proofs.YthampbiabkfmoaaGreatDoor
/- loading.inner, loading.node, Load: a tree read back. -/
namespace Go.Proofs.YthampbiabkfmoaaGreatDoor
open Go.RowKit Go.Tap
set_option linter.unusedVariables false
set_option linter.unusedSimpArgs false
def LoadAft (w : World) (OB LB c : Nat) (t : Rx.T) (e : Ending) (w' : World) : Prop :=
  ∃ t', e = .returned (.tuple #[ptrV t'.ptr, .nilIface]) ∧ At w' t' ∧ Rx.er false t' = Rx.er false t ∧ Rx.sep t' ∧ (∀ x, Rx.mem t' x → w.heap.size ≤ x) ∧ Lding w' OB LB (c + Rx.cnt t) ∧ TStay (fun k => k = OB) w w'
def LoadOK (t : Rx.T) : Prop := ∀ (w : World) (p : List Nat) (lo LB B room : Nat) (I : Rx.Its) (OB c : Nat), LS w lo LB B room I → I.length ≤ 90000 → Lding w OB LB c → t.saved ≠ 0 → Rx.sv (Rx.Rof I) t → Rx.ok t p → Rx.big t → p.length ≤ 64 → c + Rx.cnt t ≤ 2000 →
  Calls Tryz.prog 27 #[.pointer (some ⟨OB, 0, none⟩), .int .i64 t.saved, .string (str (Rx.way p))] w (LoadAft w OB LB c t)
theorem LS.ob {w w' : World} {lo LB B room OB c : Nat} {I : Rx.Its} (h : LS w lo LB B room I) (ho : Lding w OB LB c) (hs : TStay (fun k => k = OB) w w') : LS w' lo LB B room I :=
  h.keep (KeepL.tstay hs (fun k e _ => by subst e; exact ⟨_, _, _, ho, by decide, by decide, by decide, by decide, by decide⟩))
def Rx.hk (k : Nat) : List UInt8 := UInt8.ofNat k :: List.replicate 31 0
theorem bt_hk (k : Nat) (hk : k < 16) : Tryz.prog.built 42 [(0, .int .u8 (k : Int))] = some (hashC (Rx.hk k)) := by
  have : k = 0 ∨ k = 1 ∨ k = 2 ∨ k = 3 ∨ k = 4 ∨ k = 5 ∨ k = 6 ∨ k = 7 ∨ k = 8 ∨ k = 9 ∨ k = 10 ∨ k = 11 ∨ k = 12 ∨ k = 13 ∨ k = 14 ∨ k = 15 := by omega
  rcases this with rfl | rfl | rfl | rfl | rfl | rfl | rfl | rfl | rfl | rfl | rfl | rfl | rfl | rfl | rfl | rfl <;> (show _ = _; kernel_rfl)
theorem sl_hk (k : Nat) (hk : k < 16) (w : World) : (Instr.sliceAt 9 (.string (str (Wi.hexT (Rx.hk k)))) (some (.int .i64 1)) (some (.int .i64 2)) none).run Tryz.prog w = .ok (.string (str [Wi.hexc k])) w := by
  have : k = 0 ∨ k = 1 ∨ k = 2 ∨ k = 3 ∨ k = 4 ∨ k = 5 ∨ k = 6 ∨ k = 7 ∨ k = 8 ∨ k = 9 ∨ k = 10 ∨ k = 11 ∨ k = 12 ∨ k = 13 ∨ k = 14 ∨ k = 15 := by omega
  rcases this with rfl | rfl | rfl | rfl | rfl | rfl | rfl | rfl | rfl | rfl | rfl | rfl | rfl | rfl | rfl | rfl <;> (show _ = _; kernel_rfl)
theorem wpL_pure {ops : Array Oper} {rest : List Oper} {o : Oper} {a : Act} {w : World} {Q : Exit → Act → World → Prop} (hw : Region.wanted o (yielded ops a.tmps) = true) (v : Value) (hr : (execOp a.eval o).run Tryz.prog w = .ok (.value v) w) (h : wpList Tryz.prog ops Q rest (a.put o.dst v) w) : wpList Tryz.prog ops Q (o :: rest) a w :=
  wpList_wants hw fun K hK => wp_does v w hr (hK _ _ h)
theorem ex_slice {o : Oper} {a : Act} {w : World} (T : TypeId) (x lo hi : Operand) (ho : o.op = .slice T x (some lo) (some hi) none) (X L H v : Value) (hx : a.eval x = X) (hl : a.eval lo = L) (hh : a.eval hi = H) (hr : (Instr.sliceAt T X (some L) (some H) none).run Tryz.prog w = .ok v w) : (execOp a.eval o).run Tryz.prog w = .ok (.value v) w := by
  unfold execOp; simp only [ho, hx, hl, hh, Option.map_some, Option.map_none, Sem.run_bind, hr, Result.andThen_ok, Sem.run_pure]
theorem ex_add {o : Oper} {a : Act} {w : World} (T T' : TypeId) (x y : Operand) (ho : o.op = .binOp .add T x y T') (X Y v : Value) (hx : a.eval x = X) (hy : a.eval y = Y) (hr : (binOp .add T X Y).run Tryz.prog w = .ok v w) : (execOp a.eval o).run Tryz.prog w = .ok (.value v) w := by
  unfold execOp; simp [ho, hx, hy, eqGuard, hr]
theorem bt_node00 : Tryz.prog.built 85 [] = some (nodeC (kidV Rx.noKids) false Wi.z32 0 0) := bt_node0
/-- Some kids have been read. -/
structure InSt (w wr : World) (OB LB c RB D X : Nat) (K K' : Nat → Rx.T) (k : Nat) : Prop where
  blk : wr.heap[X]? = some (.cells (nodeC (kidV K') false Wi.z32 0 0) 85 (0, 0))
  at_ : ∀ i, i < 16 → At wr (K' i)
  er : ∀ i, i < k → i < 16 → Rx.er false (K' i) = Rx.er false (K i)
  ge : ∀ i, k ≤ i → K' i = .nil
  mem : ∀ i, i < 16 → ∀ x, Rx.mem (K' i) x → X < x
  sep : ∀ i, i < 16 → Rx.sep (K' i) ∧ ∀ j, j < 16 → i ≠ j → ∀ x, Rx.mem (K' i) x → ¬ Rx.mem (K' j) x
  rd : Rd 156 wr RB D (Rx.vb ((Rx.places K).drop k)) false
  ob : Lding wr OB LB (c + ((List.range k).map fun i => Rx.cnt (K i)).sum)
  st : TStay (fun k => k = OB) w wr
/-- The place of the next kid has been read. -/
structure InSu (w wr : World) (OB LB c RB D X : Nat) (K K' : Nat → Rx.T) (k : Nat) : Prop where
  blk : wr.heap[X]? = some (.cells (nodeC (kidV K') false Wi.z32 0 0) 85 (0, 0))
  at_ : ∀ i, i < 16 → At wr (K' i)
  er : ∀ i, i < k → i < 16 → Rx.er false (K' i) = Rx.er false (K i)
  ge : ∀ i, k ≤ i → K' i = .nil
  mem : ∀ i, i < 16 → ∀ x, Rx.mem (K' i) x → X < x
  sep : ∀ i, i < 16 → Rx.sep (K' i) ∧ ∀ j, j < 16 → i ≠ j → ∀ x, Rx.mem (K' i) x → ¬ Rx.mem (K' j) x
  rd : Rd 156 wr RB D (Rx.vb ((Rx.places K).drop (k + 1))) false
  ob : Lding wr OB LB (c + ((List.range k).map fun i => Rx.cnt (K i)).sum)
  st : TStay (fun k => k = OB) w wr
theorem InSt.read {w wr w' : World} {OB LB c RB D X : Nat} {K K' : Nat → Rx.T} {k : Nat} (h : InSt w wr OB LB c RB D X K K' k) (hl : OB < w.heap.size ∧ w.heap.size ≤ RB ∧ w.heap.size ≤ D ∧ RB < X ∧ D < X) (hr : Rd 156 w' RB D (Rx.vb ((Rx.places K).drop (k + 1))) false) (hs : TStay (fun k => k = RB) wr w') : InSu w w' OB LB c RB D X K K' k :=
  ⟨(hs.block _ (blk_lt h.blk) (by omega)).trans h.blk, fun i hi => (h.at_ i hi).stay hs (fun x hx e => by have := h.mem i hi x hx; omega), h.er, h.ge, h.mem, h.sep, hr, (hs.block _ (blk_lt h.ob) (by omega)).trans h.ob, h.st.trans hs (fun i hi e => by omega)⟩
theorem InSu.below {w wr w' : World} {OB LB c RB D X : Nat} {K K' : Nat → Rx.T} {k : Nat} (h : InSu w wr OB LB c RB D X K K' k) (hb : Below wr.heap.size wr w') : InSu w w' OB LB c RB D X K K' k :=
  ⟨(hb.block _ (blk_lt h.blk)).trans h.blk, fun i hi => (h.at_ i hi).below hb, h.er, h.ge, h.mem, h.sep, h.rd.below hb, (hb.block _ (blk_lt h.ob)).trans h.ob, h.st.trans (TStay.of_below hb (fun k => k = OB)) (fun _ _ e => e)⟩
theorem InSu.skip {w wr : World} {OB LB c RB D X : Nat} {K K' : Nat → Rx.T} {k : Nat} (h : InSu w wr OB LB c RB D X K K' k) (hk : K k = .nil) : InSt w wr OB LB c RB D X K K' (k + 1) :=
  ⟨h.blk, h.at_, fun i hi h16 => by
    by_cases e : i = k
    · subst e; rw [h.ge i (Nat.le_refl _), hk]
    · exact h.er i (by omega) h16, fun i hi => h.ge i (by omega), h.mem, h.sep, h.rd, by rw [Rx.sum_range_succ, hk]; exact h.ob, h.st⟩
theorem InSu.load {w wr w' : World} {OB LB c RB D X : Nat} {K K' : Nat → Rx.T} {k : Nat} {e : Ending} (h : InSu w wr OB LB c RB D X K K' k) (hk : k < 16) (hl : OB < w.heap.size ∧ w.heap.size ≤ RB ∧ w.heap.size ≤ D ∧ RB < X ∧ D < X) (ha : LoadAft wr OB LB (c + ((List.range k).map fun i => Rx.cnt (K i)).sum) (K k) e w') (hn : (K k).ptr ≠ none) :
    ∃ b, e = .returned (.tuple #[.pointer (some ⟨b, 0, none⟩), .nilIface]) ∧ w'.heap[X]? = some (.cells (nodeC (kidV K') false Wi.z32 0 0) 85 (0, 0)) ∧ ∃ K2, InSt w (w'.setCell ⟨X, k, none⟩ (.pointer (some ⟨b, 0, none⟩))) OB LB c RB D X K K2 (k + 1) := by
  obtain ⟨t', rfl, a1, a2, a3, a4, a5, a6⟩ := ha
  obtain ⟨b, hb⟩ : ∃ b, t'.ptr = some b := by
    rcases hh : t'.ptr with _ | b
    · exact absurd ((Rx.er_ptr a2).1 hh) hn
    · exact ⟨b, rfl⟩
  have hX := blk_lt h.blk
  have hblk : w'.heap[X]? = some (.cells (nodeC (kidV K') false Wi.z32 0 0) 85 (0, 0)) := (a6.block _ hX (by omega)).trans h.blk
  have st : TStay (fun j => j = X) w' (w'.setCell ⟨X, k, none⟩ (.pointer (some ⟨b, 0, none⟩))) := (TStay.refl (fun j => j = X) w').setCell (p := ⟨X, k, none⟩) (.inl rfl) _
  have hlt : ∀ i, i < 16 → ∀ x, Rx.mem (K' i) x → x < wr.heap.size := fun i hi x hx => (h.at_ i hi).lt x hx
  refine ⟨b, by rw [hb]; rfl, hblk, Rx.upd K' k t', ⟨?_, fun i hi => ?_, fun i hi h16 => ?_, fun i hi => ?_, fun i hi x hx => ?_, fun i hi => ⟨?_, fun j hj hij x h1 h2 => ?_⟩, ?_, ?_, ?_⟩⟩
  · rw [heap_setCell_same w' X k _ _ _ hblk, nodeC_setKid hk]
    congr 2
    congr 1
    funext j
    unfold kidV Rx.upd
    split
    · rw [hb]; rfl
    · rfl
  · by_cases e : i = k
    · subst e; rw [Rx.upd_same]; exact a1.stay st (fun x hx e => by have := a4 x hx; omega)
    · rw [Rx.upd_ne _ _ e]
      exact ((h.at_ i hi).stay a6 (fun x hx e => by have := h.mem i hi x hx; omega)).stay st (fun x hx e => by have := h.mem i hi x hx; omega)
  · by_cases e : i = k
    · subst e; rw [Rx.upd_same]; exact a2
    · rw [Rx.upd_ne _ _ e]; exact h.er i (by omega) h16
  · rw [Rx.upd_ne _ _ (by omega)]; exact h.ge i (by omega)
  · by_cases e : i = k
    · subst e; rw [Rx.upd_same] at hx; have := a4 x hx; omega
    · rw [Rx.upd_ne _ _ e] at hx; exact h.mem i hi x hx
  · by_cases e : i = k
    · subst e; rw [Rx.upd_same]; exact a3
    · rw [Rx.upd_ne _ _ e]; exact (h.sep i hi).1
  · by_cases e : i = k
    · subst e
      rw [Rx.upd_same] at h1
      rw [Rx.upd_ne _ _ (Ne.symm hij)] at h2
      have := a4 x h1
      have := hlt j hj x h2
      omega
    · rw [Rx.upd_ne _ _ e] at h1
      by_cases e2 : j = k
      · subst e2
        rw [Rx.upd_same] at h2
        have := a4 x h2
        have := hlt i hi x h1
        omega
      · rw [Rx.upd_ne _ _ e2] at h2
        exact (h.sep i hi).2 j hj hij x h1 h2
  · exact (h.rd.stay a6 (by omega) (by omega)).stay st (by omega) (by omega)
  · rw [Rx.sum_range_succ, ← Nat.add_assoc]
    exact (st.block _ (blk_lt a5) (by omega)).trans a5
  · exact (h.st.trans a6 (fun _ _ e => e)).trans st (fun i hi e => by omega)
def InAft (w : World) (OB LB c : Nat) (K : Nat → Rx.T) (e : Ending) (w' : World) : Prop :=
  ∃ X K', e = .returned (.tuple #[.pointer (some ⟨X, 0, none⟩), .nilIface]) ∧ w'.heap[X]? = some (.cells (nodeC (kidV K') false Wi.z32 0 0) 85 (0, 0)) ∧ (∀ i, i < 16 → At w' (K' i) ∧ Rx.er false (K' i) = Rx.er false (K i)) ∧ Rx.sep (.inner X K' 0) ∧ (∀ x, Rx.mem (.inner X K' 0) x → w.heap.size ≤ x) ∧ Lding w' OB LB (c + Rx.sum16 fun i => Rx.cnt (K i)) ∧ TStay (fun k => k = OB) w w'
set_option maxHeartbeats 4000000 in
set_option maxRecDepth 100000 in
theorem ldInner_any (K : Nat → Rx.T) (IH : ∀ i, i < 16 → LoadOK (K i)) (w : World) (p : List Nat) (lo LB B room : Nat) (I : Rx.Its) (OB c : Nat) (s : Int) (hL : LS w lo LB B room I) (hI : I.length ≤ 90000) (hO : Lding w OB LB c)
    (hK : ∀ i, i < 16 → Rx.sv (Rx.Rof I) (K i) ∧ Rx.ok (K i) (p ++ [i]) ∧ Rx.big (K i) ∧ ((K i).ptr ≠ none → (K i).saved ≠ 0) ∧ (K i).saved < s) (hp : p.length < 64) (h2 : 2 ≤ Rx.sum16 fun i => Rx.cnt (K i)) (hc : c + (Rx.sum16 fun i => Rx.cnt (K i)) ≤ 2000)
    (a : Option Addr) (cp : Nat) (L : List UInt8) (hLv : L = Rx.vb (Rx.places K)) (hr : Rds w a L.length L) (hz : a = none → cp = 0) :
    Calls Tryz.prog 47 #[.pointer (some ⟨OB, 0, none⟩), .slice a L.length cp, .string (str (Rx.way p)), .int .i64 s] w (InAft w OB LB c K) := by
  have hll : L.length ≤ 160 := by rw [hLv]; have := Rx.vb_le (Rx.places K); rw [Rx.places_length] at this; omega
  have hnr := newReader_q w a L.length cp L hr hz (by omega)
  have HO := Lib.hid hO
  have OLT : Hid (OB < w.heap.size) := Lib.hid (blk_lt hO)
  have HLS := Lib.hid hL
  have HI := Lib.hid hI
  have HK := Lib.hid hK
  have HIH := Lib.hid IH
  have HP := Lib.hid hp
  have H2 := Lib.hid h2
  have HC := Lib.hid hc
  have HLV := Lib.hid hLv
  obtain ⟨ZN, hZN⟩ : ∃ ZN, ZN = nodeC (kidV Rx.noKids) false Wi.z32 0 0 := ⟨_, rfl⟩
  have BTN : Hid (Tryz.prog.built 85 [] = some ZN) := Lib.hid (by rw [hZN]; exact bt_node00)
  have HZN := Lib.hid hZN
  obtain ⟨WY, hWY⟩ : ∃ WY, WY = Rx.way p := ⟨_, rfl⟩
  obtain ⟨WL, hWL⟩ : ∃ WL, WL = WY.length := ⟨_, rfl⟩
  have zw : (str WY).size = WL := by rw [str_size, hWL]
  have HWL : Hid (WL < 64) := Lib.hid (by rw [hWL, hWY, Rx.way_len]; exact hp)
  have HWY := Lib.hid hWY
  rw [← hWY]
  have d64 : decide ((64 : Int) ≤ (WL : Int)) = false := decide_eq_false (by have := HWL.out; omega)
  have d64' : decide (64 ≤ WL) = false := decide_eq_false (by have := HWL.out; omega)
  have oc1 : w.cell? ⟨OB, 1, none⟩ = some (.int .i64 (c : Int)) := blk_cell (i := 1) hO rfl
  clear hO hL hI hK IH hp h2 hc hLv hr hZN hWY hll hz hWL
  go_enter Tryz.func47, Tryz.ntmps47
  go_wp2_with fail
  refine hnr.mono ?_
  clear hnr
  rintro e w1 ⟨RB, D, rfl, hRB, hD, hRd, b1⟩
  obtain ⟨X, hX⟩ : ∃ X, X = w1.heap.size := ⟨_, rfl⟩
  obtain ⟨W2, hW2⟩ : ∃ W2, W2 = w1.alloc (.cells ZN 85) := ⟨_, rfl⟩
  have b2 : Below w1.heap.size w1 W2 := by rw [hW2]; exact (Below.refl _ _).alloc (Nat.le_refl _) _
  have RD2 := hRd.below b2
  have RLT : Hid (OB < w.heap.size ∧ w.heap.size ≤ RB ∧ w.heap.size ≤ D ∧ RB < X ∧ D < X) := Lib.hid (by have := hRd.lt; have := hRd.dlt; rw [hX]; exact ⟨OLT.out, hRB, hD, by omega, by omega⟩)
  have XB : W2.heap[X]? = some (.cells ZN 85 (0, 0)) := by rw [hW2, hX]; exact heap_alloc_new _ _
  have O2 : Lding W2 OB LB c := (b2.block _ (by have := OLT.out; have := b1.size; omega)).trans ((b1.block _ OLT.out).trans HO.out)
  have ST2 : TStay (fun k => k = OB) w W2 := TStay.of_below (b1.trans (b2.mono b1.size)) _
  have S0 : Hid (InSt w W2 OB LB c RB D X K Rx.noKids 0) := Lib.hid ⟨by rw [← show ZN = _ from HZN.out]; exact XB, fun i hi => trivial, fun i hi _ => absurd hi (by omega), fun i hi => rfl, fun i hi x hx => hx.elim, fun i hi => ⟨trivial, fun j hj hij x hx => hx.elim⟩, by rw [List.drop_zero, ← show L = _ from HLV.out]; exact RD2, by simpa using O2, ST2⟩
  have oc1 : W2.cell? ⟨OB, 1, none⟩ = some (.int .i64 (c : Int)) := blk_cell (i := 1) O2 rfl
  clear RD2 hRd hRB hD b1 b2 XB O2 ST2
  go_upto_region 3 with (first | (refine wpL_mk (by kernel_rfl) 85 #[] rfl [] (by rfl) ZN BTN.out ?_))
  rw [← hW2, ← hX]
  clear hW2 hX
  go_wp2_with fail
  clear oc1
  go_loopw [25] (fun kv wr => ∃ (k : Nat) (K' : Nat → Rx.T), k ≤ 16 ∧ kv = .int .i64 (k : Int) ∧ Hid (InSt w wr OB LB c RB D X K K' k)) (fun kv _ => 16 - (intOf kv).toNat)
  case atStart => exact ⟨0, Rx.noKids, Nat.zero_le _, rfl, S0⟩
  case round =>
    obtain ⟨k, K', hk, rfl, HST⟩ := hrel
    clear S0
    by_cases hlt : k < 16
    · have d1 : decide ((k : Int) < 16) = true := decide_eq_true (by omega)
      have i0 : (0 : Int) ≤ (k : Int) := by omega
      have i1 : (k : Int) < 16 := by omega
      have hw := wrapi' ((k : Int) + 1) (by omega)
      obtain ⟨q, hq⟩ : ∃ q, q = (K k).saved := ⟨_, rfl⟩
      have HQ : Hid (q = (K k).saved ∧ 0 ≤ q ∧ q ≤ 90000 ∧ q < s) := Lib.hid (by
        have h1 := (HK.out k hlt).1
        refine ⟨hq, ?_, ?_, ?_⟩
        · rw [hq]; exact Rx.sv_saved h1
        · rw [hq]; have := Rx.sv_le h1; have := HI.out; omega
        · rw [hq]; exact (HK.out k hlt).2.2.2.2)
      have hrv := rd_var HST.out.rd
      rw [Rx.places_drop K k hlt, Rx.vb_cons, Rx.rdVar_var _ (by have := HQ.out; omega) (by have := HQ.out; omega), ← hq] at hrv
      clear hq
      go_wp2_with fail
      refine hrv.mono ?_
      clear hrv
      rintro e w5 ⟨rfl, r5, s5⟩
      have H5 := Lib.hid (HST.out.read RLT.out r5 s5)
      clear r5 s5
      by_cases hq0 : q = 0
      · subst hq0
        have HN : Hid (K k = .nil) := Lib.hid (by
          rcases hh : (K k).ptr with _ | b
          · exact Rx.ptr_none hh
          · exact absurd HQ.out.1.symm ((HK.out k hlt).2.2.2.1 (by rw [hh]; simp)))
        have HS := Lib.hid (H5.out.skip HN.out)
        go_wp2
        go_roundw
        case rel => exact ⟨k + 1, K', by omega, by go_num, HS⟩
        case measure => simp [intOf]; omega
      · have q0 : (q == 0) = false := by simp [hq0]
        have q1 : decide (s ≤ q) = false := decide_eq_false (by have := HQ.out; omega)
        have HNN : Hid ((K k).ptr ≠ none) := Lib.hid (fun e => hq0 (by rw [HQ.out.1, Rx.ptr_none e]; rfl))
        have HQ0 := Lib.hid hq0
        have wu : IntKind.u8.wrap (k : Int) = (k : Int) := by simp [IntKind.wrap, IntKind.bits, IntKind.signed]; omega
        obtain ⟨HKC, hHKC⟩ : ∃ HKC, HKC = hashC (Rx.hk k) := ⟨_, rfl⟩
        have BTK : Hid (Tryz.prog.built 42 [(0, .int .u8 (k : Int))] = some HKC) := Lib.hid (by rw [hHKC]; exact bt_hk k hlt)
        have htx := hexText_any w5 (Rx.hk k) rfl
        rw [← hHKC] at htx
        obtain ⟨TX, hTX⟩ : ∃ TX, TX = str (Wi.hexT (Rx.hk k)) := ⟨_, rfl⟩
        have SLK : Hid (∀ w, (Instr.sliceAt 9 (.string TX) (some (.int .i64 1)) (some (.int .i64 2)) none).run Tryz.prog w = .ok (.string (str [Wi.hexc k])) w) := Lib.hid (fun w => by rw [hTX]; exact sl_hk k hlt w)
        rw [← hTX] at htx
        have ADD : Hid (∀ w, (binOp .add 9 (.string (str WY)) (.string (str [Wi.hexc k]))).run Tryz.prog w = .ok (.string (str (Rx.way (p ++ [k])))) w) := Lib.hid (fun w => by
          have := add_str WY [Wi.hexc k] (by rw [show WY = _ from HWY.out, Rx.way_len]; simp; have := HP.out; omega) w
          rw [this, show WY = _ from HWY.out]; simp [Rx.way])
        clear hHKC hTX hq0
        go_wp2_with (first | (refine wpL_mk (by kernel_rfl) 42 #[(0, .tmp 46)] rfl [(0, .int .u8 (k : Int))] (by rfl) HKC BTK.out ?_))
        refine htx.mono ?_
        clear htx
        rintro e w6 ⟨rfl, b6⟩
        have H6 := Lib.hid (H5.out.below b6)
        clear b6
        have hcl := HIH.out k hlt w6 (p ++ [k]) lo LB B room I OB _ (HLS.out.ob HO.out H6.out.st) HI.out H6.out.ob (by rw [← HQ.out.1]; exact HQ0.out) (HK.out k hlt).1 (HK.out k hlt).2.1 (HK.out k hlt).2.2.1 (by have := HP.out; simp; omega) (by
          have h1 := Rx.sum_range_succ (fun i => Rx.cnt (K i)) k
          have h2 := Rx.sum_range_le (fun i => Rx.cnt (K i)) (k + 1) 16 (by omega)
          have h3 := HC.out
          unfold Rx.sum16 at h3
          omega)
        rw [← HQ.out.1] at hcl
        obtain ⟨WK, hWK⟩ : ∃ WK, WK = str (Rx.way (p ++ [k])) := ⟨_, rfl⟩
        rw [← hWK] at hcl ADD
        clear hWK
        go_wp2_with (first | (refine wpL_pure (by kernel_rfl) _ (ex_slice 9 (.tmp 48) (.const (.int .i64 1)) (.const (.int .i64 2)) rfl (.string TX) _ _ (.string (str [Wi.hexc k])) (by rfl) (by rfl) (by rfl) (SLK.out _)) ?_) | (refine wpL_pure (by kernel_rfl) _ (ex_add 9 9 (.tmp 44) (.tmp 49) rfl (.string (str WY)) (.string (str [Wi.hexc k])) (.string WK) (by rfl) (by rfl) (ADD.out _)) ?_))
        refine hcl.mono ?_
        clear hcl
        intro e w7 hla
        obtain ⟨b, rfl, hbk, K2, h8⟩ := H6.out.load hlt RLT.out hla HNN.out
        have H8 := Lib.hid h8
        have cx := blk_cell (i := k) hbk (nodeC_kid hlt)
        have fx := blk_free hbk k
        clear hla h8 hbk
        go_wp2
        go_roundw
        case rel => exact ⟨k + 1, K2, by omega, by go_num, H8⟩
        case measure => simp [intOf]; omega
    · obtain rfl : k = 16 := by omega
      obtain ⟨cc, hcc⟩ : ∃ cc, cc = c + ((List.range 16).map fun i => Rx.cnt (K i)).sum := ⟨_, rfl⟩
      have o1 : wr.cell? ⟨OB, 1, none⟩ = some (.int .i64 (cc : Int)) := by rw [hcc]; exact blk_cell (i := 1) HST.out.ob rfl
      have hw2 := wrapi' ((c : Int) + 2) (by have := HC.out; omega)
      have dc : decide ((cc : Int) < (c : Int) + 2) = false := decide_eq_false (by have h1 := H2.out; unfold Rx.sum16 at h1; omega)
      have FIN : Hid (InAft w OB LB c K (.returned (.tuple #[.pointer (some ⟨X, 0, none⟩), .nilIface])) wr) := Lib.hid ⟨X, K', rfl, HST.out.blk, fun i hi => ⟨HST.out.at_ i hi, HST.out.er i hi hi⟩, ⟨fun i hi => ⟨fun hm => by have := HST.out.mem i hi X hm; omega, (HST.out.sep i hi).1⟩, fun i j hi hj hij x h1 h2 => (HST.out.sep i hi).2 j hj hij x h1 h2⟩, fun x hx => by
        have := RLT.out
        rcases hx with rfl | ⟨i, hi, hx⟩
        · omega
        · have := HST.out.mem i hi x hx; omega, HST.out.ob, HST.out.st⟩
      clear hcc
      go_wp2
      go_ret2
      exact FIN.out
end Go.Proofs.YthampbiabkfmoaaGreatDoor
/- loading.node, Load; Tree.Save. -/
namespace Go.Proofs.YthampbiabkfmoaaGreatDoor
open Go.RowKit Go.Tap
set_option linter.unusedVariables false
set_option linter.unusedSimpArgs false
theorem rds_ob {w w1 w2 : World} {OB : Nat} {a : Option Addr} {c : Nat} {L : List UInt8} (ho : w1.ownsRow w.heap.size 5 1 (.slice a L.length c) L.length (bv L)) (hO : OB < w.heap.size) (hs : TStay (fun k => k = OB) w1 w2) : Rds w2 a L.length L :=
  (Rds.of_own ho rfl).stay hs (fun _ b o e => by
    have := (ho.lt b ((ownBlock_slice a L.length c b).2 ⟨_, e, rfl⟩)).1
    omega)
theorem places_same {K K' : Nat → Rx.T} (h : ∀ i, i < 16 → Rx.er false (K' i) = Rx.er false (K i)) : Rx.places K' = Rx.places K :=
  List.map_congr_left (fun i hi => Rx.er_saved (h i (List.mem_range.1 hi)))
set_option maxHeartbeats 4000000 in
set_option maxRecDepth 100000 in
theorem load_leaf (b : Nat) (h : List UInt8) (n s : Int) : LoadOK (.leaf b h n s) := by
  intro w p lo LB B room I OB c hL hI hO hs hv ho hb hp hc
  simp only [Rx.T.saved] at hs ⊢
  obtain ⟨r1, r2, _⟩ := hv.2 hs
  have hl : h.length = 32 := ho.1
  obtain ⟨L, hLv⟩ : ∃ L, L = h ++ Oct.var (Oct.u64 n) := ⟨_, rfl⟩
  have hbd : Rx.body (.leaf h n) = (1, L) := by rw [hLv]; rfl
  rw [hbd] at r2
  obtain ⟨j, hj⟩ : ∃ j, j = (s - 1).toNat := ⟨_, rfl⟩
  rw [← hj] at r2
  have hrc := ls_record hL j _ r2 hI
  have hjl := (List.getElem?_eq_some_iff.1 r2).1
  have hwj : IntKind.i64.wrap (s - 1) = (j : Int) := by rw [wrapi' _ (by omega)]; omega
  dsimp only at hrc
  rw [show ((1 : Nat) : Int) = 1 from rfl] at hrc
  have o0 : w.cell? ⟨OB, 0, none⟩ = some (.pointer (some ⟨LB, 0, none⟩)) := blk_cell (i := 0) hO rfl
  have HO := Lib.hid hO
  have OLT : Hid (OB < w.heap.size) := Lib.hid (blk_lt hO)
  have HL := Lib.hid hl
  have HPRE := Lib.hid ho.2.1
  have HN := Lib.hid ho.2.2
  have HP := Lib.hid hp
  have HC : Hid (c + 1 ≤ 2000) := Lib.hid hc
  have HLV := Lib.hid hLv
  have HBD := Lib.hid hbd
  have hll : Hid (L.length ≤ 42) := Lib.hid (by rw [hLv, List.length_append]; have := Rx.var_le (Oct.u64 n); omega)
  obtain ⟨WY, hWY⟩ : ∃ WY, WY = Rx.way p := ⟨_, rfl⟩
  have HWY := Lib.hid hWY
  rw [← hWY]
  clear hL hI hO hs hv ho hb hp hc r1 r2 hj hjl hl hLv hbd hWY
  go_enter Tryz.func27, Tryz.ntmps27
  go_wp2_with fail
  refine hrc.mono ?_
  clear hrc
  rintro e w1 ⟨a1, c1, rfl, o1, b1⟩
  have O1 : Lding w1 OB LB c := (b1.block _ OLT.out).trans HO.out
  obtain ⟨_, _, e1, _, _, hz1, _⟩ := ownsRow_slice o1
  cases e1
  have hlf := ldLeaf_any w1 OB LB c O1 HC.out h n p HL.out HPRE.out HP.out HN.out a1 c1 L HLV.out (Rds.of_own o1 rfl) hz1
  rw [← show WY = _ from HWY.out] at hlf
  have OW := Lib.hid o1
  have B1 := Lib.hid b1
  clear o1 b1 O1
  go_wp2_with fail
  refine hlf.mono ?_
  clear hlf
  rintro e w2 ⟨X, rfl, hX, t2, o2, s2⟩
  have hla := laid_leaf w2 X h n 0 t2 HL.out
  rw [HBD.out] at hla
  have T2 := Lib.hid t2
  have O2 := Lib.hid o2
  have S2 := Lib.hid s2
  have HX : Hid (w1.heap.size ≤ X) := Lib.hid hX
  clear t2 o2 s2 hX
  go_wp2_with fail
  refine hla.mono ?_
  clear hla
  rintro e w3 ⟨a3, c3, rfl, o3, b3⟩
  have he := equal_any w3 a3 L.length c3 L (Rds.of_own o3 rfl) a1 L.length c1 L ((rds_ob OW.out OLT.out S2.out).stay (TStay.of_below b3 (fun _ => False)) (fun _ _ _ _ h => h)) (by have := hll.out; omega) (by have := hll.out; omega)
  rw [decide_eq_true rfl] at he
  have T3 := Lib.hid ((b3.block _ (blk_lt T2.out)).trans T2.out)
  have O3 : Hid (Lding w3 OB LB (c + 1)) := Lib.hid ((b3.block _ (blk_lt O2.out)).trans O2.out)
  have S3 : Hid (TStay (fun k => k = OB) w w3) := Lib.hid (((TStay.of_below B1.out (fun k => k = OB)).trans S2.out (fun _ _ e => e)).trans (TStay.of_below b3 (fun k => k = OB)) (fun _ _ e => e))
  clear o3 b3
  go_wp2_with fail
  refine he.mono ?_
  clear he
  rintro e w4 ⟨rfl, b4⟩
  have t4 := (b4.block _ (blk_lt T3.out)).trans T3.out
  have o4 : Lding w4 OB LB (c + 1) := (b4.block _ (blk_lt O3.out)).trans O3.out
  have s4 : TStay (fun k => k = OB) w w4 := S3.out.trans (TStay.of_below b4 (fun k => k = OB)) (fun _ _ e => e)
  have c50 : w4.cell? ⟨X, 50, none⟩ = some (.int .i64 0) := blk_cell (i := 50) t4 (nodeC_s HL.out)
  have f50 : w4.frozen? ⟨X, 50, none⟩ = false := blk_free t4 50
  have st : TStay (fun j => j = X) w4 (w4.setCell ⟨X, 50, none⟩ (.int .i64 s)) := (TStay.refl (fun j => j = X) w4).setCell (p := ⟨X, 50, none⟩) (.inl rfl) _
  have FIN : Hid (LoadAft w OB LB c (.leaf b h n s) (.returned (.tuple #[.pointer (some ⟨X, 0, none⟩), .nilIface])) (w4.setCell ⟨X, 50, none⟩ (.int .i64 s))) := Lib.hid ⟨.leaf X h n s, rfl, by
      show _ = _
      rw [heap_setCell_same w4 X 50 _ _ _ t4, nodeC_setS HL.out], rfl, trivial, fun x hx => by
      obtain rfl : x = X := hx
      have := HX.out; have := B1.out.size; omega, (st.block _ (blk_lt o4) (by have := HX.out; have := B1.out.size; have := OLT.out; omega)).trans o4, s4.trans st (fun i hi e => by have := HX.out; have := B1.out.size; omega)⟩
  clear b4 t4 o4 s4 st
  go_wp2
  go_ret2
  exact FIN.out
set_option maxHeartbeats 4000000 in
set_option maxRecDepth 100000 in
theorem load_inner (b : Nat) (K : Nat → Rx.T) (s : Int) (IH : ∀ i, i < 16 → LoadOK (K i)) : LoadOK (.inner b K s) := by
  intro w p lo LB B room I OB c hL hI hO hs hv ho hb hp hc
  simp only [Rx.T.saved] at hs ⊢
  obtain ⟨hnn, r1, r2, hlt0⟩ := hv.1.2 hs
  obtain ⟨L, hLv⟩ : ∃ L, L = Rx.vb (Rx.places K) := ⟨_, rfl⟩
  have hbd : Rx.body (.inner (Rx.places K)) = (2, L) := by rw [hLv]; rfl
  rw [hbd] at r2
  obtain ⟨j, hj⟩ : ∃ j, j = (s - 1).toNat := ⟨_, rfl⟩
  rw [← hj] at r2
  have hrc := ls_record hL j _ r2 hI
  have hjl := (List.getElem?_eq_some_iff.1 r2).1
  have hwj : IntKind.i64.wrap (s - 1) = (j : Int) := by rw [wrapi' _ (by omega)]; omega
  dsimp only at hrc
  rw [show ((2 : Nat) : Int) = 2 from rfl] at hrc
  have o0 : w.cell? ⟨OB, 0, none⟩ = some (.pointer (some ⟨LB, 0, none⟩)) := blk_cell (i := 0) hO rfl
  have HO := Lib.hid hO
  have OLT : Hid (OB < w.heap.size) := Lib.hid (blk_lt hO)
  have HLS := Lib.hid hL
  have HI := Lib.hid hI
  have HIH := Lib.hid IH
  have HOK := Lib.hid ho
  have HC : Hid (c + (Rx.sum16 fun i => Rx.cnt (K i)) ≤ 2000) := Lib.hid hc
  have HBG : Hid (2 ≤ Rx.sum16 fun i => Rx.cnt (K i)) := Lib.hid hb.1
  have HK : Hid (∀ i, i < 16 → Rx.sv (Rx.Rof I) (K i) ∧ Rx.ok (K i) (p ++ [i]) ∧ Rx.big (K i) ∧ ((K i).ptr ≠ none → (K i).saved ≠ 0) ∧ (K i).saved < s) := Lib.hid (fun i hi => ⟨hv.2 i hi, ho.2 i hi, hb.2 i hi, hnn i hi, hlt0 _ rfl _ (List.mem_map.2 ⟨i, List.mem_range.2 hi, rfl⟩)⟩)
  have HLV := Lib.hid hLv
  have HBD := Lib.hid hbd
  have hll : Hid (L.length ≤ 160) := Lib.hid (by rw [hLv]; have := Rx.vb_le (Rx.places K); rw [Rx.places_length] at this; omega)
  obtain ⟨WY, hWY⟩ : ∃ WY, WY = Rx.way p := ⟨_, rfl⟩
  have HWY := Lib.hid hWY
  rw [← hWY]
  clear hL hI hO hs hv ho hb hp hc r1 r2 hj hjl hLv hbd hWY hnn hlt0 IH
  go_enter Tryz.func27, Tryz.ntmps27
  go_wp2_with fail
  refine hrc.mono ?_
  clear hrc
  rintro e w1 ⟨a1, c1, rfl, o1, b1⟩
  have O1 : Lding w1 OB LB c := (b1.block _ OLT.out).trans HO.out
  obtain ⟨_, _, e1, _, _, hz1, _⟩ := ownsRow_slice o1
  cases e1
  have hin := ldInner_any K HIH.out w1 p lo LB B room I OB c s (HLS.out.below b1) HI.out O1 HK.out HOK.out.1 HBG.out HC.out a1 c1 L HLV.out (Rds.of_own o1 rfl) hz1
  rw [← show WY = _ from HWY.out] at hin
  have OW := Lib.hid o1
  have B1 := Lib.hid b1
  clear o1 b1 O1
  go_wp2_with fail
  refine hin.mono ?_
  clear hin
  rintro e w2 ⟨X, K', rfl, t2, k2, e2, m2, o2, s2⟩
  have hla := laid_inner w2 X K' 0 p t2 (fun i hi => ⟨(k2 i hi).1, Rx.er_ok (k2 i hi).2 (HOK.out.2 i hi)⟩)
  rw [places_same (fun i hi => (k2 i hi).2), HBD.out] at hla
  have T2 := Lib.hid t2
  have K2 := Lib.hid k2
  have E2 := Lib.hid e2
  have O2 := Lib.hid o2
  have S2 := Lib.hid s2
  have M2 : Hid (∀ x, Rx.mem (.inner X K' 0) x → w1.heap.size ≤ x) := Lib.hid m2
  clear t2 k2 e2 m2 o2 s2
  go_wp2_with fail
  refine hla.mono ?_
  clear hla
  rintro e w3 ⟨a3, c3, rfl, o3, b3⟩
  have he := equal_any w3 a3 L.length c3 L (Rds.of_own o3 rfl) a1 L.length c1 L ((rds_ob OW.out OLT.out S2.out).stay (TStay.of_below b3 (fun _ => False)) (fun _ _ _ _ h => h)) (by have := hll.out; omega) (by have := hll.out; omega)
  rw [decide_eq_true rfl] at he
  have T3 := Lib.hid ((b3.block _ (blk_lt T2.out)).trans T2.out)
  have K3 : Hid (∀ i, i < 16 → At w3 (K' i)) := Lib.hid (fun i hi => (K2.out i hi).1.below b3)
  have O3 : Hid (Lding w3 OB LB (c + Rx.sum16 fun i => Rx.cnt (K i))) := Lib.hid ((b3.block _ (blk_lt O2.out)).trans O2.out)
  have S3 : Hid (TStay (fun k => k = OB) w w3) := Lib.hid (((TStay.of_below B1.out (fun k => k = OB)).trans S2.out (fun _ _ e => e)).trans (TStay.of_below b3 (fun k => k = OB)) (fun _ _ e => e))
  clear o3 b3
  go_wp2_with fail
  refine he.mono ?_
  clear he
  rintro e w4 ⟨rfl, b4⟩
  have t4 := (b4.block _ (blk_lt T3.out)).trans T3.out
  have o4 : Lding w4 OB LB (c + Rx.sum16 fun i => Rx.cnt (K i)) := (b4.block _ (blk_lt O3.out)).trans O3.out
  have s4 : TStay (fun k => k = OB) w w4 := S3.out.trans (TStay.of_below b4 (fun k => k = OB)) (fun _ _ e => e)
  have c50 : w4.cell? ⟨X, 50, none⟩ = some (.int .i64 0) := blk_cell (i := 50) t4 (nodeC_s z32_len)
  have f50 : w4.frozen? ⟨X, 50, none⟩ = false := blk_free t4 50
  have st : TStay (fun j => j = X) w4 (w4.setCell ⟨X, 50, none⟩ (.int .i64 s)) := (TStay.refl (fun j => j = X) w4).setCell (p := ⟨X, 50, none⟩) (.inl rfl) _
  have HX : Hid (w1.heap.size ≤ X) := Lib.hid (M2.out X (.inl rfl))
  have FIN : Hid (LoadAft w OB LB c (.inner b K s) (.returned (.tuple #[.pointer (some ⟨X, 0, none⟩), .nilIface])) (w4.setCell ⟨X, 50, none⟩ (.int .i64 s))) := Lib.hid ⟨.inner X K' s, rfl, ⟨by
      rw [heap_setCell_same w4 X 50 _ _ _ t4, nodeC_setS z32_len], fun i hi => ((K3.out i hi).below b4).stay st (fun x hx e => by subst e; exact (E2.out.1 i hi).1 hx)⟩, Rx.er_inner false b X K K' s s (fun i hi => (K2.out i hi).2) rfl, E2.out, fun x hx => by
      have := M2.out x hx; have := B1.out.size; omega, (st.block _ (blk_lt o4) (by have := HX.out; have := B1.out.size; have := OLT.out; omega)).trans o4, s4.trans st (fun i hi e => by have := HX.out; have := B1.out.size; omega)⟩
  clear b4 t4 o4 s4 st
  go_wp2
  go_ret2
  exact FIN.out
theorem load_all : ∀ t : Rx.T, LoadOK t
  | .nil => fun w p lo LB B room I OB c hL hI hO hs => absurd rfl hs
  | .leaf b h n s => load_leaf b h n s
  | .inner b K s => load_inner b K s (fun i hi => load_all (K i))
/-- What Load answers. -/
def TreeAft (w : World) (t : Rx.T) (e : Ending) (w' : World) : Prop :=
  ∃ TB t', e = .returned (.tuple #[.pointer (some ⟨TB, 0, none⟩), .nilIface]) ∧ TreeAt w' w.heap.size TB t' ∧ Rx.er false t' = Rx.er false t ∧ Below w.heap.size w w'
set_option maxHeartbeats 2000000 in
set_option maxRecDepth 100000 in
theorem rLoad_any (w : World) (lo LB B room : Nat) (I : Rx.Its) (t : Rx.T) (hL : LS w lo LB B room I) (hI : I.length ≤ 90000) (hs : t.saved ≠ 0) (hv : Rx.sv (Rx.Rof I) t) (ho : Rx.ok t []) (hb : Rx.big t) (hc : Rx.cnt t ≤ 2000) :
    Calls Tryz.prog 15 #[.pointer (some ⟨LB, 0, none⟩), .int .i64 t.saved] w (TreeAft w t) := by
  have HL := Lib.hid hL
  obtain ⟨W1, hW1⟩ : ∃ W1, W1 = w.alloc (.cells #[.pointer (some ⟨LB, 0, none⟩), .int .i64 0] 88) := ⟨_, rfl⟩
  have b1 : Below w.heap.size w W1 := by rw [hW1]; exact (Below.refl _ _).alloc (Nat.le_refl _) _
  have O1 : Lding W1 w.heap.size LB 0 := by rw [hW1]; exact heap_alloc_new _ _
  have hcl := load_all t W1 [] lo LB B room I w.heap.size 0 (hL.below b1) hI O1 hs hv ho hb (by simp) (by omega)
  rw [show Rx.way [] = [] from rfl] at hcl
  have HOK := Lib.hid ho
  obtain ⟨q, hq⟩ : ∃ q, q = t.saved := ⟨_, rfl⟩
  have q0 : (q == 0) = false := by rw [hq]; simp [hs]
  have HS : Hid (t.saved ≠ 0) := Lib.hid hs
  rw [← hq] at hcl ⊢
  have B1 := Lib.hid b1
  clear hq hs hv ho hb hc hL hI O1 b1
  go_enter Tryz.func15, Tryz.ntmps15
  go_wp2_with fail
  rw [← hW1]
  clear hW1
  refine hcl.mono ?_
  clear hcl
  rintro e w2 ⟨t', rfl, a2, e2, s2, m2, o2, st2⟩
  obtain ⟨b, hb⟩ : ∃ b, t'.ptr = some b := by
    rcases hh : t'.ptr with _ | b
    · have := (Rx.er_ptr e2).1 hh
      exact absurd (by rw [Rx.ptr_none this]; rfl) HS.out
    · exact ⟨b, rfl⟩
  rw [hb]
  have HB := Lib.hid hb
  obtain ⟨cc, hcc⟩ : ∃ cc : Int, cc = ((0 + Rx.cnt t : Nat) : Int) := ⟨_, rfl⟩
  have o21 : w2.cell? ⟨w.heap.size, 1, none⟩ = some (.int .i64 cc) := by rw [hcc]; exact blk_cell (i := 1) o2 rfl
  have HCC : Hid (cc = (Rx.cnt t' : Int)) := Lib.hid (by rw [hcc, Rx.er_cnt e2, Nat.zero_add])
  have A2 := Lib.hid a2
  have E2 := Lib.hid e2
  have S2 := Lib.hid s2
  have M2 : Hid (∀ x, Rx.mem t' x → W1.heap.size ≤ x) := Lib.hid m2
  have ST : Hid (Below w.heap.size w w2) := Lib.hid (Below.trans_stay B1.out st2 (Nat.le_refl _) (fun k hk e => by omega))
  clear hb a2 e2 s2 m2 o2 st2 hcc
  simp only [ptrV, Option.map_some]
  go_wp2
  go_ret2
  refine ⟨w2.heap.size, t', rfl, ⟨?_, A2.out.below ((Below.refl _ _).alloc (Nat.le_refl _) _), S2.out, Rx.er_ok E2.out HOK.out, ST.out.size, fun x hx => Nat.le_trans B1.out.size (M2.out x hx)⟩, E2.out, ST.out.alloc ST.out.size _⟩
  rw [HB.out, ← show cc = _ from HCC.out]
  simp only [ptrV, Option.map_some]
  exact heap_alloc_new _ _
set_option maxHeartbeats 1000000 in
set_option maxRecDepth 100000 in
theorem rLoad_zero (w : World) (LB : Nat) : Calls Tryz.prog 15 #[.pointer (some ⟨LB, 0, none⟩), .int .i64 0] w (TreeAft w .nil) := by
  have hnew := rnew_any w
  go_enter Tryz.func15, Tryz.ntmps15
  go_wp2_with fail
  refine hnew.mono ?_
  clear hnew
  rintro e w1 ⟨rfl, hT, b1⟩
  have HT := Lib.hid hT
  have B1 := Lib.hid b1
  clear hT b1
  go_wp2
  go_ret2
  exact ⟨_, .nil, rfl, HT.out, rfl, B1.out⟩
/-- A place that no record has. -/
theorem rLoad_no (w : World) (lo LB B room : Nat) (I : Rx.Its) (hL : LS w lo LB B room I) (s : Nat) (hs : I.length < s) (h2 : s ≤ 1000000) :
    Calls Tryz.prog 15 #[.pointer (some ⟨LB, 0, none⟩), .int .i64 (s : Int)] w fun e w' => e = .returned (.tuple #[.pointer none, .iface 65 (.int .i64 2)]) ∧ Below w.heap.size w w' := by
  have hnd : ∀ (W : World) (OB : Nat) (WY : ByteArray), Lding W OB LB 0 → LS W lo LB B room I → Calls Tryz.prog 27 #[.pointer (some ⟨OB, 0, none⟩), .int .i64 (s : Int), .string WY] W fun e w' => e = .returned (.tuple #[.pointer none, .iface 65 (.int .i64 2)]) ∧ w' = W := by
    intro W OB WY hO hLW
    have hrc := ls_record_no hLW (s - 1) (by omega)
    have hwj : IntKind.i64.wrap ((s : Int) - 1) = ((s - 1 : Nat) : Int) := by rw [wrapi' _ (by omega)]; omega
    obtain ⟨j, hj⟩ : ∃ j, j = s - 1 := ⟨_, rfl⟩
    rw [← hj] at hrc hwj
    have o0 : W.cell? ⟨OB, 0, none⟩ = some (.pointer (some ⟨LB, 0, none⟩)) := blk_cell (i := 0) hO rfl
    clear hO hj hLW hL
    go_enter Tryz.func27, Tryz.ntmps27
    go_wp2_with fail
    refine hrc.mono ?_
    clear hrc
    rintro e w1 ⟨rfl, rfl⟩
    go_wp2
    go_ret2
    exact ⟨rfl, rfl⟩
  obtain ⟨W1, hW1⟩ : ∃ W1, W1 = w.alloc (.cells #[.pointer (some ⟨LB, 0, none⟩), .int .i64 0] 88) := ⟨_, rfl⟩
  have b1 : Below w.heap.size w W1 := by rw [hW1]; exact (Below.refl _ _).alloc (Nat.le_refl _) _
  have O1 : Lding W1 w.heap.size LB 0 := by rw [hW1]; exact heap_alloc_new _ _
  have hcl := hnd W1 w.heap.size (str []) O1 (hL.below b1)
  obtain ⟨q, hq⟩ : ∃ q : Int, q = (s : Int) := ⟨_, rfl⟩
  have q0 : (q == 0) = false := by rw [hq]; simp; omega
  rw [← hq] at hcl ⊢
  have B1 := Lib.hid b1
  clear hnd hq hs hL O1 b1 h2
  go_enter Tryz.func15, Tryz.ntmps15
  go_wp2_with fail
  rw [← hW1]
  clear hW1
  refine hcl.mono ?_
  clear hcl
  rintro e w2 ⟨rfl, rfl⟩
  go_wp2
  go_ret2
  exact ⟨rfl, B1.out⟩
/-- What Save leaves. -/
def STree (w : World) (lo LB B room TB : Nat) (t : Rx.T) (I : Rx.Its) (e : Ending) (w' : World) : Prop :=
  ∃ t' I', e = .returned (.tuple #[.int .i64 t'.saved, .nilIface]) ∧ TreeAt w' lo TB t' ∧ Rx.Saves t I t' I' ∧ LS w' lo LB B room I' ∧ Below lo w w' ∧ KeepM (Rx.mem t) w w'
set_option maxHeartbeats 2000000 in
set_option maxRecDepth 100000 in
theorem rSave_any (w : World) (lo LB B room TB : Nat) (I : Rx.Its) (t : Rx.T) (hT : TreeAt w lo TB t) (hL : LS w lo LB B room I) (hv : Rx.sv (Rx.Rof I) t) (hb : I.length + Rx.uns t ≤ 90000) (hr : 169 * (I.length + Rx.uns t) ≤ room) (h24 : room ≤ 16777216) :
    Calls Tryz.prog 14 #[.pointer (some ⟨TB, 0, none⟩), .pointer (some ⟨LB, 0, none⟩)] w (STree w lo LB B room TB t I) := by
  rcases ht : t.ptr with _ | b
  · obtain rfl := Rx.ptr_none ht
    have c0 : w.cell? ⟨TB, 0, none⟩ = some (.pointer none) := blk_cell (i := 0) hT.top rfl
    have FIN : Hid (STree w lo LB B room TB .nil I (.returned (.tuple #[.int .i64 0, .nilIface])) w) := Lib.hid ⟨.nil, I, rfl, hT, Rx.saves_none I, hL, Below.refl _ _, KeepM.refl _ _⟩
    clear hT hL hv hb hr h24 ht
    go_enter Tryz.func14, Tryz.ntmps14
    go_wp2
    go_ret2
    exact FIN.out
  · have hcl := save_all t w [] lo LB B room I hT.at_ hT.sep hT.ok hv hL hT.mem hb hr h24
    rw [ht] at hcl
    have c0 : w.cell? ⟨TB, 0, none⟩ = some (.pointer (some ⟨b, 0, none⟩)) := blk_cell (i := 0) hT.top (by rw [ht]; rfl)
    have HT := Lib.hid hT
    have HB := Lib.hid ht
    clear hT hL hv hb hr h24 ht
    simp only [ptrV, Option.map_some] at hcl
    go_enter Tryz.func14, Tryz.ntmps14
    go_wp2_with fail
    refine hcl.mono ?_
    clear hcl
    rintro e w2 ⟨rfl, t', I', a1, a2, a3, a4, a5⟩
    have top2 : w2.heap[TB]? = some (.cells #[ptrV t.ptr, .int .i64 (Rx.cnt t : Int)] 59 (0, 0)) := (a5 _ _ _ _ HT.out.top (by decide) (by decide) (by decide) (by decide) HT.out.not).trans HT.out.top
    have hp' : t'.ptr = some b := a2.ptr.trans HB.out
    have c2 : w2.cell? ⟨TB, 0, none⟩ = some (.pointer (some ⟨b, 0, none⟩)) := blk_cell (i := 0) top2 (by rw [HB.out]; rfl)
    have c50 := a1.saved (Rx.er_ok a2.sm HT.out.ok) hp'
    have FIN : Hid (STree w lo LB B room TB t I (.returned (.tuple #[.int .i64 t'.saved, .nilIface])) w2) := Lib.hid ⟨t', I', rfl, ⟨by rw [a2.ptr, Rx.er_cnt a2.sm]; exact top2, a1, a2.sep HT.out.sep, Rx.er_ok a2.sm HT.out.ok, HT.out.lo_, fun x hx => HT.out.mem x ((a2.mem x).1 hx)⟩, a2, a3, a4, a5⟩
    obtain ⟨q, hq⟩ : ∃ q, q = t'.saved := ⟨_, rfl⟩
    rw [← hq] at c50 FIN
    clear a1 a2 a3 a4 a5 top2 hp' c0 hq
    go_wp2
    go_ret2
    exact FIN.out
end Go.Proofs.YthampbiabkfmoaaGreatDoor
