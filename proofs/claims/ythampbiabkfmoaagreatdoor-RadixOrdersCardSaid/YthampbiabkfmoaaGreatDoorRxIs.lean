/- taprootlaw9: kept.is. -/
import Derived.Test.YthampbiabkfmoaaGreatDoorRxKept
import Derived.Test.YthampbiabkfmoaaGreatDoorRxGet
import Derived.BigQuiet
namespace Go
namespace Tap
open Go.RowKit
set_option linter.unusedVariables false
section
variable {P : Program} {ops : Array Oper} {Q : Exit → Act → World → Prop} {md : Region.Mode} {S : World → Prop}
theorem skipK {i : Nat} {oi : Oper} (d : Option Tmp) {fuel : Nat} {listed : Array Bool} {a : Act} {w : World} (hi : ops[i]? = some oi) (hd : oi.dst = d)
    (hs : Region.noSelect ops = true) (hf : Region.free md ops listed i = true) (hr : (Region.ready md ops listed).contains i = true)
    (hQ : ∀ c a w, Q (.panic c) (a.put d undef) w → Q (.panic c) a w) (hw : Region.wanted oi (yielded ops a.tmps) = false) (hS : S w)
    (h : wpAnyH P md ops Q S fuel (listed.setIfInBounds i true) (a.put d undef) w) : wpAnyH P md ops Q S (fuel + 1) listed a w := by
  subst hd
  exact wpAnyH_take hi hs hf hr hQ (.inr ⟨hw, rfl⟩) hS h
end
end Tap
end Go
namespace Go.Proofs.YthampbiabkfmoaaGreatDoor
open Go.RowKit Go.Tap
set_option linter.unusedVariables false
set_option linter.unusedSimpArgs false
theorem rcount_q (w : World) (lo TB : Nat) (t : Rx.T) (N : Nat) (hN : Rx.cnt t = N) (h : TreeAt w lo TB t) : Calls Tryz.prog 23 #[.pointer (some ⟨TB, 0, none⟩)] w fun e w' => e = .returned (.int .i64 (N : Int)) ∧ w' = w := by
  subst hN
  exact (rcount_any w lo TB t h).mono (fun e w' h => ⟨h.1, h.2.symm⟩)
theorem errV_kind (w : World) (k : Nat) (hg : EType w) : Calls Tryz.prog 22 #[Rx.errV k] w fun e w' => e = .returned (.int .i64 (k : Int)) ∧ Below w.heap.size w w' := by
  unfold Rx.errV
  split
  · next h => subst h; exact (kind_nil w).mono (fun e w' h => ⟨h.1, by rw [h.2]; exact Below.refl _ _⟩)
  · exact kind_errno w k hg
theorem slice_to' (l : List UInt8) (k : Nat) (h : k ≤ l.length) (w : World) : (Instr.sliceAt 9 (.string (str l)) none (some (.int .i64 (k : Int))) none).run Tryz.prog w = .ok (.string (str (l.take k))) w := by
  have hs : (str l).size = l.length := by simp [str, ByteArray.size]
  have he : (str l).extract 0 k = str (l.take k) := by
    apply ByteArray.ext
    simp [str]
  simp [go_sem]
  rw [if_pos (by omega), he]
theorem tdiv_in' (z d : Int) (hd : 2 ≤ d) (h : In64 z) : In64 (z.tdiv d) := by
  obtain ⟨h1, h2⟩ := h
  have h3 : (z.tdiv d).natAbs = z.natAbs / d.natAbs := Int.natAbs_tdiv z d
  have h4 : z.natAbs / d.natAbs ≤ z.natAbs / 2 := Nat.div_le_div_left (by omega) (by omega)
  unfold In64
  omega
theorem ex_slice_to' {o : Oper} {a : Act} {w : World} (x hi : Operand) (ho : o.op = .slice 9 x none (some hi) none) (l : List UInt8) (k : Nat) (hx : a.eval x = .string (str l)) (hh : a.eval hi = .int .i64 (k : Int)) (h : k ≤ l.length) :
    (execOp a.eval o).run Tryz.prog w = .ok (.value (.string (str (l.take k)))) w := by
  unfold execOp
  simp only [ho, hx, hh, Option.map_some, Option.map_none, Sem.run_bind, slice_to' l k h, Result.andThen_ok, Sem.run_pure]
set_option maxHeartbeats 8000000 in
set_option maxRecDepth 100000 in
theorem is_any (w : World) (lo lo2 TB KB : Nat) (t : Rx.T) (k : Rx.K) (vh vn : Value) (pa : Option Addr) (pn pc : Nat) (pl : List Int) (hT : TreeAt w lo TB t) (hK : KeptAt w lo2 KB k vh vn) (hM : Rx.Mt t k) (hk : k.length ≤ 1000)
    (hp : RdZ w pa pn pl) (hE : EType w) :
    Calls Tryz.prog 16 #[.pointer (some ⟨KB, 0, none⟩), .pointer (some ⟨TB, 0, none⟩), .slice pa pn pc] w fun e w' => e = .returned (.bool true) ∧ Below w.heap.size w w' := by
  obtain ⟨N, hN⟩ : ∃ N, N = k.length := ⟨_, rfl⟩
  obtain ⟨ah, ch, hvh, hhc, _⟩ := ownsRow_slice (hK.hsN hN)
  obtain ⟨an, cn, hvn, hnc, _⟩ := ownsRow_slice (hK.nsN hN)
  subst hvh; subst hvn
  have hcn : Rx.cnt t = N := by rw [hM.cnt hT.ok, hN]
  have hct := fun w' (b : Below w.heap.size w w') => rcount_q w' lo TB t N hcn (hT.below b)
  have HN := Lib.hid hN
  have HT := Lib.hid hT
  have HK := Lib.hid hK
  have HM := Lib.hid hM
  have HKL := Lib.hid hk
  have HP := Lib.hid hp
  have HE := Lib.hid hE
  have HHC := Lib.hid hhc
  have HH32 : Hid (∀ x ∈ k.map (·.1), x.length = 32) := Lib.hid (fun x hx => by obtain ⟨y, hy, rfl⟩ := List.mem_map.1 hx; exact hM.h32 y hy)
  have HHS : Hid (Rx.hashes t = Rx.sortH (k.map (·.1))) := Lib.hid (hM.hashes hT.ok)
  have HS32 : Hid (∀ x ∈ Rx.hashes t, x.length = 32) := Lib.hid (fun x hx => by
    obtain ⟨y, hy, rfl⟩ := List.mem_map.1 hx
    exact (Rx.leaves_ok t [] hT.ok y hy).1)
  have HSL : Hid ((Rx.hashes t).length = N) := Lib.hid (by rw [Rx.hashes, List.length_map, Rx.cnt_leaves, hcn])
  have HCT := Lib.hid hct
  have c0 : w.cell? ⟨KB, 0, none⟩ = some (.slice ah N ch) := blk_cell (i := 0) hK.top rfl
  have q1 : ((N : Int) == (N : Int)) = true := by simp
  clear hN hT hK hM hk hp hE hhc hnc hcn hct
  go_enter Tryz.func16, Tryz.ntmps16
  go_upto_region 1 with (fail)
  go_quiet (first | (go_at_call 23; exact Calls.quiet_of_same (HCT.out _ (by first | exact Below.refl _ _ | exact bel_drewN (Below.refl _ _) _))))
  have BD : Hid (Below w.heap.size w (w.drewN nq)) := Lib.hid (bel_drewN (Below.refl _ _) nq)
  generalize w.drewN nq = W1 at BD ⊢
  clear c0 q1
  go_wp2
  go_loopw [7, 8, 9] (fun kv _ _ wr => ∃ i : Nat, i ≤ N ∧ kv = .int .i64 (i : Int) ∧ Hid (Below w.heap.size w wr)) (fun kv _ _ _ => N - (intOf kv).toNat)
  case atStart => exact ⟨0, Nat.zero_le _, rfl, BD⟩
  case round =>
    obtain ⟨i, hi, rfl, BR⟩ := hrel
    have KR : Hid (KeptAt wr lo2 KB k (.slice ah N ch) (.slice an N cn)) := Lib.hid (HK.out.below BR.out)
    have c0 : wr.cell? ⟨KB, 0, none⟩ = some (.slice ah N ch) := blk_cell (i := 0) KR.out.top rfl
    by_cases hlt : i < N
    · have d0 : decide ((i : Int) < (N : Int)) = true := decide_eq_true (by omega)
      have d0' : decide (i < N) = true := decide_eq_true hlt
      have i0 : (0 : Int) ≤ (i : Int) := by omega
      have i1 : (i : Int) < (N : Int) := by omega
      have hw := wrapi' ((i : Int) + 1) (by have := HKL.out; have := HN.out; omega)
      have hx : k[i]? = some (k[i]'(by have := HN.out; omega)) := List.getElem?_eq_getElem _
      generalize k[i]'(by have := HN.out; omega) = x at hx
      have hx32 : x.1.length = 32 := KR.out.h32 x (List.mem_of_getElem? hx)
      have hrd : RdH wr ah N (k.map (·.1)) := RdA.of_own (e := 42) (base := lo2) (c := ch) (KR.out.hsN HN.out) (by rw [List.length_map]; exact HN.out.symm) (fun y hy => hashC_size _ (HH32.out y hy))
      obtain ⟨hb, ho, rfl, hbl, hp⟩ := hrd.at (map_get k (·.1) i x hx)
      have hget := rxGet_any wr lo TB t (HT.out.below BR.out) x.1 hx32
      rw [HM.out.get (List.mem_of_getElem? hx)] at hget
      simp only [Option.getD_some, Option.isSome_some] at hget
      have HX32 := Lib.hid hx32
      have PH : Hid (Part wr hb (ho + i * 32) (hashC x.1)) := Lib.hid hp
      have HXX := Lib.hid hx
      clear hrd hbl hp hx hx32
      go_wp2_with (first | (refine wpL_load ?hw 42 (.tmp 47) rfl hb (ho + i * 32) rfl (hashC x.1) _ PH.out Tryz.underlying42 rfl (by rw [hashC_size _ HX32.out]; exact sz_hash) ?_; case hw => kernel_rfl))
      refine hget.mono ?_
      clear hget c0
      rintro e w2 ⟨rfl, b2⟩
      have B2 : Hid (Below w.heap.size w w2) := Lib.hid (BR.out.trans (b2.mono BR.out.size))
      have K2 : Hid (KeptAt w2 lo2 KB k (.slice (some ⟨hb, ho, none⟩) N ch) (.slice an N cn)) := Lib.hid (KR.out.below b2)
      clear b2
      obtain ⟨gn, hgn, hgl, hgs⟩ := own_head (w := w2) (base := lo2) (e := 3) (size := 1) (a := an) (n := N) (c := cn) (xs := (k.map (·.2)).map (Value.int .i64)) (K2.out.nsN HN.out) (by omega)
      subst hgn
      have cc1 : w2.cell? ⟨KB, 1, none⟩ = some (.slice (some ⟨gn, 0, none⟩) N cn) := blk_cell (i := 1) K2.out.top rfl
      have cg : w2.cell? ⟨gn, i, none⟩ = some (.int .i64 x.2) := by
        rw [(K2.out.nsN HN.out).cellAt i (by omega)]
        simp [HXX.out]
      have q2 : (x.2 == x.2) = true := by simp
      clear hgl hgs
      go_wp2
      go_roundw
      case rel => exact ⟨i + 1, by omega, by go_num, B2⟩
      case measure => simp [intOf]; omega
    · have d0 : decide ((i : Int) < (N : Int)) = false := decide_eq_false (by omega)
      have d0' : decide (i < N) = false := decide_eq_false (by omega)
      have hrd : RdH wr ah N (k.map (·.1)) := RdA.of_own (e := 42) (base := lo2) (c := ch) (KR.out.hsN HN.out) (by rw [List.length_map]; exact HN.out.symm) (fun y hy => hashC_size _ (HH32.out y hy))
      have hsort := refSort_any wr ah N ch (k.map (·.1)) hrd HH32.out (by have := HKL.out; have := HN.out; omega)
      rw [← HHS.out] at hsort
      clear hrd hi hlt
      go_wp2_with fail
      refine hsort.mono ?_
      clear hsort c0 d0 d0'
      rintro e w2 ⟨v, rfl, hv, b2⟩
      obtain ⟨sa, sc, rfl, hsr, hsc, hsn⟩ := hv
      rw [HSL.out] at hsr hsc ⊢
      have B2 : Hid (Below w.heap.size w w2) := Lib.hid (BR.out.trans (b2.mono BR.out.size))
      have SR2 : Hid (RdH w2 sa N (Rx.hashes t)) := Lib.hid hsr
      have HSC : Hid (N ≤ sc ∧ (sa = none → sc = 0)) := Lib.hid ⟨hsc, hsn⟩
      have hall := all_any w2 lo TB t (HT.out.below B2.out) [] (by simp) 1000 (by omega)
      have hemp : Rx.allS t [] 1000 = Rx.hashes t := by
        rw [Rx.allS, if_pos (by rfl)]
        rw [List.filter_eq_self.2 (fun x hx => by simp [Wi.beg]), List.take_of_length_le (by rw [HSL.out]; have := HKL.out; have := HN.out; omega)]
      rw [hemp] at hall
      clear b2 hsr hsc hsn hemp
      go_wp2_with fail
      refine hall.mono ?_
      clear hall
      rintro e w3 ⟨v, rfl, o3, b3⟩
      obtain ⟨a3, c3, rfl, _⟩ := ownsRow_slice o3
      have B3 : Hid (Below w.heap.size w w3) := Lib.hid (B2.out.trans (b3.mono B2.out.size))
      have SR3 : Hid (RdH w3 sa N (Rx.hashes t)) := Lib.hid (SR2.out.below b3)
      have o3' : w3.ownsRow w2.heap.size 42 32 (.slice a3 (Rx.hashes t).length c3) (Rx.hashes t).length (flatC hashC (Rx.hashes t)) := o3
      rw [HSL.out] at o3' ⊢
      have R3 : RdH w3 a3 N (Rx.hashes t) := RdA.of_own o3' HSL.out (fun x hx => hashC_size x (HS32.out x hx))
      have hsame := sameHashes_yes w3 a3 N c3 (Rx.hashes t) R3 HS32.out sa sc SR3.out (by have := HKL.out; have := HN.out; omega)
      clear o3 o3' b3 R3
      go_wp2_with fail
      refine hsame.mono ?_
      clear hsame
      rintro e w4 ⟨rfl, b4⟩
      have B4 : Hid (Below w.heap.size w w4) := Lib.hid (B3.out.trans (b4.mono B3.out.size))
      have SR4 : Hid (RdH w4 sa N (Rx.hashes t)) := Lib.hid (SR3.out.below b4)
      clear b4
      go_wp2_with fail
      go_loopw [11] (fun kv wx => ∃ j : Nat, j ≤ pn ∧ kv = .int .i64 (j : Int) ∧ Hid (Below w4.heap.size w4 wx)) (fun kv _ => pn - (intOf kv).toNat)
      case atStart => exact ⟨0, Nat.zero_le _, rfl, Lib.hid (Below.refl _ _)⟩
      case round =>
        obtain ⟨j, hj, rfl, BQ⟩ := hrel
        have BR2 : Hid (Below w.heap.size w wr) := Lib.hid (B4.out.trans (BQ.out.mono B4.out.size))
        by_cases hlt : j < pn
        · have d0 : decide ((j : Int) < (pn : Int)) = true := decide_eq_true (by omega)
          have d0' : decide (j < pn) = true := decide_eq_true hlt
          by_cases h8 : j < 8
          · have d1 : decide ((j : Int) < 8) = true := decide_eq_true (by omega)
            have d1' : decide (j < 8) = true := decide_eq_true h8
            have i0 : (0 : Int) ≤ (j : Int) := by omega
            have i1 : (j : Int) < (pn : Int) := by omega
            have hw := wrapi' ((j : Int) + 1) (by omega)
            obtain ⟨hpl, hpi, hpr⟩ := HP.out.below BR2.out
            obtain ⟨pb, po, rfl, hpb, hpc⟩ := hpr (by omega)
            have hz : pl[j]? = some (pl[j]'(by omega)) := List.getElem?_eq_getElem _
            generalize pl[j]'(by omega) = z at hz
            have hzi : In64 z := hpi z (List.mem_of_getElem? hz)
            have hcz := hpc j z hz
            obtain ⟨zq, hzq⟩ : ∃ zq, zq = z.tdiv 60 := ⟨_, rfl⟩
            have hzqi : In64 zq := by rw [hzq]; exact tdiv_in' z 60 (by omega) hzi
            have hwq : IntKind.i64.wrap (z.tdiv 60) = zq := by rw [← hzq]; exact wrapi' zq hzqi
            obtain ⟨H, hH⟩ : ∃ H, H = Hs.of (z % 60).toNat := ⟨_, rfl⟩
            obtain ⟨rn, hrn⟩ : ∃ r : Nat, zq % 65 = (r : Int) := Int.eq_ofNat_of_zero_le (Int.emod_nonneg _ (by omega))
            have hr64 : rn ≤ 64 := by have := Int.emod_lt_of_pos zq (show (0 : Int) < 65 by omega); omega
            have HH : Hid (H.length = 32) := Lib.hid (by rw [hH]; rfl)
            have HRL : Hid (rn ≤ (Wi.hexT H).length) := Lib.hid (by rw [Wi.hexT_len, HH.out]; omega)
            have HR64 := Lib.hid hr64
            have FH : Hid (∀ X, Calls Tryz.prog 25 #[.int .i64 z] X fun e w' => e = .returned (.agg (hashC H)) ∧ Below X.heap.size X w') := Lib.hid (fun X => by have := hash32_any X z hzi.1 hzi.2; rwa [← hH] at this)
            have FT : Hid (∀ X, Calls Tryz.prog 32 #[.agg (hashC H)] X fun e w' => e = .returned (.string (str (Wi.hexT H))) ∧ Below X.heap.size X w') := Lib.hid (fun X => text_any X H HH.out)
            have FP : Hid (∀ X, Calls Tryz.prog 9 #[.int .i64 zq, .int .i64 65] X fun e w' => e = .returned (.int .i64 (rn : Int)) ∧ X = w') := Lib.hid (fun X => by have := pick_any X zq 65 hzqi.1 hzqi.2 (by omega) (by omega); rwa [hrn] at this)
            have CW : Hid (∀ w', Below wr.heap.size wr w' → w'.cell? ⟨pb, po + j, none⟩ = some (.int .i64 z)) := Lib.hid (fun w' h => (h.cell (p := ⟨pb, po + j, none⟩) hpb).trans hcz)
            have HZI := Lib.hid hzi
            have HZQ := Lib.hid hzq
            have HZJ := Lib.hid hz
            have HPB := Lib.hid hpb
            clear hzi hzq hzqi hH hrn hr64 hpl hpi hpr hpc hz hcz hpb
            go_upto_region 15 with (fail)
            refine wp_region_held_drew (S := fun w' => Below wr.heap.size wr w') (by kernel_rfl) (bel_drw wr) (fun hS0 => ?_)
            refine takeK (i := 0) (.slice (some ⟨pb, po, none⟩) pn pc) (some 85) rfl (by kernel_rfl) (by kernel_rfl) (by kernel_rfl) (by kernel_rfl) (fun _ _ _ h => h) (by kernel_rfl) (fun w' h' => by go_simp) hS0 ?_
            simp only [Act.put, List.setIfInBounds_toArray, List.set_cons_zero, List.set_cons_succ]
            refine takeK (i := 1) (.int .i64 (j : Int)) (some 86) rfl (by kernel_rfl) (by kernel_rfl) (by kernel_rfl) (by kernel_rfl) (fun _ _ _ h => h) (by kernel_rfl) (fun w' h' => by go_simp) hS0 ?_
            simp only [Act.put, List.setIfInBounds_toArray, List.set_cons_zero, List.set_cons_succ]
            refine takeK (i := 2) (.pointer (some ⟨pb, po + j, none⟩)) (some 87) rfl (by kernel_rfl) (by kernel_rfl) (by kernel_rfl) (by kernel_rfl) (fun _ _ _ h => h) (by kernel_rfl) (fun w' h' => by go_simp) hS0 ?_
            simp only [Act.put, List.setIfInBounds_toArray, List.set_cons_zero, List.set_cons_succ]
            refine takeK (i := 3) (.int .i64 z) (some 88) rfl (by kernel_rfl) (by kernel_rfl) (by kernel_rfl) (by kernel_rfl) (fun _ _ _ h => h) (by kernel_rfl) (fun w' h' => by have hcz := CW.out w' h'; go_simp) hS0 ?_
            simp only [Act.put, List.setIfInBounds_toArray, List.set_cons_zero, List.set_cons_succ]
            refine takeK (i := 6) (.slice (some ⟨pb, po, none⟩) pn pc) (some 91) rfl (by kernel_rfl) (by kernel_rfl) (by kernel_rfl) (by kernel_rfl) (fun _ _ _ h => h) (by kernel_rfl) (fun w' h' => by go_simp) hS0 ?_
            simp only [Act.put, List.setIfInBounds_toArray, List.set_cons_zero, List.set_cons_succ]
            refine takeK (i := 7) (.int .i64 (j : Int)) (some 92) rfl (by kernel_rfl) (by kernel_rfl) (by kernel_rfl) (by kernel_rfl) (fun _ _ _ h => h) (by kernel_rfl) (fun w' h' => by go_simp) hS0 ?_
            simp only [Act.put, List.setIfInBounds_toArray, List.set_cons_zero, List.set_cons_succ]
            refine takeK (i := 8) (.pointer (some ⟨pb, po + j, none⟩)) (some 93) rfl (by kernel_rfl) (by kernel_rfl) (by kernel_rfl) (by kernel_rfl) (fun _ _ _ h => h) (by kernel_rfl) (fun w' h' => by go_simp) hS0 ?_
            simp only [Act.put, List.setIfInBounds_toArray, List.set_cons_zero, List.set_cons_succ]
            refine takeK (i := 9) (.int .i64 z) (some 94) rfl (by kernel_rfl) (by kernel_rfl) (by kernel_rfl) (by kernel_rfl) (fun _ _ _ h => h) (by kernel_rfl) (fun w' h' => by have hcz := CW.out w' h'; go_simp) hS0 ?_
            simp only [Act.put, List.setIfInBounds_toArray, List.set_cons_zero, List.set_cons_succ]
            refine takeK (i := 10) (.int .i64 zq) (some 95) rfl (by kernel_rfl) (by kernel_rfl) (by kernel_rfl) (by kernel_rfl) (fun _ _ _ h => h) (by kernel_rfl) (fun w' h' => by go_simp) hS0 ?_
            simp only [Act.put, List.setIfInBounds_toArray, List.set_cons_zero, List.set_cons_succ]
            refine callK (i := 4) 25 #[.int .i64 z] (some 89) rfl (by kernel_rfl) (by kernel_rfl) (by kernel_rfl) (by kernel_rfl) (FH.out wr.drew) ?_
            rintro e x1 ⟨rfl, bx1⟩
            have x1S : Below wr.heap.size wr x1 := hS0.trans (bx1.mono hS0.size)
            refine ⟨_, rfl, x1S, fun hS => ?_⟩
            clear hS
            simp only [Act.put, List.setIfInBounds_toArray, List.set_cons_zero, List.set_cons_succ]
            refine callK (i := 5) 32 #[.agg (hashC H)] (some 90) rfl (by kernel_rfl) (by kernel_rfl) (by kernel_rfl) (by kernel_rfl) (FT.out x1) ?_
            rintro e wx ⟨rfl, bwx⟩
            have wxS : Below wr.heap.size wr wx := x1S.trans (bwx.mono x1S.size)
            refine ⟨_, rfl, wxS, fun hS => ?_⟩
            clear hS
            simp only [Act.put, List.setIfInBounds_toArray, List.set_cons_zero, List.set_cons_succ]
            refine callK (i := 11) 9 #[.int .i64 zq, .int .i64 65] (some 96) rfl (by kernel_rfl) (by kernel_rfl) (by kernel_rfl) (by kernel_rfl) (FP.out wx) ?_
            rintro e w' ⟨rfl, rfl⟩
            refine ⟨_, rfl, wxS, fun hS => ?_⟩
            clear hS
            simp only [Act.put, List.setIfInBounds_toArray, List.set_cons_zero, List.set_cons_succ]
            have bx := wxS
            have BX := Lib.hid wxS
            refine takeK (i := 12) (.string (str ((Wi.hexT H).take rn))) (some 97) rfl (by kernel_rfl) (by kernel_rfl) (by kernel_rfl) (by kernel_rfl) (fun _ _ _ h => h) (by kernel_rfl) (fun w' _ => ex_slice_to' (.tmp 90) (.tmp 96) rfl (Wi.hexT H) rn rfl rfl HRL.out) bx ?_
            simp only [Act.put, List.setIfInBounds_toArray, List.set_cons_zero, List.set_cons_succ]
            refine takeK (i := 13) (.string (str ((Wi.hexT H).take rn))) (some 12) rfl (by kernel_rfl) (by kernel_rfl) (by kernel_rfl) (by kernel_rfl) (fun _ _ _ h => h) (by kernel_rfl) (fun w' _ => ex_assign (.tmp 97) rfl) bx ?_
            simp only [Act.put, List.setIfInBounds_toArray, List.set_cons_zero, List.set_cons_succ]
            refine wpAnyH_done (by kernel_rfl) ?_ _
            obtain ⟨s0, hs0⟩ : ∃ s0, s0 = (Wi.hexT H).take rn := ⟨_, rfl⟩
            rw [← hs0]
            have HSO : Hid (Rx.startOk s0 ∧ s0.length ≤ 64) := Lib.hid (by
              rw [hs0]
              exact ⟨startOk_text H HH.out rn HR64.out, by rw [List.length_take]; have := HR64.out; omega⟩)
            have hcz : wx.cell? ⟨pb, po + j, none⟩ = some (.int .i64 z) := CW.out wx BX.out
            have BWX : Hid (Below w4.heap.size w4 wx) := Lib.hid (BQ.out.trans (BX.out.mono BQ.out.size))
            obtain ⟨tm, htm⟩ : ∃ tm, z.tmod 17 = tm := ⟨_, rfl⟩
            obtain ⟨q16, hq16⟩ : ∃ q, (tm == 16) = q := ⟨_, rfl⟩
            clear hs0 bx x1S wxS bwx bx1 hS0 hwq FH FT HH HRL HR64 FP
            go_upto_if 103 with (fail)
            go_cut [12] from 104 to 182 (fun v12 wy => ∃ s : List UInt8, v12 = .string (str s) ∧ Hid (Rx.startOk s ∧ s.length ≤ 64) ∧ Hid (Below w4.heap.size w4 wy))
            case first =>
              cases q16
              · go_wp2
                go_meet
                exact ⟨s0, rfl, HSO, BWX⟩
              · go_wp2
                go_meet
                exact ⟨[120, 121, 122], rfl, Lib.hid ⟨startOk_xyz, by decide⟩, BWX⟩
            case rest =>
            clear hcz hq16 htm
            rename World => wy
            obtain ⟨s, rfl, HSO2, BY⟩ := hcut
            have SRY : Hid (RdH wy sa N (Rx.hashes t)) := Lib.hid (SR4.out.below BY.out)
            have BWY : Hid (Below w.heap.size w wy) := Lib.hid (B4.out.trans (BY.out.mono B4.out.size))
            have hcz : wy.cell? ⟨pb, po + j, none⟩ = some (.int .i64 z) := by
              obtain ⟨_, _, hpr⟩ := HP.out.below BWY.out
              obtain ⟨b1, o1, e1, _, hc⟩ := hpr (by omega)
              cases e1
              exact hc j z HZJ.out
            have HCZ := Lib.hid hcz
            clear hcz
            go_wp2_with fail
            go_loopw [13, 14] (fun ov kv wz => ∃ m : Nat, m ≤ N ∧ kv = .int .i64 (m : Int) ∧ Hid (OwnH wz wy.heap.size ov (((Rx.hashes t).take m).filter fun h => Wi.beg h s)) ∧ Hid (Below wy.heap.size wy wz)) (fun _ kv _ => N - (intOf kv).toNat)
            case atStart => exact ⟨0, Nat.zero_le _, rfl, Lib.hid (World.ownsRow_nil _ _ _ _), Lib.hid (Below.refl _ _)⟩
            case round =>
              obtain ⟨m, hm, rfl, OM, BZ⟩ := hrel
              rename World => wz
              by_cases hlm : m < N
              · have e0 : decide ((m : Int) < (N : Int)) = true := decide_eq_true (by omega)
                have e0' : decide (m < N) = true := decide_eq_true hlm
                have m0 : (0 : Int) ≤ (m : Int) := by omega
                have m1 : (m : Int) < (N : Int) := by omega
                have hwm := wrapi' ((m : Int) + 1) (by have := HKL.out; have := HN.out; omega)
                have hx : (Rx.hashes t)[m]? = some ((Rx.hashes t)[m]'(by have := HSL.out; omega)) := List.getElem?_eq_getElem _
                generalize (Rx.hashes t)[m]'(by have := HSL.out; omega) = x at hx
                have hx32 : x.length = 32 := HS32.out x (List.mem_of_getElem? hx)
                have htk : (Rx.hashes t).take (m + 1) = (Rx.hashes t).take m ++ [x] := by rw [List.take_add_one, hx]; rfl
                obtain ⟨hb, ho, rfl, hbl, hp⟩ := (SRY.out.below BZ.out).at hx
                have PX : Hid (∀ w', Below wz.heap.size wz w' → Part w' hb (ho + m * 32) (hashC x)) := Lib.hid (fun w' h c v hv => (h.cell (p := ⟨hb, ho + m * 32 + c, none⟩) hbl).trans (hp c v hv))
                have P1 := Lib.hid (PX.out wz (Below.refl _ _))
                have HX := Lib.hid hx32
                have HTK := Lib.hid htk
                have hbeg := refBegins_any wz x s hx32 (by have := HSO2.out.2; omega)
                obtain ⟨bq, hbq⟩ : ∃ bq, bq = Wi.beg x s := ⟨_, rfl⟩
                rw [← hbq] at hbeg
                have HBQ := Lib.hid hbq
                clear hx hx32 htk hbl hp hbq
                go_wp2_with (first | (refine wpL_load ?hw 42 (.tmp 112) rfl hb (ho + m * 32) rfl (hashC x) _ P1.out Tryz.underlying42 rfl (by rw [hashC_size _ HX.out]; exact sz_hash) ?_; case hw => kernel_rfl))
                refine hbeg.mono ?_
                clear hbeg
                rintro e w6 ⟨rfl, b6⟩
                have B6 : Hid (Below wy.heap.size wy w6) := Lib.hid (BZ.out.trans (b6.mono BZ.out.size))
                have O6 : Hid (OwnH w6 wy.heap.size u13 (((Rx.hashes t).take m).filter fun h => Wi.beg h s)) := Lib.hid (ownsRow_stay OM.out (TStay.of_below b6 (fun _ => False)) (fun _ _ h => h))
                have P6 := Lib.hid (PX.out w6 b6)
                clear b6 P1 PX OM
                cases bq
                · have HFT : Hid (((Rx.hashes t).take (m + 1)).filter (fun h => Wi.beg h s) = ((Rx.hashes t).take m).filter (fun h => Wi.beg h s)) := Lib.hid (by
                    rw [HTK.out, List.filter_append]
                    simp [← HBQ.out])
                  go_wp2
                  go_roundw
                  case rel => exact ⟨m + 1, by omega, by go_num, Lib.hid (by rw [HFT.out]; exact O6.out), B6⟩
                  case measure => simp [intOf]; omega
                · have HFT : Hid (((Rx.hashes t).take (m + 1)).filter (fun h => Wi.beg h s) = ((Rx.hashes t).take m).filter (fun h => Wi.beg h s) ++ [x]) := Lib.hid (by
                    rw [HTK.out, List.filter_append]
                    simp [← HBQ.out])
                  have HLE : Hid ((((Rx.hashes t).take m).filter fun h => Wi.beg h s).length ≤ 1000000) := Lib.hid (by
                    have h1 := List.length_filter_le (fun h => Wi.beg h s) ((Rx.hashes t).take m)
                    rw [List.length_take] at h1
                    have := HSL.out; have := HKL.out; have := HN.out; omega)
                  generalize ((Rx.hashes t).take m).filter (fun h => Wi.beg h s) = L at O6 HFT HLE
                  have bA : Below w6.heap.size w6 (w6.alloc (.cells (hashC x) 42)) := (Below.refl _ _).alloc (Nat.le_refl _) _
                  have OA := Lib.hid (ownsRow_stay O6.out (TStay.of_below bA (fun _ => False)) (fun _ _ h => h))
                  have SA : Hid (wy.heap.size ≤ (w6.alloc (.cells (hashC x) 42)).heap.size) := Lib.hid (Nat.le_trans B6.out.size bA.size)
                  have BA := Lib.hid (B6.out.trans (bA.mono B6.out.size))
                  clear bA
                  go_wp2_with (first | (refine wpL_load ?hw 42 (.tmp 119) rfl hb (ho + m * 32) rfl (hashC x) _ P6.out Tryz.underlying42 rfl (by rw [hashC_size _ HX.out]; exact sz_hash) ?_; case hw => kernel_rfl) | (refine wpL_rowOne rfl 35 42 (.tmp 120) rfl 121 rfl Tryz.underlying35 (hashC x) (by rfl) (.agg (hashC Wi.z32)) 32 zi_hash (by decide) (hashC_size _ HX.out) ?_) | (at_builtin; refine wpL_appH _ rfl (.tmp 116) (.tmp 121) rfl wy.heap.size u13 L (by rfl) OA.out w6.heap.size x HX.out (by rfl) (heap_alloc_new _ _) HLE.out SA.out ?_))
                  intro v' w8 O8 G8
                  have O8' := Lib.hid O8
                  have B8 : Hid (Below wy.heap.size wy w8) := Lib.hid (Below.trans_stay BA.out ((TStay.refl (fun j => wy.heap.size ≤ j) _).grown G8 (fun j hj => .inl (OA.out.lt j hj).1)) (Nat.le_refl _) (fun j hj e => by omega))
                  clear O8 G8 OA SA BA
                  go_wp2
                  go_roundw
                  case rel => exact ⟨m + 1, by omega, by go_num, Lib.hid (by rw [HFT.out]; exact O8'.out), B8⟩
                  case measure => simp [intOf]; omega
              · have hmN : m = N := by omega
                have e0 : decide ((m : Int) < (N : Int)) = false := decide_eq_false (by omega)
                have e0' : decide (m < N) = false := decide_eq_false (by omega)
                have htk : ((Rx.hashes t).take m) = Rx.hashes t := List.take_of_length_le (by have := HSL.out; omega)
                obtain ⟨L, hL⟩ : ∃ L, L = (Rx.hashes t).filter (fun h => Wi.beg h s) := ⟨_, rfl⟩
                have OL : OwnH wz wy.heap.size u13 L := by
                  have h1 := OM.out
                  rw [htk, ← hL] at h1
                  exact h1
                obtain ⟨oa, oc, rfl, hoc, _, hon, _⟩ := ownsRow_slice OL
                obtain ⟨ln, hln⟩ : ∃ ln, ln = L.length := ⟨_, rfl⟩
                have hL32 : ∀ x ∈ L, x.length = 32 := fun x hx => by rw [hL] at hx; exact HS32.out x (List.mem_filter.1 hx).1
                have OLn : wz.ownsRow wy.heap.size 42 32 (.slice oa L.length oc) L.length (flatC hashC L) := OL
                rw [← hln] at hoc OLn ⊢
                have RL : Hid (RdH wz oa ln L) := Lib.hid (RdA.of_own OLn hln.symm (fun x hx => hashC_size x (hL32 x hx)))
                have HL := Lib.hid hL
                have HL32 := Lib.hid hL32
                have HLN := Lib.hid hln
                have HOC := Lib.hid (And.intro hoc hon)
                have BWZ : Hid (Below w.heap.size w wz) := Lib.hid (BWY.out.trans (BZ.out.mono BWY.out.size))
                have HLE : Hid (ln ≤ 1000) := Lib.hid (by
                  have h1 := List.length_filter_le (fun h => Wi.beg h s) (Rx.hashes t)
                  rw [← hL, ← hln] at h1
                  have := HSL.out; have := HKL.out; have := HN.out; omega)
                have hcz : wz.cell? ⟨pb, po + j, none⟩ = some (.int .i64 z) := by
                  obtain ⟨_, _, hpr⟩ := HP.out.below BWZ.out
                  obtain ⟨b1, o1, e1, _, hc⟩ := hpr (by omega)
                  cases e1
                  exact hc j z HZJ.out
                obtain ⟨z7, hz7⟩ : ∃ z7, z7 = z.tdiv 7 := ⟨_, rfl⟩
                have hz7i : In64 z7 := by rw [hz7]; exact tdiv_in' z 7 (by omega) HZI.out
                have hw7 : IntKind.i64.wrap (z.tdiv 7) = z7 := by rw [← hz7]; exact wrapi' z7 hz7i
                obtain ⟨mo, hmo⟩ : ∃ r : Nat, z7 % 4 = (r : Int) := Int.eq_ofNat_of_zero_le (Int.emod_nonneg _ (by omega))
                have hmo4 : mo < 4 := by have := Int.emod_lt_of_pos z7 (show (0 : Int) < 4 by omega); omega
                have hpk := pick_any wz z7 4 hz7i.1 hz7i.2 (by omega) (by omega)
                rw [hmo] at hpk
                have HMO := Lib.hid hmo4
                clear hL hln OL OLn hoc hon hL32 htk hz7 hz7i hmo hmo4 OM hm hlm hmN
                go_wp2_with fail
                refine hpk.mono ?_
                clear hpk
                rintro e w' ⟨rfl, rfl⟩
                go_upto_region 25 with (fail)
                clear hcz hw7 e0 e0'
                obtain ⟨mn, hmn⟩ : ∃ mn : Nat, mn = min mo ln := ⟨_, rfl⟩
                have hmi : min (mo : Int) (ln : Int) = (mn : Int) := by omega
                have k0 : (0 : Int) ≤ (mn : Int) := by omega
                have k1 : (mn : Int) ≤ (oc : Int) := by have := HOC.out.1; omega
                have k1' : mn ≤ oc := by omega
                have HMN := Lib.hid hmn
                clear hmn
                refine wp_region_held_drew (S := fun w' => Below wz.heap.size wz w') (by kernel_rfl) (bel_drw wz) (fun hS0 => ?_)
                refine takeK (i := 0) (.pointer (some ⟨TB, 0, none⟩)) (some 129) rfl (by kernel_rfl) (by kernel_rfl) (by kernel_rfl) (by kernel_rfl) (fun _ _ _ h => h) (by kernel_rfl) (fun w' h' => by go_simp) hS0 ?_
                simp only [Act.put, List.setIfInBounds_toArray, List.set_cons_zero, List.set_cons_succ]
                refine takeK (i := 1) (.string (str s)) (some 130) rfl (by kernel_rfl) (by kernel_rfl) (by kernel_rfl) (by kernel_rfl) (fun _ _ _ h => h) (by kernel_rfl) (fun w' h' => by go_simp) hS0 ?_
                simp only [Act.put, List.setIfInBounds_toArray, List.set_cons_zero, List.set_cons_succ]
                refine takeK (i := 2) (.int .i64 (mo : Int)) (some 131) rfl (by kernel_rfl) (by kernel_rfl) (by kernel_rfl) (by kernel_rfl) (fun _ _ _ h => h) (by kernel_rfl) (fun w' h' => by go_simp) hS0 ?_
                simp only [Act.put, List.setIfInBounds_toArray, List.set_cons_zero, List.set_cons_succ]
                refine takeK (i := 4) (.slice oa ln oc) (some 133) rfl (by kernel_rfl) (by kernel_rfl) (by kernel_rfl) (by kernel_rfl) (fun _ _ _ h => h) (by kernel_rfl) (fun w' h' => by go_simp) hS0 ?_
                simp only [Act.put, List.setIfInBounds_toArray, List.set_cons_zero, List.set_cons_succ]
                refine takeK (i := 5) (.int .i64 (mo : Int)) (some 134) rfl (by kernel_rfl) (by kernel_rfl) (by kernel_rfl) (by kernel_rfl) (fun _ _ _ h => h) (by kernel_rfl) (fun w' h' => by go_simp) hS0 ?_
                simp only [Act.put, List.setIfInBounds_toArray, List.set_cons_zero, List.set_cons_succ]
                refine takeK (i := 6) (.slice oa ln oc) (some 135) rfl (by kernel_rfl) (by kernel_rfl) (by kernel_rfl) (by kernel_rfl) (fun _ _ _ h => h) (by kernel_rfl) (fun w' h' => by go_simp) hS0 ?_
                simp only [Act.put, List.setIfInBounds_toArray, List.set_cons_zero, List.set_cons_succ]
                refine takeK (i := 7) (.int .i64 (ln : Int)) (some 136) rfl (by kernel_rfl) (by kernel_rfl) (by kernel_rfl) (by kernel_rfl) (fun _ _ _ h => h) (by kernel_rfl) (fun w' h' => by go_simp) hS0 ?_
                simp only [Act.put, List.setIfInBounds_toArray, List.set_cons_zero, List.set_cons_succ]
                refine takeK (i := 8) (.int .i64 (mn : Int)) (some 137) rfl (by kernel_rfl) (by kernel_rfl) (by kernel_rfl) (by kernel_rfl) (fun _ _ _ h => h) (by kernel_rfl) (fun w' h' => by go_simp) hS0 ?_
                simp only [Act.put, List.setIfInBounds_toArray, List.set_cons_zero, List.set_cons_succ]
                refine takeK (i := 9) (.slice oa mn oc) (some 138) rfl (by kernel_rfl) (by kernel_rfl) (by kernel_rfl) (by kernel_rfl) (fun _ _ _ h => h) (by kernel_rfl) (fun w' h' => by go_simp) hS0 ?_
                simp only [Act.put, List.setIfInBounds_toArray, List.set_cons_zero, List.set_cons_succ]
                have hall := all_any wz.drew lo TB t (HT.out.below (BWZ.out.trans ((bel_drw wz).mono BWZ.out.size))) s HSO2.out.2 mo (by have := HMO.out; omega)
                rw [Rx.allS_some HSO2.out.1 HS32.out, ← show L = _ from HL.out, show L.take mo = L.take mn by rw [HMN.out, HLN.out]; exact List.take_eq_take_min] at hall
                refine callK (i := 3) 31 #[.pointer (some ⟨TB, 0, none⟩), .string (str s), .int .i64 (mo : Int)] (some 132) rfl (by kernel_rfl) (by kernel_rfl) (by kernel_rfl) (by kernel_rfl) hall ?_
                rintro e x1 ⟨v4, rfl, o4, b4⟩
                have x1S : Below wz.heap.size wz x1 := hS0.trans (b4.mono hS0.size)
                have hmnl : (L.take mn).length = mn := by rw [List.length_take]; have := HMN.out; have := HLN.out; omega
                have o4' : x1.ownsRow wz.drew.heap.size 42 32 v4 (L.take mn).length (flatC hashC (L.take mn)) := o4
                rw [hmnl] at o4'
                obtain ⟨a4, c4, rfl, _⟩ := ownsRow_slice o4'
                refine ⟨_, rfl, x1S, fun hS => ?_⟩
                clear hS hall
                simp only [Act.put, List.setIfInBounds_toArray, List.set_cons_zero, List.set_cons_succ]
                have hsame := sameHashes_yes x1 a4 mn c4 (L.take mn) (RdA.of_own o4' hmnl (fun x hx => hashC_size x (HL32.out x (List.mem_of_mem_take hx)))) (fun x hx => HL32.out x (List.mem_of_mem_take hx)) oa oc ((RL.out.below x1S).take (by have := HMN.out; omega)) (by have := HMN.out; have := HMO.out; omega)
                refine callK (i := 10) 30 #[.slice a4 mn c4, .slice oa mn oc] (some 139) rfl (by kernel_rfl) (by kernel_rfl) (by kernel_rfl) (by kernel_rfl) hsame ?_
                rintro e wv ⟨rfl, b5⟩
                have BV : Below wz.heap.size wz wv := x1S.trans (b5.mono x1S.size)
                refine ⟨_, rfl, BV, fun hS => ?_⟩
                clear hsame
                simp only [Act.put, List.setIfInBounds_toArray, List.set_cons_zero, List.set_cons_succ]
                refine takeK (i := 11) (.bool false) (some 140) rfl (by kernel_rfl) (by kernel_rfl) (by kernel_rfl) (by kernel_rfl) (fun _ _ _ h => h) (by kernel_rfl) (fun w' h' => by go_simp) hS ?_
                simp only [Act.put, List.setIfInBounds_toArray, List.set_cons_zero, List.set_cons_succ]
                refine wpAnyH_done (by kernel_rfl) ?_ _
                have BVH := Lib.hid BV
                clear BV hS x1S b4 b5 o4 o4' hmnl hS0 k0 k1 k1' hmi
                have hpf := prefix_any wv lo TB t (HT.out.below (BWZ.out.trans (BVH.out.mono BWZ.out.size))) s HSO2.out.2
                have hpw := Rx.pfx_want HSO2.out.1 HS32.out L HL.out
                obtain ⟨Y, hY⟩ : ∃ Y, Y = (Rx.pfx t s).1 := ⟨_, rfl⟩
                obtain ⟨wk, hwk⟩ : ∃ wk, wk = (Rx.pfx t s).2 := ⟨_, rfl⟩
                rw [← hY, ← hwk] at hpf
                have HPF : Hid ((Y, wk) = (if Rx.want s L = 0 then L.headD [] else Wi.z32, Rx.want s L)) := Lib.hid (by rw [← hpw, hY, hwk])
                have HY : Hid (Y.length = 32) := Lib.hid (by
                  have h1 := congrArg Prod.fst HPF.out
                  simp only at h1
                  rw [h1]
                  split
                  · next h0 =>
                    unfold Rx.want at h0
                    split at h0
                    · split at h0
                      · omega
                      · rcases L with _ | ⟨a, r⟩
                        · simp at *
                        · exact HL32.out a (List.mem_cons_self ..)
                    · omega
                  · rfl)
                clear hpw hY hwk
                obtain ⟨EV, hEV⟩ : ∃ EV, EV = Rx.errV wk := ⟨_, rfl⟩
                rw [← hEV] at hpf
                have FK : Hid (∀ X, EType X → Calls Tryz.prog 22 #[EV] X fun e w' => e = .returned (.int .i64 (wk : Int)) ∧ Below X.heap.size X w') := Lib.hid (fun X hg => by rw [hEV]; exact errV_kind X wk hg)
                clear hEV
                go_wp2_with fail
                refine hpf.mono ?_
                clear hpf
                rintro e wp ⟨rfl, bp⟩
                have BVZ : Hid (Below wz.heap.size wz wp) := Lib.hid (BVH.out.trans (bp.mono BVH.out.size))
                clear bp BVH
                go_upto_region 28 with (first | (refine wpL_var 42 145 16 (hashC Wi.z32) rfl rfl rfl rfl rfl rfl (hashC Y) (by rfl) (by rw [hashC_size _ HY.out]; exact zi_hash) (by rw [hashC_size _ HY.out]; rfl) (hashC_one _) (by decide) (by kernel_rfl) ?_))
                obtain ⟨w5, hw5⟩ : ∃ w5, w5 = wp.alloc (.cells (hashC Y) 42) := ⟨_, rfl⟩
                rw [← hw5]
                have b5v : Below wp.heap.size wp w5 := by rw [hw5]; exact (Below.refl _ _).alloc (Nat.le_refl _) _
                have T5 : w5.heap[wp.heap.size]? = some (.cells (hashC Y) 42 (0, 0)) := by rw [hw5]; exact heap_alloc_new _ _
                have PY : Hid (∀ w', Below w5.heap.size w5 w' → Part w' wp.heap.size 0 (hashC Y)) := Lib.hid (fun w' h => Part.of_blk ((h.block _ (blk_lt T5)).trans T5))
                have B5V := Lib.hid b5v
                have B5 : Hid (Below w4.heap.size w4 w5) := Lib.hid (by
                  have h1 := BY.out.trans (BZ.out.mono BY.out.size)
                  have h2 := h1.trans (BVZ.out.mono h1.size)
                  exact h2.trans (b5v.mono h2.size))
                have HE5 : Hid (EType w5) := Lib.hid (HE.out.keep (B4.out.trans (B5.out.mono B4.out.size)))
                clear hw5 b5v T5
                have hpre := refIsPrefix_any w5 s (by have := HSO2.out.2; omega)
                obtain ⟨qp, hqp⟩ : ∃ qp, qp = Wi.isPre s := ⟨_, rfl⟩
                rw [← hqp] at hpre
                have HQP := Lib.hid hqp
                clear hqp
                go_wp2_with fail
                refine hpre.mono ?_
                clear hpre
                rintro e w' ⟨rfl, rfl⟩
                cases qp
                · as_aux_lemma =>
                  have HW0 : Hid (Y = Wi.z32 ∧ wk = 1) := Lib.hid (by
                    have e1 : Rx.want s L = 1 := by rw [Rx.want, if_neg (by rw [← HQP.out]; simp)]
                    have h1 := HPF.out
                    rw [e1] at h1
                    simpa using h1)
                  obtain ⟨hYv, hwk⟩ := HW0.out
                  subst hwk
                  clear HW0
                  have FK1 : Hid (∀ X, EType X → Calls Tryz.prog 22 #[EV] X fun e w' => e = .returned (.int .i64 1) ∧ Below X.heap.size X w') := Lib.hid (fun X h => FK.out X h)
                  have HYZ : Hid (Y = Wi.z32) := Lib.hid hYv
                  clear hYv
                  go_upto_region 35 with (fail)
                  refine wp_region_held_drew (S := fun w' => Below w5.heap.size w5 w') (by kernel_rfl) (bel_drw w5) (fun hS0 => ?_)
                  refine takeK (i := 0) (EV) (some 159) rfl (by kernel_rfl) (by kernel_rfl) (by kernel_rfl) (by kernel_rfl) (fun _ _ _ h => h) (by kernel_rfl) (fun w' _ => by go_simp) hS0 ?_
                  simp only [Act.put, List.setIfInBounds_toArray, List.set_cons_zero, List.set_cons_succ]
                  refine takeK (i := 2) (.int .i64 1) (some 161) rfl (by kernel_rfl) (by kernel_rfl) (by kernel_rfl) (by kernel_rfl) (fun _ _ _ h => h) (by kernel_rfl) (fun w' _ => by go_simp) hS0 ?_
                  simp only [Act.put, List.setIfInBounds_toArray, List.set_cons_zero, List.set_cons_succ]
                  refine callK (i := 1) 22 #[EV] (some 160) rfl (by kernel_rfl) (by kernel_rfl) (by kernel_rfl) (by kernel_rfl) (FK1.out w5.drew (HE5.out.keep (bel_drw w5))) ?_
                  rintro e x1 ⟨rfl, b1⟩
                  have x1S : Below w5.heap.size w5 x1 := hS0.trans (b1.mono hS0.size)
                  refine ⟨_, rfl, x1S, fun hS => ?_⟩
                  clear hS
                  simp only [Act.put, List.setIfInBounds_toArray, List.set_cons_zero, List.set_cons_succ]
                  refine takeK (i := 3) (.bool false) (some 162) rfl (by kernel_rfl) (by kernel_rfl) (by kernel_rfl) (by kernel_rfl) (fun _ _ _ h => h) (by kernel_rfl) (fun w' h' => by go_simp) x1S ?_
                  simp only [Act.put, List.setIfInBounds_toArray, List.set_cons_zero, List.set_cons_succ]
                  refine takeK (i := 4) (.bool false) (some 163) rfl (by kernel_rfl) (by kernel_rfl) (by kernel_rfl) (by kernel_rfl) (fun _ _ _ h => h) (by kernel_rfl) (fun w' h' => by go_simp) x1S ?_
                  simp only [Act.put, List.setIfInBounds_toArray, List.set_cons_zero, List.set_cons_succ]
                  refine takeK (i := 5) (.int .i64 1) (some 164) rfl (by kernel_rfl) (by kernel_rfl) (by kernel_rfl) (by kernel_rfl) (fun _ _ _ h => h) (by kernel_rfl) (fun w' h' => by go_simp) x1S ?_
                  simp only [Act.put, List.setIfInBounds_toArray, List.set_cons_zero, List.set_cons_succ]
                  refine takeK (i := 6) (.bool false) (some 165) rfl (by kernel_rfl) (by kernel_rfl) (by kernel_rfl) (by kernel_rfl) (fun _ _ _ h => h) (by kernel_rfl) (fun w' h' => by go_simp) x1S ?_
                  simp only [Act.put, List.setIfInBounds_toArray, List.set_cons_zero, List.set_cons_succ]
                  refine takeK (i := 7) (.bool false) (some 166) rfl (by kernel_rfl) (by kernel_rfl) (by kernel_rfl) (by kernel_rfl) (fun _ _ _ h => h) (by kernel_rfl) (fun w' h' => by go_simp) x1S ?_
                  simp only [Act.put, List.setIfInBounds_toArray, List.set_cons_zero, List.set_cons_succ]
                  refine skipK (i := 8) (some 167) rfl (by kernel_rfl) (by kernel_rfl) (by kernel_rfl) (by kernel_rfl) (fun _ _ _ h => h) (by kernel_rfl) x1S ?_
                  simp only [Act.put, List.setIfInBounds_toArray, List.set_cons_zero, List.set_cons_succ]
                  refine skipK (i := 9) (some 168) rfl (by kernel_rfl) (by kernel_rfl) (by kernel_rfl) (by kernel_rfl) (fun _ _ _ h => h) (by kernel_rfl) x1S ?_
                  simp only [Act.put, List.setIfInBounds_toArray, List.set_cons_zero, List.set_cons_succ]
                  refine skipK (i := 10) (some 169) rfl (by kernel_rfl) (by kernel_rfl) (by kernel_rfl) (by kernel_rfl) (fun _ _ _ h => h) (by kernel_rfl) x1S ?_
                  simp only [Act.put, List.setIfInBounds_toArray, List.set_cons_zero, List.set_cons_succ]
                  refine skipK (i := 11) (some 170) rfl (by kernel_rfl) (by kernel_rfl) (by kernel_rfl) (by kernel_rfl) (fun _ _ _ h => h) (by kernel_rfl) x1S ?_
                  simp only [Act.put, List.setIfInBounds_toArray, List.set_cons_zero, List.set_cons_succ]
                  refine skipK (i := 12) (some 171) rfl (by kernel_rfl) (by kernel_rfl) (by kernel_rfl) (by kernel_rfl) (fun _ _ _ h => h) (by kernel_rfl) x1S ?_
                  simp only [Act.put, List.setIfInBounds_toArray, List.set_cons_zero, List.set_cons_succ]
                  refine takeK (i := 13) (.bool false) (some 172) rfl (by kernel_rfl) (by kernel_rfl) (by kernel_rfl) (by kernel_rfl) (fun _ _ _ h => h) (by kernel_rfl) (fun w' h' => by go_simp) x1S ?_
                  simp only [Act.put, List.setIfInBounds_toArray, List.set_cons_zero, List.set_cons_succ]
                  refine takeK (i := 14) (.bool false) (some 173) rfl (by kernel_rfl) (by kernel_rfl) (by kernel_rfl) (by kernel_rfl) (fun _ _ _ h => h) (by kernel_rfl) (fun w' h' => by go_simp) x1S ?_
                  simp only [Act.put, List.setIfInBounds_toArray, List.set_cons_zero, List.set_cons_succ]
                  refine takeK (i := 15) (.bool false) (some 174) rfl (by kernel_rfl) (by kernel_rfl) (by kernel_rfl) (by kernel_rfl) (fun _ _ _ h => h) (by kernel_rfl) (fun w' h' => by go_simp) x1S ?_
                  simp only [Act.put, List.setIfInBounds_toArray, List.set_cons_zero, List.set_cons_succ]
                  refine takeK (i := 16) (.int .i64 1) (some 175) rfl (by kernel_rfl) (by kernel_rfl) (by kernel_rfl) (by kernel_rfl) (fun _ _ _ h => h) (by kernel_rfl) (fun w' h' => by go_simp) x1S ?_
                  simp only [Act.put, List.setIfInBounds_toArray, List.set_cons_zero, List.set_cons_succ]
                  refine takeK (i := 17) (.bool true) (some 176) rfl (by kernel_rfl) (by kernel_rfl) (by kernel_rfl) (by kernel_rfl) (fun _ _ _ h => h) (by kernel_rfl) (fun w' h' => by go_simp) x1S ?_
                  simp only [Act.put, List.setIfInBounds_toArray, List.set_cons_zero, List.set_cons_succ]
                  refine takeK (i := 18) (.bool true) (some 177) rfl (by kernel_rfl) (by kernel_rfl) (by kernel_rfl) (by kernel_rfl) (fun _ _ _ h => h) (by kernel_rfl) (fun w' h' => by go_simp) x1S ?_
                  simp only [Act.put, List.setIfInBounds_toArray, List.set_cons_zero, List.set_cons_succ]
                  refine takeK (i := 19) (.agg (hashC Y)) (some 178) rfl (by kernel_rfl) (by kernel_rfl) (by kernel_rfl) (by kernel_rfl) (fun _ _ _ h => h) (by kernel_rfl) (fun w' h' => ex_load 42 (.tmp 16) rfl wp.heap.size 0 (by kernel_rfl) (hashC Y) _ (PY.out w' h') Tryz.underlying42 rfl (by rw [hashC_size _ HY.out]; exact sz_hash)) x1S ?_
                  simp only [Act.put, List.setIfInBounds_toArray, List.set_cons_zero, List.set_cons_succ]
                  refine takeK (i := 20) (.agg (hashC Wi.z32)) (some 179) rfl (by kernel_rfl) (by kernel_rfl) (by kernel_rfl) (by kernel_rfl) (fun _ _ _ h => h) (by kernel_rfl) (fun w' h' => ex_mk 42 #[] rfl [] rfl _ bt_hash0) x1S ?_
                  simp only [Act.put, List.setIfInBounds_toArray, List.set_cons_zero, List.set_cons_succ]
                  refine takeK (i := 21) (.bool false) (some 180) rfl (by kernel_rfl) (by kernel_rfl) (by kernel_rfl) (by kernel_rfl) (fun _ _ _ h => h) (by kernel_rfl) (fun w' h' => ex_cmp .neq 42 42 (.tmp 178) (.tmp 179) rfl (hashC Y) (hashC Wi.z32) (by kernel_rfl) (by kernel_rfl) gd_hash false (by rw [cmp_hash_ne Y Wi.z32 HY.out rfl, HYZ.out]; simp)) x1S ?_
                  simp only [Act.put, List.setIfInBounds_toArray, List.set_cons_zero, List.set_cons_succ]
                  refine takeK (i := 22) (.bool false) (some 181) rfl (by kernel_rfl) (by kernel_rfl) (by kernel_rfl) (by kernel_rfl) (fun _ _ _ h => h) (by kernel_rfl) (fun w' h' => by go_simp) x1S ?_
                  simp only [Act.put, List.setIfInBounds_toArray, List.set_cons_zero, List.set_cons_succ]
                  refine takeK (i := 23) (.bool false) (some 182) rfl (by kernel_rfl) (by kernel_rfl) (by kernel_rfl) (by kernel_rfl) (fun _ _ _ h => h) (by kernel_rfl) (fun w' h' => by go_simp) x1S ?_
                  simp only [Act.put, List.setIfInBounds_toArray, List.set_cons_zero, List.set_cons_succ]
                  refine wpAnyH_done (by kernel_rfl) ?_ _
                  have BXX := Lib.hid (B5.out.trans (x1S.mono B5.out.size))
                  clear x1S b1 hS0
                  go_wp2
                  go_roundw
                  case rel => exact ⟨j + 1, by omega, by go_num, BXX⟩
                  case measure => simp [intOf]; omega
                · by_cases l0 : ln = 0
                  · as_aux_lemma =>
                    have HW0 : Hid (Y = Wi.z32 ∧ wk = 11) := Lib.hid (by
                      have e1 : Rx.want s L = 11 := by rw [Rx.want, if_pos (by rw [← HQP.out]), if_pos (by rw [← HLN.out]; omega)]
                      have h1 := HPF.out
                      rw [e1] at h1
                      simpa using h1)
                    obtain ⟨hYv, hwk⟩ := HW0.out
                    subst hwk
                    clear HW0
                    have FK1 : Hid (∀ X, EType X → Calls Tryz.prog 22 #[EV] X fun e w' => e = .returned (.int .i64 11) ∧ Below X.heap.size X w') := Lib.hid (fun X h => FK.out X h)
                    have HYZ : Hid (Y = Wi.z32) := Lib.hid hYv
                    clear hYv
                    have g0 : ((ln : Int) == 0) = true := by simp; omega
                    have g0' : (ln == 0) = true := by simp; omega
                    go_upto_region 35 with (fail)
                    refine wp_region_held_drew (S := fun w' => Below w5.heap.size w5 w') (by kernel_rfl) (bel_drw w5) (fun hS0 => ?_)
                    refine takeK (i := 0) (EV) (some 159) rfl (by kernel_rfl) (by kernel_rfl) (by kernel_rfl) (by kernel_rfl) (fun _ _ _ h => h) (by kernel_rfl) (fun w' _ => by go_simp) hS0 ?_
                    simp only [Act.put, List.setIfInBounds_toArray, List.set_cons_zero, List.set_cons_succ]
                    refine takeK (i := 2) (.int .i64 11) (some 161) rfl (by kernel_rfl) (by kernel_rfl) (by kernel_rfl) (by kernel_rfl) (fun _ _ _ h => h) (by kernel_rfl) (fun w' _ => by go_simp) hS0 ?_
                    simp only [Act.put, List.setIfInBounds_toArray, List.set_cons_zero, List.set_cons_succ]
                    refine callK (i := 1) 22 #[EV] (some 160) rfl (by kernel_rfl) (by kernel_rfl) (by kernel_rfl) (by kernel_rfl) (FK1.out w5.drew (HE5.out.keep (bel_drw w5))) ?_
                    rintro e x1 ⟨rfl, b1⟩
                    have x1S : Below w5.heap.size w5 x1 := hS0.trans (b1.mono hS0.size)
                    refine ⟨_, rfl, x1S, fun hS => ?_⟩
                    clear hS
                    simp only [Act.put, List.setIfInBounds_toArray, List.set_cons_zero, List.set_cons_succ]
                    refine takeK (i := 3) (.bool false) (some 162) rfl (by kernel_rfl) (by kernel_rfl) (by kernel_rfl) (by kernel_rfl) (fun _ _ _ h => h) (by kernel_rfl) (fun w' h' => by go_simp) x1S ?_
                    simp only [Act.put, List.setIfInBounds_toArray, List.set_cons_zero, List.set_cons_succ]
                    refine takeK (i := 4) (.bool false) (some 163) rfl (by kernel_rfl) (by kernel_rfl) (by kernel_rfl) (by kernel_rfl) (fun _ _ _ h => h) (by kernel_rfl) (fun w' h' => by go_simp) x1S ?_
                    simp only [Act.put, List.setIfInBounds_toArray, List.set_cons_zero, List.set_cons_succ]
                    refine takeK (i := 5) (.int .i64 11) (some 164) rfl (by kernel_rfl) (by kernel_rfl) (by kernel_rfl) (by kernel_rfl) (fun _ _ _ h => h) (by kernel_rfl) (fun w' h' => by go_simp) x1S ?_
                    simp only [Act.put, List.setIfInBounds_toArray, List.set_cons_zero, List.set_cons_succ]
                    refine takeK (i := 6) (.bool false) (some 165) rfl (by kernel_rfl) (by kernel_rfl) (by kernel_rfl) (by kernel_rfl) (fun _ _ _ h => h) (by kernel_rfl) (fun w' h' => by go_simp) x1S ?_
                    simp only [Act.put, List.setIfInBounds_toArray, List.set_cons_zero, List.set_cons_succ]
                    refine takeK (i := 7) (.bool false) (some 166) rfl (by kernel_rfl) (by kernel_rfl) (by kernel_rfl) (by kernel_rfl) (fun _ _ _ h => h) (by kernel_rfl) (fun w' h' => by go_simp) x1S ?_
                    simp only [Act.put, List.setIfInBounds_toArray, List.set_cons_zero, List.set_cons_succ]
                    refine skipK (i := 8) (some 167) rfl (by kernel_rfl) (by kernel_rfl) (by kernel_rfl) (by kernel_rfl) (fun _ _ _ h => h) (by kernel_rfl) x1S ?_
                    simp only [Act.put, List.setIfInBounds_toArray, List.set_cons_zero, List.set_cons_succ]
                    refine skipK (i := 9) (some 168) rfl (by kernel_rfl) (by kernel_rfl) (by kernel_rfl) (by kernel_rfl) (fun _ _ _ h => h) (by kernel_rfl) x1S ?_
                    simp only [Act.put, List.setIfInBounds_toArray, List.set_cons_zero, List.set_cons_succ]
                    refine skipK (i := 10) (some 169) rfl (by kernel_rfl) (by kernel_rfl) (by kernel_rfl) (by kernel_rfl) (fun _ _ _ h => h) (by kernel_rfl) x1S ?_
                    simp only [Act.put, List.setIfInBounds_toArray, List.set_cons_zero, List.set_cons_succ]
                    refine skipK (i := 11) (some 170) rfl (by kernel_rfl) (by kernel_rfl) (by kernel_rfl) (by kernel_rfl) (fun _ _ _ h => h) (by kernel_rfl) x1S ?_
                    simp only [Act.put, List.setIfInBounds_toArray, List.set_cons_zero, List.set_cons_succ]
                    refine skipK (i := 12) (some 171) rfl (by kernel_rfl) (by kernel_rfl) (by kernel_rfl) (by kernel_rfl) (fun _ _ _ h => h) (by kernel_rfl) x1S ?_
                    simp only [Act.put, List.setIfInBounds_toArray, List.set_cons_zero, List.set_cons_succ]
                    refine takeK (i := 13) (.bool false) (some 172) rfl (by kernel_rfl) (by kernel_rfl) (by kernel_rfl) (by kernel_rfl) (fun _ _ _ h => h) (by kernel_rfl) (fun w' h' => by go_simp) x1S ?_
                    simp only [Act.put, List.setIfInBounds_toArray, List.set_cons_zero, List.set_cons_succ]
                    refine takeK (i := 14) (.bool false) (some 173) rfl (by kernel_rfl) (by kernel_rfl) (by kernel_rfl) (by kernel_rfl) (fun _ _ _ h => h) (by kernel_rfl) (fun w' h' => by go_simp) x1S ?_
                    simp only [Act.put, List.setIfInBounds_toArray, List.set_cons_zero, List.set_cons_succ]
                    refine takeK (i := 15) (.bool false) (some 174) rfl (by kernel_rfl) (by kernel_rfl) (by kernel_rfl) (by kernel_rfl) (fun _ _ _ h => h) (by kernel_rfl) (fun w' h' => by go_simp) x1S ?_
                    simp only [Act.put, List.setIfInBounds_toArray, List.set_cons_zero, List.set_cons_succ]
                    refine takeK (i := 16) (.int .i64 11) (some 175) rfl (by kernel_rfl) (by kernel_rfl) (by kernel_rfl) (by kernel_rfl) (fun _ _ _ h => h) (by kernel_rfl) (fun w' h' => by go_simp) x1S ?_
                    simp only [Act.put, List.setIfInBounds_toArray, List.set_cons_zero, List.set_cons_succ]
                    refine takeK (i := 17) (.bool true) (some 176) rfl (by kernel_rfl) (by kernel_rfl) (by kernel_rfl) (by kernel_rfl) (fun _ _ _ h => h) (by kernel_rfl) (fun w' h' => by go_simp) x1S ?_
                    simp only [Act.put, List.setIfInBounds_toArray, List.set_cons_zero, List.set_cons_succ]
                    refine takeK (i := 18) (.bool true) (some 177) rfl (by kernel_rfl) (by kernel_rfl) (by kernel_rfl) (by kernel_rfl) (fun _ _ _ h => h) (by kernel_rfl) (fun w' h' => by go_simp) x1S ?_
                    simp only [Act.put, List.setIfInBounds_toArray, List.set_cons_zero, List.set_cons_succ]
                    refine takeK (i := 19) (.agg (hashC Y)) (some 178) rfl (by kernel_rfl) (by kernel_rfl) (by kernel_rfl) (by kernel_rfl) (fun _ _ _ h => h) (by kernel_rfl) (fun w' h' => ex_load 42 (.tmp 16) rfl wp.heap.size 0 (by kernel_rfl) (hashC Y) _ (PY.out w' h') Tryz.underlying42 rfl (by rw [hashC_size _ HY.out]; exact sz_hash)) x1S ?_
                    simp only [Act.put, List.setIfInBounds_toArray, List.set_cons_zero, List.set_cons_succ]
                    refine takeK (i := 20) (.agg (hashC Wi.z32)) (some 179) rfl (by kernel_rfl) (by kernel_rfl) (by kernel_rfl) (by kernel_rfl) (fun _ _ _ h => h) (by kernel_rfl) (fun w' h' => ex_mk 42 #[] rfl [] rfl _ bt_hash0) x1S ?_
                    simp only [Act.put, List.setIfInBounds_toArray, List.set_cons_zero, List.set_cons_succ]
                    refine takeK (i := 21) (.bool false) (some 180) rfl (by kernel_rfl) (by kernel_rfl) (by kernel_rfl) (by kernel_rfl) (fun _ _ _ h => h) (by kernel_rfl) (fun w' h' => ex_cmp .neq 42 42 (.tmp 178) (.tmp 179) rfl (hashC Y) (hashC Wi.z32) (by kernel_rfl) (by kernel_rfl) gd_hash false (by rw [cmp_hash_ne Y Wi.z32 HY.out rfl, HYZ.out]; simp)) x1S ?_
                    simp only [Act.put, List.setIfInBounds_toArray, List.set_cons_zero, List.set_cons_succ]
                    refine takeK (i := 22) (.bool false) (some 181) rfl (by kernel_rfl) (by kernel_rfl) (by kernel_rfl) (by kernel_rfl) (fun _ _ _ h => h) (by kernel_rfl) (fun w' h' => by go_simp) x1S ?_
                    simp only [Act.put, List.setIfInBounds_toArray, List.set_cons_zero, List.set_cons_succ]
                    refine takeK (i := 23) (.bool false) (some 182) rfl (by kernel_rfl) (by kernel_rfl) (by kernel_rfl) (by kernel_rfl) (fun _ _ _ h => h) (by kernel_rfl) (fun w' h' => by go_simp) x1S ?_
                    simp only [Act.put, List.setIfInBounds_toArray, List.set_cons_zero, List.set_cons_succ]
                    refine wpAnyH_done (by kernel_rfl) ?_ _
                    have BXX := Lib.hid (B5.out.trans (x1S.mono B5.out.size))
                    clear x1S b1 hS0
                    go_wp2
                    go_roundw
                    case rel => exact ⟨j + 1, by omega, by go_num, BXX⟩
                    case measure => simp [intOf]; omega
                  · by_cases l1 : 1 < ln
                    · as_aux_lemma =>
                      have HW0 : Hid (Y = Wi.z32 ∧ wk = 14) := Lib.hid (by
                        have e1 : Rx.want s L = 14 := by rw [Rx.want, if_pos (by rw [← HQP.out]), if_neg (by rw [← HLN.out]; omega), if_pos (by rw [← HLN.out]; omega)]
                        have h1 := HPF.out
                        rw [e1] at h1
                        simpa using h1)
                      obtain ⟨hYv, hwk⟩ := HW0.out
                      subst hwk
                      clear HW0
                      have FK1 : Hid (∀ X, EType X → Calls Tryz.prog 22 #[EV] X fun e w' => e = .returned (.int .i64 14) ∧ Below X.heap.size X w') := Lib.hid (fun X h => FK.out X h)
                      have HYZ : Hid (Y = Wi.z32) := Lib.hid hYv
                      clear hYv
                      have g0 : ((ln : Int) == 0) = false := by simp; omega
                      have g0' : (ln == 0) = false := by simp; omega
                      have g1 : decide ((1 : Int) < (ln : Int)) = true := decide_eq_true (by omega)
                      have g1' : decide (1 < ln) = true := decide_eq_true (by omega)
                      go_upto_region 35 with (fail)
                      refine wp_region_held_drew (S := fun w' => Below w5.heap.size w5 w') (by kernel_rfl) (bel_drw w5) (fun hS0 => ?_)
                      refine takeK (i := 0) (EV) (some 159) rfl (by kernel_rfl) (by kernel_rfl) (by kernel_rfl) (by kernel_rfl) (fun _ _ _ h => h) (by kernel_rfl) (fun w' _ => by go_simp) hS0 ?_
                      simp only [Act.put, List.setIfInBounds_toArray, List.set_cons_zero, List.set_cons_succ]
                      refine takeK (i := 2) (.int .i64 14) (some 161) rfl (by kernel_rfl) (by kernel_rfl) (by kernel_rfl) (by kernel_rfl) (fun _ _ _ h => h) (by kernel_rfl) (fun w' _ => by go_simp) hS0 ?_
                      simp only [Act.put, List.setIfInBounds_toArray, List.set_cons_zero, List.set_cons_succ]
                      refine callK (i := 1) 22 #[EV] (some 160) rfl (by kernel_rfl) (by kernel_rfl) (by kernel_rfl) (by kernel_rfl) (FK1.out w5.drew (HE5.out.keep (bel_drw w5))) ?_
                      rintro e x1 ⟨rfl, b1⟩
                      have x1S : Below w5.heap.size w5 x1 := hS0.trans (b1.mono hS0.size)
                      refine ⟨_, rfl, x1S, fun hS => ?_⟩
                      clear hS
                      simp only [Act.put, List.setIfInBounds_toArray, List.set_cons_zero, List.set_cons_succ]
                      refine takeK (i := 3) (.bool false) (some 162) rfl (by kernel_rfl) (by kernel_rfl) (by kernel_rfl) (by kernel_rfl) (fun _ _ _ h => h) (by kernel_rfl) (fun w' h' => by go_simp) x1S ?_
                      simp only [Act.put, List.setIfInBounds_toArray, List.set_cons_zero, List.set_cons_succ]
                      refine takeK (i := 4) (.bool false) (some 163) rfl (by kernel_rfl) (by kernel_rfl) (by kernel_rfl) (by kernel_rfl) (fun _ _ _ h => h) (by kernel_rfl) (fun w' h' => by go_simp) x1S ?_
                      simp only [Act.put, List.setIfInBounds_toArray, List.set_cons_zero, List.set_cons_succ]
                      refine takeK (i := 5) (.int .i64 14) (some 164) rfl (by kernel_rfl) (by kernel_rfl) (by kernel_rfl) (by kernel_rfl) (fun _ _ _ h => h) (by kernel_rfl) (fun w' h' => by go_simp) x1S ?_
                      simp only [Act.put, List.setIfInBounds_toArray, List.set_cons_zero, List.set_cons_succ]
                      refine takeK (i := 6) (.bool false) (some 165) rfl (by kernel_rfl) (by kernel_rfl) (by kernel_rfl) (by kernel_rfl) (fun _ _ _ h => h) (by kernel_rfl) (fun w' h' => by go_simp) x1S ?_
                      simp only [Act.put, List.setIfInBounds_toArray, List.set_cons_zero, List.set_cons_succ]
                      refine takeK (i := 7) (.bool false) (some 166) rfl (by kernel_rfl) (by kernel_rfl) (by kernel_rfl) (by kernel_rfl) (fun _ _ _ h => h) (by kernel_rfl) (fun w' h' => by go_simp) x1S ?_
                      simp only [Act.put, List.setIfInBounds_toArray, List.set_cons_zero, List.set_cons_succ]
                      refine skipK (i := 8) (some 167) rfl (by kernel_rfl) (by kernel_rfl) (by kernel_rfl) (by kernel_rfl) (fun _ _ _ h => h) (by kernel_rfl) x1S ?_
                      simp only [Act.put, List.setIfInBounds_toArray, List.set_cons_zero, List.set_cons_succ]
                      refine skipK (i := 9) (some 168) rfl (by kernel_rfl) (by kernel_rfl) (by kernel_rfl) (by kernel_rfl) (fun _ _ _ h => h) (by kernel_rfl) x1S ?_
                      simp only [Act.put, List.setIfInBounds_toArray, List.set_cons_zero, List.set_cons_succ]
                      refine skipK (i := 10) (some 169) rfl (by kernel_rfl) (by kernel_rfl) (by kernel_rfl) (by kernel_rfl) (fun _ _ _ h => h) (by kernel_rfl) x1S ?_
                      simp only [Act.put, List.setIfInBounds_toArray, List.set_cons_zero, List.set_cons_succ]
                      refine skipK (i := 11) (some 170) rfl (by kernel_rfl) (by kernel_rfl) (by kernel_rfl) (by kernel_rfl) (fun _ _ _ h => h) (by kernel_rfl) x1S ?_
                      simp only [Act.put, List.setIfInBounds_toArray, List.set_cons_zero, List.set_cons_succ]
                      refine skipK (i := 12) (some 171) rfl (by kernel_rfl) (by kernel_rfl) (by kernel_rfl) (by kernel_rfl) (fun _ _ _ h => h) (by kernel_rfl) x1S ?_
                      simp only [Act.put, List.setIfInBounds_toArray, List.set_cons_zero, List.set_cons_succ]
                      refine takeK (i := 13) (.bool false) (some 172) rfl (by kernel_rfl) (by kernel_rfl) (by kernel_rfl) (by kernel_rfl) (fun _ _ _ h => h) (by kernel_rfl) (fun w' h' => by go_simp) x1S ?_
                      simp only [Act.put, List.setIfInBounds_toArray, List.set_cons_zero, List.set_cons_succ]
                      refine takeK (i := 14) (.bool false) (some 173) rfl (by kernel_rfl) (by kernel_rfl) (by kernel_rfl) (by kernel_rfl) (fun _ _ _ h => h) (by kernel_rfl) (fun w' h' => by go_simp) x1S ?_
                      simp only [Act.put, List.setIfInBounds_toArray, List.set_cons_zero, List.set_cons_succ]
                      refine takeK (i := 15) (.bool false) (some 174) rfl (by kernel_rfl) (by kernel_rfl) (by kernel_rfl) (by kernel_rfl) (fun _ _ _ h => h) (by kernel_rfl) (fun w' h' => by go_simp) x1S ?_
                      simp only [Act.put, List.setIfInBounds_toArray, List.set_cons_zero, List.set_cons_succ]
                      refine takeK (i := 16) (.int .i64 14) (some 175) rfl (by kernel_rfl) (by kernel_rfl) (by kernel_rfl) (by kernel_rfl) (fun _ _ _ h => h) (by kernel_rfl) (fun w' h' => by go_simp) x1S ?_
                      simp only [Act.put, List.setIfInBounds_toArray, List.set_cons_zero, List.set_cons_succ]
                      refine takeK (i := 17) (.bool true) (some 176) rfl (by kernel_rfl) (by kernel_rfl) (by kernel_rfl) (by kernel_rfl) (fun _ _ _ h => h) (by kernel_rfl) (fun w' h' => by go_simp) x1S ?_
                      simp only [Act.put, List.setIfInBounds_toArray, List.set_cons_zero, List.set_cons_succ]
                      refine takeK (i := 18) (.bool true) (some 177) rfl (by kernel_rfl) (by kernel_rfl) (by kernel_rfl) (by kernel_rfl) (fun _ _ _ h => h) (by kernel_rfl) (fun w' h' => by go_simp) x1S ?_
                      simp only [Act.put, List.setIfInBounds_toArray, List.set_cons_zero, List.set_cons_succ]
                      refine takeK (i := 19) (.agg (hashC Y)) (some 178) rfl (by kernel_rfl) (by kernel_rfl) (by kernel_rfl) (by kernel_rfl) (fun _ _ _ h => h) (by kernel_rfl) (fun w' h' => ex_load 42 (.tmp 16) rfl wp.heap.size 0 (by kernel_rfl) (hashC Y) _ (PY.out w' h') Tryz.underlying42 rfl (by rw [hashC_size _ HY.out]; exact sz_hash)) x1S ?_
                      simp only [Act.put, List.setIfInBounds_toArray, List.set_cons_zero, List.set_cons_succ]
                      refine takeK (i := 20) (.agg (hashC Wi.z32)) (some 179) rfl (by kernel_rfl) (by kernel_rfl) (by kernel_rfl) (by kernel_rfl) (fun _ _ _ h => h) (by kernel_rfl) (fun w' h' => ex_mk 42 #[] rfl [] rfl _ bt_hash0) x1S ?_
                      simp only [Act.put, List.setIfInBounds_toArray, List.set_cons_zero, List.set_cons_succ]
                      refine takeK (i := 21) (.bool false) (some 180) rfl (by kernel_rfl) (by kernel_rfl) (by kernel_rfl) (by kernel_rfl) (fun _ _ _ h => h) (by kernel_rfl) (fun w' h' => ex_cmp .neq 42 42 (.tmp 178) (.tmp 179) rfl (hashC Y) (hashC Wi.z32) (by kernel_rfl) (by kernel_rfl) gd_hash false (by rw [cmp_hash_ne Y Wi.z32 HY.out rfl, HYZ.out]; simp)) x1S ?_
                      simp only [Act.put, List.setIfInBounds_toArray, List.set_cons_zero, List.set_cons_succ]
                      refine takeK (i := 22) (.bool false) (some 181) rfl (by kernel_rfl) (by kernel_rfl) (by kernel_rfl) (by kernel_rfl) (fun _ _ _ h => h) (by kernel_rfl) (fun w' h' => by go_simp) x1S ?_
                      simp only [Act.put, List.setIfInBounds_toArray, List.set_cons_zero, List.set_cons_succ]
                      refine takeK (i := 23) (.bool false) (some 182) rfl (by kernel_rfl) (by kernel_rfl) (by kernel_rfl) (by kernel_rfl) (fun _ _ _ h => h) (by kernel_rfl) (fun w' h' => by go_simp) x1S ?_
                      simp only [Act.put, List.setIfInBounds_toArray, List.set_cons_zero, List.set_cons_succ]
                      refine wpAnyH_done (by kernel_rfl) ?_ _
                      have BXX := Lib.hid (B5.out.trans (x1S.mono B5.out.size))
                      clear x1S b1 hS0
                      go_wp2
                      go_roundw
                      case rel => exact ⟨j + 1, by omega, by go_num, BXX⟩
                      case measure => simp [intOf]; omega
                    · as_aux_lemma =>
                      have HW0 : Hid (Y = L.headD [] ∧ wk = 0) := Lib.hid (by
                        have e1 : Rx.want s L = 0 := by rw [Rx.want, if_pos (by rw [← HQP.out]), if_neg (by rw [← HLN.out]; omega), if_neg (by rw [← HLN.out]; omega)]
                        have h1 := HPF.out
                        rw [e1] at h1
                        simpa using h1)
                      obtain ⟨hYv, hwk⟩ := HW0.out
                      subst hwk
                      clear HW0
                      have FK1 : Hid (∀ X, EType X → Calls Tryz.prog 22 #[EV] X fun e w' => e = .returned (.int .i64 0) ∧ Below X.heap.size X w') := Lib.hid (fun X h => FK.out X h)
                      have hLx : L = [Y] := by
                        have h1 : L.length = 1 := by rw [← HLN.out]; omega
                        obtain ⟨x, rfl⟩ := List.length_eq_one_iff.1 h1
                        rw [hYv]; rfl
                      have RL5 := RL.out.below (BVZ.out.trans (B5V.out.mono BVZ.out.size))
                      obtain ⟨ob, oo, rfl, hob, hpl⟩ := RL5.at (k := 0) (x := Y) (by rw [hLx]; rfl)
                      have PL : Hid (∀ w', Below w5.heap.size w5 w' → Part w' ob (oo + 0 * 32) (hashC Y)) := Lib.hid (fun w' h c v hv => (h.cell (p := ⟨ob, oo + 0 * 32 + c, none⟩) hob).trans (hpl c v hv))
                      clear RL5 hob hpl hYv hLx
                      have g0 : ((ln : Int) == 0) = false := by simp; omega
                      have g0' : (ln == 0) = false := by simp; omega
                      have g1 : decide ((1 : Int) < (ln : Int)) = false := decide_eq_false (by omega)
                      have g1' : decide (1 < ln) = false := decide_eq_false (by omega)
                      have i9 : (0 : Int) < (ln : Int) := by omega
                      have i9' : 0 < ln := by omega
                      go_upto_region 35 with (fail)
                      refine wp_region_held_drew (S := fun w' => Below w5.heap.size w5 w') (by kernel_rfl) (bel_drw w5) (fun hS0 => ?_)
                      refine takeK (i := 0) (EV) (some 159) rfl (by kernel_rfl) (by kernel_rfl) (by kernel_rfl) (by kernel_rfl) (fun _ _ _ h => h) (by kernel_rfl) (fun w' _ => by go_simp) hS0 ?_
                      simp only [Act.put, List.setIfInBounds_toArray, List.set_cons_zero, List.set_cons_succ]
                      refine takeK (i := 2) (.int .i64 0) (some 161) rfl (by kernel_rfl) (by kernel_rfl) (by kernel_rfl) (by kernel_rfl) (fun _ _ _ h => h) (by kernel_rfl) (fun w' _ => by go_simp) hS0 ?_
                      simp only [Act.put, List.setIfInBounds_toArray, List.set_cons_zero, List.set_cons_succ]
                      refine callK (i := 1) 22 #[EV] (some 160) rfl (by kernel_rfl) (by kernel_rfl) (by kernel_rfl) (by kernel_rfl) (FK1.out w5.drew (HE5.out.keep (bel_drw w5))) ?_
                      rintro e x1 ⟨rfl, b1⟩
                      have x1S : Below w5.heap.size w5 x1 := hS0.trans (b1.mono hS0.size)
                      refine ⟨_, rfl, x1S, fun hS => ?_⟩
                      clear hS
                      simp only [Act.put, List.setIfInBounds_toArray, List.set_cons_zero, List.set_cons_succ]
                      refine takeK (i := 3) (.bool false) (some 162) rfl (by kernel_rfl) (by kernel_rfl) (by kernel_rfl) (by kernel_rfl) (fun _ _ _ h => h) (by kernel_rfl) (fun w' h' => by go_simp) x1S ?_
                      simp only [Act.put, List.setIfInBounds_toArray, List.set_cons_zero, List.set_cons_succ]
                      refine takeK (i := 4) (.bool false) (some 163) rfl (by kernel_rfl) (by kernel_rfl) (by kernel_rfl) (by kernel_rfl) (fun _ _ _ h => h) (by kernel_rfl) (fun w' h' => by go_simp) x1S ?_
                      simp only [Act.put, List.setIfInBounds_toArray, List.set_cons_zero, List.set_cons_succ]
                      refine takeK (i := 5) (.int .i64 0) (some 164) rfl (by kernel_rfl) (by kernel_rfl) (by kernel_rfl) (by kernel_rfl) (fun _ _ _ h => h) (by kernel_rfl) (fun w' h' => by go_simp) x1S ?_
                      simp only [Act.put, List.setIfInBounds_toArray, List.set_cons_zero, List.set_cons_succ]
                      refine takeK (i := 6) (.bool true) (some 165) rfl (by kernel_rfl) (by kernel_rfl) (by kernel_rfl) (by kernel_rfl) (fun _ _ _ h => h) (by kernel_rfl) (fun w' h' => by go_simp) x1S ?_
                      simp only [Act.put, List.setIfInBounds_toArray, List.set_cons_zero, List.set_cons_succ]
                      refine takeK (i := 7) (.bool true) (some 166) rfl (by kernel_rfl) (by kernel_rfl) (by kernel_rfl) (by kernel_rfl) (fun _ _ _ h => h) (by kernel_rfl) (fun w' h' => by go_simp) x1S ?_
                      simp only [Act.put, List.setIfInBounds_toArray, List.set_cons_zero, List.set_cons_succ]
                      refine takeK (i := 8) (.agg (hashC Y)) (some 167) rfl (by kernel_rfl) (by kernel_rfl) (by kernel_rfl) (by kernel_rfl) (fun _ _ _ h => h) (by kernel_rfl) (fun w' h' => ex_load 42 (.tmp 16) rfl wp.heap.size 0 (by kernel_rfl) (hashC Y) _ (PY.out w' h') Tryz.underlying42 rfl (by rw [hashC_size _ HY.out]; exact sz_hash)) x1S ?_
                      simp only [Act.put, List.setIfInBounds_toArray, List.set_cons_zero, List.set_cons_succ]
                      refine takeK (i := 9) (.slice (some ⟨ob, oo, none⟩) ln oc) (some 168) rfl (by kernel_rfl) (by kernel_rfl) (by kernel_rfl) (by kernel_rfl) (fun _ _ _ h => h) (by kernel_rfl) (fun w' h' => by go_simp) x1S ?_
                      simp only [Act.put, List.setIfInBounds_toArray, List.set_cons_zero, List.set_cons_succ]
                      refine takeK (i := 10) (.pointer (some ⟨ob, oo + 0 * 32, none⟩)) (some 169) rfl (by kernel_rfl) (by kernel_rfl) (by kernel_rfl) (by kernel_rfl) (fun _ _ _ h => h) (by kernel_rfl) (fun w' h' => by go_simp) x1S ?_
                      simp only [Act.put, List.setIfInBounds_toArray, List.set_cons_zero, List.set_cons_succ]
                      refine takeK (i := 11) (.agg (hashC Y)) (some 170) rfl (by kernel_rfl) (by kernel_rfl) (by kernel_rfl) (by kernel_rfl) (fun _ _ _ h => h) (by kernel_rfl) (fun w' h' => ex_load 42 (.tmp 169) rfl ob (oo + 0 * 32) (by kernel_rfl) (hashC Y) _ (PL.out w' h') Tryz.underlying42 rfl (by rw [hashC_size _ HY.out]; exact sz_hash)) x1S ?_
                      simp only [Act.put, List.setIfInBounds_toArray, List.set_cons_zero, List.set_cons_succ]
                      refine takeK (i := 12) (.bool false) (some 171) rfl (by kernel_rfl) (by kernel_rfl) (by kernel_rfl) (by kernel_rfl) (fun _ _ _ h => h) (by kernel_rfl) (fun w' h' => ex_cmp .neq 42 42 (.tmp 167) (.tmp 170) rfl (hashC Y) (hashC Y) (by kernel_rfl) (by kernel_rfl) gd_hash false (by rw [cmp_hash_ne Y Y HY.out HY.out]; simp)) x1S ?_
                      simp only [Act.put, List.setIfInBounds_toArray, List.set_cons_zero, List.set_cons_succ]
                      refine takeK (i := 13) (.bool false) (some 172) rfl (by kernel_rfl) (by kernel_rfl) (by kernel_rfl) (by kernel_rfl) (fun _ _ _ h => h) (by kernel_rfl) (fun w' h' => by go_simp) x1S ?_
                      simp only [Act.put, List.setIfInBounds_toArray, List.set_cons_zero, List.set_cons_succ]
                      refine takeK (i := 14) (.bool false) (some 173) rfl (by kernel_rfl) (by kernel_rfl) (by kernel_rfl) (by kernel_rfl) (fun _ _ _ h => h) (by kernel_rfl) (fun w' h' => by go_simp) x1S ?_
                      simp only [Act.put, List.setIfInBounds_toArray, List.set_cons_zero, List.set_cons_succ]
                      refine takeK (i := 15) (.bool false) (some 174) rfl (by kernel_rfl) (by kernel_rfl) (by kernel_rfl) (by kernel_rfl) (fun _ _ _ h => h) (by kernel_rfl) (fun w' h' => by go_simp) x1S ?_
                      simp only [Act.put, List.setIfInBounds_toArray, List.set_cons_zero, List.set_cons_succ]
                      refine takeK (i := 16) (.int .i64 0) (some 175) rfl (by kernel_rfl) (by kernel_rfl) (by kernel_rfl) (by kernel_rfl) (fun _ _ _ h => h) (by kernel_rfl) (fun w' h' => by go_simp) x1S ?_
                      simp only [Act.put, List.setIfInBounds_toArray, List.set_cons_zero, List.set_cons_succ]
                      refine takeK (i := 17) (.bool false) (some 176) rfl (by kernel_rfl) (by kernel_rfl) (by kernel_rfl) (by kernel_rfl) (fun _ _ _ h => h) (by kernel_rfl) (fun w' h' => by go_simp) x1S ?_
                      simp only [Act.put, List.setIfInBounds_toArray, List.set_cons_zero, List.set_cons_succ]
                      refine takeK (i := 18) (.bool false) (some 177) rfl (by kernel_rfl) (by kernel_rfl) (by kernel_rfl) (by kernel_rfl) (fun _ _ _ h => h) (by kernel_rfl) (fun w' h' => by go_simp) x1S ?_
                      simp only [Act.put, List.setIfInBounds_toArray, List.set_cons_zero, List.set_cons_succ]
                      refine skipK (i := 19) (some 178) rfl (by kernel_rfl) (by kernel_rfl) (by kernel_rfl) (by kernel_rfl) (fun _ _ _ h => h) (by kernel_rfl) x1S ?_
                      simp only [Act.put, List.setIfInBounds_toArray, List.set_cons_zero, List.set_cons_succ]
                      refine skipK (i := 20) (some 179) rfl (by kernel_rfl) (by kernel_rfl) (by kernel_rfl) (by kernel_rfl) (fun _ _ _ h => h) (by kernel_rfl) x1S ?_
                      simp only [Act.put, List.setIfInBounds_toArray, List.set_cons_zero, List.set_cons_succ]
                      refine skipK (i := 21) (some 180) rfl (by kernel_rfl) (by kernel_rfl) (by kernel_rfl) (by kernel_rfl) (fun _ _ _ h => h) (by kernel_rfl) x1S ?_
                      simp only [Act.put, List.setIfInBounds_toArray, List.set_cons_zero, List.set_cons_succ]
                      refine takeK (i := 22) (.bool false) (some 181) rfl (by kernel_rfl) (by kernel_rfl) (by kernel_rfl) (by kernel_rfl) (fun _ _ _ h => h) (by kernel_rfl) (fun w' h' => by go_simp) x1S ?_
                      simp only [Act.put, List.setIfInBounds_toArray, List.set_cons_zero, List.set_cons_succ]
                      refine takeK (i := 23) (.bool false) (some 182) rfl (by kernel_rfl) (by kernel_rfl) (by kernel_rfl) (by kernel_rfl) (fun _ _ _ h => h) (by kernel_rfl) (fun w' h' => by go_simp) x1S ?_
                      simp only [Act.put, List.setIfInBounds_toArray, List.set_cons_zero, List.set_cons_succ]
                      refine wpAnyH_done (by kernel_rfl) ?_ _
                      have BXX := Lib.hid (B5.out.trans (x1S.mono B5.out.size))
                      clear x1S b1 hS0
                      go_wp2
                      go_roundw
                      case rel => exact ⟨j + 1, by omega, by go_num, BXX⟩
                      case measure => simp [intOf]; omega
          · have d1 : decide ((j : Int) < 8) = false := decide_eq_false (by omega)
            have d1' : decide (j < 8) = false := decide_eq_false h8
            go_wp2
            go_ret
            exact ⟨rfl, BR2.out⟩
        · have d0 : decide ((j : Int) < (pn : Int)) = false := decide_eq_false (by omega)
          have d0' : decide (j < pn) = false := decide_eq_false hlt
          go_wp2
          go_ret
          exact ⟨rfl, BR2.out⟩
end Go.Proofs.YthampbiabkfmoaaGreatDoor
