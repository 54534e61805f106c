/- taprootlaw9.RadixKnown: the walk. -/
import Derived.Test.YthampbiabkfmoaaDoorRxKn
namespace Go.Proofs.YthampbiabkfmoaaDoor
open Go.RowKit Go.Tap
set_option linter.unusedVariables false
set_option linter.unusedSimpArgs false
def Rx.h1 : List UInt8 := 1 :: List.replicate 31 0
def Rx.h2 : List UInt8 := 2 :: List.replicate 31 0
theorem bt_h1 : Tryd.prog.built 40 [(0, .int .u8 1)] = some (hashC Rx.h1) := by kernel_rfl
theorem bt_h2 : Tryd.prog.built 40 [(0, .int .u8 2)] = some (hashC Rx.h2) := by kernel_rfl
theorem knownR_plain (t t1 t2 : Rx.T) (f1 f2 : Bool) (p1 : Rx.Puts [] Rx.h1 5 .nil t1 f1) (p2 : Rx.Puts [] Rx.h1 6 t1 t2 f2) (he : Rx.er true t = Rx.er true t2) :
    Rx.has t Rx.h1 0 = some 6 ∧ Rx.has t Rx.h2 0 = none ∧ Rx.pfx t [] = (Wi.z32, 1) ∧ Rx.pfx t [48, 50] = (Wi.z32, 11) ∧ Rx.cnt t = 1 ∧ (Rx.allS t [] 9).length = 1 := by
  have hM := (Rx.Mt.nil.put p1 rfl).put p2 rfl
  rw [show Rx.kput (Rx.kput [] Rx.h1 5) Rx.h1 6 = [(Rx.h1, 6)] by simp [Rx.kput]] at hM
  have hMt : Rx.Mt t [(Rx.h1, 6)] := ⟨fun x n hx => by rw [Rx.er_has he]; exact hM.mem x n hx, hM.nd, hM.h32⟩
  have ho : Rx.ok t [] := Rx.er_ok he p2.ok
  have h1 : Rx.hashes t = [Rx.h1] := by rw [hMt.hashes ho]; rfl
  have h32 : ∀ x ∈ Rx.hashes t, x.length = 32 := fun x hx => by rw [h1] at hx; simp at hx; subst hx; rfl
  refine ⟨hMt.get (List.mem_singleton.2 rfl), ?_, ?_, ?_, hMt.cnt ho, ?_⟩
  · rcases hh : Rx.has t Rx.h2 0 with _ | n
    · rfl
    · have := (hMt.mem Rx.h2 n rfl).1 hh
      simp only [List.mem_singleton, Prod.mk.injEq] at this
      exact absurd this.1 (by decide)
  · have := Rx.pfx_want (t := t) (s := []) (.inl rfl) h32 [Rx.h1] (by rw [h1]; rfl)
    rw [this]; rfl
  · have := Rx.pfx_want (t := t) (s := [48, 50]) (.inl rfl) h32 [] (by rw [h1]; rfl)
    rw [this]; rfl
  · rw [Rx.allS_some (.inl rfl) h32, h1]; rfl
theorem newR (w : World) : Calls Tryd.prog 15 #[.int .i64 100000] w fun e w' => ∃ B, e = .returned (.pointer (some ⟨B, 0, none⟩)) ∧ IsDk w' w.heap.size B (Dsk.newD 100000) ∧ Below w.heap.size w w' := by
  have := new_any w 100000 (by omega)
  rw [show ((100000 : Nat) : Int) = 100000 from rfl] at this
  exact this
set_option maxHeartbeats 8000000 in
set_option maxRecDepth 100000 in
theorem radixKnown_walk (w : World) (hE : EType w) : Calls Tryd.prog 4 #[] w fun e w' => e = .returned (.bool true) ∧ Below w.heap.size w w' := by
  have hnew := rnew_any w
  have HE := Lib.hid hE
  clear hE
  go_enter Tryd.func4, Tryd.ntmps4
  go_wp2_with fail
  refine hnew.mono ?_
  clear hnew
  rintro e w1 ⟨rfl, hT, b1⟩
  obtain ⟨TB, hTB⟩ : ∃ TB, TB = w.heap.size := ⟨_, rfl⟩
  have T1 : Hid (TreeAt w1 w.heap.size TB .nil) := Lib.hid (by rw [hTB]; exact hT)
  rw [← hTB]
  have B1 := Lib.hid b1
  have hdk := newR w1
  clear hT b1 hTB
  go_wp2_with fail
  refine hdk.mono ?_
  clear hdk
  rintro e w2 ⟨B, rfl, hD, b2⟩
  have hop := ls_open hD
  have T2 := Lib.hid (T1.out.below b2)
  have B2 := Lib.hid (B1.out.trans (b2.mono B1.out.size))
  have L12 : Hid (w.heap.size ≤ w1.heap.size) := Lib.hid B1.out.size
  clear hD b2
  go_wp2_with fail
  refine hop.mono ?_
  clear hop
  rintro e w3 ⟨LB, rfl, l3, b3⟩
  have hkn := known9_any w3 (HE.out.keep (B2.out.trans (b3.mono L12.out)))
  have R3 : Hid (RSt w w3 TB LB B 100000 .nil []) := Lib.hid ⟨⟨(b3.block _ (blk_lt T1.out.top)).trans T2.out.top, trivial, trivial, trivial, T2.out.lo_, fun x hx => hx.elim⟩, l3.base L12.out, trivial, trivial, B2.out.trans (b3.mono L12.out)⟩
  clear l3 b3 T1 T2 B1 B2 L12
  go_wp2_with fail
  refine hkn.mono ?_
  clear hkn
  rintro e w4 ⟨rfl, b4⟩
  have R4 := Lib.hid (R3.out.step b4)
  have hsv := R4.out.save_call (by simp [Rx.uns]) (by simp [Rx.uns]) (by omega)
  clear b4 R3
  go_wp2_with fail
  refine hsv.mono ?_
  clear hsv
  intro e w5 hse
  obtain ⟨rfl, r5, _⟩ := R4.out.again (Rx.saves_none []) hse
  have R5 := Lib.hid r5
  have hpn := rPut_neg w5 TB Rx.h1 (-1) (by omega)
  clear hse r5 R4
  simp only [Rx.T.saved]
  go_wp2_with (first | (refine wpL_mk (by kernel_rfl) 40 #[(0, .const (.int .u8 1))] rfl [(0, .int .u8 1)] (by rfl) (hashC Rx.h1) bt_h1 ?_))
  refine hpn.mono ?_
  clear hpn
  rintro e w6 ⟨rfl, b6⟩
  have R6 := Lib.hid (R5.out.step b6)
  have hpt := rPut_any w6 w.heap.size TB .nil R6.out.tree Rx.h1 5 rfl (by omega) (by decide) R6.out.bel.size
  clear b6 R5
  go_wp2_with (first | (refine wpL_mk (by kernel_rfl) 40 #[(0, .const (.int .u8 1))] rfl [(0, .int .u8 1)] (by rfl) (hashC Rx.h1) bt_h1 ?_))
  refine hpt.mono ?_
  clear hpt
  rintro e w7 ⟨rfl, hp⟩
  obtain ⟨t1, f1, r7, q7⟩ := R6.out.put hp
  have R7 := Lib.hid r7
  have Q7 := Lib.hid q7
  have hpt := rPut_any w7 w.heap.size TB t1 r7.tree Rx.h1 6 rfl (by omega) (by have := q7.cnt; simp only [Rx.cnt] at this; split at this <;> omega) r7.bel.size
  clear hp r7 q7 R6
  go_wp2_with (first | (refine wpL_mk (by kernel_rfl) 40 #[(0, .const (.int .u8 1))] rfl [(0, .int .u8 1)] (by rfl) (hashC Rx.h1) bt_h1 ?_))
  refine hpt.mono ?_
  clear hpt
  rintro e w8 ⟨rfl, hp⟩
  obtain ⟨t2, f2, r8, q8⟩ := R7.out.put hp
  have R8 := Lib.hid r8
  have Q8 := Lib.hid q8
  obtain ⟨g1, g2, g3, g4, g5, _⟩ := knownR_plain t2 t1 t2 f1 f2 Q7.out q8 rfl
  have hg := rxGet_any w8 w.heap.size TB t2 r8.tree Rx.h1 rfl
  rw [g1] at hg
  simp only [Option.getD_some, Option.isSome_some] at hg
  have G2 := Lib.hid g2
  have G3 := Lib.hid g3
  have G4 := Lib.hid g4
  have G5 := Lib.hid g5
  clear hp r8 q8 R7 g1 g2 g3 g4 g5
  go_wp2_with (first | (refine wpL_mk (by kernel_rfl) 40 #[(0, .const (.int .u8 1))] rfl [(0, .int .u8 1)] (by rfl) (hashC Rx.h1) bt_h1 ?_))
  refine hg.mono ?_
  clear hg
  rintro e w9 ⟨rfl, b9⟩
  have R9 := Lib.hid (R8.out.step b9)
  have hg := rxGet_any w9 w.heap.size TB t2 R9.out.tree Rx.h2 rfl
  rw [G2.out] at hg
  simp only [Option.getD_none, Option.isSome_none] at hg
  clear b9 R8 G2
  go_wp2_with (first | (refine wpL_mk (by kernel_rfl) 40 #[(0, .const (.int .u8 2))] rfl [(0, .int .u8 2)] (by rfl) (hashC Rx.h2) bt_h2 ?_))
  refine hg.mono ?_
  clear hg
  rintro e w10 ⟨rfl, b10⟩
  have R10 := Lib.hid (R9.out.step b10)
  have hpf := prefix_any w10 _ _ t2 R10.out.tree [] (by decide)
  rw [G3.out] at hpf
  obtain ⟨V1, hV1⟩ : ∃ v, v = Rx.errV 1 := ⟨_, rfl⟩
  obtain ⟨V11, hV11⟩ : ∃ v, v = Rx.errV 11 := ⟨_, rfl⟩
  rw [← hV1] at hpf
  have K1 : Hid (∀ X, EType X → Calls Tryd.prog 13 #[V1] X fun e w' => e = .returned (.int .i64 1) ∧ Below X.heap.size X w') := Lib.hid (fun X hg => by rw [hV1]; exact errV_kind X 1 hg)
  have K11 : Hid (∀ X, EType X → Calls Tryd.prog 13 #[V11] X fun e w' => e = .returned (.int .i64 11) ∧ Below X.heap.size X w') := Lib.hid (fun X hg => by rw [hV11]; exact errV_kind X 11 hg)
  have HV11 := Lib.hid hV11
  clear b10 R9 G3 hV1 hV11
  go_wp2_with fail
  refine hpf.mono ?_
  clear hpf
  rintro e w11 ⟨rfl, b11⟩
  have R11 := Lib.hid (R10.out.step b11)
  clear b11 R10
  go_upto_region 13 with (first | (refine wpL_var 40 78 14 (hashC Wi.z32) rfl rfl rfl rfl rfl rfl (hashC Wi.z32) (by rfl) zi_hash rfl (hashC_one _) (by decide) (by kernel_rfl) ?_))
  obtain ⟨w12, hw12⟩ : ∃ w12, w12 = w11.alloc (.cells (hashC Wi.z32) 40) := ⟨_, rfl⟩
  rw [← hw12]
  have R12 : Hid (RSt w w12 TB LB B 100000 t2 []) := Lib.hid (R11.out.step (by rw [hw12]; exact (Below.refl _ _).alloc (Nat.le_refl _) _))
  have hpf := prefix_any w12 _ _ t2 R12.out.tree [48, 50] (by decide)
  rw [G4.out, ← show V11 = _ from HV11.out] at hpf
  clear hw12 R11 G4 HV11
  go_wp2_with fail
  refine hpf.mono ?_
  clear hpf
  rintro e w13 ⟨rfl, b13⟩
  have R13 := Lib.hid (R12.out.step b13)
  clear b13 R12
  go_upto_region 14 with (first | (refine wpL_var 40 83 16 (hashC Wi.z32) rfl rfl rfl rfl rfl rfl (hashC Wi.z32) (by rfl) zi_hash rfl (hashC_one _) (by decide) (by kernel_rfl) ?_))
  obtain ⟨w14, hw14⟩ : ∃ w14, w14 = w13.alloc (.cells (hashC Wi.z32) 40) := ⟨_, rfl⟩
  rw [← hw14]
  have R14 : Hid (RSt w w14 TB LB B 100000 t2 []) := Lib.hid (R13.out.step (by rw [hw14]; exact (Below.refl _ _).alloc (Nat.le_refl _) _))
  have U2 : Hid (Rx.uns t2 ≤ 1) := Lib.hid (Rx.uns_one R14.out.big (by rw [G5.out]; omega))
  have hsv := R14.out.save_call (by have := U2.out; simp; omega) (by have := U2.out; simp; omega) (by omega)
  clear hw14 R13
  go_wp2_with fail
  refine hsv.mono ?_
  clear hsv
  intro e w15 hse
  obtain ⟨t3, I3, rfl, r15, s15, _⟩ := R14.out.save hse
  have R15 := Lib.hid r15
  have S15 := Lib.hid s15
  have C3 : Hid (Rx.cnt t3 = 1) := Lib.hid (by rw [Rx.er_cnt s15.sm]; exact G5.out)
  have NZ : Hid (t3.saved ≠ 0) := Lib.hid (s15.all (fun e => by have := C3.out; rw [Rx.ptr_none e] at this; cases this))
  have ML : Hid (1 ≤ I3.length ∧ I3.length ≤ 65) := Lib.hid (by
    have h1 := Rx.sv_le r15.sv
    have h2 := Rx.sv_saved r15.sv
    have h3 := NZ.out
    have h4 := s15.len.2
    have h5 := U2.out
    simp only [List.length_nil] at h4
    omega)
  have hcn := ls_count r15.ls
  obtain ⟨m, hm⟩ : ∃ m, m = I3.length := ⟨_, rfl⟩
  obtain ⟨q, hq⟩ : ∃ q, q = t3.saved := ⟨_, rfl⟩
  have HM := Lib.hid hm
  have HQ := Lib.hid hq
  rw [← hq]
  rw [← hm] at hcn
  clear hse r15 s15 R14 hm hq
  go_wp2_with fail
  refine hcn.mono ?_
  clear hcn
  rintro e w' ⟨rfl, rfl⟩
  have hsv := R15.out.save_call (by have := ML.out; have := S15.out.uns; omega) (by have := ML.out; have := S15.out.uns; omega) (by omega)
  go_wp2_with fail
  refine hsv.mono ?_
  clear hsv
  intro e w16 hse
  obtain ⟨rfl, r16, _⟩ := R15.out.again S15.out hse
  have R16 := Lib.hid r16
  have hld := rLoad_any w16 w.heap.size LB B 100000 I3 t3 r16.ls (by have := ML.out; omega) NZ.out r16.sv r16.tree.ok r16.big (by rw [C3.out]; omega)
  rw [← show q = _ from HQ.out] at hld ⊢
  clear hse r16 R15
  go_wp2_with fail
  refine hld.mono ?_
  clear hld
  rintro e w17 ⟨UB, t5, rfl, h17, e17, b17⟩
  have R17 := Lib.hid (R16.out.step b17)
  have U17 := Lib.hid h17
  have E17 := Lib.hid e17
  have hno := rLoad_no w17 w.heap.size LB B 100000 I3 R17.out.ls 9999 (by have := ML.out; omega) (by omega)
  rw [show ((9999 : Nat) : Int) = 9999 from rfl] at hno
  clear h17 e17 b17 R16
  go_wp2_with fail
  refine hno.mono ?_
  clear hno
  rintro e w18 ⟨rfl, b18⟩
  have R18 := Lib.hid (R17.out.step b18)
  have U18 := Lib.hid (U17.out.below b18)
  have hlz := rLoad_zero w18 LB
  clear b18 R17 U17
  go_wp2_with fail
  refine hlz.mono ?_
  clear hlz
  rintro e w19 ⟨ZB, t6, rfl, h19, e19, b19⟩
  have R19 := Lib.hid (R18.out.step b19)
  have U19 := Lib.hid (U18.out.below b19)
  have Z19 := Lib.hid h19
  have C6 : Hid (Rx.cnt t6 = 0) := Lib.hid (by rw [Rx.er_cnt e19]; rfl)
  have ET : Hid (Rx.er true t5 = Rx.er true t2) := Lib.hid (by rw [← Rx.er_er t5, E17.out, Rx.er_er]; exact S15.out.sm)
  obtain ⟨g1, _, _, _, g5, g6⟩ := knownR_plain t5 t1 t2 f1 f2 Q7.out Q8.out ET.out
  have hg := rxGet_any w19 w16.heap.size UB t5 U19.out Rx.h1 rfl
  rw [g1] at hg
  simp only [Option.getD_some, Option.isSome_some] at hg
  have G5' := Lib.hid g5
  have G6 := Lib.hid g6
  have BX := Lib.hid (R19.out.bel)
  have m1 : decide ((1 : Int) ≤ (m : Int)) = true := decide_eq_true (by have := ML.out; have := HM.out; omega)
  have m1' : decide (1 ≤ m) = true := decide_eq_true (by have := ML.out; have := HM.out; omega)
  have m65 : decide ((m : Int) ≤ 65) = true := decide_eq_true (by have := ML.out; have := HM.out; omega)
  have m65' : decide (m ≤ 65) = true := decide_eq_true (by have := ML.out; have := HM.out; omega)
  have K2 : Hid (∀ X, EType X → Calls Tryd.prog 13 #[.iface 45 (.int .i64 2)] X fun e w' => e = .returned (.int .i64 2) ∧ Below X.heap.size X w') := Lib.hid (fun X hg => errV_kind X 2 hg)
  clear h19 e19 b19 R18 U18 g1 g5 g6 C3 NZ ML HQ U2 G5 Q7 Q8 S15 E17 ET
  dsimp only [List.append]
  go_wp2_with (first | (refine wpL_mk (by kernel_rfl) 40 #[(0, .const (.int .u8 1))] rfl [(0, .int .u8 1)] (by rfl) (hashC Rx.h1) bt_h1 ?_))
  refine hg.mono ?_
  clear hg
  rintro e w20 ⟨rfl, b20⟩
  have R20 := Lib.hid (R19.out.step b20)
  have U20 := Lib.hid (U19.out.below b20)
  have Z20 := Lib.hid (Z19.out.below b20)
  have hk := K1.out w20 (HE.out.keep R20.out.bel)
  clear b20 R19 U19 Z19 K1 BX
  go_wp2_with fail
  refine hk.mono ?_
  clear hk
  rintro e w21 ⟨rfl, b21⟩
  have R21 := Lib.hid (R20.out.step b21)
  have U21 := Lib.hid (U20.out.below b21)
  have Z21 := Lib.hid (Z20.out.below b21)
  have hk := K11.out w21 (HE.out.keep R21.out.bel)
  clear b21 R20 U20 Z20 K11
  go_wp2_with fail
  refine hk.mono ?_
  clear hk
  rintro e w22 ⟨rfl, b22⟩
  have R22 := Lib.hid (R21.out.step b22)
  have U22 := Lib.hid (U21.out.below b22)
  have Z22 := Lib.hid (Z21.out.below b22)
  have hcn := ls_count R22.out.ls
  rw [← show m = _ from HM.out] at hcn
  clear b22 R21 U21 Z21
  go_wp2_with fail
  refine hcn.mono ?_
  clear hcn
  rintro e w' ⟨rfl, rfl⟩
  have hk := K2.out w' (HE.out.keep R22.out.bel)
  go_wp2_with fail
  refine hk.mono ?_
  clear hk
  rintro e w24 ⟨rfl, b24⟩
  have B24 := Lib.hid (R22.out.step b24).bel
  have U24 := Lib.hid (U22.out.below b24)
  have Z24 := Lib.hid (Z22.out.below b24)
  have hc := rcount_q w24 _ _ t6 0 C6.out Z24.out
  rw [show ((0 : Nat) : Int) = 0 from rfl] at hc
  clear b24 R22 U22 Z22 K2
  go_wp2_with fail
  refine hc.mono ?_
  clear hc
  rintro e w' ⟨rfl, rfl⟩
  have hc := rcount_q w' _ _ t5 1 G5'.out U24.out
  rw [show ((1 : Nat) : Int) = 1 from rfl] at hc
  go_wp2_with fail
  refine hc.mono ?_
  clear hc
  rintro e w' ⟨rfl, rfl⟩
  have hal := all_any w' _ _ t5 U24.out [] (by decide) 9 (by omega)
  rw [show ((9 : Nat) : Int) = 9 from rfl] at hal
  go_wp2_with fail
  refine hal.mono ?_
  clear hal
  rintro e w25 ⟨v, rfl, o25, b25⟩
  obtain ⟨av, cv, rfl, _⟩ := ownsRow_slice o25
  rw [G6.out]
  have BF := Lib.hid (B24.out.trans (b25.mono B24.out.size))
  clear o25 b25
  go_wp2
  go_ret
  exact ⟨rfl, BF.out⟩
end Go.Proofs.YthampbiabkfmoaaDoor
