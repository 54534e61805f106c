/- ReadReply: what it answers. -/
import Derived.Test.YthampbiabkfmoaaDoorWiRpSt
import Derived.Test.YthampbiabkfmoaaDoorWiLayRp
namespace Go.Proofs.YthampbiabkfmoaaDoor
open Go.RowKit Go.Tap
set_option linter.unusedVariables false
set_option linter.unusedSimpArgs false
theorem readRp_some {l x : List UInt8} (hx : Wi.opened l = some x) : Wi.readRp l = if Wi.layRp (Wi.rdRest x) = some l then .ok (Wi.rdRest x) else .error 2 := by
  unfold Wi.readRp; rw [hx]
theorem layRp_le {p : Wi.Rp} (ho : p.ok) {b : List UInt8} (h : Wi.layRp p = some b) : b.length ≤ 3000 := by
  obtain ⟨hm, hl, he, hb⟩ := Wi.layRp_parts h
  have h1 := Wi.headB_le hm ho.q 2
  have h2 := Wi.ensB_le p.q.kind p.ents ho.ents
  have h3 := (Wi.mayRq_parts hm).2.2.2.2
  rw [hb, Wi.sumB_len, List.length_append]
  omega
set_option maxHeartbeats 8000000 in
set_option maxRecDepth 100000 in
theorem readReply_any (w : World) (a : Option Addr) (n c : Nat) (l : List UInt8) (hr : Rds w a n l) (hnc : n ≤ c) (hz : a = none → c = 0) (hn : n ≤ 140737488353232) :
    Calls Tryd.prog 31 #[.slice a n c] w (RpAft w (Wi.readRp l)) := by
  obtain ⟨R, hR⟩ : ∃ R, R = Wi.readRp l := ⟨_, rfl⟩
  rw [← hR]
  have HR := Lib.hid hR
  have hrk : ∀ X, Below w.heap.size w X → Rds X a n l := fun X hX => hr.below hX (fun h0 b o e => by subst e; exact hr.lt h0)
  have b1 : Below w.heap.size w (w.alloc (.cells #[.int .i64 0, .int .i64 0, .slice none 0 0, .slice none 0 0] 88)) := (Below.refl _ _).alloc (Nat.le_refl _) _
  have hck := checked_any _ a n c l (hrk _ b1) hnc hz hn
  have T1 : Hid ((w.alloc (.cells #[.int .i64 0, .int .i64 0, .slice none 0 0, .slice none 0 0] 88)).heap[w.heap.size]? = some (.cells #[.int .i64 0, .int .i64 0, .slice none 0 0, .slice none 0 0] 88 (0, 0))) := Lib.hid (heap_alloc_new _ _)
  have B1 := Lib.hid b1
  have HRK := Lib.hid hrk
  have HNL := Lib.hid hn
  obtain ⟨x, hx⟩ : ∃ x, x = Wi.opened l := ⟨_, rfl⟩
  rw [← hx] at hck
  have HX := Lib.hid hx
  have HW1 : Hid (w.heap.size < (w.alloc (.cells #[.int .i64 0, .int .i64 0, .slice none 0 0, .slice none 0 0] 88)).heap.size) := Lib.hid (by simp)
  clear hR hx b1 hr hrk hn hnc hz
  go_enter Tryd.func31, Tryd.ntmps31
  go_wp2_with fail
  refine hck.mono ?_
  clear hck
  rintro e w2 ⟨b2, he⟩
  have T2 := Lib.hid ((b2.block _ (blk_lt T1.out)).trans T1.out)
  have B2 := Lib.hid (B1.out.trans (b2.mono B1.out.size))
  cases x with
  | none =>
    obtain rfl := he
    have HE : Hid (R = .error 4) := Lib.hid (by rw [HR.out, Wi.readRp, ← HX.out])
    clear b2
    go_wp2_with (refine wpL_storeW ?hw 88 (.tmp 2) (.tmp 18) rfl w.heap.size 0 rfl #[.int .i64 0, .int .i64 0, .slice none 0 0, .slice none 0 0] rfl #[.int .i64 0, .int .i64 0, .slice none 0 0, .slice none 0 0] 88 T2.out #[.int .i64 0, .int .i64 0, .slice none 0 0, .slice none 0 0] rfl (Nat.le_refl 4) (one4 _ _ _ _ _ _ _ _) (sz_rp _ _ _ _) ?_; case hw => kernel_rfl)
    intro w9 T9 S9
    go_wp2
    refine bodyPost_ret (ret_cell_tmp rfl rfl T9 Tryd.underlying88 rfl (sz_rp _ _ _ _)) rfl ?_
    rw [HE.out]
    exact ⟨Below.trans_stay B2.out S9 (Nat.le_refl _) (fun k hk e => by omega), rfl⟩
  | some x =>
    obtain ⟨B, D, rfl, hB, hD, r2⟩ := he
    have HBB : Hid (w.heap.size < B) := Lib.hid (by have := HW1.out; omega)
    have hrh := readHead_any r2
    have HBD : Hid (B < w2.heap.size ∧ D < w2.heap.size) := Lib.hid ⟨r2.lt, r2.dlt⟩
    obtain ⟨rh, hrhe⟩ : ∃ rh, rh = Wi.rdHead (Wi.behind x).1 (Wi.behind x).2 := ⟨_, rfl⟩
    rw [← hrhe] at hrh
    have HRH := Lib.hid hrhe
    have HOK : Hid (rh.1.ok) := Lib.hid (by rw [hrhe]; exact Wi.rdHead_ok _ _)
    have HLN : Hid (rh.1.items.length ≤ 255) := Lib.hid (by rw [hrhe]; exact rdHead_len _ _)
    have HRE : Hid (R = if Wi.layRp ⟨rh.1, (Wi.rdEns rh.1.kind rh.1.items.length rh.2).1⟩ = some l then .ok ⟨rh.1, (Wi.rdEns rh.1.kind rh.1.items.length rh.2).1⟩ else .error 2) := Lib.hid (by rw [HR.out, readRp_some HX.out.symm, hrhe]; rfl)
    clear b2 hB hD r2 hrhe
    go_wp2_with fail
    refine hrh.mono ?_
    clear hrh
    rintro e w3 ⟨⟨ra, rc, rfl, i3, z3, c3, k3⟩, r3, s3⟩
    have B3 := Lib.hid (Below.trans_stay B2.out s3 (Nat.le_refl _) (fun k hk e => by have := HBB.out; omega))
    have T3 := Lib.hid ((s3.block _ (blk_lt T2.out) (by have := HBB.out; omega)).trans T2.out)
    have I3 := Lib.hid i3
    have K3 := Lib.hid (fun y (hy : ra = some y) => Nat.lt_of_lt_of_le (blk_lt T2.out) (k3 y hy))
    have K3B := Lib.hid (fun y (hy : ra = some y) => Nat.lt_of_lt_of_le HBD.out.1 (k3 y hy))
    have HB3 : Hid (B < w3.heap.size ∧ D < w3.heap.size) := Lib.hid ⟨r3.lt, r3.dlt⟩
    obtain ⟨rl, hrl⟩ : ∃ rl, rl = rh.1.items.length := ⟨_, rfl⟩
    rw [← hrl] at I3 HLN HRE ⊢
    have HRL := Lib.hid hrl
    obtain ⟨sq, hsq⟩ : ∃ sq, sq = rh.1.seq := ⟨_, rfl⟩
    obtain ⟨kd, hkd⟩ : ∃ kd, kd = rh.1.kind := ⟨_, rfl⟩
    rw [← hkd] at HRE
    rw [← hsq, ← hkd]
    have HSQ := Lib.hid hsq
    have HKD := Lib.hid hkd
    have ba : Below w3.heap.size w3 (w3.alloc (.cells #[.int .i64 sq, .int .i64 kd, .slice ra rl rc] 28)) := (Below.refl _ _).alloc (Nat.le_refl _) _
    have bb : Below w3.heap.size w3 ((w3.alloc (.cells #[.int .i64 sq, .int .i64 kd, .slice ra rl rc] 28)).alloc (.cells #[.int .i64 sq, .int .i64 kd, .slice ra rl rc, .slice none 0 0] 88)) := ba.alloc (by simp) _
    have S0 : Hid (RpSt 198 w3 B D w3.heap.size (w3.heap.size + 1) sq kd ra rl rc ((w3.alloc (.cells #[.int .i64 sq, .int .i64 kd, .slice ra rl rc] 28)).alloc (.cells #[.int .i64 sq, .int .i64 kd, .slice ra rl rc, .slice none 0 0] 88)) [] rh.2 (.slice none 0 0)) := Lib.hid
      ⟨heap_alloc2_old _ _ _, heap_alloc2_new _ _ _, World.ownsRow_nil _ _ _ _, r3.below bb, TStay.of_below bb _, (fun i hi => by cases hi), ⟨r3.lt, r3.dlt, Nat.le_refl _, by omega, by omega⟩⟩
    clear r3 s3 i3 z3 c3 k3 hrl hsq hkd ba bb T2 T1 B1 B2
    go_wp2
    go_loopw [32] (fun kv wr => ∃ (k : Nat) (le : List Wi.En) (q : List UInt8 × Bool) (v : Value), k ≤ rl ∧ kv = .int .i64 (k : Int) ∧ Hid (le.length = k) ∧ Hid (Wi.rdEns kd rl rh.2 = (le ++ (Wi.rdEns kd (rl - k) q).1, (Wi.rdEns kd (rl - k) q).2)) ∧ Hid (RpSt 198 w3 B D w3.heap.size (w3.heap.size + 1) sq kd ra rl rc wr le q v)) (fun kv _ => rl - (intOf kv).toNat)
    case atStart => exact ⟨0, [], rh.2, .slice none 0 0, Nat.zero_le _, rfl, Lib.hid rfl, Lib.hid (by rw [List.nil_append]; rfl), S0⟩
    case round =>
      obtain ⟨k, le, q, v, hk, rfl, HLE, HE, HS⟩ := hrel
      clear S0
      obtain ⟨g0, g1, g2⟩ := cells3 HS.out.t6
      obtain ⟨j0, j1, j2, j3⟩ := cells4 HS.out.t7
      by_cases hlt : k < rl
      · as_aux_lemma =>
          have d0 : decide ((k : Int) < (rl : Int)) = true := decide_eq_true (by omega)
          have d0' : decide (k < rl) = true := decide_eq_true hlt
          have d1 : (k : Int) < (rl : Int) := by omega
          have hw := wrapi' ((k : Int) + 1) (by have := HLN.out; omega)
          have HKL : Hid (k < rl) := Lib.hid hlt
          obtain ⟨s1, hs1⟩ : ∃ s1, s1 = Oct.rdU 1 q.1 q.2 := ⟨_, rfl⟩
          obtain ⟨st, hst⟩ : ∃ st, st = Oct.i64 s1.1 := ⟨_, rfl⟩
          have hu := rd_u8 HS.out.rd
          rw [← hs1, ← hst] at hu
          obtain ⟨en, hen⟩ : ∃ en, en = Wi.rdEn kd q.1 q.2 := ⟨_, rfl⟩
          have HOKE : Hid (en.1.ok) := Lib.hid (by rw [hen]; exact Wi.rdEn_ok _ _ _)
          have HE2 : Hid (Wi.rdEns kd rl rh.2 = ((le ++ [en.1]) ++ (Wi.rdEns kd (rl - (k + 1)) en.2).1, (Wi.rdEns kd (rl - (k + 1)) en.2).2)) := Lib.hid (by
            rw [HE.out, show rl - k = (rl - (k + 1)) + 1 by omega, Wi.rdEns, hen, List.append_assoc]; rfl)
          have HLE2 : Hid ((le ++ [en.1]).length = k + 1) := Lib.hid (by rw [List.length_append, HLE.out]; rfl)
          have HENE : Hid (en = Wi.rdEn kd q.1 q.2) := Lib.hid hen
          have HS1 := Lib.hid hs1
          have HST := Lib.hid hst
          clear hs1 hst hen HE j0 j1 j2 j3 g0 g1 g2
          go_wp2_with fail
          refine hu.mono ?_
          clear hu
          rintro e w5 ⟨rfl, r5, s5⟩
          have S5 := Lib.hid (HS.out.step r5 s5)
          have NB : Hid (w5.heap.size ≠ B ∧ w5.heap.size ≠ w3.heap.size ∧ w5.heap.size ≠ w3.heap.size + 1 ∧ w3.heap.size ≤ w5.heap.size ∧ ∀ k, v.ownBlock = some k → k ≠ w5.heap.size) := Lib.hid
            ⟨by have := S5.out.rd.lt; omega, by have := blk_lt S5.out.t6; omega, by have := blk_lt S5.out.t7; omega, S5.out.st.size, fun k hk => by have := (S5.out.own.lt k hk).2; omega⟩
          have ba : Below w5.heap.size w5 (w5.alloc (.cells (enC ⟨st, Wi.z32, 0, Wi.z32⟩) 152)) := (Below.refl _ _).alloc (Nat.le_refl _) _
          have SA := Lib.hid (S5.out.below ba)
          have TA : Hid ((w5.alloc (.cells (enC ⟨st, Wi.z32, 0, Wi.z32⟩) 152)).heap[w5.heap.size]? = some (.cells (enC ⟨st, Wi.z32, 0, Wi.z32⟩) 152 (0, 0))) := Lib.hid (heap_alloc_new _ _)
          have c0 : (enC ⟨st, Wi.z32, 0, Wi.z32⟩)[0]? = some (.int .i64 st) := enC_status _
          have HOK0 : Hid ((⟨st, Wi.z32, 0, Wi.z32⟩ : Wi.En).ok) := Lib.hid (zen_ok st (by rw [HST.out]; exact Wi.i64ok_i64 _ (by rw [HS1.out]; have := Oct.rdU_lt 1 q.1 q.2; omega)))
          clear r5 s5 ba S5 HS
          by_cases h1 : st = 1
          · subst h1
            obtain ⟨hh, hhe⟩ : ∃ hh, hh = Wi.rdHash s1.2.1 s1.2.2 := ⟨_, rfl⟩
            have hha := wireHash_any SA.out.rd
            rw [← hhe] at hha
            have HH32 : Hid (hh.1.length = 32) := Lib.hid (by rw [hhe]; exact Wi.rdHash_length _ _)
            have HHE := Lib.hid hhe
            clear hhe
            go_wp2_with (first | (refine wpL_mk (by kernel_rfl) 152 #[(0, .tmp 35)] rfl [(0, .int .i64 1)] (by rfl) (enC ⟨1, Wi.z32, 0, Wi.z32⟩) (bt_entry 1) ?_) | (refine wpL_var 152 36 8 (enC ⟨0, Wi.z32, 0, Wi.z32⟩) rfl rfl rfl rfl rfl rfl (enC ⟨1, Wi.z32, 0, Wi.z32⟩) (by rfl) (by rw [enC_size _ HOK0.out]; exact zi_entry) rfl (enC_one _) (by decide) (by kernel_rfl) ?_))
            refine hha.mono ?_
            clear hha c0
            rintro e w6 ⟨rfl, r6, s6⟩
            have S6 := Lib.hid (SA.out.step r6 s6)
            have T6 := Lib.hid ((s6.block _ (blk_lt TA.out) NB.out.1).trans TA.out)
            clear r6 s6 SA TA
            go_wp2_with (refine wpL_storeW ?hw 40 (.tmp 42) (.tmp 41) rfl w5.heap.size 34 rfl (hashC hh.1) rfl (enC ⟨1, Wi.z32, 0, Wi.z32⟩) 152 T6.out (enC ⟨1, Wi.z32, 0, hh.1⟩) (sp_en_hash ⟨1, Wi.z32, 0, Wi.z32⟩ _ rfl rfl HH32.out) (by rw [hashC_size _ HH32.out]; exact (by decide : 34 + 32 ≤ 66)) (by intro v hv; exact bv_one _ v (by simpa [hashC] using hv)) (by rw [hashC_size _ HH32.out]; exact sz_hash) ?_; case hw => kernel_rfl)
            intro w7 T7 S7
            have SS := Lib.hid (S6.out.turn S7 NB.out.2.2.2.1 NB.out.2.1 NB.out.2.2.1 NB.out.2.2.2.2)
            have TT := Lib.hid T7
            obtain ⟨g0, g1, g2⟩ := cells3 SS.out.t6
            clear S7 T7 S6 T6
            by_cases hk2 : kd = 2
            · as_aux_lemma =>
                subst hk2
                obtain ⟨ph, hph⟩ : ∃ ph, ph = Wi.rdHash hh.2.1 hh.2.2 := ⟨_, rfl⟩
                have hpa := wireHash_any SS.out.rd
                rw [← hph] at hpa
                have HP32 : Hid (ph.1.length = 32) := Lib.hid (by rw [hph]; exact Wi.rdHash_length _ _)
                obtain ⟨vq, hvq⟩ : ∃ vq, vq = Oct.rdVar ph.2.1 ph.2.2 := ⟨_, rfl⟩
                have HEN : Hid (en = (⟨1, ph.1, vq.1, hh.1⟩, vq.2)) := Lib.hid (by
                  rw [HENE.out, Wi.rdEn, ← show s1 = _ from HS1.out, ← show (1 : Int) = _ from HST.out, hvq, hph, HHE.out]; simp only [if_true])
                have HVQ := Lib.hid hvq
                clear hph hvq
                go_wp2_with fail
                refine hpa.mono ?_
                clear hpa g0 g1 g2
                rintro e w9 ⟨rfl, r9, s9⟩
                have S9 := Lib.hid (SS.out.step r9 s9)
                have T9 := Lib.hid ((s9.block _ (blk_lt TT.out) NB.out.1).trans TT.out)
                have hv := rd_var r9
                rw [← show vq = _ from HVQ.out] at hv
                clear r9 s9 SS TT
                go_wp2_with fail
                refine hv.mono ?_
                clear hv
                rintro e w10 ⟨rfl, r10, s10⟩
                have S10 := Lib.hid (S9.out.step r10 s10)
                have T10 := Lib.hid ((s10.block _ (blk_lt T9.out) NB.out.1).trans T9.out)
                clear r10 s10 S9 T9
                have HOKH : Hid ((⟨1, Wi.z32, 0, hh.1⟩ : Wi.En).ok) := Lib.hid ⟨(by show Wi.i64ok 1; unfold Wi.i64ok; omega), rfl, (by show Wi.i64ok 0; unfold Wi.i64ok; omega), HH32.out⟩
                have HFIT : Hid (1 + (pathC ph.1 vq.1).size ≤ (enC ⟨1, Wi.z32, 0, hh.1⟩).size) := Lib.hid (by rw [pathC_size _ _ HP32.out, enC_size _ HOKH.out]; decide)
                go_wp2_with (first | (refine wpL_mk (by kernel_rfl) 42 #[(0, .tmp 47), (1, .tmp 49)] rfl [(0, .agg (hashC ph.1)), (1, .int .i64 vq.1)] (by rfl) (pathC ph.1 vq.1) (bt_path ph.1 vq.1 HP32.out) ?_) | (refine wpL_storeW ?hw 42 (.tmp 51) (.tmp 50) rfl w5.heap.size 1 rfl (pathC ph.1 vq.1) rfl (enC ⟨1, Wi.z32, 0, hh.1⟩) 152 T10.out (enC ⟨1, ph.1, vq.1, hh.1⟩) (sp_en_path ⟨1, Wi.z32, 0, hh.1⟩ _ _ rfl HP32.out) HFIT.out (pathC_one _ _) (by rw [pathC_size _ _ HP32.out]; exact sz_path) ?_; case hw => kernel_rfl))
                intro w11 T11 S11
                have SX := S10.out.turn S11 NB.out.2.2.2.1 NB.out.2.1 NB.out.2.2.1 NB.out.2.2.2.2
                rw [show vq.2 = en.2 by rw [HEN.out]] at SX
                have TX : Hid (w11.heap[w5.heap.size]? = some (.cells (enC en.1) 152 (0, 0))) := Lib.hid (by rw [HEN.out]; exact T11)
                replace SX := Lib.hid SX
                clear T11 S11 S10 T10
                obtain ⟨j0, j1, j2, j3⟩ := cells4 SX.out.t7
                have PX : Hid (Part w11 w5.heap.size 0 (enC en.1)) := Lib.hid (Part.of_blk TX.out)
                have bx : Below (w11).heap.size (w11) ((w11).alloc (.cells (enC en.1) 152)) := (Below.refl _ _).alloc (Nat.le_refl _) _
                have RX := Lib.hid (SX.out.below bx)
                have HLA : Hid (w3.heap.size ≤ ((w11).alloc (.cells (enC en.1) 152)).heap.size) := Lib.hid RX.out.st.size
                clear bx
                go_wp2_with (first | (refine wpL_load ?hw 152 (.tmp 8) rfl w5.heap.size 0 rfl (enC en.1) _ PX.out Tryd.underlying152 rfl (by rw [enC_size _ HOKE.out]; exact sz_entry) ?_; case hw => kernel_rfl) | (refine wpL_rowOne rfl 86 152 (.tmp 54) rfl 55 rfl Tryd.underlying86 (enC en.1) (by rfl) (.agg (enC ⟨0, Wi.z32, 0, Wi.z32⟩)) 66 zi_entry (by decide) (enC_size _ HOKE.out) ?_) | (at_builtin; refine wpL_appE _ rfl (.tmp 53) (.tmp 55) rfl w3.heap.size v le (by rfl) RX.out.own (w11).heap.size en.1 HOKE.out (by rfl) (heap_alloc_new _ _) (by have := HLE.out; have := HLN.out; have := HKL.out; omega) HLA.out ?_))
                intro v' w8 O8 G8
                obtain ⟨a', c', rfl, _⟩ := ownsRow_slice O8
                obtain ⟨E3, R9⟩ := RX.out.app O8 G8 HOKE.out
                rw [show (le ++ [en.1]).length = le.length + 1 by simp] at R9
                have HR9 := Lib.hid R9
                obtain ⟨j0', j1', j2', j3'⟩ := cells4 E3
                have f3 := blk_free E3 3
                clear O8 G8 R9 RX PX E3 SX TX j0 j1 j2 j3
                go_wp2
                go_roundw
                case rel => exact ⟨k + 1, le ++ [en.1], en.2, _, by omega, by go_num, HLE2, HE2, HR9⟩
                case measure => simp [intOf]; omega
            · as_aux_lemma =>
                have dk : (kd == 2) = false := by simp [hk2]
                have HEN : Hid (en = (⟨1, Wi.z32, 0, hh.1⟩, hh.2)) := Lib.hid (by
                  rw [HENE.out, Wi.rdEn, ← show s1 = _ from HS1.out, ← show (1 : Int) = _ from HST.out, HHE.out]; simp only [if_true, if_neg hk2])
                have SX := SS.out
                rw [show hh.2 = en.2 by rw [HEN.out]] at SX
                have TX : Hid (w7.heap[w5.heap.size]? = some (.cells (enC en.1) 152 (0, 0))) := Lib.hid (by rw [HEN.out]; exact TT.out)
                replace SX := Lib.hid SX
                clear hk2 SS TT
                obtain ⟨j0, j1, j2, j3⟩ := cells4 SX.out.t7
                have PX : Hid (Part w7 w5.heap.size 0 (enC en.1)) := Lib.hid (Part.of_blk TX.out)
                have bx : Below (w7).heap.size (w7) ((w7).alloc (.cells (enC en.1) 152)) := (Below.refl _ _).alloc (Nat.le_refl _) _
                have RX := Lib.hid (SX.out.below bx)
                have HLA : Hid (w3.heap.size ≤ ((w7).alloc (.cells (enC en.1) 152)).heap.size) := Lib.hid RX.out.st.size
                clear bx
                go_wp2_with (first | (refine wpL_load ?hw 152 (.tmp 8) rfl w5.heap.size 0 rfl (enC en.1) _ PX.out Tryd.underlying152 rfl (by rw [enC_size _ HOKE.out]; exact sz_entry) ?_; case hw => kernel_rfl) | (refine wpL_rowOne rfl 86 152 (.tmp 54) rfl 55 rfl Tryd.underlying86 (enC en.1) (by rfl) (.agg (enC ⟨0, Wi.z32, 0, Wi.z32⟩)) 66 zi_entry (by decide) (enC_size _ HOKE.out) ?_) | (at_builtin; refine wpL_appE _ rfl (.tmp 53) (.tmp 55) rfl w3.heap.size v le (by rfl) RX.out.own (w7).heap.size en.1 HOKE.out (by rfl) (heap_alloc_new _ _) (by have := HLE.out; have := HLN.out; have := HKL.out; omega) HLA.out ?_))
                intro v' w8 O8 G8
                obtain ⟨a', c', rfl, _⟩ := ownsRow_slice O8
                obtain ⟨E3, R9⟩ := RX.out.app O8 G8 HOKE.out
                rw [show (le ++ [en.1]).length = le.length + 1 by simp] at R9
                have HR9 := Lib.hid R9
                obtain ⟨j0', j1', j2', j3'⟩ := cells4 E3
                have f3 := blk_free E3 3
                clear O8 G8 R9 RX PX E3 SX TX j0 j1 j2 j3
                go_wp2
                go_roundw
                case rel => exact ⟨k + 1, le ++ [en.1], en.2, _, by omega, by go_num, HLE2, HE2, HR9⟩
                case measure => simp [intOf]; omega
          · as_aux_lemma =>
              have ds : (st == 1) = false := by simp [h1]
              have HEN : Hid (en = (⟨st, Wi.z32, 0, Wi.z32⟩, s1.2)) := Lib.hid (by
                rw [HENE.out, Wi.rdEn, ← show s1 = _ from HS1.out, ← show st = _ from HST.out]; simp only [if_neg h1])
              have HEE : Hid (enC ⟨st, Wi.z32, 0, Wi.z32⟩ = enC en.1) := Lib.hid (by rw [HEN.out])
              have SX := SA.out
              rw [show s1.2 = en.2 by rw [HEN.out]] at SX
              have TX : Hid ((w5.alloc (.cells (enC ⟨st, Wi.z32, 0, Wi.z32⟩) 152)).heap[w5.heap.size]? = some (.cells (enC en.1) 152 (0, 0))) := Lib.hid (by rw [← HEE.out]; exact TA.out)
              replace SX := Lib.hid SX
              clear h1 SA TA
              obtain ⟨j0, j1, j2, j3⟩ := cells4 SX.out.t7
              have PX : Hid (Part (w5.alloc (.cells (enC ⟨st, Wi.z32, 0, Wi.z32⟩) 152)) w5.heap.size 0 (enC en.1)) := Lib.hid (Part.of_blk TX.out)
              have bx : Below (w5.alloc (.cells (enC ⟨st, Wi.z32, 0, Wi.z32⟩) 152)).heap.size (w5.alloc (.cells (enC ⟨st, Wi.z32, 0, Wi.z32⟩) 152)) ((w5.alloc (.cells (enC ⟨st, Wi.z32, 0, Wi.z32⟩) 152)).alloc (.cells (enC en.1) 152)) := (Below.refl _ _).alloc (Nat.le_refl _) _
              have RX := Lib.hid (SX.out.below bx)
              have HLA : Hid (w3.heap.size ≤ ((w5.alloc (.cells (enC ⟨st, Wi.z32, 0, Wi.z32⟩) 152)).alloc (.cells (enC en.1) 152)).heap.size) := Lib.hid RX.out.st.size
              clear bx
              go_wp2_with (first | (refine wpL_mk (by kernel_rfl) 152 #[(0, .tmp 35)] rfl [(0, .int .i64 st)] (by rfl) (enC ⟨st, Wi.z32, 0, Wi.z32⟩) (bt_entry st) ?_) | (refine wpL_var 152 36 8 (enC ⟨0, Wi.z32, 0, Wi.z32⟩) rfl rfl rfl rfl rfl rfl (enC ⟨st, Wi.z32, 0, Wi.z32⟩) (by rfl) (by rw [enC_size _ HOK0.out]; exact zi_entry) (by rw [enC_size _ HOK0.out]; rfl) (enC_one _) (by decide) (by kernel_rfl) ?_) | (refine wpL_load ?hw 152 (.tmp 8) rfl w5.heap.size 0 rfl (enC en.1) _ PX.out Tryd.underlying152 rfl (by rw [enC_size _ HOKE.out]; exact sz_entry) ?_; case hw => kernel_rfl) | (refine wpL_rowOne rfl 86 152 (.tmp 54) rfl 55 rfl Tryd.underlying86 (enC en.1) (by rfl) (.agg (enC ⟨0, Wi.z32, 0, Wi.z32⟩)) 66 zi_entry (by decide) (enC_size _ HOKE.out) ?_) | (at_builtin; refine wpL_appE _ rfl (.tmp 53) (.tmp 55) rfl w3.heap.size v le (by rfl) RX.out.own (w5.alloc (.cells (enC ⟨st, Wi.z32, 0, Wi.z32⟩) 152)).heap.size en.1 HOKE.out (by rfl) (heap_alloc_new _ _) (by have := HLE.out; have := HLN.out; have := HKL.out; omega) HLA.out ?_))
              intro v' w8 O8 G8
              obtain ⟨a', c', rfl, _⟩ := ownsRow_slice O8
              obtain ⟨E3, R9⟩ := RX.out.app O8 G8 HOKE.out
              rw [show (le ++ [en.1]).length = le.length + 1 by simp] at R9
              have HR9 := Lib.hid R9
              obtain ⟨j0', j1', j2', j3'⟩ := cells4 E3
              have f3 := blk_free E3 3
              clear O8 G8 R9 RX PX E3 SX TX j0 j1 j2 j3
              go_wp2
              go_roundw
              case rel => exact ⟨k + 1, le ++ [en.1], en.2, _, by omega, by go_num, HLE2, HE2, HR9⟩
              case measure => simp [intOf]; omega
      · as_aux_lemma =>
          obtain rfl : k = rl := by omega
          have d0 : decide ((k : Int) < (k : Int)) = false := decide_eq_false (by omega)
          have hents : (Wi.rdEns kd k rh.2).1 = le := by rw [HE.out, Nat.sub_self]; simp [Wi.rdEns]
          rw [hents] at HRE
          obtain ⟨a2, c2, rfl, re, z2, l2, k2⟩ := rdE_own HS.out.own HS.out.ok
          have HP : Hid ((⟨rh.1, le⟩ : Wi.Rp).ok) := Lib.hid ⟨HOK.out, HS.out.ok⟩
          have BW := Lib.hid (Below.trans_stay B3.out HS.out.st (Nat.le_refl _) (fun j hj e => by have := HBB.out; omega))
          have TW := Lib.hid ((HS.out.st.block _ (blk_lt T3.out) (by have := HBB.out; omega)).trans T3.out)
          have IW := Lib.hid (I3.out.stay HS.out.st (fun h0 b o e2 e3 => by have := K3B.out _ e2; simp only at this; omega))
          have EW := Lib.hid re
          have K2 := Lib.hid (fun y (hy : a2 = some y) => Nat.lt_of_lt_of_le (blk_lt T3.out) (k2 y hy))
          have P7 : Hid (Part wr (w3.heap.size + 1) 0 #[.int .i64 sq, .int .i64 kd, .slice ra k rc, .slice a2 le.length c2]) := Lib.hid (Part.of_blk HS.out.t7)
          have T7 := Lib.hid HS.out.t7
          have hly := layReply_any wr ⟨rh.1, le⟩ HP.out ra k rc IW.out (by have := HLN.out; omega) a2 le.length c2 EW.out (by have := HLE.out; have := HLN.out; omega)
          rw [← show sq = _ from HSQ.out, ← show kd = _ from HKD.out] at hly
          have NE : Hid (w.heap.size ≠ w3.heap.size + 1) := Lib.hid (by have := blk_lt T3.out; omega)
          clear hents re z2 l2 k2 HE HS g0 g1 g2 j0 j1 j2 j3 hk hlt B3 T3 I3 K3B
          go_wp2_with (refine wpL_load (by kernel_rfl) 88 (.tmp 7) rfl (w3.heap.size + 1) 0 rfl #[.int .i64 sq, .int .i64 kd, .slice ra k rc, .slice a2 le.length c2] _ P7.out Tryd.underlying88 rfl (sz_rp _ _ _ _) ?_)
          refine hly.mono ?_
          clear hly
          rintro e w5 ⟨b5, he⟩
          have T5 := Lib.hid ((b5.block _ (blk_lt T7.out)).trans T7.out)
          have T52 := Lib.hid ((b5.block _ (blk_lt TW.out)).trans TW.out)
          have B5 := Lib.hid (BW.out.trans (b5.mono BW.out.size))
          have I5 := Lib.hid (IW.out.below b5)
          have E5 := Lib.hid (EW.out.below b5)
          obtain ⟨ly, hlye⟩ : ∃ ly, ly = Wi.layRp ⟨rh.1, le⟩ := ⟨_, rfl⟩
          rw [← hlye] at he HRE
          have HLY := Lib.hid hlye
          clear P7 T7 TW BW IW EW hlye
          cases ly with
          | none =>
            obtain rfl := he
            have HEE : Hid (R = .error 2) := Lib.hid (by rw [HRE.out, if_neg (by simp)])
            clear b5
            go_wp2_with (refine wpL_storeW (by kernel_rfl) 88 (.tmp 2) (.tmp 72) rfl w.heap.size 0 rfl #[.int .i64 0, .int .i64 0, .slice none 0 0, .slice none 0 0] rfl #[.int .i64 0, .int .i64 0, .slice none 0 0, .slice none 0 0] 88 T52.out #[.int .i64 0, .int .i64 0, .slice none 0 0, .slice none 0 0] rfl (Nat.le_refl 4) (one4 _ _ _ _ _ _ _ _) (sz_rp _ _ _ _) ?_)
            intro w9 T9 S9
            go_wp2
            refine bodyPost_ret (ret_cell_tmp rfl rfl T9 Tryd.underlying88 rfl (sz_rp _ _ _ _)) rfl ?_
            rw [HEE.out]
            exact ⟨Below.trans_stay B5.out S9 (Nat.le_refl _) (fun k hk e => by omega), rfl⟩
          | some bb =>
            obtain ⟨ba, bc, rfl, ob⟩ := he
            have heq := equal_any w5 ba bb.length bc bb (Rds.of_own ob rfl) a n c l (HRK.out w5 B5.out) (by have := layRp_le HP.out HLY.out.symm; omega) (by have := HNL.out; omega)
            obtain ⟨z, hz⟩ : ∃ z, z = decide (bb = l) := ⟨_, rfl⟩
            rw [← hz] at heq
            have HQ := Lib.hid hz
            clear hz b5 ob
            go_wp2_with fail
            refine heq.mono ?_
            clear heq
            rintro e w6 ⟨rfl, b6⟩
            have T6 := Lib.hid ((b6.block _ (blk_lt T5.out)).trans T5.out)
            have T62 := Lib.hid ((b6.block _ (blk_lt T52.out)).trans T52.out)
            have B6 := Lib.hid (B5.out.trans (b6.mono B5.out.size))
            have I6 := Lib.hid (I5.out.below b6)
            have E6 := Lib.hid (E5.out.below b6)
            clear b6 T5 T52 B5 I5 E5
            cases z
            · have HEE : Hid (R = .error 2) := Lib.hid (by rw [HRE.out, if_neg (by intro h; simp only [Option.some.injEq] at h; have := HQ.out; rw [decide_eq_true h] at this; cases this)])
              go_wp2_with (refine wpL_storeW (by kernel_rfl) 88 (.tmp 2) (.tmp 72) rfl w.heap.size 0 rfl #[.int .i64 0, .int .i64 0, .slice none 0 0, .slice none 0 0] rfl #[.int .i64 0, .int .i64 0, .slice none 0 0, .slice none 0 0] 88 T62.out #[.int .i64 0, .int .i64 0, .slice none 0 0, .slice none 0 0] rfl (Nat.le_refl 4) (one4 _ _ _ _ _ _ _ _) (sz_rp _ _ _ _) ?_)
              intro w9 T9 S9
              go_wp2
              refine bodyPost_ret (ret_cell_tmp rfl rfl T9 Tryd.underlying88 rfl (sz_rp _ _ _ _)) rfl ?_
              rw [HEE.out]
              exact ⟨Below.trans_stay B6.out S9 (Nat.le_refl _) (fun k hk e => by omega), rfl⟩
            · have HEE : Hid (R = .ok ⟨rh.1, le⟩) := Lib.hid (by rw [HRE.out, if_pos (by rw [of_decide_eq_true HQ.out.symm])])
              have P6 : Hid (Part w6 (w3.heap.size + 1) 0 #[.int .i64 sq, .int .i64 kd, .slice ra k rc, .slice a2 le.length c2]) := Lib.hid (Part.of_blk T6.out)
              go_wp2_with (first | (refine wpL_load (by kernel_rfl) 88 (.tmp 7) rfl (w3.heap.size + 1) 0 rfl #[.int .i64 sq, .int .i64 kd, .slice ra k rc, .slice a2 le.length c2] _ P6.out Tryd.underlying88 rfl (sz_rp _ _ _ _) ?_) | (refine wpL_storeW (by kernel_rfl) 88 (.tmp 2) (.tmp 74) rfl w.heap.size 0 rfl #[.int .i64 sq, .int .i64 kd, .slice ra k rc, .slice a2 le.length c2] rfl #[.int .i64 0, .int .i64 0, .slice none 0 0, .slice none 0 0] 88 T62.out #[.int .i64 sq, .int .i64 kd, .slice ra k rc, .slice a2 le.length c2] rfl (Nat.le_refl 4) (one4 _ _ _ _ _ _ _ _) (sz_rp _ _ _ _) ?_))
              intro w9 T9 S9
              go_wp2
              refine bodyPost_ret (ret_cell_tmp rfl rfl T9 Tryd.underlying88 rfl (sz_rp _ _ _ _)) rfl ?_
              rw [HEE.out]
              refine ⟨Below.trans_stay B6.out S9 (Nat.le_refl _) (fun k hk e => by omega), ra, rc, a2, c2, by rw [HSQ.out, HKD.out, HRL.out]; rfl, ?_, ?_⟩
              · show RdI w9 ra rh.1.items.length rh.1.items
                rw [← HRL.out]
                refine I6.out.stay S9 (fun h0 b o e2 e3 => ?_)
                have := K3.out _ e2
                simp only at this
                omega
              · refine E6.out.stay S9 (fun h0 b o e2 e3 => ?_)
                have := K2.out _ e2
                simp only at this
                omega
end Go.Proofs.YthampbiabkfmoaaDoor
