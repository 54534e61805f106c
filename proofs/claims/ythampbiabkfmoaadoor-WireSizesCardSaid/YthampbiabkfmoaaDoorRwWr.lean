/- The reference's writer as a state; its rightHead, layHead, seal, LayWire. -/
import Derived.Test.YthampbiabkfmoaaDoorWiHead
import Derived.Test.YthampbiabkfmoaaDoorWiLayRq
import Derived.Test.YthampbiabkfmoaaDoorRwQ
namespace Go.Proofs.YthampbiabkfmoaaDoor
open Go.RowKit Go.Tap
set_option linter.unusedVariables false
set_option linter.unusedSimpArgs false
theorem str_size (l : List UInt8) : (str l).size = l.length := by simp [str, ByteArray.size]
set_option linter.unusedVariables false
set_option linter.unusedSimpArgs false
set_option maxHeartbeats 1000000 in
theorem refDigit_any (w : World) (c : UInt8) : Calls Tryd.prog 116 #[.int .u8 (c.toNat : Int)] w fun e w' => e = .returned (.int .i64 (Wi.digN c)) ∧ w = w' := by
  have hc := c.toNat_lt
  unfold Wi.digN
  by_cases h1 : 48 ≤ c.toNat ∧ c.toNat ≤ 57
  · rw [if_pos h1]
    have a1 : (48 : Int) ≤ (c.toNat : Int) := by omega
    have a2 : (c.toNat : Int) ≤ 57 := by omega
    have w2 : ((c.toNat : Int) - 48) % 256 = (c.toNat : Int) - 48 := by omega
    clear h1
    go_enter Tryd.func116, Tryd.ntmps116
    go_wp2
    go_ret
    exact ⟨by first | rfl | (congr 1), rfl⟩
  · rw [if_neg h1]
    by_cases h2 : 97 ≤ c.toNat ∧ c.toNat ≤ 102
    · rw [if_pos h2]
      have a0 : ¬ (c.toNat : Int) ≤ 57 := by omega
      have a00 : (48 : Int) ≤ (c.toNat : Int) := by omega
      have a1 : (97 : Int) ≤ (c.toNat : Int) := by omega
      have a2 : (c.toNat : Int) ≤ 102 := by omega
      have w2 : ((c.toNat : Int) - 97) % 256 = (c.toNat : Int) - 97 := by omega
      have w3 : IntKind.i64.wrap ((c.toNat : Int) - 97 + 10) = (c.toNat : Int) - 87 := by rw [wrapi' _ (by omega)]; omega
      clear h1 h2
      go_enter Tryd.func116, Tryd.ntmps116
      go_wp2
      all_goals go_ret
      all_goals exact ⟨rfl, rfl⟩
    · rw [if_neg h2]
      have H1 := Lib.hid (And.intro h1 h2)
      clear h1 h2
      go_enter Tryd.func116, Tryd.ntmps116
      go_wp2
      all_goals first | (exfalso; have := H1.out; omega) | (go_ret; exact ⟨rfl, rfl⟩)
set_option maxHeartbeats 1000000 in
set_option maxRecDepth 100000 in
theorem refIsPrefix_any (w : World) (l : List UInt8) (hl : l.length ≤ 140737488351232) : Calls Tryd.prog 102 #[.string (str l)] w fun e w' => e = .returned (.bool (Wi.isPre l)) ∧ w = w' := by
  obtain ⟨r, hr⟩ : ∃ r, r = Wi.isPre l := ⟨_, rfl⟩
  rw [← hr]
  have HR := Lib.hid hr
  have HL := Lib.hid hl
  have z1 := str_size l
  clear hr hl
  go_enter Tryd.func102, Tryd.ntmps102
  go_wp2
  go_loop [3] (fun kv => ∃ k : Nat, k ≤ l.length ∧ kv = .int .i64 (k : Int) ∧ Hid ((l.take k).all Wi.dig = true)) (fun kv => l.length - (intOf kv).toNat)
  case atStart => exact ⟨0, Nat.zero_le _, rfl, Lib.hid rfl⟩
  case round =>
    obtain ⟨k, hk, rfl, HE⟩ := hrel
    by_cases hlt : k < l.length
    · have d0 : decide ((k : Int) < (l.length : Int)) = true := decide_eq_true (by omega)
      have d0' : decide (k < l.length) = true := decide_eq_true hlt
      have i0 : (0 : Int) ≤ (k : Int) := by omega
      have i1 : (k : Int) < (l.length : Int) := by omega
      have hx : l[k]? = some (l[k]'hlt) := List.getElem?_eq_getElem _
      generalize l[k]'hlt = x at hx
      have hg : ∀ p, (str l)[k]'p = x := fun p => by
        have := (List.getElem?_eq_some_iff.1 hx).2
        rw [← this]; rfl
      have hw := wrapi' ((k : Int) + 1) (by have := HL.out; omega)
      have hdg := Wi.digN_neg x
      have HX := Lib.hid hx
      have HG := Lib.hid hg
      clear hx hg
      go_wp2_with fail
      rw [HG.out]
      refine (refDigit_any _ x).mono ?_
      rintro e w' ⟨rfl, rfl⟩
      cases hd : Wi.dig x
      · rw [hd, Bool.not_false] at hdg
        have HD := Lib.hid hd
        clear hd
        go_wp2
        go_ret
        refine ⟨?_, rfl⟩
        rw [HR.out]
        have : Wi.isPre l = false := by
          unfold Wi.isPre
          have : l.all Wi.dig = false := by
            rw [List.all_eq_false]
            exact ⟨x, List.mem_of_getElem? HX.out, by rw [HD.out]; decide⟩
          rw [this]; rfl
        rw [this]; first | done | rfl
      · rw [hd, Bool.not_true] at hdg
        have HD := Lib.hid hd
        clear hd
        go_wp2
        go_round
        case rel => exact ⟨k + 1, by omega, by go_num, Lib.hid (by rw [List.take_add_one, HX.out, Option.toList_some, List.all_append, HE.out]; simp [HD.out])⟩
        case measure => simp [intOf]; omega
    · obtain rfl : k = l.length := by omega
      have d0 : decide ((l.length : Int) < (l.length : Int)) = false := decide_eq_false (by omega)
      have hal : l.all Wi.dig = true := by have := HE.out; rwa [List.take_length] at this
      have HF : Hid (r = (decide ((1 : Int) ≤ (l.length : Int)) && decide ((l.length : Int) ≤ 64))) := Lib.hid (by
        rw [HR.out, Wi.isPre, hal, Bool.true_and]
        congr 1
        · rw [decide_eq_decide]; cases l with
          | nil => simp
          | cons y r => simp only [List.length_cons]; constructor
                        · intro _; omega
                        · intro _ e; cases e
        · rw [decide_eq_decide]; omega)
      clear hal HE hlt hk
      go_wp2
      all_goals go_ret
      all_goals (refine ⟨ret_bool ?_, rfl⟩; rw [HF.out]; try simp [*]; try (intros; omega))
theorem rw_u8 {w0 w : World} {B : Nat} {l : List UInt8} (h : Wr 37 w0 w B l) (n : Int) (hl : l.length ≤ 1000000) : Calls Tryd.prog 103 #[.pointer (some ⟨B, 0, none⟩), .int .i64 n] w (WrAft 37 w0 w B (l ++ Wi.u8B n)) :=
  wr_step h fun v hv => refU8_any w B v l hv n (by omega)
theorem rw_u32 {w0 w : World} {B : Nat} {l : List UInt8} (h : Wr 37 w0 w B l) (n : Int) (hl : l.length ≤ 1000000) : Calls Tryd.prog 64 #[.pointer (some ⟨B, 0, none⟩), .int .i64 n] w (WrAft 37 w0 w B (l ++ Wi.u32B n)) :=
  wr_step h fun v hv => refU32_any w B v l hv n (by omega)
theorem rw_var {w0 w : World} {B : Nat} {l : List UInt8} (h : Wr 37 w0 w B l) (n : Int) (hl : l.length ≤ 1000000) : Calls Tryd.prog 8 #[.pointer (some ⟨B, 0, none⟩), .int .i64 n] w (WrAft 37 w0 w B (l ++ Oct.var (Oct.u64 n))) :=
  wr_step h fun v hv => refVar_any w B v l hv n (by omega)
theorem rw_raw {w0 w : World} {B : Nat} {l : List UInt8} (h : Wr 37 w0 w B l) (a : Option Addr) (n c : Nat) (x : List UInt8) (hr : Rds w a n x) (hz : a = none → c = 0) (hl : l.length ≤ 1000000) (hn : n ≤ 1000000) :
    Calls Tryd.prog 104 #[.pointer (some ⟨B, 0, none⟩), .slice a n c] w (WrAft 37 w0 w B (l ++ x)) :=
  wr_step h fun v hv => refRaw_any w B v l hv a n c x hr hz (by omega)
theorem itC_high (i : Wi.It) (h : i.ok) : (itC i).extract 0 (0 + 32) = hashC i.high := by
  apply Array.ext'
  simp only [itC, hashC, List.extract_toArray, List.extract_eq_take_drop]
  rw [List.drop_zero, List.take_left' (by rw [bv_length, h.high])]
set_option maxHeartbeats 4000000 in
set_option maxRecDepth 100000 in
theorem rlayHead_any {w0 w : World} {B : Nat} {l : List UInt8} (h : Wr 37 w0 w B l) (first : Int) (q : Wi.Rq) (hq : q.ok) (hm : Wi.mayRq q = true) (a : Option Addr) (n c : Nat) (hr : RdI w0 a n q.items) (hl : l.length ≤ 1000) :
    Calls Tryd.prog 72 #[.pointer (some ⟨B, 0, none⟩), .int .i64 first, .int .i64 q.seq, .int .i64 q.kind, .slice a n c] w (WrAft 37 w0 w B (l ++ Wi.headB first q)) := by
  have hnl : q.items.length = n := hr.1
  obtain ⟨sq, hsq⟩ : ∃ sq, sq = q.seq := ⟨_, rfl⟩
  obtain ⟨kd, hkd⟩ : ∃ kd, kd = q.kind := ⟨_, rfl⟩
  rw [← hsq, ← hkd]
  obtain ⟨lw, hlw⟩ : ∃ lw, lw = l ++ Wi.headB first q := ⟨_, rfl⟩
  rw [← hlw]
  have HLW := Lib.hid hlw
  have HSQ := Lib.hid hsq
  have HKD := Lib.hid hkd
  have HQ := Lib.hid hq
  have HM := Lib.hid hm
  have HN := Lib.hid hnl
  have HL := Lib.hid hl
  have R0 := Lib.hid hr
  have hn16 : n ≤ 16 := by have := (Wi.mayRq_parts hm).2.2.2.2; omega
  have HN16 := Lib.hid hn16
  have hu1 := rw_u8 h first (by omega)
  have hsl := slice_arr
  clear hlw hsq hkd hq hm hnl hl hr hn16 h
  go_enter Tryd.func72, Tryd.ntmps72
  go_wp2_with fail
  refine hu1.mono ?_
  clear hu1
  rintro e w2 ⟨rfl, h2, k2⟩
  have K2 := Lib.hid k2
  have hu2 := rw_u32 h2 sq (by have := HL.out; simp [Wi.u8B_len]; omega)
  clear h2 k2
  go_wp2_with fail
  refine hu2.mono ?_
  clear hu2
  rintro e w3 ⟨rfl, h3, k3⟩
  have K3 := Lib.hid (K2.out.trans k3)
  have hu3 := rw_u8 h3 kd (by have := HL.out; simp [Wi.u8B_len, Wi.u32B_len]; omega)
  clear h3 k3 K2
  go_wp2_with fail
  refine hu3.mono ?_
  clear hu3
  rintro e w4 ⟨rfl, h4, k4⟩
  have K4 := Lib.hid (K3.out.trans k4)
  have hu4 := rw_u8 h4 (n : Int) (by have := HL.out; simp [Wi.u8B_len, Wi.u32B_len]; omega)
  clear h4 k4 K3
  go_wp2_with fail
  refine hu4.mono ?_
  clear hu4
  rintro e w5 ⟨rfl, h5, k5⟩
  have K5 := Lib.hid (K4.out.trans k5)
  have H5 := Lib.hid h5
  clear h5 k5 K4
  obtain ⟨lh, hlh⟩ : ∃ lh, lh = l ++ Wi.u8B first ++ Wi.u32B sq ++ Wi.u8B kd ++ Wi.u8B (n : Int) := ⟨_, rfl⟩
  rw [← hlh] at H5
  have HLH : Hid (lh.length ≤ 1007 ∧ lw = lh ++ Wi.itsB kd q.items) := Lib.hid ⟨by rw [hlh]; have := HL.out; simp [Wi.u8B_len, Wi.u32B_len]; omega, by
    rw [HLW.out, hlh, Wi.headB, HN.out, HSQ.out, HKD.out]; simp only [List.append_assoc]⟩
  clear hlh HLW
  go_wp2
  go_loopw [10] (fun kv wr => ∃ k : Nat, k ≤ n ∧ kv = .int .i64 (k : Int) ∧ Hid (Wr 37 w0 wr B (lh ++ Wi.itsB kd (q.items.take k))) ∧ Hid (KeepW 37 w wr)) (fun kv _ => n - (intOf kv).toNat)
  case atStart => exact ⟨0, Nat.zero_le _, rfl, Lib.hid (by have := H5.out; simpa [Wi.itsB] using this), K5⟩
  case round =>
    obtain ⟨k, hk, rfl, HW, KR⟩ := hrel
    clear K5 H5
    by_cases hlt : k < n
    · have d0 : decide ((k : Int) < (n : Int)) = true := decide_eq_true (by omega)
      have d0' : decide (k < n) = true := decide_eq_true hlt
      have d1 : (k : Int) < (n : Int) := by omega
      have hx : q.items[k]? = some (q.items[k]'(by have := HN.out; omega)) := List.getElem?_eq_getElem _
      generalize q.items[k]'(by have := HN.out; omega) = x at hx
      obtain ⟨b, o, rfl, hb, hp⟩ := R0.out.at hx
      have HX := Lib.hid hx
      have HOK : Hid x.ok := Lib.hid (HQ.out.items x (List.mem_of_getElem? hx))
      have PX : Hid (∀ w', Below w0.heap.size w0 w' → Part w' b (o + k * 34) (itC x)) := Lib.hid (fun w' h c v hv => (h.cell (p := ⟨b, o + k * 34 + c, none⟩) hb).trans (hp c v hv))
      have C32 : Hid (∀ w', Below w0.heap.size w0 w' → w'.cell? ⟨b, o + k * 34 + 32, none⟩ = some (.int .i64 x.steps)) := Lib.hid (fun w' h => PX.out w' h 32 _ (itC_steps x HOK.out))
      have C33 : Hid (∀ w', Below w0.heap.size w0 w' → w'.cell? ⟨b, o + k * 34 + 33, none⟩ = some (.string (str x.text))) := Lib.hid (fun w' h => PX.out w' h 33 _ (itC_text x HOK.out))
      have HMX : Hid (Wi.mayIt kd x = true) := Lib.hid (by
        have := List.all_eq_true.1 (Wi.mayRq_parts HM.out).1 x (List.mem_of_getElem? hx); rwa [← HKD.out] at this)
      have hw := wrapi' ((k : Int) + 1) (by have := HN16.out; omega)
      have HLK : Hid ((lh ++ Wi.itsB kd (q.items.take k)).length ≤ 3000) := Lib.hid (by have := Wi.itsB_take_le HM.out HQ.out k; rw [← HKD.out] at this; have := HLH.out.1; rw [List.length_append]; omega)
      have HS1 : Hid (lh ++ Wi.itsB kd (q.items.take (k + 1)) = lh ++ Wi.itsB kd (q.items.take k) ++ Wi.itB kd x) := Lib.hid (by rw [List.take_add_one, HX.out, Option.toList_some, Wi.itsB_snoc, List.append_assoc])
      clear hx hp
      by_cases hk1 : kd = 1
      · subst hk1
        have hrd : Rds wr (some ⟨b, o + k * 34, none⟩) 32 x.high := rds_part HOK.out.high (by have := part_sub (PX.out wr HW.out.bel) (itC_high x HOK.out); simpa using this)
        have hraw := rw_raw HW.out (some ⟨b, o + k * 34, none⟩) 32 32 x.high hrd (by intro e; cases e) (by have := HLK.out; omega) (by omega)
        clear hrd
        go_wp2_with fail
        refine hraw.mono ?_
        clear hraw
        rintro e w6 ⟨rfl, h6, k6⟩
        have c32 := C32.out w6 h6.bel
        have hv := rw_var h6 x.steps (by have := HLK.out; rw [List.length_append]; have := HOK.out.high; omega)
        have K6 := Lib.hid (KR.out.trans k6)
        clear h6 k6
        go_wp2_with fail
        refine hv.mono ?_
        clear hv c32
        rintro e w7 ⟨rfl, h7, k7⟩
        have K7 := Lib.hid (K6.out.trans k7)
        have H7 : Hid (Wr 37 w0 w7 B (lh ++ Wi.itsB 1 (q.items.take (k + 1)))) := Lib.hid (by
          rw [HS1.out]
          have : Wi.itB 1 x = x.high ++ Oct.var (Oct.u64 x.steps) := rfl
          rw [this, ← List.append_assoc]; exact h7)
        clear h7 k7
        go_wp2
        go_roundw
        case rel => exact ⟨k + 1, by omega, by go_num, H7, K7⟩
        case measure => simp [intOf]; omega
      · have hk2 : kd = 2 := by have := Wi.mayRq_kind HM.out; rw [← HKD.out] at this; omega
        subst hk2
        have HSZ : Hid ((str x.text).size = x.text.length) := Lib.hid (by simp [str, ByteArray.size])
        have HTL : Hid (x.text.length ≤ 64) := Lib.hid (by
          have := HMX.out
          unfold Wi.mayIt at this
          rw [if_neg (by decide), if_pos rfl, Bool.and_eq_true] at this
          exact Wi.isPre_len this.1)
        have hu := rw_u8 HW.out ((str x.text).size : Int) (by have := HLK.out; omega)
        have c33 := C33.out wr HW.out.bel
        clear hk1
        go_wp2_with fail
        refine hu.mono ?_
        clear hu c33
        rintro e w6 ⟨rfl, h6, k6⟩
        have c33 := C33.out w6 h6.bel
        have K6 := Lib.hid (KR.out.trans k6)
        obtain ⟨c7, w7, hcv, hrd, hb7, _⟩ := convS w6 x.text
        have hraw := rw_raw (h6.below hb7) _ _ c7 _ hrd (by intro e; cases e) (by have := HLK.out; rw [List.length_append, Wi.u8B_len]; omega) (by have := HTL.out; omega)
        rw [HSZ.out] at hraw
        have K7 := Lib.hid (K6.out.trans (KeepW.below hb7))
        clear h6 k6 hrd hb7 K6
        go_wp2_with fail
        refine hraw.mono ?_
        clear hraw hcv
        rintro e w8 ⟨rfl, h8, k8⟩
        have K8 := Lib.hid (K7.out.trans k8)
        have H8 : Hid (Wr 37 w0 w8 B (lh ++ Wi.itsB 2 (q.items.take (k + 1)))) := Lib.hid (by
          rw [HS1.out]
          have : Wi.itB 2 x = Wi.u8B (x.text.length : Int) ++ x.text := rfl
          rw [this, ← List.append_assoc]; exact h8)
        clear h8 k8
        go_wp2
        go_roundw
        case rel => exact ⟨k + 1, by omega, by go_num, H8, K8⟩
        case measure => simp [intOf]; omega
    · obtain rfl : k = n := by omega
      have d0 : decide ((k : Int) < (k : Int)) = false := decide_eq_false (by omega)
      have HF : Hid (Wr 37 w0 wr B lw) := Lib.hid (by
        have := HW.out
        rw [List.take_of_length_le (by have := HN.out; omega)] at this
        rw [HLH.out.2]; exact this)
      clear hk hlt
      go_wp2
      go_end0
      exact ⟨rfl, HF.out, KR.out⟩
theorem Wr.row {T : TypeId} {w0 w : World} {B : Nat} {l : List UInt8} (h : Wr T w0 w B l) : ∃ a c, w.cell? ⟨B, 0, none⟩ = some (.slice a l.length c) ∧ w.ownsRow w0.heap.size 5 1 (.slice a l.length c) l.length (bv l) := by
  obtain ⟨⟨v, h1, h2⟩, h3, h4⟩ := h
  obtain ⟨a, c, rfl, _⟩ := ownsRow_slice h1.own
  exact ⟨a, c, blk_cell (i := 0) h1.blk rfl, ownsRow_rebase h1.own h2⟩
set_option maxHeartbeats 1000000 in
theorem seal_any {w0 w : World} {B : Nat} {l : List UInt8} (h : Wr 37 w0 w B l) (hl : l.length ≤ 900000) :
    Calls Tryd.prog 73 #[.pointer (some ⟨B, 0, none⟩)] w fun e w' => ∃ a c, e = .returned (.slice a (Wi.sumB l).length c) ∧ w'.ownsRow w0.heap.size 5 1 (.slice a (Wi.sumB l).length c) (Wi.sumB l).length (bv (Wi.sumB l)) ∧ Below w0.heap.size w0 w' := by
  obtain ⟨a, c, c0, ho⟩ := h.row
  have hcs := refSum w a l.length c l (Rds.of_own ho rfl) (by omega)
  have HW := Lib.hid h
  have HL := Lib.hid hl
  obtain ⟨s, hs⟩ : ∃ s, s = Crc.sum l := ⟨_, rfl⟩
  rw [← hs] at hcs
  have hs32 : s < 4294967296 := by rw [hs]; exact Crc.sum_lt l
  have HS := Lib.hid hs
  clear hs ho h hl
  go_enter Tryd.func73, Tryd.ntmps73
  go_wp2_with fail
  refine hcs.mono ?_
  clear hcs c0
  rintro e w' ⟨rfl, rfl⟩
  have hw : IntKind.i64.wrap (s : Int) = (s : Int) := wrapi' _ (by omega)
  have hu := rw_u32 HW.out (s : Int) (by have := HL.out; omega)
  clear hs32
  go_wp2_with fail
  refine hu.mono ?_
  clear hu
  rintro e w3 ⟨rfl, h3, k3⟩
  have h3' : Wr 37 w0 w3 B (Wi.sumB l) := by unfold Wi.sumB; rw [← HS.out]; exact h3
  obtain ⟨a3, c3, q0, o3⟩ := h3'.row
  have O3 := Lib.hid o3
  have B3 := Lib.hid h3'.bel
  clear h3 h3' k3 o3
  go_wp2
  go_ret
  exact ⟨a3, c3, rfl, O3.out, B3.out⟩
end Go.Proofs.YthampbiabkfmoaaDoor
