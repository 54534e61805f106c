/- Crash walked. -/
import Derived.Test.YtkalpkmnelgieaaGreatDoorDskCrash
namespace Go.Proofs.YtkalpkmnelgieaaGreatDoor
open Go.RowKit Go.Tap Go.Maps
set_option linter.unusedVariables false
attribute [local go_sem ↓] Go.wp_at_zero Go.wp_at_succ

theorem wkS1 {w' : World} {T B bd bn : Nat} {pv : Value} {d : Dsk.Dk} {v0 v1 v2 v3 v4 : Value} (h1 : w'.heap[T]? = some (.cells #[v0, v1, v2, v3, v4] 110 (0, 0))) (h2 : w'.heap[B]? = some (.cells (Dcells d bd bn pv) 86 (0, 0))) :
    w'.cell? ⟨B, 1, none⟩ = some (.map (some bd)) ∧ w'.cell? ⟨T, 0, none⟩ = some v0 ∧ w'.cell? ⟨T, 1, none⟩ = some v1 ∧ w'.cell? ⟨T, 2, none⟩ = some v2 ∧ w'.cell? ⟨T, 3, none⟩ = some v3 ∧ w'.cell? ⟨T, 4, none⟩ = some v4 :=
  ⟨blk_cell (i := 1) h2 rfl, blk_cell (i := 0) h1 rfl, blk_cell (i := 1) h1 rfl, blk_cell (i := 2) h1 rfl, blk_cell (i := 3) h1 rfl, blk_cell (i := 4) h1 rfl⟩
theorem Keeps.take {w : World} {a : Option Addr} {n c : Nat} {b : List UInt8} (h : Keeps w a n c b) {p : Nat} (hp : p ≤ n) : Keeps w a p c (b.take p) :=
  ⟨h.rds.take hp, fun h0 k o e => h.u8 (by omega) k o e, by have := h.le; omega, h.none⟩
/-- A block that is new since w turns. -/
theorem stay_setLate {S : Nat → Prop} {w w1 w2 : World} {T : Nat} (h : TStay S w w1) (k : TStay (fun i => i = T) w1 w2) (hT : w.heap.size ≤ T) : TStay S w w2 :=
  h.trans k (fun i hi e => by omega)
set_option maxHeartbeats 8000000 in
set_option maxRecDepth 100000 in
theorem crash_any (w : World) (lo B : Nat) (d : Dsk.Dk) (h : IsDk w lo B d) (done part : Int) :
    Calls Tryz.prog 18 #[.pointer (some ⟨B, 0, none⟩), .int .i64 done, .int .i64 part] w fun e w' => e = .returned (.tuple #[]) ∧ IsDk w' lo B (d.crash done part) ∧ Below lo w w' ∧ KeepT w w' := by
  obtain ⟨bd, bn, pv, h1, hok⟩ := h
  have hokc := hok.crash h1.done.apart done part
  have c3 : w.cell? ⟨B, 3, none⟩ = some pv := blk_cell (i := 3) h1.blk rfl
  obtain ⟨xs, ho⟩ := h1.pend.own
  have hpl := hok.pl
  have hwk := hok.works
  obtain ⟨n, hn⟩ : ∃ n, n = d.pend.length := ⟨_, rfl⟩
  rw [← hn] at ho hpl
  obtain ⟨pa, pc, rfl, _⟩ := ownsRow_slice ho
  obtain ⟨k, hk⟩ : ∃ k : Nat, done % ((n : Int) + 1) = k := ⟨(done % ((n : Int) + 1)).toNat, by have := Int.emod_nonneg done (show (n : Int) + 1 ≠ 0 by omega); omega⟩
  have hnb : n ≤ 100000 := by omega
  have hw1 := wrapi' ((n : Int) + 1) (by omega)
  have hcr : ∀ j, j ≤ n → Dsk.CrOk d.room k part d.done d.pend j := fun j hj => Dsk.cr_ok hok.run hok.small.1 hok.small.2 h1.done.apart j (by omega)
  have HCR := Lib.hid hcr
  have HOK := Lib.hid hok
  have HOKC := Lib.hid hokc
  have H1 := Lib.hid h1
  have HN := Lib.hid hn
  have HK := Lib.hid hk
  clear h1 hok hokc ho hk hn hcr hpl
  go_enter Tryz.func18, Tryz.ntmps18
  go_wp2_with fail
  refine (rest_any w done ((n : Int) + 1) (by omega) (by omega)).mono ?_
  rintro e w1 ⟨rfl, rfl⟩
  rw [HK.out]
  go_wp2_with fail
  go_loopw [22] (fun v wr => ∃ j : Nat, j ≤ n ∧ v = .int .i64 (j : Int) ∧ IsAt wr lo B bd bn (.slice pa n pc) { d with done := Dsk.cr k part d.done d.pend j } ∧ TStay (Mine B bd bn (.slice pa n pc)) w1 wr) (fun v _ => n - (intOf v).toNat)
  case atStart => exact ⟨0, Nat.zero_le _, rfl, H1.out, TStay.refl _ _⟩
  case round =>
    obtain ⟨j, hjn, rfl, hat, ht⟩ := hrel
    by_cases hlt : j < n
    · have d0 : decide ((j : Int) < (n : Int)) = true := decide_eq_true (by omega)
      have d0' : decide (j < n) = true := decide_eq_true hlt
      have hx : d.pend[j]? = some (d.pend[j]'(by have := HN.out; omega)) := List.getElem?_eq_getElem _
      generalize d.pend[j]'(by have := HN.out; omega) = x at hx
      obtain ⟨g, cap, a, c, hpv, hkx, e0, e1, e2, e3, e4⟩ := hat.pend.elem (show ({ d with done := Dsk.cr k part d.done d.pend j } : Dsk.Dk).pend[j]? = some x from hx)
      rw [← show n = d.pend.length from HN.out] at hpv
      simp only [Value.slice.injEq, true_and] at hpv
      obtain ⟨rfl, rfl⟩ := hpv
      have hnx := HOK.out.names x (List.mem_of_getElem? hx)
      have hjw := wrapi' ((j : Int) + 1) (by omega)
      have hcs := Dsk.cr_succ (k := k) (part := part) (fs := d.done) hx
      have hC := HCR.out j (by omega)
      have hnf : Dsk.used (Dsk.cr k part d.done d.pend j) ≤ 16777216 ∧ (Dsk.cr k part d.done d.pend j).length ≤ 1048575 ∧ (Dsk.val (Dsk.cr k part d.done d.pend j) x.name).length ≤ 16777216 := by
        have h1 := hC.used; have h2 := hC.len; have h3 := HOK.out.room; have h4 := Dsk.val_le hC.ap x.name
        omega
      have hrun := fun h => Dsk.run_step HOK.out.run hx (hC.run h)
      obtain ⟨W1, hW1⟩ : ∃ W1, W1 = wr.alloc (.cells #[.int .i64 (x.kind : Int), .string (str x.name), .string (str x.dst), .slice a x.b.length c, .int .i64 (x.n : Int)] 110) := ⟨_, rfl⟩
      have hT1 : W1.heap[wr.heap.size]? = some (.cells #[.int .i64 (x.kind : Int), .string (str x.name), .string (str x.dst), .slice a x.b.length c, .int .i64 (x.n : Int)] 110 (0, 0)) := by rw [hW1]; exact heap_alloc_new _ _
      have hB1 : Below wr.heap.size wr W1 := by rw [hW1]; exact (Below.refl _ _).alloc (Nat.le_refl _) _
      have hA1 := hat.below hB1
      have ht1 : TStay (Mine B bd bn (.slice (some ⟨g, 0, none⟩) n pc)) w1 W1 := ht.trans (TStay.of_below hB1 (fun _ => False)) (fun _ _ e => e.elim)
      have hK1 := hkx.stay (KeepU.below hB1 (Nat.le_refl _))
      have hmine := hat.lt
      have hsz1 : w1.heap.size ≤ wr.heap.size := ht.size
      have hTne : wr.heap.size ≠ B ∧ wr.heap.size ≠ bd := ⟨by have := blk_lt hat.blk; omega, by have := hat.done.lt; omega⟩
      have hxl := hkx.le
      have hxz := hkx.none
      have hbl := hnx.2.2
      have hC0 := Lib.hid hnf
      have HCS := Lib.hid hcs
      have HRUN := Lib.hid hrun
      have HT1 := Lib.hid hT1
      have HA1 := Lib.hid hA1
      have HK1 := Lib.hid hK1
      have HX := Lib.hid hx
      clear hx hat hkx hcs hC hnf hrun hT1 hA1 hK1
      by_cases hjk : j < k
      · have t0 : ((j : Int) == (k : Int)) = false := by simp; omega
        have t0' : (j == k) = false := by simp; omega
        have t1 : decide ((j : Int) < (k : Int)) = true := decide_eq_true (by omega)
        have t1' : decide (j < k) = true := decide_eq_true hjk
        have hdo : Dsk.do1 (Dsk.cr k part d.done d.pend j) x = some (Dsk.cr k part d.done d.pend (j + 1)) := by
          obtain ⟨h', hd, _⟩ := HRUN.out (by omega)
          have h2 := (Dsk.do2_some hd).1
          rw [HCS.out, Dsk.stp, if_pos hjk, h2]; rfl
        have HDO := Lib.hid hdo
        clear hdo
        go_wp2_with fail
        rw [← hW1]
        clear hW1 e0 e1 e2 e3 e4
        go_region_held3 (fun w' => w'.cell? ⟨B, 1, none⟩ = some (.map (some bd)) ∧ w'.cell? ⟨wr.heap.size, 0, none⟩ = some (.int .i64 (x.kind : Int)) ∧ w'.cell? ⟨wr.heap.size, 1, none⟩ = some (.string (str x.name)) ∧ w'.cell? ⟨wr.heap.size, 2, none⟩ = some (.string (str x.dst)) ∧ w'.cell? ⟨wr.heap.size, 3, none⟩ = some (.slice a x.b.length c) ∧ w'.cell? ⟨wr.heap.size, 4, none⟩ = some (.int .i64 (x.n : Int)))
          (first | exact wkS1 HT5.out H5.out.blk | exact wkS1 HT1.out HA1.out.blk)
          ((go_at_call 45; refine (do_any W1.drew bd _ _ (HA1.out.done.stay rfl (KeepU.drew _)) x hnx.2.1 (by omega) (by omega) a c (HK1.out.stay (KeepU.drew _)) hC0.out.2.1 hC0.out.1 hbl HDO.out).mono ?_; rintro e w5 ⟨rfl, hf5, t5⟩; have H5 := Lib.hid (HA1.out.turnD (w' := w5) (tstay_undrew t5) hf5); have HT5 := Lib.hid ((t5.block wr.heap.size (blk_lt HT1.out) (fun e => hTne.2 e)).trans HT1.out)))
        go_wp2
        go_roundw
        case rel => exact ⟨j + 1, by omega, by push_cast; rfl, H5.out, ht1.trans (tstay_undrew t5) (fun k' _ e => .inr (.inl e))⟩
        case measure => first | (simp [intOf]; omega) | omega
      · by_cases hkk : j = k ∧ x.kind = 0
        · obtain ⟨hje, hk0⟩ := hkk
          obtain ⟨p, hp⟩ : ∃ p : Nat, part % ((x.b.length : Int) + 1) = p := ⟨(part % ((x.b.length : Int) + 1)).toNat, by have := Int.emod_nonneg part (show (x.b.length : Int) + 1 ≠ 0 by omega); omega⟩
          have hpn : p ≤ x.b.length := by have := Int.emod_lt_of_pos part (show (0 : Int) < (x.b.length : Int) + 1 by omega); omega
          have hpp : Dsk.pl part x = p := by unfold Dsk.pl; rw [hp]; rfl
          have hwl := wrapi' ((x.b.length : Int) + 1) (by omega)
          have hp0 : (0 : Int) ≤ (p : Int) := by omega
          have hpc' : (p : Int) ≤ (c : Int) := by omega
          have hpc'' : p ≤ c := by omega
          have hcs2 := HCS.out
          rw [Dsk.stp, if_neg hjk, hpp] at hcs2
          have HCS2 := Lib.hid hcs2
          have t0 : ((j : Int) == (k : Int)) = true := by simp [hje]
          have t0' : (j == k) = true := by simp [hje]
          have t1 : decide ((j : Int) < (k : Int)) = false := decide_eq_false (by omega)
          have t1' : decide (j < k) = false := decide_eq_false hjk
          have HP := Lib.hid hp
          have hrest : ∀ w', Calls Tryz.prog 44 #[.int .i64 part, .int .i64 ((x.b.length : Int) + 1)] w' fun e w'' => e = .returned (.int .i64 (p : Int)) ∧ w'' = w' := fun w' => by
            have := rest_any w' part ((x.b.length : Int) + 1) (by omega) (by omega)
            rw [hp] at this; exact this
          have HJE := Lib.hid hje
          have HK0 := Lib.hid hk0
          clear hcs2 hp hpp hje
          have hk00 : ((x.kind : Nat) : Int) = 0 := by rw [hk0]; rfl
          rw [hk00] at HT1 hW1 e0
          clear hk00 hk0
          have c3W : W1.cell? ⟨wr.heap.size, 3, none⟩ = some (.slice a x.b.length c) := blk_cell (i := 3) HT1.out rfl
          have f3W : W1.frozen? ⟨wr.heap.size, 3, none⟩ = false := blk_free HT1.out 3
          have post : ∀ W2, W2 = W1.drew.setCell ⟨wr.heap.size, 3, none⟩ (.slice a p c) → W2.heap[wr.heap.size]? = some (.cells #[.int .i64 0, .string (str x.name), .string (str x.dst), .slice a p c, .int .i64 (x.n : Int)] 110 (0, 0)) ∧
              IsAt W2 lo B bd bn (.slice (some ⟨g, 0, none⟩) n pc) { d with done := Dsk.cr k part d.done d.pend j } ∧ TStay (Mine B bd bn (.slice (some ⟨g, 0, none⟩) n pc)) w1 W2 ∧ Keeps W2 a p c (x.b.take p) := fun W2 e => by
            subst e
            have hTT : W1.drew.heap[wr.heap.size]? = some (.cells #[.int .i64 0, .string (str x.name), .string (str x.dst), .slice a x.b.length c, .int .i64 (x.n : Int)] 110 (0, 0)) := HT1.out
            have hku : KeepU W1.drew (W1.drew.setCell ⟨wr.heap.size, 3, none⟩ (.slice a p c)) := KeepU.setCell (p := ⟨wr.heap.size, 3, none⟩) hTT (by decide) _
            have hts : TStay (fun k => k = wr.heap.size) W1 (W1.drew.setCell ⟨wr.heap.size, 3, none⟩ (.slice a p c)) := ((TStay.refl (fun k => k = wr.heap.size) W1).drew _).setCell (p := ⟨wr.heap.size, 3, none⟩) (.inl rfl) _
            refine ⟨heap_setCell_same W1.drew wr.heap.size 3 _ _ _ hTT, HA1.out.stay ((KeepU.drew _).trans hku) (fun k' hk' => ?_), ?_, ?_⟩
            · exact hts.block k' (HA1.out.lt k' hk') (fun e => by have := hmine k' hk'; omega)
            · exact stay_setLate ht1 hts hsz1
            · exact ((HK1.out.stay (KeepU.drew _)).stay hku).take hpn
          have POST := Lib.hid post
          clear post
          cases a with
          | none =>
            have hc0 := hxz rfl
            subst hc0
            obtain rfl : p = 0 := by omega
            have hb0 : x.b.length = 0 := by omega
            rw [hb0] at hW1 HT1 hwl hrest
            rw [show ((0 : Nat) : Int) = 0 from rfl] at hwl hrest
            have c3W' : W1.cell? ⟨wr.heap.size, 3, none⟩ = some (.slice none 0 0) := blk_cell (i := 3) HT1.out rfl
            clear c3W
            rw [hb0] at e3
            go_wp2_with fail
            rw [← hW1]
            clear hW1 e0 e1 e2 e3 e4
            go_region_with (go_at_call 44; refine (hrest _).mono ?_; rintro e w' ⟨rfl, rfl⟩)
            all_goals
              obtain ⟨W2, hW2⟩ : ∃ W2, W2 = (W1.setCell ⟨wr.heap.size, 3, none⟩ (.slice none 0 0)).drew := ⟨_, rfl⟩
              obtain ⟨q1, q2, q3, q4⟩ := POST.out W2 hW2
              rw [← hW2]
              clear hW2 c3W' f3W
              have b0 : W2.cell? ⟨wr.heap.size, 0, none⟩ = some (.int .i64 0) := blk_cell (i := 0) q1 rfl
              have b3 : W2.cell? ⟨wr.heap.size, 3, none⟩ = some (.slice none 0 0) := blk_cell (i := 3) q1 rfl
              have Q2 := Lib.hid q2
              clear q1 q2 q4
              go_wp2
              go_roundw
              case rel =>
                have h5 := Q2.out
                have h6 := HCS2.out
                rw [if_neg (fun h => by have := h.2.2; omega)] at h6
                have h7 : IsAt W2 lo B bd bn (.slice (some ⟨g, 0, none⟩) n pc) { d with done := Dsk.cr k part d.done d.pend (j + 1) } := by rw [h6]; exact h5
                exact ⟨j + 1, by omega, by push_cast; rfl, h7, q3⟩
              case measure => first | (simp [intOf]; omega) | omega
          | some aa =>
            clear hxz
            go_wp2_with fail
            rw [← hW1]
            clear hW1 e0 e1 e2 e3 e4
            go_region_with (go_at_call 44; refine (hrest _).mono ?_; rintro e w' ⟨rfl, rfl⟩)
            all_goals
              obtain ⟨W2, hW2⟩ : ∃ W2, W2 = (W1.setCell ⟨wr.heap.size, 3, none⟩ (.slice (some aa) p c)).drew := ⟨_, rfl⟩
              obtain ⟨q1, q2, q3, q4⟩ := POST.out W2 hW2
              rw [← hW2]
              clear hW2 c3W f3W
              have b0 : W2.cell? ⟨wr.heap.size, 0, none⟩ = some (.int .i64 0) := blk_cell (i := 0) q1 rfl
              have b3 : W2.cell? ⟨wr.heap.size, 3, none⟩ = some (.slice (some aa) p c) := blk_cell (i := 3) q1 rfl
              have Q1 := Lib.hid q1
              have Q2 := Lib.hid q2
              have Q4 := Lib.hid q4
              clear q1 q2 q4
              by_cases hpz : 0 < p
              · have p0 : decide ((0 : Int) < (p : Int)) = true := decide_eq_true (by omega)
                have p0' : decide (0 < p) = true := decide_eq_true hpz
                have HPZ := Lib.hid hpz
                clear hpz
                have hsz3 : (Dsk.val (Dsk.cr k part d.done d.pend j) x.name).length + (x.b.take p).length ≤ 1099511627776 := by
                  have h1 := hC0.out.2.2
                  have h2 : (x.b.take p).length ≤ p := by rw [List.length_take]; omega
                  omega
                go_wp2_with fail
                clear b0 b3
                go_region_held3 (fun w' => w'.cell? ⟨B, 1, none⟩ = some (.map (some bd)) ∧ w'.cell? ⟨wr.heap.size, 0, none⟩ = some (.int .i64 0) ∧ w'.cell? ⟨wr.heap.size, 1, none⟩ = some (.string (str x.name)) ∧ w'.cell? ⟨wr.heap.size, 2, none⟩ = some (.string (str x.dst)) ∧ w'.cell? ⟨wr.heap.size, 3, none⟩ = some (.slice (some aa) p c) ∧ w'.cell? ⟨wr.heap.size, 4, none⟩ = some (.int .i64 (x.n : Int)))
                  (first | exact wkS1 HT5.out H5.out.blk | exact wkS1 Q1.out Q2.out.blk)
                  ((go_at_call 45; refine (do_add W2.drew bd _ (Q2.out.done.stay rfl (KeepU.drew _)) x.name x.dst (by omega) _ p c (x.b.take p) (Q4.out.stay (KeepU.drew _)) _ hC0.out.2.1 hsz3).mono ?_; rintro e w5 ⟨rfl, hf5, t5⟩; have H5 := Lib.hid (Q2.out.turnD (w' := w5) (tstay_undrew t5) hf5); have HT5 := Lib.hid ((t5.block wr.heap.size (blk_lt Q1.out) (fun e => hTne.2 e)).trans Q1.out)))
                go_wp2
                go_roundw
                case rel =>
                  have h5 := H5.out
                  have h6 := HCS2.out
                  rw [if_pos ⟨HJE.out, HK0.out, HPZ.out⟩] at h6
                  have h7 : IsAt w5 lo B bd bn (.slice (some ⟨g, 0, none⟩) n pc) { d with done := Dsk.cr k part d.done d.pend (j + 1) } := by rw [h6]; exact h5
                  exact ⟨j + 1, by omega, by push_cast; rfl, h7, q3.trans (tstay_undrew t5) (fun k' _ e => .inr (.inl e))⟩
                case measure => first | (simp [intOf]; omega) | omega
              · have p0 : decide ((0 : Int) < (p : Int)) = false := decide_eq_false (by omega)
                have p0' : decide (0 < p) = false := decide_eq_false hpz
                have HPZ := Lib.hid hpz
                clear hpz
                go_wp2
                go_roundw
                case rel =>
                  have h5 := Q2.out
                  have h6 := HCS2.out
                  rw [if_neg (fun h => HPZ.out h.2.2)] at h6
                  have h7 : IsAt W2 lo B bd bn (.slice (some ⟨g, 0, none⟩) n pc) { d with done := Dsk.cr k part d.done d.pend (j + 1) } := by rw [h6]; exact h5
                  exact ⟨j + 1, by omega, by push_cast; rfl, h7, q3⟩
                case measure => first | (simp [intOf]; omega) | omega
        · have hcr2 : Dsk.cr k part d.done d.pend (j + 1) = Dsk.cr k part d.done d.pend j := by
            rw [HCS.out, Dsk.stp, if_neg hjk, if_neg (fun h => hkk ⟨h.1, h.2.1⟩)]
          have hA2 := HA1.out
          rw [← hcr2] at hA2
          have HA2 := Lib.hid hA2
          clear hA2 hcr2
          have t1 : decide ((j : Int) < (k : Int)) = false := decide_eq_false (by omega)
          have t1' : decide (j < k) = false := decide_eq_false hjk
          by_cases hje : j = k
          · have hk0 : x.kind ≠ 0 := fun e => hkk ⟨hje, e⟩
            have t0 : ((j : Int) == (k : Int)) = true := by simp [hje]
            have t0' : (j == k) = true := by simp [hje]
            have s0 : ((x.kind : Int) == 0) = false := by simpa using hk0
            have s0' : (x.kind == 0) = false := by simpa using hk0
            clear hje
            go_wp2
            go_roundw
            case rel => exact ⟨j + 1, by omega, by push_cast; rfl, by rw [← hW1]; exact HA2.out, by rw [← hW1]; exact ht1⟩
            case measure => first | (simp [intOf]; omega) | omega
          · have t0 : ((j : Int) == (k : Int)) = false := by simp; omega
            have t0' : (j == k) = false := by simp; omega
            go_wp2
            go_roundw
            case rel => exact ⟨j + 1, by omega, by push_cast; rfl, by rw [← hW1]; exact HA2.out, by rw [← hW1]; exact ht1⟩
            case measure => first | (simp [intOf]; omega) | omega
    · obtain rfl : j = n := by omega
      have d0 : decide ((j : Int) < (j : Int)) = false := decide_eq_false (by omega)
      have c1 : wr.cell? ⟨B, 1, none⟩ = some (.map (some bd)) := blk_cell (i := 1) hat.blk rfl
      have hcl := mclone_any wr bd _ hat.done
      have HA := Lib.hid hat
      clear hat
      go_wp2_with fail
      refine hcl.mono ?_
      rintro e w3 ⟨rfl, hf3, hb3⟩
      have h3 := HA.out.below hb3
      have hH : lo ≤ wr.heap.size := by have := HA.out.bnd.1; have := blk_lt HA.out.blk; omega
      have hnH : bd ≠ wr.heap.size := by have := HA.out.done.lt; omega
      have f2 := blk_free h3.blk 2
      have k2 : w3.cell? ⟨B, 2, none⟩ = some (.map (some bn)) := blk_cell (i := 2) h3.blk rfl
      have h4 := h3.reset (d' := { d with done := Dsk.cr k part d.done d.pend j, now := Dsk.cr k part d.done d.pend j }) 2 (.map (some wr.heap.size)) rfl ⟨h3.bnd.2.1, hH⟩ hnH h3.done hf3 h3.pend
      have f3 := blk_free h4.blk 3
      have k3 : (w3.setCell ⟨B, 2, none⟩ (.map (some wr.heap.size))).cell? ⟨B, 3, none⟩ = some (.slice pa j pc) := blk_cell (i := 3) h4.blk rfl
      have k3' : w3.cell? ⟨B, 3, none⟩ = some (.slice pa j pc) := blk_cell (i := 3) h3.blk rfl
      have h5 := h4.reset (d' := { d with done := Dsk.cr k part d.done d.pend j, now := Dsk.cr k part d.done d.pend j, pend := [] }) 3 (.slice none 0 0) rfl ⟨h3.bnd.2.1, hH⟩ hnH h4.done h4.now (Pends.nil _ _)
      have f5 := blk_free h5.blk 5
      have k5 : ((w3.setCell ⟨B, 2, none⟩ (.map (some wr.heap.size))).setCell ⟨B, 3, none⟩ (.slice none 0 0)).cell? ⟨B, 5, none⟩ = some (.bool d.dead) := blk_cell (i := 5) h5.blk rfl
      have k5' : w3.cell? ⟨B, 5, none⟩ = some (.bool d.dead) := blk_cell (i := 5) h3.blk rfl
      have h6 := h5.reset (d' := { d with done := Dsk.cr k part d.done d.pend j, now := Dsk.cr k part d.done d.pend j, pend := [], dead := false }) 5 (.bool false) rfl ⟨h3.bnd.2.1, hH⟩ hnH h5.done h5.now h5.pend
      have f4 := blk_free h6.blk 4
      have k4 : (((w3.setCell ⟨B, 2, none⟩ (.map (some wr.heap.size))).setCell ⟨B, 3, none⟩ (.slice none 0 0)).setCell ⟨B, 5, none⟩ (.bool false)).cell? ⟨B, 4, none⟩ = some (.int .i64 d.fuse) := blk_cell (i := 4) h6.blk rfl
      have k4' : w3.cell? ⟨B, 4, none⟩ = some (.int .i64 d.fuse) := blk_cell (i := 4) h3.blk rfl
      have h7 := h6.reset (d' := { d with done := Dsk.cr k part d.done d.pend j, now := Dsk.cr k part d.done d.pend j, pend := [], dead := false, fuse := -1 }) 4 (.int .i64 (-1)) rfl ⟨h3.bnd.2.1, hH⟩ hnH h6.done h6.now h6.pend
      have t7 : TStay (fun k => k = B) wr ((((w3.setCell ⟨B, 2, none⟩ (.map (some wr.heap.size))).setCell ⟨B, 3, none⟩ (.slice none 0 0)).setCell ⟨B, 5, none⟩ (.bool false)).setCell ⟨B, 4, none⟩ (.int .i64 (-1))) :=
        ((((TStay.of_below hb3 (fun k => k = B)).setCell (p := ⟨B, 2, none⟩) (.inl rfl) _).setCell (p := ⟨B, 3, none⟩) (.inl rfl) _).setCell (p := ⟨B, 5, none⟩) (.inl rfl) _).setCell (p := ⟨B, 4, none⟩) (.inl rfl) _
      have H7 := Lib.hid h7
      have HT := Lib.hid t7
      clear h3 h4 h5 h6 h7 t7 hcl hf3
      go_wp2
      go_end0
      obtain ⟨g1, g2⟩ := H1.out.frames (ht.trans HT.out (fun k _ e => .inl e))
      have hfin : d.crash done part = { d with done := Dsk.cr k part d.done d.pend j, now := Dsk.cr k part d.done d.pend j, pend := [], dead := false, fuse := -1 } := by
        unfold Dsk.Dk.crash
        rw [← show j = d.pend.length from HN.out, show (done % ((j : Int) + 1)).toNat = k by rw [HK.out]; rfl]
      have hok2 := HOKC.out
      rw [hfin] at hok2 ⊢
      exact ⟨rfl, ⟨bd, wr.heap.size, .slice none 0 0, H7.out, hok2⟩, g1, g2⟩
end Go.Proofs.YtkalpkmnelgieaaGreatDoor
