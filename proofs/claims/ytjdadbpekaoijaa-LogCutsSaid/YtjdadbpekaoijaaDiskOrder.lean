/- DiskOrder: what it comes to. -/
import Derived.Test.YtjdadbpekaoijaaDskOrd
import Derived.Test.YtjdadbpekaoijaaAid2
import Derived.Deep.Cut
import Derived.Deep.CutRange
import Derived.Deep.CutBlock
namespace Go.Proofs.Ytjdadbpekaoijaa
open Go.RowKit Go.Tap Go.Maps
set_option linter.unusedVariables false

theorem infoI : (Try.prog.info? 3).map (fun i => (i.zero, i.size, i.bytes)) = some (some (.int .i64 0), 1, 8) := by kernel_rfl
theorem sub0 (l : List UInt8) (b : Nat) : (str l).extract 0 b = str (l.take b) := by
  rw [str, ByteArray.extract_mk]; simp [str]
theorem str_plus (a b : List UInt8) : str a ++ str b = str (a ++ b) := by
  apply ByteArray.ext; simp [str]
/-- Where each ends. -/
def endsV (L : List (List UInt8)) : List Value := (List.range L.length).map fun j => .int .i64 ((L.take (j + 1)).flatten.length : Int)
theorem endsV_snoc (L : List (List UInt8)) (b : List UInt8) : endsV (L ++ [b]) = endsV L ++ [.int .i64 ((L ++ [b]).flatten.length : Int)] := by
  unfold endsV
  rw [List.length_append, List.length_singleton, List.range_succ, List.map_append]
  congr 1
  · refine List.map_congr_left fun j hj => ?_
    have hj' := List.mem_range.1 hj
    rw [List.take_append_of_le_length (by omega)]
  · rw [List.map_singleton, List.take_of_length_le (by simp)]
theorem endsV_get (L : List (List UInt8)) (j : Nat) (h : j < L.length) : (endsV L)[j]? = some (.int .i64 ((L.take (j + 1)).flatten.length : Int)) := by
  unfold endsV; rw [List.getElem?_map, List.getElem?_range h]; rfl
def small (L : List (List UInt8)) : Prop := ∀ b ∈ L, b ≠ [] ∧ b.length ≤ 100
theorem small_len : ∀ {L : List (List UInt8)}, small L → L.flatten.length ≤ 100 * L.length
  | [], _ => by simp
  | b :: r, h => by
    have h1 := small_len (L := r) (fun c hc => h c (List.mem_cons_of_mem _ hc))
    have h2 := (h b (List.mem_cons_self ..)).2
    simp only [List.flatten_cons, List.length_append, List.length_cons]; omega
theorem small_snoc {L : List (List UInt8)} {b : List UInt8} (h : small L) (hb : b ≠ [] ∧ b.length ≤ 100) : small (L ++ [b]) := fun c hc => by
  rcases List.mem_append.1 hc with h1 | h1
  · exact h c h1
  · simp only [List.mem_singleton] at h1; subst h1; exact hb
theorem own_nd {w : World} {base e size : Nat} {v : Value} {n : Nat} {xs : List Value} (h : w.ownsRow base e size v n xs) {w' : World} (hk : KeepT w w') (h1 : e ≠ 83) (h2 : e ≠ 89) : w'.ownsRow base e size v n xs := by
  refine ⟨h.1, ?_⟩
  rcases h.2 with hn | ⟨g, cap, cur, rfl, hb, hg, r⟩
  · exact .inl hn
  · exact .inr ⟨g, cap, cur, rfl, hb, (hk g cur e (0, 0) hg h1 h2).trans hg, r⟩
theorem rds_kp {w w' : World} {a : Option Addr} {n : Nat} {l : List UInt8} (h : Rds w a n l) (hb : Below w.heap.size w w') : Rds w' a n l := h.below hb (fun h0 b o e => by subst e; exact h.lt h0)
theorem own_bel {w : World} {base e size : Nat} {v : Value} {n : Nat} {xs : List Value} (h : w.ownsRow base e size v n xs) {w' : World} (hb : Below w.heap.size w w') : w'.ownsRow base e size v n xs :=
  ownsRow_stay h (TStay.of_below hb (fun _ => False)) (fun _ _ h => h)
set_option maxHeartbeats 8000000 in
set_option maxRecDepth 100000 in
theorem diskOrder_walk (w : World) (s1 : Option Addr) (n1 c1 : Nat) (xs : List SlD) (g1 : ArgBB 140737488351232 w s1 n1 c1 xs)
    (a2 : Int) (b2 : -9223372036854775808 ≤ a2 ∧ a2 ≤ 9223372036854775807) (a3 : Int) (b3 : -9223372036854775808 ≤ a3 ∧ a3 ≤ 9223372036854775807) :
    Calls Try.prog 5 #[.slice s1 n1 c1, .int .i64 a2, .int .i64 a3] w fun e w' => e = .returned (.bool true) ∧ Below w.heap.size w w' := by
  obtain ⟨i0, hi, hz0, hz1, hz2'⟩ := info_parts infoI
  have hxl := g1.len
  have G1 := Lib.hid g1
  have B2 := Lib.hid b2
  clear g1 b2 b3
  go_enter Try.func5, Try.ntmps5
  go_wp2_with fail
  refine (new10000 w).mono ?_
  rintro e w1 ⟨B, rfl, h1, hb1⟩
  go_wp2_with fail
  refine (known6 w1).mono ?_
  rintro e w2 ⟨rfl, hb2⟩
  have hb2' := hb1.trans (hb2.mono hb1.size)
  have h2 : IsDk w2 w.heap.size B (Dsk.od 10000 0 [102] [] []) := h1.below hb2
  clear h1 hb1 hb2
  go_wp2_with fail
  go_loopw [8, 9, 10] (fun all ev iv wr => ∃ (i : Nat) (L : List (List UInt8)), all = .string (str L.flatten) ∧ iv = .int .i64 (i : Int) ∧ i ≤ n1 ∧ i ≤ 20 ∧ Hid (L.length ≤ i) ∧ Hid (small L) ∧ Hid (IsDk wr w.heap.size B (Dsk.od 10000 0 [102] [] L)) ∧ Hid (wr.ownsRow w.heap.size 3 1 ev L.length (endsV L)) ∧ Below w.heap.size w wr) (fun _ _ iv _ => n1 - (intOf iv).toNat)
  case atStart => exact ⟨0, [], rfl, rfl, Nat.zero_le _, Nat.zero_le _, Nat.le_refl _, fun b hb => by simp at hb, h2, World.ownsRow_nil _ _ _ _, hb2'⟩
  case round =>
    obtain ⟨i, L, rfl, rfl, hin, hi20, HLi, HS, HD, HO, hb⟩ := hrel
    by_cases hgo : i < n1 ∧ i < 20
    · have t0 : decide ((i : Int) < (n1 : Int)) = true := decide_eq_true (by omega)
      have t0' : decide (i < n1) = true := decide_eq_true hgo.1
      have t1 : decide ((i : Int) < 20) = true := decide_eq_true (by omega)
      have t1' : decide (i < 20) = true := decide_eq_true hgo.2
      have hx : xs[i]? = some (xs[i]'(by omega)) := List.getElem?_eq_getElem _
      generalize xs[i]'(by omega) = x at hx
      obtain ⟨b0, o0, rfl, hat⟩ := G1.out.at_ (by omega)
      obtain ⟨hcx, hax⟩ := hat i x hx
      rw [Nat.mul_one] at hcx
      have hcx' : wr.cell? ⟨b0, o0 + i, none⟩ = some (.slice x.a x.n x.c) := (World.cell?_of_block (hb.block b0 (World.block_lt_of_cell? w _ hcx))).trans hcx
      have hrx := rds_kp hax.rds hb
      have hle := hax.le
      have hno := hax.none
      have hre : x.c ≤ 140737488355328 := by have := hax.reach; omega
      have hiw := wrapi' ((i : Int) + 1) (by omega)
      clear hat hcx hax hx
      go_wp2_with fail
      refine (few_any wr x.a x.n x.c 100 x.l hrx hle hno hre (by omega) (by omega)).mono ?_
      rintro e w3 ⟨ab, cb, rfl, hob, hb3⟩
      obtain ⟨b, hbb⟩ : ∃ b, b = x.l.take (100 : Int).toNat := ⟨_, rfl⟩
      rw [← hbb] at hob ⊢
      have hbl : b.length ≤ 100 := by rw [hbb, List.length_take]; show min 100 _ ≤ _; omega
      have bw3 := hb.trans (hb3.mono hb.size)
      have KB := Keeps.of_own hob rfl
      have HD3 := Lib.hid (HD.out.below hb3)
      have HO3 := Lib.hid (own_bel HO.out hb3)
      clear hbb hob hrx hb3
      by_cases hb0 : b.length = 0
      · have z0 : ((b.length : Int) == 0) = true := by simp [hb0]
        have z0' : (b.length == 0) = true := by simp [hb0]
        go_wp2
        go_roundw
        case rel => exact ⟨i + 1, L, rfl, by push_cast; rfl, by omega, by omega, by have := HLi.out; show _ ≤ _; omega, HS, HD3, HO3, bw3⟩
        case measure => first | (simp [intOf]; omega) | omega
      · have z0 : ((b.length : Int) == 0) = false := beq_eq_false_iff_ne.2 (by omega)
        have z0' : (b.length == 0) = false := beq_eq_false_iff_ne.2 (by omega)
        have hbne : b ≠ [] := fun e => hb0 (by rw [e]; rfl)
        have hfl := small_len HS.out
        have hLl : L.length ≤ 20 := by have := HLi.out; omega
        go_wp2_with fail
        refine (append_yes w3 w.heap.size B _ _ HD3.out (by show 0 + L.length ≤ _; omega) [102] goodf ab b.length cb b KB.rds KB.none (by omega) (Dsk.od_append 10000 0 [102] [] L b hbne (by simp only [List.length_nil]; omega))).mono ?_
        rintro e w4 ⟨rfl, h4, hb4, kt4⟩
        have bw4 := bw3.trans hb4
        have hcv := convB w4 ab b.length cb b (KB.stay kt4.ku).rds
        have ho4 := own_nd HO3.out kt4 (by decide) (by decide)
        obtain ⟨f, hf⟩ : ∃ f, f = L.flatten.length := ⟨_, rfl⟩
        obtain ⟨q, hq⟩ : ∃ q, q = (L ++ [b]).flatten.length := ⟨_, rfl⟩
        have hs1 : (str L.flatten).size = f := by rw [hf]; rfl
        have hs2 : (str b).size = b.length := rfl
        have hs3 : (str L.flatten ++ str b).size = q := by rw [str_plus, hq]; show (L.flatten ++ b).length = _; simp
        have HQ := Lib.hid hq
        have hsp : str L.flatten ++ str b = str (L ++ [b]).flatten := by rw [str_plus]; simp
        have hfl2 : f ≤ 2000 := by omega
        have HD4 := Lib.hid h4
        have hsz4 := bw4.size
        have HFL := Lib.hid hfl
        have HSP := Lib.hid hsp
        clear h4 hb4 kt4 HD3 KB hfl hsp hf hq
        go_wp2_with (at_builtin; refine wpList_append_one _ rfl (.tmp 51) (.tmp 54) 42 rfl w.heap.size 3 i0 _ 1 8 Try.underlying42 hi hz0 hz1 hz2' rfl (by omega) _ L.length (endsV L) rfl (ho4.alloc _) w4.heap.size 1 #[.int .i64 (q : Int)] 3 rfl (heap_alloc_new w4 _) rfl (by simp [Value.oneCell']) (by omega) (by omega) (by simp; omega) ?_)
        intro v5 w5 ho5 hg5
        have k5 : Below w4.heap.size w4 (w4.alloc (.cells #[.int .i64 (q : Int)] 3)) := (Below.refl _ _).alloc (Nat.le_refl _) _
        have bw5 : Below w.heap.size w w5 := (bw4.alloc hsz4 _).grown hg5 (by simp; omega) (fun j hj => (ho4.lt j hj).1)
        have hd5 : IsDk w5 w.heap.size B (Dsk.od 10000 0 [102] [] (L ++ [b])) := by
          obtain ⟨bd, bn, pv, q1, q2⟩ := HD4.out.below k5
          refine ⟨bd, bn, pv, q1.stay (KeepU.grown hg5 (fun k xs' fr e hx => own_ne' (ho4.alloc _) hx (by decide) e)) (fun k hk => hg5.block k (q1.lt k hk) (fun e => ?_)), q2⟩
          obtain ⟨xs', hp⟩ := q1.pend.own
          rcases hk with rfl | rfl | rfl | hk
          · exact own_ne' (ho4.alloc _) q1.blk (by decide) e.symm
          · obtain ⟨es, cl, hm⟩ := q1.done.blk; exact own_nmap (ho4.alloc _) hm e.symm
          · obtain ⟨es, cl, hm⟩ := q1.now.blk; exact own_nmap (ho4.alloc _) hm e.symm
          · rcases hp.2 with ⟨rfl, _⟩ | ⟨g, cap, cur, rfl, _, hg, _⟩
            · simp [Value.ownBlock] at hk
            · simp [Value.ownBlock] at hk
              subst hk
              exact own_ne' (ho4.alloc _) hg (by decide) e.symm
        have ho5' : w5.ownsRow w.heap.size 3 1 v5 (L ++ [b]).length (endsV (L ++ [b])) := by rw [endsV_snoc, List.length_append, ← show q = _ from HQ.out]; exact ho5
        have HD5 := Lib.hid hd5
        have HO5 := Lib.hid ho5'
        clear hd5 ho5 ho5' ho4 hg5 k5 bw4 HO3 HD4
        go_wp2
        go_roundw
        case rel => exact ⟨i + 1, L ++ [b], by rw [HSP.out], by push_cast; rfl, by omega, by omega, by have := HLi.out; show _ ≤ _; rw [List.length_append]; simp only [List.length_singleton]; omega, small_snoc HS.out ⟨hbne, hbl⟩, HD5, HO5, bw5⟩
        case measure => first | (simp [intOf]; omega) | omega
    · have hfl := small_len HS.out
      have hLl : L.length ≤ 20 := by have := HLi.out; omega
      have HOut := Lib.hid hgo
      have tt : ∃ t0 : Bool, decide ((i : Int) < (n1 : Int)) = t0 ∧ decide (i < n1) = t0 ∧ (t0 = true → decide ((i : Int) < 20) = false ∧ decide (i < 20) = false) := by
        by_cases h : i < n1
        · exact ⟨true, decide_eq_true (by omega), decide_eq_true h, fun _ => ⟨decide_eq_false (by omega), decide_eq_false (by omega)⟩⟩
        · exact ⟨false, decide_eq_false (by omega), decide_eq_false h, fun e => by cases e⟩
      obtain ⟨t0, q0, q0', q1⟩ := tt
      clear hgo
      obtain ⟨n, hn⟩ : ∃ n, n = L.length := ⟨_, rfl⟩
      have HN := Lib.hid hn
      obtain ⟨all, hall⟩ : ∃ all, all = L.flatten := ⟨_, rfl⟩
      have HALL := Lib.hid hall
      have hal : all.length ≤ 2000 := by rw [hall]; omega
      have hO := HO.out
      rw [← hn] at hO
      obtain ⟨ae, ce, rfl, _⟩ := ownsRow_slice hO
      have hn20 : n ≤ 20 := by omega
      obtain ⟨k, hk⟩ : ∃ k : Nat, a2 % ((n : Int) + 1) = k := ⟨(a2 % ((n : Int) + 1)).toNat, by have := Int.emod_nonneg a2 (show (n : Int) + 1 ≠ 0 by omega); omega⟩
      have hkn : k ≤ n := by have := Int.emod_lt_of_pos a2 (show (0 : Int) < (n : Int) + 1 by omega); omega
      have hwn := wrapi' ((n : Int) + 1) (by omega)
      obtain ⟨C, hC⟩ : ∃ C, C = Dsk.after [] L k a3 := ⟨_, rfl⟩
      obtain ⟨⟨r, hp1⟩, hp2, hp3⟩ := Dsk.after_pre [] L k (by omega) a3
      rw [← hC] at hp1 hp2 hp3
      rw [List.nil_append] at hp1 hp2 hp3
      rw [← hall] at hp1
      have hcl : C.length ≤ all.length := by rw [hp1, List.length_append]; omega
      have htk : all.take C.length = C := by rw [hp1, List.take_left]
      have hx1 : (str all).extract 0 C.length = str C := by rw [sub0, htk]
      have hcr : (Dsk.od 10000 0 [102] [] L).crash (k : Int) a3 = ⟨10000, Dsk.FF [102] C, Dsk.FF [102] C, [], -1, false, 0 + L.length⟩ := by
        rw [Dsk.od_crash 10000 0 [102] [] L (fun b hb => (HS.out b hb).1), show ((k : Int) % ((L.length : Int) + 1)).toNat = k by rw [← hn, Int.emod_eq_of_lt (by omega) (by omega)]; rfl, hC]
      have HP2 := Lib.hid hp2
      have HP3 := Lib.hid hp3
      have HCR := Lib.hid hcr
      have HK := Lib.hid hk
      have HO' := Lib.hid hO
      rw [← hall]
      clear hp1 hp2 hp3 hcr hk hC htk hfl hO hall hn
      have hse := str_eq C
      have hs1 : (str all).size = all.length := rfl
      have hs2 : (str C).size = C.length := rfl
      have d1 : decide ((all.length : Int) < (C.length : Int)) = false := decide_eq_false (by omega)
      have d1' : decide (all.length < C.length) = false := decide_eq_false (by omega)
      have hc0 : (0 : Int) ≤ (C.length : Int) := by omega
      have hc1 : (C.length : Int) ≤ (all.length : Int) := by omega
      have hpd := pending_any wr w.heap.size B _ HD.out
      rw [show (((Dsk.od 10000 0 [102] [] L).pend.length : Nat) : Int) = (n : Int) by rw [HN.out]; show ((Dsk.pends [102] L).length : Int) = _; simp [Dsk.pends]] at hpd
      have hnn : ((n : Int) == (n : Int)) = true := by simp
      cases t0 with
      | true =>
        obtain ⟨q2, q2'⟩ := q1 rfl
        clear q1
        go_wp2_with fail
        refine hpd.mono ?_
        rintro e w' ⟨rfl, rfl⟩
        clear hpd
        go_wp2_with fail
        refine (pick_any w' a2 ((n : Int) + 1) B2.out.1 B2.out.2 (by omega) (by omega)).mono ?_
        rintro e w'' ⟨he, rfl⟩
        rw [HK.out] at he
        subst he
        go_wp2_with fail
        have hcw := crash_any w' w.heap.size B _ HD.out (k : Int) a3
        rw [HCR.out] at hcw
        refine hcw.mono ?_
        rintro e w3 ⟨rfl, h3, hb3, kt3⟩
        have bw3 := hb.trans hb3
        have ho3 := own_nd HO'.out kt3 (by decide) (by decide)
        clear hcw hb3 kt3
        go_wp2_with fail
        refine (read_is w3 w.heap.size B _ h3 rfl [102] (by decide) C _ C.length (Dsk.val_FF _ _) rfl rfl).mono ?_
        rintro e w4 ⟨ac, cc, rfl, hoc, hb4⟩
        have bw4 := bw3.trans (hb4.mono bw3.size)
        have hcv := convB w4 ac C.length cc C (Rds.of_own hoc rfl)
        have ho4 := own_bel ho3 hb4
        have hpd4 := pending_any w4 w.heap.size B _ (h3.below hb4)
        rw [show ((([] : List Dsk.Wk).length : Nat) : Int) = 0 from rfl] at hpd4
        clear h3 hoc hb4 ho3 bw3
        have HPD := Lib.hid hpd4
        have HO4 := Lib.hid ho4
        clear hpd4 ho4
        by_cases hk0 : 0 < k
        · have m0 : decide ((0 : Int) < (k : Int)) = true := decide_eq_true (by omega)
          have m0' : decide (0 < k) = true := decide_eq_true hk0
          have wk : IntKind.i64.wrap ((k : Int) - 1) = ((k - 1 : Nat) : Int) := by rw [show (k : Int) - 1 = ((k - 1 : Nat) : Int) by omega]; exact wrapi' _ (by omega)
          obtain ⟨ge, rfl, _, _⟩ := own_head HO4.out (by omega)
          have ce1 : w4.cell? ⟨ge, k - 1, none⟩ = some (.int .i64 ((L.take k).flatten.length : Int)) := by
            have := HO4.out.cells (g := ge) rfl (k - 1) _ (endsV_get L (k - 1) (by have := HN.out; omega))
            rw [Addr.add_lit, Nat.zero_add, show k - 1 + 1 = k by omega] at this
            exact this
          have hlast : ((k - 1 : Nat) : Int) < (n : Int) := by omega
          have hE := HP2.out
          obtain ⟨E, hEE⟩ : ∃ E, (L.take k).flatten.length = E := ⟨_, rfl⟩
          rw [hEE] at ce1 hE
          have m2 : decide ((E : Int) ≤ (C.length : Int)) = true := decide_eq_true (by omega)
          have m2' : decide (E ≤ C.length) = true := decide_eq_true (by omega)
          clear hEE
          by_cases hkn' : k < n
          · have m1 : decide ((k : Int) < (n : Int)) = true := decide_eq_true (by omega)
            have m1' : decide (k < n) = true := decide_eq_true hkn'
            have ce2 : w4.cell? ⟨ge, k, none⟩ = some (.int .i64 ((L.take (k + 1)).flatten.length : Int)) := by
              have := HO4.out.cells (g := ge) rfl k _ (endsV_get L k (by have := HN.out; omega))
              rw [Addr.add_lit, Nat.zero_add] at this
              exact this
            have hF := HP3.out (by have := HN.out; omega)
            obtain ⟨F, hFF⟩ : ∃ F, (L.take (k + 1)).flatten.length = F := ⟨_, rfl⟩
            rw [hFF] at ce2 hF
            have m3 : decide ((C.length : Int) ≤ (F : Int)) = true := decide_eq_true (by omega)
            have m3' : decide (C.length ≤ F) = true := decide_eq_true (by omega)
            clear hFF
            go_wp2_with fail
            refine HPD.out.mono ?_
            rintro e w' ⟨rfl, rfl⟩
            go_wp2
            go_ret
            exact ⟨rfl, bw4⟩
          · have m1 : decide ((k : Int) < (n : Int)) = false := decide_eq_false (by omega)
            have m1' : decide (k < n) = false := decide_eq_false hkn'
            have m3 : decide ((C.length : Int) ≤ (all.length : Int)) = true := decide_eq_true (by omega)
            have m3' : decide (C.length ≤ all.length) = true := decide_eq_true (by omega)
            go_wp2_with fail
            refine HPD.out.mono ?_
            rintro e w' ⟨rfl, rfl⟩
            go_wp2
            go_ret
            exact ⟨rfl, bw4⟩
        · obtain rfl : k = 0 := by omega
          have m2 : decide ((0 : Int) ≤ (C.length : Int)) = true := decide_eq_true (by omega)
          by_cases hkn' : 0 < n
          · have m1 : decide ((0 : Int) < (n : Int)) = true := decide_eq_true (by omega)
            have m1' : decide (0 < n) = true := decide_eq_true hkn'
            obtain ⟨ge, rfl, _, _⟩ := own_head HO4.out (by omega)
            have ce2 : w4.cell? ⟨ge, 0, none⟩ = some (.int .i64 ((L.take 1).flatten.length : Int)) := by
              have := HO4.out.cells (g := ge) rfl 0 _ (endsV_get L 0 (by have := HN.out; omega))
              rw [Addr.add_lit, Nat.zero_add] at this
              exact this
            have hF := HP3.out (by have := HN.out; omega)
            rw [show 0 + 1 = 1 from rfl] at hF
            obtain ⟨F, hFF⟩ : ∃ F, (L.take 1).flatten.length = F := ⟨_, rfl⟩
            rw [hFF] at ce2 hF
            have m3 : decide ((C.length : Int) ≤ (F : Int)) = true := decide_eq_true (by omega)
            have m3' : decide (C.length ≤ F) = true := decide_eq_true (by omega)
            clear hFF
            go_wp2_with fail
            refine HPD.out.mono ?_
            rintro e w' ⟨rfl, rfl⟩
            go_wp2
            go_ret
            exact ⟨rfl, bw4⟩
          · obtain rfl : n = 0 := by omega
            have m3 : decide ((C.length : Int) ≤ (all.length : Int)) = true := decide_eq_true (by omega)
            have m3' : decide (C.length ≤ all.length) = true := decide_eq_true (by omega)
            go_wp2_with fail
            refine HPD.out.mono ?_
            rintro e w' ⟨rfl, rfl⟩
            go_wp2
            go_ret
            exact ⟨rfl, bw4⟩
      | false =>
        clear q1
        go_wp2_with fail
        refine hpd.mono ?_
        rintro e w' ⟨rfl, rfl⟩
        clear hpd
        go_wp2_with fail
        refine (pick_any w' a2 ((n : Int) + 1) B2.out.1 B2.out.2 (by omega) (by omega)).mono ?_
        rintro e w'' ⟨he, rfl⟩
        rw [HK.out] at he
        subst he
        go_wp2_with fail
        have hcw := crash_any w' w.heap.size B _ HD.out (k : Int) a3
        rw [HCR.out] at hcw
        refine hcw.mono ?_
        rintro e w3 ⟨rfl, h3, hb3, kt3⟩
        have bw3 := hb.trans hb3
        have ho3 := own_nd HO'.out kt3 (by decide) (by decide)
        clear hcw hb3 kt3
        go_wp2_with fail
        refine (read_is w3 w.heap.size B _ h3 rfl [102] (by decide) C _ C.length (Dsk.val_FF _ _) rfl rfl).mono ?_
        rintro e w4 ⟨ac, cc, rfl, hoc, hb4⟩
        have bw4 := bw3.trans (hb4.mono bw3.size)
        have hcv := convB w4 ac C.length cc C (Rds.of_own hoc rfl)
        have ho4 := own_bel ho3 hb4
        have hpd4 := pending_any w4 w.heap.size B _ (h3.below hb4)
        rw [show ((([] : List Dsk.Wk).length : Nat) : Int) = 0 from rfl] at hpd4
        clear h3 hoc hb4 ho3 bw3
        have HPD := Lib.hid hpd4
        have HO4 := Lib.hid ho4
        clear hpd4 ho4
        by_cases hk0 : 0 < k
        · have m0 : decide ((0 : Int) < (k : Int)) = true := decide_eq_true (by omega)
          have m0' : decide (0 < k) = true := decide_eq_true hk0
          have wk : IntKind.i64.wrap ((k : Int) - 1) = ((k - 1 : Nat) : Int) := by rw [show (k : Int) - 1 = ((k - 1 : Nat) : Int) by omega]; exact wrapi' _ (by omega)
          obtain ⟨ge, rfl, _, _⟩ := own_head HO4.out (by omega)
          have ce1 : w4.cell? ⟨ge, k - 1, none⟩ = some (.int .i64 ((L.take k).flatten.length : Int)) := by
            have := HO4.out.cells (g := ge) rfl (k - 1) _ (endsV_get L (k - 1) (by have := HN.out; omega))
            rw [Addr.add_lit, Nat.zero_add, show k - 1 + 1 = k by omega] at this
            exact this
          have hlast : ((k - 1 : Nat) : Int) < (n : Int) := by omega
          have hE := HP2.out
          obtain ⟨E, hEE⟩ : ∃ E, (L.take k).flatten.length = E := ⟨_, rfl⟩
          rw [hEE] at ce1 hE
          have m2 : decide ((E : Int) ≤ (C.length : Int)) = true := decide_eq_true (by omega)
          have m2' : decide (E ≤ C.length) = true := decide_eq_true (by omega)
          clear hEE
          by_cases hkn' : k < n
          · have m1 : decide ((k : Int) < (n : Int)) = true := decide_eq_true (by omega)
            have m1' : decide (k < n) = true := decide_eq_true hkn'
            have ce2 : w4.cell? ⟨ge, k, none⟩ = some (.int .i64 ((L.take (k + 1)).flatten.length : Int)) := by
              have := HO4.out.cells (g := ge) rfl k _ (endsV_get L k (by have := HN.out; omega))
              rw [Addr.add_lit, Nat.zero_add] at this
              exact this
            have hF := HP3.out (by have := HN.out; omega)
            obtain ⟨F, hFF⟩ : ∃ F, (L.take (k + 1)).flatten.length = F := ⟨_, rfl⟩
            rw [hFF] at ce2 hF
            have m3 : decide ((C.length : Int) ≤ (F : Int)) = true := decide_eq_true (by omega)
            have m3' : decide (C.length ≤ F) = true := decide_eq_true (by omega)
            clear hFF
            go_wp2_with fail
            refine HPD.out.mono ?_
            rintro e w' ⟨rfl, rfl⟩
            go_wp2
            go_ret
            exact ⟨rfl, bw4⟩
          · have m1 : decide ((k : Int) < (n : Int)) = false := decide_eq_false (by omega)
            have m1' : decide (k < n) = false := decide_eq_false hkn'
            have m3 : decide ((C.length : Int) ≤ (all.length : Int)) = true := decide_eq_true (by omega)
            have m3' : decide (C.length ≤ all.length) = true := decide_eq_true (by omega)
            go_wp2_with fail
            refine HPD.out.mono ?_
            rintro e w' ⟨rfl, rfl⟩
            go_wp2
            go_ret
            exact ⟨rfl, bw4⟩
        · obtain rfl : k = 0 := by omega
          have m2 : decide ((0 : Int) ≤ (C.length : Int)) = true := decide_eq_true (by omega)
          by_cases hkn' : 0 < n
          · have m1 : decide ((0 : Int) < (n : Int)) = true := decide_eq_true (by omega)
            have m1' : decide (0 < n) = true := decide_eq_true hkn'
            obtain ⟨ge, rfl, _, _⟩ := own_head HO4.out (by omega)
            have ce2 : w4.cell? ⟨ge, 0, none⟩ = some (.int .i64 ((L.take 1).flatten.length : Int)) := by
              have := HO4.out.cells (g := ge) rfl 0 _ (endsV_get L 0 (by have := HN.out; omega))
              rw [Addr.add_lit, Nat.zero_add] at this
              exact this
            have hF := HP3.out (by have := HN.out; omega)
            rw [show 0 + 1 = 1 from rfl] at hF
            obtain ⟨F, hFF⟩ : ∃ F, (L.take 1).flatten.length = F := ⟨_, rfl⟩
            rw [hFF] at ce2 hF
            have m3 : decide ((C.length : Int) ≤ (F : Int)) = true := decide_eq_true (by omega)
            have m3' : decide (C.length ≤ F) = true := decide_eq_true (by omega)
            clear hFF
            go_wp2_with fail
            refine HPD.out.mono ?_
            rintro e w' ⟨rfl, rfl⟩
            go_wp2
            go_ret
            exact ⟨rfl, bw4⟩
          · obtain rfl : n = 0 := by omega
            have m3 : decide ((C.length : Int) ≤ (all.length : Int)) = true := decide_eq_true (by omega)
            have m3' : decide (C.length ≤ all.length) = true := decide_eq_true (by omega)
            go_wp2_with fail
            refine HPD.out.mono ?_
            rintro e w' ⟨rfl, rfl⟩
            go_wp2
            go_ret
            exact ⟨rfl, bw4⟩
end Go.Proofs.Ytjdadbpekaoijaa
