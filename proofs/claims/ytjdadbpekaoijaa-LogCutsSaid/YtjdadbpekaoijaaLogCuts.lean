/- LogCuts: what it comes to. -/
import Derived.Test.YtjdadbpekaoijaaLogCut
import Derived.Test.YtjdadbpekaoijaaLogTorn
namespace Go.Proofs.Ytjdadbpekaoijaa
open Go.RowKit Go.Tap Go.Maps
set_option linter.unusedVariables false
attribute [local go_sem ↓] Go.wp_at_zero Go.wp_at_succ

/-- The lengths. -/
def lensV (its : List (Nat × List UInt8)) : List Value := (List.range (its.length + 1)).map fun j => .int .i64 ((frs (its.take j)).length : Int)
theorem lensV_get (its : List (Nat × List UInt8)) (j : Nat) (h : j ≤ its.length) : (lensV its)[j]? = some (.int .i64 ((frs (its.take j)).length : Int)) := by
  unfold lensV; rw [List.getElem?_map, List.getElem?_range (by omega)]; rfl
theorem lensV_snoc (its : List (Nat × List UInt8)) (p : Nat × List UInt8) : lensV (its ++ [p]) = lensV its ++ [.int .i64 ((frs (its ++ [p])).length : Int)] := by
  unfold lensV
  rw [List.length_append, List.length_singleton, List.range_succ, List.map_append]
  congr 1
  · refine List.map_congr_left fun j hj => ?_
    have hj' := List.mem_range.1 hj
    rw [List.take_append_of_le_length (by omega)]
  · rw [List.map_singleton, List.take_of_length_le (by simp)]
/-- Numbered from one. -/
def Num (its : List (Nat × List UInt8)) : Prop := ∀ j p, its[j]? = some p → p.1 = j + 1 ∧ p.2.length ≤ 200
theorem num_snoc {its : List (Nat × List UInt8)} (h : Num its) {b : List UInt8} (hb : b.length ≤ 200) : Num (its ++ [(its.length + 1, b)]) := fun j p hp => by
  by_cases hj : j < its.length
  · rw [List.getElem?_append_left hj] at hp; exact h j p hp
  · rw [List.getElem?_append_right (by omega)] at hp
    have h0 : j - its.length = 0 := by
      rcases Nat.eq_zero_or_pos (j - its.length) with h0 | h0
      · exact h0
      · rw [List.getElem?_eq_none (by simp; omega)] at hp; cases hp
    rw [h0] at hp
    simp only [List.getElem?_cons_zero, Option.some.injEq] at hp
    subst hp
    exact ⟨by show its.length + 1 = j + 1; omega, hb⟩
theorem num_le {its : List (Nat × List UInt8)} (h : Num its) : (frs its).length ≤ 209 * its.length := by
  have : ∀ l : List (Nat × List UInt8), (∀ p ∈ l, p.2.length ≤ 200) → (frs l).length ≤ 209 * l.length := by
    intro l
    induction l with
    | nil => intro _; exact Nat.zero_le _
    | cons p r ih =>
      intro hp
      have h1 := ih (fun q hq => hp q (List.mem_cons_of_mem _ hq))
      have h2 := hp p (List.mem_cons_self ..)
      have e : frs (p :: r) = frm (p.1 : Int) p.2 ++ frs r := by simp [frs]
      rw [e, List.length_append, frm_length, List.length_cons]; omega
  exact this its (fun p hp => by obtain ⟨j, hj⟩ := List.getElem?_of_mem hp; exact (h j p hj).2)
theorem dsN_mono {d : Dsk.Dk} {room w w' : Nat} {s : Dsk.Name} {c : List UInt8} (h : Dsk.DsN d room s c w) (hw : w ≤ w') : Dsk.DsN d room s c w' := ⟨h.room, h.dead, h.fuse, h.now, Nat.le_trans h.works hw⟩
/-- What is there behind the cut and one more record. -/
structure CutJ (its : List (Nat × List UInt8)) (k : Nat) (m : List UInt8) (J : List (Nat × List UInt8)) : Prop where
  len : J.length = k + 1
  ok : ∀ p ∈ J, Ok1 p
  take : ∀ i, i ≤ k → J.take i = its.take i
  low : ∀ j, j < k → ∃ b, J[j]? = some (j + 1, b) ∧ b.length ≤ 200
  top : J[k]? = some (77, m)
  size : (frs J).length ≤ 4000
theorem cut_j {its : List (Nat × List UInt8)} (hn : Num its) (hl : its.length ≤ 12) {k : Nat} (hk : k ≤ its.length) {m : List UInt8} (hm : m.length ≤ 100) : CutJ its k m (its.take k ++ [(77, m)]) := by
  have hlen : (its.take k).length = k := by rw [List.length_take]; omega
  refine ⟨by rw [List.length_append, hlen]; rfl, fun p hp => ?_, fun i hi => ?_, fun j hj => ?_, ?_, ?_⟩
  · rcases List.mem_append.1 hp with q | q
    · obtain ⟨j, hj⟩ := List.getElem?_of_mem (List.mem_of_mem_take q)
      obtain ⟨h1, h2⟩ := hn j p hj
      have := (List.getElem?_eq_some_iff.1 hj).1
      exact ⟨by omega, by omega⟩
    · simp only [List.mem_singleton] at q; subst q
      exact ⟨by show 1 ≤ 77 ∧ 77 ≤ 255; decide, by show m.length ≤ _; omega⟩
  · rw [List.take_append_of_le_length (by omega), List.take_take, Nat.min_eq_left hi]
  · have hj' : its[j]? = some (its[j]'(by omega)) := List.getElem?_eq_getElem _
    obtain ⟨h1, h2⟩ := hn j _ hj'
    refine ⟨(its[j]'(by omega)).2, ?_, h2⟩
    rw [List.getElem?_append_left (by omega), List.getElem?_take, if_pos hj, hj', ← h1]
  · rw [List.getElem?_append_right (by omega), hlen, Nat.sub_self]; rfl
  · have := frs_take_le its k
    have := num_le hn
    rw [frs_snoc, List.length_append, frm_length]
    show _ + (9 + m.length) ≤ 4000
    omega
theorem row_blk {w : World} {lo e n g cap : Nat} {xs : List Value} (h : w.ownsRow lo e 1 (.slice (some ⟨g, 0, none⟩) n cap) n xs) : ∃ cur, w.heap[g]? = some (.cells cur e (0, 0)) := by
  rcases h.2 with ⟨e1, _⟩ | ⟨g', cap', cur, e1, _, hg, _⟩
  · cases e1
  · simp only [Value.slice.injEq, Option.some.injEq, Addr.mk.injEq] at e1
    obtain ⟨⟨rfl, _⟩, _⟩ := e1
    exact ⟨cur, hg⟩
set_option maxHeartbeats 16000000 in
set_option maxRecDepth 100000 in
theorem logCuts_walk (w : World) (s1 : Option Addr) (n1 c1 : Nat) (xs : List SlD) (g1 : ArgBB 140737488351232 w s1 n1 c1 xs)
    (a2 : Int) (b2 : -9223372036854775808 ≤ a2 ∧ a2 ≤ 9223372036854775807) (s3 : Option Addr) (n3 c3 : Nat) (l3 : List UInt8) (g3 : ArgB 140737488351232 w s3 n3 c3 l3) :
    Calls Try.prog 7 #[.slice s1 n1 c1, .int .i64 a2, .slice s3 n3 c3] w fun e w' => e = .returned (.bool true) ∧ Below w.heap.size w w' := by
  obtain ⟨i0, hi, hz0, hz1, hz2'⟩ := info_parts infoI
  have hxl := g1.len
  have G1 := Lib.hid g1
  have G3 := Lib.hid g3
  have B2 := Lib.hid b2
  obtain ⟨n, hn⟩ : ∃ n, n = min n1 12 := ⟨_, rfl⟩
  have hmin : (if (12 : Int) < (n1 : Int) then (12 : Int) else (n1 : Int)) = (n : Int) := by split <;> omega
  have hn12 : n ≤ 12 := by omega
  have hnn : n ≤ n1 := by omega
  clear g1 g3 b2 hn
  go_enter Try.func7, Try.ntmps7
  go_wp2_with fail
  refine (new100000 w).mono ?_
  rintro e w1 ⟨B, rfl, h1, hb1⟩
  have ho1 := open_n w1 w.heap.size B _ 100000 0 [] h1 (Dsk.dsN_new 100000 [102]) (by omega) 0 [] (by simp) (Nat.le_refl _) rfl
  rw [show ((0 : Nat) : Int) = 0 from rfl] at ho1
  clear h1
  go_wp2_with fail
  refine ho1.mono ?_
  rintro e w2 ⟨LB, d2, rfl, h2, nd2, lg2, hb2, _⟩
  have bw2 := hb1.trans hb2
  clear ho1 hb1 hb2
  go_wp2_with fail
  refine (known7 w2).mono ?_
  rintro e w3 ⟨rfl, hb3⟩
  have bw3 := bw2.trans (hb3.mono bw2.size)
  have h3 := h2.below hb3
  have lg3 := lg2.below hb3
  have hal : Below w3.heap.size w3 (w3.alloc (.cells #[.int .i64 0] 3)) := (Below.refl _ _).alloc (Nat.le_refl _) _
  have bw4 := bw3.trans (hal.mono bw3.size)
  have H4 := Lib.hid (h3.below hal)
  have L4 := Lib.hid (lg3.below hal)
  have hrow : (w3.alloc (.cells #[.int .i64 0] 3)).ownsRow w.heap.size 3 1 (.slice (some ⟨w3.heap.size, 0, none⟩) 1 1) 1 (lensV []) :=
    ⟨rfl, .inr ⟨_, _, _, rfl, bw3.size, heap_alloc_new w3 _, Nat.le_refl _, by unfold maxLen; omega, rfl, rfl⟩⟩
  have R4 := Lib.hid hrow
  clear h2 lg2 hb3 h3 lg3 hal hrow bw2
  go_wp2_with fail
  go_loopw [10, 12] (fun lv iv wr => ∃ (d : Dsk.Dk) (its : List (Nat × List UInt8)), iv = .int .i64 (its.length : Int) ∧ its.length ≤ n ∧ Hid (Num its) ∧ Hid (IsDk wr w.heap.size B d) ∧ Hid (Dsk.DsN d 100000 [102] (frs its) (1 + its.length)) ∧ Hid (LogIs wr w.heap.size LB B [102] (recsAt 0 its)) ∧ Hid (wr.ownsRow w.heap.size 3 1 lv (its.length + 1) (lensV its)) ∧ Below w.heap.size w wr) (fun _ iv _ => n - (intOf iv).toNat)
  case atStart => exact ⟨d2, [], rfl, Nat.zero_le _, fun j p hp => by simp at hp, H4.out, nd2, L4.out, R4.out, bw4⟩
  case round =>
    clear H4 L4 R4 nd2 bw4 bw3
    obtain ⟨d, its, rfl, hin, HNu, HD, HN, HG, HO, hb⟩ := hrel
    obtain ⟨i, hii⟩ : ∃ i, i = its.length := ⟨_, rfl⟩
    have HI := Lib.hid hii
    have hO := HO.out
    rw [← hii] at hin hO ⊢
    obtain ⟨ae, ce, rfl, hce, _⟩ := ownsRow_slice hO
    obtain ⟨ge, rfl, hge, _⟩ := own_head hO (by omega)
    obtain ⟨cur, hcur⟩ := row_blk hO
    have hfl := num_le HNu.out
    rw [← hii] at hfl
    by_cases hgo : i < n
    · have t0 : decide ((i : Int) < (n : Int)) = true := decide_eq_true (by omega)
      have t0' : decide (i < n) = true := decide_eq_true hgo
      have hx : xs[i]? = some (xs[i]'(by omega)) := List.getElem?_eq_getElem _
      generalize xs[i]'(by omega) = x at hx
      obtain ⟨b0, o0, rfl, hat⟩ := G1.out.at_ (by omega)
      obtain ⟨hcx, hax⟩ := hat i x hx
      clear hx
      rw [Nat.mul_one] at hcx
      have hltx := World.block_lt_of_cell? w _ hcx
      have ca : wr.cell? ⟨b0, o0 + i, none⟩ = some (.slice x.a x.n x.c) := (World.cell?_of_block (hb.block b0 hltx)).trans hcx
      have hrx := rds_kp hax.rds hb
      have hle := hax.le
      have hno := hax.none
      have hre : x.c ≤ 140737488355328 := by have := hax.reach; omega
      obtain ⟨P, hP⟩ : ∃ P, P = (frs its).length := ⟨_, rfl⟩
      have cl : wr.cell? ⟨ge, i, none⟩ = some (.int .i64 (P : Int)) := by
        have := hO.cells (g := ge) rfl i _ (lensV_get its i (by omega))
        rw [Addr.add_lit, Nat.zero_add, show its.take i = its by rw [hii, List.take_length], ← hP] at this
        exact this
      obtain ⟨b, hbb⟩ : ∃ b, b = x.l.take (200 : Int).toNat := ⟨_, rfl⟩
      obtain ⟨q, hq⟩ : ∃ q, q = b.length := ⟨_, rfl⟩
      have hbl : q ≤ 200 := by rw [hq, hbb, List.length_take]; show min 200 _ ≤ _; omega
      have hmq : (if (200 : Int) < (x.n : Int) then (200 : Int) else (x.n : Int)) = (q : Int) := by
        have h1 := hax.rds.1
        have h2 : q = min 200 x.l.length := by rw [hq, hbb, List.length_take]; rfl
        split <;> omega
      obtain ⟨K, hK⟩ : ∃ K, K = i + 1 := ⟨_, rfl⟩
      obtain ⟨P9, hP9⟩ : ∃ P9, P9 = P + 9 := ⟨_, rfl⟩
      obtain ⟨E, hE⟩ : ∃ E, E = P9 + q := ⟨_, rfl⟩
      rw [← hP] at hfl
      have hw1 : IntKind.i64.wrap (1 + (i : Int)) = (K : Int) := by rw [hK]; push_cast; rw [Int.add_comm]; exact wrapi' _ (by omega)
      have hw2 : IntKind.i64.wrap ((P : Int) + 9) = (P9 : Int) := by rw [hP9]; push_cast; exact wrapi' _ (by omega)
      have hw3 : IntKind.i64.wrap ((P9 : Int) + (q : Int)) = (E : Int) := by rw [hE]; push_cast; exact wrapi' _ (by omega)
      have hw4 : IntKind.i64.wrap ((i : Int) + 1) = (K : Int) := by rw [hK]; push_cast; exact wrapi' _ (by omega)
      have hiE : (i : Int) < ((i + 1 : Nat) : Int) := by omega
      have hiE' : (i : Int) < (i : Int) + 1 := by omega
      have hi0 : (0 : Int) ≤ (i : Int) := by omega
      have hin1 : (i : Int) < (n1 : Int) := by omega
      have hKb : 1 ≤ K ∧ K ≤ 13 := by omega
      have hEl : (frs (its ++ [(K, b)])).length = E := by rw [frs_snoc, List.length_append, frm_length, ← hP, ← hq]; omega
      have hfew := few_any wr.drew x.a x.n x.c 200 x.l hrx.drew hle hno hre (by omega) (by omega)
      rw [← hbb] at hfew
      unfold Fresh at hfew
      rw [← hq] at hfew
      have hae : ∀ X : World, X.heap[b0]? = wr.heap[b0]? → X.heap[ge]? = wr.heap[ge]? → X.cell? ⟨b0, o0 + i, none⟩ = some (.slice x.a x.n x.c) ∧ X.cell? ⟨ge, i, none⟩ = some (.int .i64 (P : Int)) := fun X e1 e2 => ⟨(World.cell?_of_block e1).trans ca, (World.cell?_of_block e2).trans cl⟩
      have hb0s : b0 < wr.heap.size := Nat.lt_of_lt_of_le hltx hb.size
      have hges : ge < wr.heap.size := blk_lt hcur
      have HEL := Lib.hid hEl
      have HQ := Lib.hid hq
      have HKK := Lib.hid hK
      have HPP := Lib.hid hP
      have HOO := Lib.hid hO
      have HE9 := Lib.hid (show E ≤ 3000 by omega)
      have HAE := Lib.hid hae
      have HCUR := Lib.hid hcur
      have hPb : P ≤ 2508 := by omega
      clear hat hcx hax hrx hEl hq hK hP hP9 hE hbb hO hae hcur hii hfl
      go_wp2_with fail
      go_region_held3 (fun w' => w'.cell? ⟨b0, o0 + i, none⟩ = some (.slice x.a x.n x.c) ∧ w'.cell? ⟨ge, i, none⟩ = some (.int .i64 (P : Int)))
        (first | exact HAE.out _ hA5 hL5 | exact HAE.out _ hA4 hL4 | exact HAE.out wr.drew rfl rfl)
        (first
          | (go_at_call 12; refine hfew.mono ?_; rintro e w4 ⟨ab, cb, rfl, hob, hb4⟩; have hA4 := hb4.block b0 hb0s; have hL4 := hb4.block ge hges; have hb4' : Below wr.heap.size wr w4 := ⟨hb4.os, hb4.tape, hb4.output, hb4.size, hb4.block⟩; have KB : Keeps w4 ab q cb b := (by have := Keeps.of_own (l := b) (n := q) (by rw [← show q = b.length from HQ.out]; exact hob) (show q = b.length from HQ.out).symm; exact this))
          | (go_at_call 38; refine (add_n w4 w.heap.size LB B d 100000 (1 + its.length) its (HD.out.below hb4') HN.out (by have := HI.out; omega) (HG.out.below hb4') (by have := HI.out; omega) K (by omega) ab q cb b KB (by omega) (by rw [← show P = (frs its).length from HPP.out]; omega) (by omega)).mono ?_; rintro e w5 ⟨d5, rfl, h5, nd5, g5, hb5, kg5⟩; have hA5 := (hb5.block b0 hltx).trans hA4; have hL5 := (kg5 ge _ _ _ (hL4.trans HCUR.out) (by decide) (by decide) (by decide) (by decide)).trans hL4; have hln5 := length_any w5 _ LB B _ _ g5 (by rw [recsAt_length, List.length_append]; simp only [List.length_singleton]; have := HI.out; omega); have hln5' : Calls Try.prog 39 #[.pointer (some ⟨LB, 0, none⟩)] w5 fun e w' => e = .returned (.int .i64 (E : Int)) ∧ w' = w5 := (by rw [lenOf_recs, show (frs (its ++ [(K, b)])).length = E from HEL.out] at hln5; exact hln5))
          | (go_at_call 39; refine hln5'.mono ?_; rintro e w6 ⟨rfl, rfl⟩))
      all_goals
        have bw6 := (hb.trans (hb4'.mono hb.size)).trans hb5
        have ho6 := own_ng (own_bel HOO.out hb4') kg5 (by decide) (by decide) (by decide) (by decide)
        have hsz6 := bw6.size
        have D6 := Lib.hid h5
        have G6 := Lib.hid g5
        have N6 := Lib.hid nd5
        have S6 : Hid (Num (its ++ [(K, b)])) := Lib.hid (by
          have := num_snoc HNu.out (b := b) (by rw [← show q = b.length from HQ.out]; omega)
          rw [← show i = its.length from HI.out, ← show K = i + 1 from HKK.out] at this; exact this)
        clear h5 g5 nd5 hb5 kg5 hL5 hA5 hA4 hL4 hb4 hb4' hob KB hfew ca cl hln5 HOO HAE HCUR HD HN HG HNu
        go_wp2_with fail
        refine hln5'.mono ?_
        rintro e w7 ⟨rfl, rfl⟩
        clear hln5'
        go_wp2_with (at_builtin; refine wpList_append_one _ rfl (.tmp 75) (.tmp 78) 42 rfl w.heap.size 3 i0 _ 1 8 Try.underlying42 hi hz0 hz1 hz2' rfl (by omega) _ (i + 1) (lensV its) rfl (ho6.alloc _) w7.heap.size 1 #[.int .i64 (E : Int)] 3 rfl (heap_alloc_new w7 _) rfl (by simp [Value.oneCell']) (by omega) (by omega) (by simp; omega) ?_)
        intro v8 w8 ho8 hg8
        have bw8 : Below w.heap.size w w8 := (bw6.alloc hsz6 _).grown hg8 (by simp; omega) (fun j hj => (ho6.lt j hj).1)
        have hko := keepO_app ho6 hg8
        have D8 := Lib.hid (dk_keepO D6.out hko (by decide) (by decide) (by decide))
        have G8 := Lib.hid (lg_keepO G6.out hko (by decide) (by decide) (by decide))
        have hlen : (its ++ [(K, b)]).length = i + 1 := by rw [List.length_append, ← show i = its.length from HI.out]; rfl
        have O8 : Hid (w8.ownsRow w.heap.size 3 1 v8 ((its ++ [(K, b)]).length + 1) (lensV (its ++ [(K, b)]))) := Lib.hid (by
          rw [lensV_snoc, hlen, show (frs (its ++ [(K, b)])).length = E from HEL.out]; exact ho8)
        have N8 : Hid (Dsk.DsN d5 100000 [102] (frs (its ++ [(K, b)])) (1 + (its ++ [(K, b)]).length)) := Lib.hid (by rw [hlen, show 1 + (i + 1) = 1 + i + 1 by omega, show i = its.length from HI.out]; exact N6.out)
        have HL8 := Lib.hid hlen
        clear ho8 hg8 hko ho6 G6 D6 N6 bw6 hlen hsz6
        go_wp2
        go_roundw
        case rel => exact ⟨d5, its ++ [(K, b)], by rw [show (its ++ [(K, b)]).length = i + 1 from HL8.out, show K = i + 1 from HKK.out], by rw [show (its ++ [(K, b)]).length = i + 1 from HL8.out]; omega, S6, D8, N8, G8, O8, bw8⟩
        case measure => first | (simp [intOf]; omega) | (have := show K = i + 1 from HKK.out; simp [intOf]; omega) | omega
    · have hni : i = n := by omega
      subst hni
      obtain ⟨K, hK⟩ : ∃ K, K = i + 1 := ⟨_, rfl⟩
      have hwK : IntKind.i64.wrap ((i : Int) + 1) = (K : Int) := by rw [hK]; push_cast; exact wrapi' _ (by omega)
      obtain ⟨k, hk, hki⟩ : ∃ k : Nat, a2 % (K : Int) = (k : Int) ∧ k ≤ i :=
        ⟨(a2 % (K : Int)).toNat, by have := Int.emod_nonneg a2 (b := (K : Int)) (by omega); omega, by have := Int.emod_lt_of_pos a2 (b := (K : Int)) (by omega); omega⟩
      have hpk := pick_any wr a2 (K : Int) B2.out.1 B2.out.2 (by omega) (by omega)
      rw [hk] at hpk
      have hil : i = its.length := HI.out
      obtain ⟨T, hT⟩ : ∃ T, T = (frs (its.take k)).length := ⟨_, rfl⟩
      have hTs : T ≤ 2508 := by have := frs_take_le its k; omega
      have cl : wr.cell? ⟨ge, k, none⟩ = some (.int .i64 (T : Int)) := by
        have := hO.cells (g := ge) rfl k _ (lensV_get its k (by omega))
        rw [Addr.add_lit, Nat.zero_add, ← hT] at this
        exact this
      have hkE : (k : Int) < ((i + 1 : Nat) : Int) := by omega
      have hkE' : (k : Int) < (i : Int) + 1 := by omega
      have hk0 : (0 : Int) ≤ (k : Int) := by omega
      have hcut := cut_n wr.drew w.heap.size LB B d 100000 (1 + its.length) its (HD.out.below (bel_drew1 wr)) HN.out (by omega) (by omega) (HG.out.below (bel_drew1 wr)) (by omega) (by omega) k (by omega)
      rw [← hT] at hcut
      obtain ⟨m, hm⟩ : ∃ m, m = l3.take (100 : Int).toNat := ⟨_, rfl⟩
      obtain ⟨q, hq⟩ : ∃ q, q = m.length := ⟨_, rfl⟩
      have hql : q ≤ 100 := by rw [hq, hm, List.length_take]; show min 100 _ ≤ _; omega
      have hcj := cut_j HNu.out (by omega) (k := k) (by omega) (m := m) (by omega)
      obtain ⟨J, hJ⟩ : ∃ J, J = its.take k ++ [(77, m)] := ⟨_, rfl⟩
      rw [← hJ] at hcj
      have HCJ := Lib.hid hcj
      have HJJ := Lib.hid hJ
      have HM := Lib.hid hm
      have HQ := Lib.hid hq
      have HT := Lib.hid hT
      have hlk : (its.take k).length = k := by rw [List.length_take]; omega
      have HLK := Lib.hid hlk
      have HCUR := Lib.hid hcur
      have hae : ∀ X : World, X.heap[ge]? = wr.heap[ge]? → X.cell? ⟨ge, k, none⟩ = some (.int .i64 (T : Int)) := fun X e2 => (World.cell?_of_block e2).trans cl
      have HAE := Lib.hid hae
      have HOO := Lib.hid hO
      have hges : ge < wr.heap.size := blk_lt hcur
      clear hcj hJ hm hq hT hlk hcur hae hO hK hk hil hfl hii
      go_wp2_with fail
      refine hpk.mono ?_
      rintro e w1' ⟨rfl, rfl⟩
      clear hpk
      go_wp2_with fail
      go_region_held3 (fun w' => w'.cell? ⟨ge, k, none⟩ = some (.int .i64 (T : Int)))
        (first | exact HAE.out _ hL6 | exact HAE.out _ hL5 | exact HAE.out _ hL4 | exact HAE.out wr.drew rfl)
        (first
          | (go_at_call 40; refine hcut.mono ?_; rintro e w4 ⟨d4, rfl, h4, n4, g4, hb4, kg4⟩; have hbw4 : Below w.heap.size wr w4 := ⟨hb4.os, hb4.tape, hb4.output, hb4.size, hb4.block⟩; have bw4 := hb.trans hbw4; have hL4 : w4.heap[ge]? = wr.heap[ge]? := kg4 ge _ _ _ HCUR.out (by decide) (by decide) (by decide) (by decide); have hc4 := count_any w4 _ LB B _ _ g4; rw [recsAt_length, show (its.take k).length = k from HLK.out] at hc4; have hl4 := length_any w4 _ LB B _ _ g4 (by rw [recsAt_length, show (its.take k).length = k from HLK.out]; omega); rw [lenOf_recs, ← show T = _ from HT.out] at hl4; have hfew := few_any w4 s3 n3 c3 100 l3 (rds_kp G3.out.rds bw4) G3.out.le G3.out.none (by have := G3.out.reach; omega) (by omega) (by omega); rw [← show m = _ from HM.out] at hfew; unfold Fresh at hfew; rw [← show q = _ from HQ.out] at hfew)
          | (go_at_call 41; refine hc4.mono ?_; rintro e w5 ⟨rfl, hh⟩; obtain rfl := hh.symm)
          | (go_at_call 39; refine hl4.mono ?_; rintro e w5 ⟨rfl, hh⟩; obtain rfl := hh.symm)
          | (go_at_call 12; refine hfew.mono ?_; rintro e w5 ⟨am, cm, rfl, hom, hb5⟩; have hL5 := (hb5.block ge (Nat.lt_of_lt_of_le hges hbw4.size)).trans hL4; have KB : Keeps w5 am q cm m := (by have := Keeps.of_own (l := m) (n := q) (by rw [← show q = m.length from HQ.out]; exact hom) (show q = m.length from HQ.out).symm; exact this); have hadd := add_n w5 w.heap.size LB B d4 100000 _ (its.take k) (h4.below hb5) n4 (by have := show i = its.length from HI.out; omega) (g4.below hb5) (by rw [show (its.take k).length = k from HLK.out]; omega) 77 (by omega) am q cm m KB (by omega) (by rw [← show T = _ from HT.out]; omega) (by omega); rw [show ((77 : Nat) : Int) = 77 from rfl, ← show J = _ from HJJ.out] at hadd)
          | (go_at_call 38; refine hadd.mono ?_; rintro e w6 ⟨d6, rfl, h6, n6, g6, hb6, kg6⟩; have hL6 := (kg6 ge _ _ _ (hL5.trans HCUR.out) (by decide) (by decide) (by decide) (by decide)).trans hL5))
      all_goals
        have bw6 := (bw4.trans (hb5.mono bw4.size)).trans hb6
        have O6 := Lib.hid (own_ng (own_bel (own_ng (own_bel HOO.out (bel_drew1 wr)) kg4 (by decide) (by decide) (by decide) (by decide)) hb5) kg6 (by decide) (by decide) (by decide) (by decide))
        have D6 := Lib.hid h6
        have G6 := Lib.hid g6
        have N6 := Lib.hid (dsN_mono n6 (w' := 20) (by have := show i = its.length from HI.out; omega))
        clear h6 n6 g6 hb6 kg6 hL6 hL5 hL4 hfew hadd hc4 hl4 KB hom hb5 h4 n4 g4 hb4 kg4 hbw4 bw4 HAE HCUR HOO hcut cl HD HN HG
        go_wp2_with fail
        go_loopw [14] (fun iv wr => ∃ j : Nat, j ≤ k + 1 ∧ iv = .int .i64 (j : Int) ∧ Below w6.heap.size w6 wr) (fun iv _ => k + 1 - (intOf iv).toNat)
        case atStart => exact ⟨0, by omega, rfl, Below.refl _ _⟩
        case round =>
          obtain ⟨j, hjk, rfl, hb8⟩ := hrel
          have G8 := G6.out.below hb8
          have hrl : (recsAt 0 J).length ≤ 1048576 := by rw [recsAt_length, HCJ.out.len]; omega
          by_cases hj : j ≤ k
          · have e0 : decide ((j : Int) ≤ (k : Int)) = true := decide_eq_true (by omega)
            have e0' : decide (j ≤ k) = true := decide_eq_true hj
            have hjw := wrapi' ((j : Int) + 1) (by omega)
            by_cases hjk' : j < k
            · obtain ⟨bj, hbj, hbl⟩ := HCJ.out.low j hjk'
              obtain ⟨⟨xk, xb, xf⟩, hrx, hk1, hxb, _⟩ := recsAt_get _ 0 j _ hbj
              replace hk1 : xk = j + 1 := hk1
              replace hxb : xb = bj := hxb
              subst hxb
              have e1 : decide ((j : Int) < (k : Int)) = true := decide_eq_true (by omega)
              have e1' : decide (j < k) = true := decide_eq_true hjk'
              have e2 : ((j : Int) == (k : Int)) = false := beq_eq_false_iff_ne.2 (by omega)
              have e2' : (j == k) = false := beq_eq_false_iff_ne.2 (by omega)
              have hjw2 : IntKind.i64.wrap (1 + (j : Int)) = (xk : Int) := by rw [hk1]; push_cast; rw [Int.add_comm]; exact hjw
              have hrec := record_any wr _ LB B _ _ G8 j _ hrx hrl (by show xb.length ≤ _; omega)
              clear hbj hrx hk1 G8
              go_wp2_with fail
              refine hrec.mono ?_
              rintro e w9 ⟨a9, c9, rfl, ho9, hb9⟩
              have b9 := hb8.trans (hb9.mono hb8.size)
              clear hrec ho9 hb9
              go_wp2
              go_roundw
              case rel => exact ⟨j + 1, by omega, by push_cast; rfl, b9⟩
              case measure => first | (simp [intOf]; omega) | (simp [intOf]; done) | (simp only [intOf]; omega) | omega
            · obtain rfl : j = k := by omega
              obtain ⟨⟨xk, xb, xf⟩, hrx, hk1, hxb, _⟩ := recsAt_get _ 0 j _ HCJ.out.top
              replace hk1 : xk = 77 := hk1
              replace hxb : xb = m := hxb
              subst hk1
              subst hxb
              have hrec := record_any wr _ LB B _ _ G8 j _ hrx hrl (by show xb.length ≤ _; rw [← show q = _ from HQ.out]; omega)
              rw [show (((⟨77, xb, xf⟩ : Rec).kind : Nat) : Int) = 77 from rfl] at hrec
              clear hrx G8
              go_wp2_with fail
              refine hrec.mono ?_
              rintro e w9 ⟨a9, c9, rfl, ho9, hb9⟩
              have b9 := hb8.trans (hb9.mono hb8.size)
              clear hrec ho9 hb9
              go_wp2
              go_roundw
              case rel => exact ⟨j + 1, by omega, by push_cast; rfl, b9⟩
              case measure => first | (simp [intOf]; omega) | (simp [intOf]; done) | (simp only [intOf]; omega) | omega
          · have e0 : decide ((j : Int) ≤ (k : Int)) = false := decide_eq_false (by omega)
            have e0' : decide (j ≤ k) = false := decide_eq_false hj
            obtain ⟨L, hL⟩ : ∃ L, L = (frs J).length := ⟨_, rfl⟩
            have hLs : L ≤ 4000 := by rw [hL]; exact HCJ.out.size
            have hl8 := length_any wr _ LB B _ _ G8 hrl
            rw [lenOf_recs, ← hL] at hl8
            have hop := open_n wr w.heap.size B d6 100000 20 (frs J) (D6.out.below hb8) N6.out (by omega) L J HCJ.out.ok (by omega) (by rw [hL, List.take_length])
            obtain ⟨K2, hK2⟩ : ∃ K2, K2 = k + 1 := ⟨_, rfl⟩
            have hw2 : IntKind.i64.wrap ((k : Int) + 1) = (K2 : Int) := by rw [hK2]; push_cast; exact wrapi' _ (by omega)
            have O8 := Lib.hid (own_bel O6.out hb8)
            have bw8 := bw6.trans (hb8.mono bw6.size)
            have HK2 := Lib.hid hK2
            clear hL hK2 G8 hb8
            go_wp2_with fail
            refine hl8.mono ?_
            rintro e w7 ⟨rfl, rfl⟩
            clear hl8
            go_wp2_with fail
            refine hop.mono ?_
            rintro e w9 ⟨LB9, d9, rfl, h9, n9, g9, hb9, kt9⟩
            have bw9 := bw8.trans hb9
            have O9 := Lib.hid (own_nd O8.out kt9 (by decide) (by decide))
            have hc9 := count_any w9 _ LB9 B _ _ g9
            rw [recsAt_length, HCJ.out.len, ← show K2 = k + 1 from HK2.out] at hc9
            have D9 := Lib.hid h9
            have N9 := Lib.hid n9
            clear hop hb9 kt9 h9 n9 g9
            go_wp2_with fail
            refine hc9.mono ?_
            rintro e w7 ⟨rfl, rfl⟩
            clear hc9
            go_wp2_with fail
            go_loopw [20] (fun iv wr => ∃ (j : Nat) (d : Dsk.Dk), j ≤ k + 1 ∧ iv = .int .i64 ((j : Int) - 1) ∧ Hid (IsDk wr w.heap.size B d) ∧ Hid (Dsk.DsN d 100000 [102] (frs (J.take j)) (60 - j)) ∧ Hid (wr.ownsRow w.heap.size 3 1 (.slice (some ⟨ge, 0, none⟩) (i + 1) ce) (i + 1) (lensV its)) ∧ Below w.heap.size w wr) (fun iv _ => (intOf iv + 1).toNat)
            case atStart => exact ⟨k + 1, d9, Nat.le_refl _, by push_cast; rw [Int.add_sub_cancel], D9, Lib.hid (dsN_mono (by rw [List.take_of_length_le (by rw [HCJ.out.len]; omega)]; exact N9.out) (by omega)), O9, bw9⟩
            case round =>
              clear D9 N9 O9 bw9 bw8 O8
              obtain ⟨j, d, hjk, rfl, HD, HN, HO, hb⟩ := hrel
              by_cases hj0 : j = 0
              · subst hj0
                rw [show ((0 : Nat) : Int) - 1 = -1 from rfl]
                go_wp2
                go_ret
                exact ⟨rfl, hb⟩
              · obtain ⟨t, rfl⟩ : ∃ t, j = t + 1 := ⟨j - 1, by omega⟩
                rw [show ((t + 1 : Nat) : Int) - 1 = (t : Int) by push_cast; rw [Int.add_sub_cancel]]
                have htk : t ≤ k := by omega
                have e3 : decide ((t : Int) ≥ 0) = true := decide_eq_true (by omega)
                have e4 : decide (0 ≤ (t : Int)) = true := decide_eq_true (by omega)
                have htE : (t : Int) < ((i + 1 : Nat) : Int) := by omega
                have htE' : (t : Int) < (i : Int) + 1 := by omega
                have ht0 : (0 : Int) ≤ (t : Int) := by omega
                have htw := wrapi' ((t : Int) - 1) (by omega)
                obtain ⟨L2, hL2⟩ : ∃ L2, L2 = (frs (J.take t)).length := ⟨_, rfl⟩
                have hjt : (J.take (t + 1)).take t = J.take t := by rw [List.take_take, Nat.min_eq_left (by omega)]
                have hle := frs_take_le (J.take (t + 1)) t
                have htk2 := frs_take (J.take (t + 1)) t
                rw [hjt, ← hL2] at hle htk2
                have cl : wr.cell? ⟨ge, t, none⟩ = some (.int .i64 (L2 : Int)) := by
                  have := HO.out.cells (g := ge) rfl t _ (lensV_get its t (by have := show i = its.length from HI.out; omega))
                  rw [Addr.add_lit, Nat.zero_add, ← HCJ.out.take t htk, ← hL2] at this
                  exact this
                have hop := open_n wr w.heap.size B d 100000 (60 - (t + 1)) _ HD.out HN.out (by omega) L2 (J.take t) (fun p hp => HCJ.out.ok p (List.mem_of_mem_take hp)) hle htk2
                have hjl : (J.take t).length = t := by rw [List.length_take, HCJ.out.len]; omega
                have HJL := Lib.hid hjl
                clear hjt hle htk2 hL2 hjl
                go_wp2_with fail
                refine hop.mono ?_
                rintro e w9 ⟨LB9, d9, rfl, h9, n9, g9, hb9, kt9⟩
                have bw9 := hb.trans hb9
                have O9 := Lib.hid (own_nd HO.out kt9 (by decide) (by decide))
                have hc9 := count_any w9 _ LB9 B _ _ g9
                rw [recsAt_length, show (J.take t).length = t from HJL.out] at hc9
                have D9 := Lib.hid h9
                have N9 : Hid (Dsk.DsN d9 100000 [102] (frs (J.take t)) (60 - t)) := Lib.hid (dsN_mono n9 (by omega))
                clear hop hb9 kt9 h9 n9 g9
                go_wp2_with fail
                refine hc9.mono ?_
                rintro e w7 ⟨rfl, rfl⟩
                clear hc9
                go_wp2
                go_roundw
                case rel => exact ⟨t, d9, by omega, rfl, D9, N9, O9, bw9⟩
                case measure => first | (simp [intOf]; omega) | (simp [intOf]; done) | (simp only [intOf]; omega) | omega
end Go.Proofs.Ytjdadbpekaoijaa
