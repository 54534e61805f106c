/- LogTorn: what it comes to. -/
import Derived.Test.YtjdadbpekaoijaaLogPl2
import Derived.Test.YtjdadbpekaoijaaDiskOrder
import Derived.Deep.QuietTactic
import Derived.BigQuiet
namespace Go.Proofs.Ytjdadbpekaoijaa
open Go.RowKit Go.Tap Go.Maps
set_option linter.unusedVariables false

/-- No block has turned but rows of one type. -/
def KeepO (e : TypeId) (w w' : World) : Prop := ∀ (k : Nat) (o : Obj), w.heap[k]? = some o → (∀ xs fr, o ≠ .cells xs e fr) → w'.heap[k]? = w.heap[k]?
theorem KeepO.ku {e : TypeId} {w w' : World} (h : KeepO e w w') (h1 : e ≠ 5) : KeepU w w' := fun k xs fr hk => h k _ hk (fun xs fr e' => by cases e'; exact h1 rfl)
theorem dk_keepO {e : TypeId} {w w' : World} {lo B : Nat} {d : Dsk.Dk} (h : IsDk w lo B d) (hk : KeepO e w w') (h1 : e ≠ 5) (h2 : e ≠ 83) (h3 : e ≠ 89) : IsDk w' lo B d := by
  obtain ⟨bd, bn, pv, q1, q2⟩ := h
  refine ⟨bd, bn, pv, q1.stay (hk.ku h1) ?_, q2⟩
  rintro k (rfl | rfl | rfl | e')
  · exact hk _ _ q1.blk (fun xs fr e' => by cases e'; exact h2 rfl)
  · obtain ⟨es, cl, hb⟩ := q1.done.blk; exact hk _ _ hb (fun xs fr e' => by cases e')
  · obtain ⟨es, cl, hb⟩ := q1.now.blk; exact hk _ _ hb (fun xs fr e' => by cases e')
  · obtain ⟨xs, ho⟩ := q1.pend.own
    rcases ho.2 with ⟨rfl, _⟩ | ⟨g, cap, cur, rfl, _, hg, _⟩
    · simp [Value.ownBlock] at e'
    · simp [Value.ownBlock] at e'
      subst e'
      exact hk _ _ hg (fun xs fr e' => by cases e'; exact h3 rfl)
theorem lg_keepO {e : TypeId} {w w' : World} {lo LB B : Nat} {nm : Dsk.Name} {l : List Rec} (h : LogIs w lo LB B nm l) (hk : KeepO e w w') (h1 : e ≠ 5) (h2 : e ≠ 94) (h3 : e ≠ 101) : LogIs w' lo LB B nm l := by
  obtain ⟨rv, q1, q2, q3⟩ := h
  refine ⟨rv, (hk _ _ q1 (fun xs fr e' => by cases e'; exact h2 rfl)).trans q1, q2, q3.stay (hk.ku h1) (fun k e' => ?_)⟩
  obtain ⟨ps, _, _, h4⟩ := q3
  obtain ⟨a, c, _, _, _, h5⟩ := h4.form
  obtain ⟨_, _, cur, hc⟩ := h5 k e'
  exact hk _ _ hc (fun xs fr e' => by cases e'; exact h3 rfl)
/-- One appended to a row: nothing else turns. -/
theorem keepO_app {e lo n : Nat} {w w' : World} {v : Value} {xs : List Value} {r : Array Value} (ho : w.ownsRow lo e 1 v n xs) (hg : (w.alloc (.cells r e)).grownBy w' v.ownBlock) : KeepO e w w' := fun k o hk hno => by
  have hlt := blk_lt hk
  refine (hg.block k (by simp; omega) (fun e' => ?_)).trans ((MapKept.heap_alloc w _).2 k hlt)
  rcases ho.2 with ⟨rfl, _⟩ | ⟨g, cap, cur, rfl, _, hgc, _⟩
  · simp [Value.ownBlock] at e'
  · simp [Value.ownBlock] at e'
    subst e'
    rw [hgc] at hk
    cases hk
    exact hno _ _ rfl
theorem infoS : (Try.prog.info? 9).map (fun i => (i.zero, i.size, i.bytes)) = some (some (.string ⟨#[]⟩), 1, 16) := by kernel_rfl
def its1 (k : Nat) (bs : List (List UInt8)) : List (Nat × List UInt8) := bs.map fun b => (k, b)
theorem its1_snoc (k : Nat) (bs : List (List UInt8)) (b : List UInt8) : its1 k (bs ++ [b]) = its1 k bs ++ [(k, b)] := by simp [its1]
theorem its1_ok {k : Nat} (hk : 1 ≤ k ∧ k ≤ 255) {bs : List (List UInt8)} (h : ∀ b ∈ bs, b.length ≤ 100) : ∀ p ∈ its1 k bs, Ok1 p := fun p hp => by
  obtain ⟨b, hb, rfl⟩ := List.mem_map.1 hp
  exact ⟨hk, by have := h b hb; show b.length ≤ _; omega⟩
theorem frs_its : ∀ (k : Nat) (bs : List (List UInt8)), frs (its1 k bs) = (bs.map (frm (k : Int))).flatten
  | k, [] => rfl
  | k, b :: r => by
    have := frs_its k r
    simp only [frs, its1, List.map_cons, List.flatMap_cons, List.flatten_cons] at this ⊢
    rw [this]
theorem frs_app (a b : List (Nat × List UInt8)) : frs (a ++ b) = frs a ++ frs b := by simp [frs]
theorem frs_its_le (k : Nat) : ∀ (bs : List (List UInt8)), (∀ b ∈ bs, b.length ≤ 100) → (frs (its1 k bs)).length ≤ 109 * bs.length
  | [], _ => Nat.zero_le _
  | b :: r, h => by
    have h1 := frs_its_le k r (fun c hc => h c (List.mem_cons_of_mem _ hc))
    have h2 := h b (List.mem_cons_self ..)
    have e : frs (its1 k (b :: r)) = frm (k : Int) b ++ frs (its1 k r) := by simp [frs, its1]
    rw [e, List.length_append, frm_length, List.length_cons]; omega
theorem after_take (c0 : List UInt8) (L : List (List UInt8)) (k : Nat) (part : Int) : (Dsk.after c0 L k part).take c0.length = c0 ∧ c0.length ≤ (Dsk.after c0 L k part).length := by
  unfold Dsk.after Dsk.cont
  split
  · exact ⟨List.take_left, by rw [List.length_append]; omega⟩
  · rw [List.append_assoc]; exact ⟨List.take_left, by rw [List.length_append]; omega⟩
theorem dsP_mono {d : Dsk.Dk} {room w w' : Nat} {s : Dsk.Name} {c0 : List UInt8} {L : List (List UInt8)} (h : Dsk.DsP d room s c0 L w) (hw : w ≤ w') : Dsk.DsP d room s c0 L w' := ⟨⟨h.n.room, h.n.dead, h.n.fuse, h.n.now, Nat.le_trans h.n.works hw⟩, h.done, h.pend⟩
def strs (bs : List (List UInt8)) : List Value := bs.map fun b => .string (str b)
set_option maxHeartbeats 16000000 in
set_option maxRecDepth 100000 in
theorem logTorn_walk (w : World) (s1 : Option Addr) (n1 c1 : Nat) (xs1 : List SlD) (g1 : ArgBB 140737488351232 w s1 n1 c1 xs1) (s2 : Option Addr) (n2 c2 : Nat) (xs2 : List SlD) (g2 : ArgBB 140737488351232 w s2 n2 c2 xs2)
    (a3 : Int) (b3 : -9223372036854775808 ≤ a3 ∧ a3 ≤ 9223372036854775807) (a4 : Int) (b4 : -9223372036854775808 ≤ a4 ∧ a4 ≤ 9223372036854775807) :
    Calls Try.prog 8 #[.slice s1 n1 c1, .slice s2 n2 c2, .int .i64 a3, .int .i64 a4] w fun e w' => e = .returned (.bool true) ∧ Below w.heap.size w w' := by
  obtain ⟨i0, hi, hz0, hz1, hz2'⟩ := info_parts infoS
  have hxl1 := g1.len
  have hxl2 := g2.len
  have G1 := Lib.hid g1
  have G2 := Lib.hid g2
  have kc := Lib.hid (fun (w : World) (C : Array Value) (n c : Nat) => Lib.run_convert_bytes_const (P := Try.prog) w 25 5 C n c Try.underlying25 Try.underlying5)
  clear g1 g2 b3 b4
  go_enter Try.func8, Try.ntmps8
  go_wp2_with fail
  refine (new100000 w).mono ?_
  rintro e w1 ⟨B, rfl, h1, hb1⟩
  go_wp2_with fail
  refine (known7 w1).mono ?_
  rintro e w2 ⟨rfl, hb2⟩
  have bw2 := hb1.trans (hb2.mono hb1.size)
  have ho1 := open_n w2 w.heap.size B _ 100000 0 [] (h1.below hb2) (Dsk.dsN_new 100000 [102]) (by omega) 0 [] (by simp) (Nat.le_refl _) rfl
  rw [show ((0 : Nat) : Int) = 0 from rfl] at ho1
  clear h1 hb1 hb2
  go_wp2_with fail
  refine ho1.mono ?_
  rintro e w3 ⟨LB, d3, rfl, h3, nd3, lg3, hb3, _⟩
  have bw3 := bw2.trans hb3
  clear ho1 hb3 bw2
  go_wp2_with fail
  go_loopw [12, 13] (fun wv iv wr => ∃ (d : Dsk.Dk) (bs : List (List UInt8)), iv = .int .i64 (bs.length : Int) ∧ bs.length ≤ n1 ∧ bs.length ≤ 10 ∧ Hid (∀ b ∈ bs, b.length ≤ 100) ∧ Hid (IsDk wr w.heap.size B d) ∧ Hid (Dsk.DsN d 100000 [102] (frs (its1 1 bs)) (1 + bs.length)) ∧ Hid (LogIs wr w.heap.size LB B [102] (recsAt 0 (its1 1 bs))) ∧ Hid (wr.ownsRow w.heap.size 9 1 wv bs.length (strs bs)) ∧ Below w.heap.size w wr) (fun _ iv _ => n1 - (intOf iv).toNat)
  case atStart => exact ⟨d3, [], rfl, Nat.zero_le _, Nat.zero_le _, fun b hb => by simp at hb, h3, nd3, lg3, World.ownsRow_nil _ _ _ _, bw3⟩
  case round =>
    obtain ⟨d, bs, rfl, hin, hi10, HSm, HD, HN, HG, HO, hb⟩ := hrel
    obtain ⟨i, hii⟩ : ∃ i, i = bs.length := ⟨_, rfl⟩
    rw [← hii] at hin hi10 ⊢
    have HI := Lib.hid hii
    clear hii
    by_cases hgo : i < n1 ∧ i < 10
    · have t0 : decide ((i : Int) < (n1 : Int)) = true := decide_eq_true (by omega)
      have t0' : decide (i < n1) = true := decide_eq_true hgo.1
      have t1 : decide ((i : Int) < 10) = true := decide_eq_true (by omega)
      have t1' : decide (i < 10) = true := decide_eq_true hgo.2
      have hx : xs1[i]? = some (xs1[i]'(by omega)) := List.getElem?_eq_getElem _
      generalize xs1[i]'(by omega) = x at hx
      obtain ⟨b0, o0, rfl, hat⟩ := G1.out.at_ (by omega)
      obtain ⟨hcx, hax⟩ := hat i x hx
      rw [Nat.mul_one] at hcx
      have hcx' : wr.cell? ⟨b0, o0 + i, none⟩ = some (.slice x.a x.n x.c) := (World.cell?_of_block (hb.block b0 (World.block_lt_of_cell? w _ hcx))).trans hcx
      have hrx := rds_kp hax.rds hb
      have hle := hax.le
      have hno := hax.none
      have hre : x.c ≤ 140737488355328 := by have := hax.reach; omega
      have hiw := wrapi' ((i : Int) + 1) (by omega)
      clear hat hcx hax hx
      go_wp2_with fail
      refine (few_any wr x.a x.n x.c 100 x.l hrx hle hno hre (by omega) (by omega)).mono ?_
      rintro e w4 ⟨ab, cb, rfl, hob, hb4⟩
      obtain ⟨b, hbb⟩ : ∃ b, b = x.l.take (100 : Int).toNat := ⟨_, rfl⟩
      rw [← hbb] at hob ⊢
      have hbl : b.length ≤ 100 := by rw [hbb, List.length_take]; show min 100 _ ≤ _; omega
      have bw4 := hb.trans (hb4.mono hb.size)
      have KB := Keeps.of_own hob rfl
      have hfl := frs_its_le 1 bs HSm.out
      have hbi : bs.length = i := (show i = bs.length from HI.out).symm
      have hadd := add_n w4 w.heap.size LB B d 100000 (1 + bs.length) (its1 1 bs) (HD.out.below hb4) HN.out (by omega) (HG.out.below hb4) (by simp [its1]; omega) 1 (by omega) ab b.length cb b KB (by omega) (by omega) (by omega)
      rw [show ((1 : Nat) : Int) = 1 from rfl] at hadd
      have HO4 := Lib.hid (own_bel HO.out hb4)
      clear hbb hob hrx hb4 hfl HO HD HG HN
      go_wp2_with fail
      refine hadd.mono ?_
      rintro e w5 ⟨d5, rfl, h5, n5, g5, hb5, kg5⟩
      have bw5 := bw4.trans hb5
      have hcv := convB w5 ab b.length cb b (KB.stay kg5.ku).rds
      have ho5 := own_ng HO4.out kg5 (by decide) (by decide) (by decide) (by decide)
      have H5 := Lib.hid h5
      have N5 := Lib.hid n5
      have L5 := Lib.hid g5
      have hsz5 := bw5.size
      rw [hbi] at ho5
      clear h5 n5 g5 hadd hb5 kg5 KB HO4 bw4 hbi
      go_wp2_with (at_builtin; refine wpList_append_one _ rfl (.tmp 63) (.tmp 66) 61 rfl w.heap.size 9 i0 _ 1 16 Try.underlying61 hi hz0 hz1 hz2' rfl (by omega) _ i (strs bs) rfl (ho5.alloc _) w5.heap.size 1 #[.string (str b)] 9 rfl (heap_alloc_new w5 _) rfl (by simp [Value.oneCell']) (by omega) (by omega) (by simp; omega) ?_)
      intro v6 w6 ho6 hg6
      have bw6 : Below w.heap.size w w6 := (bw5.alloc hsz5 _).grown hg6 (by simp; omega) (fun j hj => (ho5.lt j hj).1)
      have hko := keepO_app ho5 hg6
      have D6 := Lib.hid (dk_keepO H5.out hko (by decide) (by decide) (by decide))
      have G6 := Lib.hid (lg_keepO L5.out hko (by decide) (by decide) (by decide))
      have hbi : i = bs.length := HI.out
      have O6 : Hid (w6.ownsRow w.heap.size 9 1 v6 (bs ++ [b]).length (strs (bs ++ [b]))) := Lib.hid (by
        have e1 : strs (bs ++ [b]) = strs bs ++ [.string (str b)] := by simp [strs]
        rw [e1, List.length_append, ← hbi]; exact ho6)
      have S6 : Hid (∀ c ∈ bs ++ [b], c.length ≤ 100) := Lib.hid (fun c hc => by
        rcases List.mem_append.1 hc with q | q
        · exact HSm.out c q
        · simp only [List.mem_singleton] at q; subst q; exact hbl)
      have hlen6 : (bs ++ [b]).length = i + 1 := by rw [List.length_append, ← hbi]; rfl
      have N6 : Hid (Dsk.DsN d5 100000 [102] (frs (its1 1 (bs ++ [b]))) (1 + (bs ++ [b]).length)) := Lib.hid (by rw [its1_snoc, hlen6, hbi]; exact N5.out)
      have G6' : Hid (LogIs w6 w.heap.size LB B [102] (recsAt 0 (its1 1 (bs ++ [b])))) := Lib.hid (by rw [its1_snoc]; exact G6.out)
      have HL6 := Lib.hid hlen6
      clear ho6 hg6 hko ho5 hbi G6 N5 H5 L5 bw5 hlen6
      go_wp2
      go_roundw
      case rel => exact ⟨d5, bs ++ [b], by rw [show (bs ++ [b]).length = i + 1 from HL6.out]; push_cast; rfl, by rw [show (bs ++ [b]).length = i + 1 from HL6.out]; omega, by rw [show (bs ++ [b]).length = i + 1 from HL6.out]; omega, S6, D6, N6, G6', O6, bw6⟩
      case measure => first | (simp [intOf]; omega) | omega
    · obtain ⟨t0, q0, q0', q1⟩ : ∃ t0 : Bool, decide ((i : Int) < (n1 : Int)) = t0 ∧ decide (i < n1) = t0 ∧ (t0 = true → decide ((i : Int) < 10) = false ∧ decide (i < 10) = false) := by
        by_cases h : i < n1
        · exact ⟨true, decide_eq_true (by omega), decide_eq_true h, fun _ => ⟨decide_eq_false (by omega), decide_eq_false (by omega)⟩⟩
        · exact ⟨false, decide_eq_false (by omega), decide_eq_false h, fun e => by cases e⟩
      clear hgo
      have hbi : bs.length = i := (show i = bs.length from HI.out).symm
      have hO := HO.out
      rw [hbi] at hO
      obtain ⟨aw, cw, rfl, _⟩ := ownsRow_slice hO
      have hNN := HN.out
      rw [hbi] at hNN
      obtain ⟨ds, hsy, nds⟩ := Dsk.dsP_sync hNN
      have hsync := sync_yes wr w.heap.size B d ds HD.out (by have := hNN.works; omega) hsy
      have hfl := frs_its_le 1 bs HSm.out
      rw [hbi] at hfl
      obtain ⟨c0, hc0⟩ : ∃ c0, c0 = frs (its1 1 bs) := ⟨_, rfl⟩
      rw [← hc0] at nds hfl
      have HC0 := Lib.hid hc0
      have HO' := Lib.hid hO
      clear hO hNN hsy HN HO hc0
      have rest : ∀ b : Bool, True := fun _ => trivial
      cases t0 <;> (try obtain ⟨q2, q2'⟩ := q1 rfl) <;> clear q1
      all_goals
        go_wp2_with fail
        refine hsync.mono ?_
        rintro e w4 ⟨rfl, h4, hb4, kt4⟩
        have bw4 := hb.trans hb4
        have g4 := HG.out.keep kt4
        have ho4 := own_nd HO'.out kt4 (by decide) (by decide)
        have hlen4 := length_any w4 _ LB B _ _ g4 (by rw [recsAt_length]; simp [its1]; omega)
        rw [lenOf_recs, ← show c0 = _ from HC0.out] at hlen4
        have H4 := Lib.hid h4
        have G4 := Lib.hid g4
        have O4 := Lib.hid ho4
        have ND := Lib.hid nds
        obtain ⟨N, hN⟩ : ∃ N, N = c0.length := ⟨_, rfl⟩
        rw [← hN] at hlen4 hfl
        have HNN := Lib.hid hN
        clear hsync hb4 kt4 h4 g4 ho4 nds hN
        go_wp2_with fail
        refine hlen4.mono ?_
        rintro e w' ⟨rfl, rfl⟩
        clear hlen4
        go_wp2_with fail
        go_loopw [16] (fun iv wr => ∃ (d : Dsk.Dk) (bt : List (List UInt8)), iv = .int .i64 (bt.length : Int) ∧ bt.length ≤ n2 ∧ bt.length ≤ 10 ∧ Hid (∀ b ∈ bt, b.length ≤ 100) ∧ Hid (IsDk wr w.heap.size B d) ∧ Hid (Dsk.DsP d 100000 [102] c0 (bt.map (frm (2 : Int))) (20 + bt.length)) ∧ Hid (LogIs wr w.heap.size LB B [102] (recsAt 0 (its1 1 bs ++ its1 2 bt))) ∧ Hid (wr.ownsRow w.heap.size 9 1 (.slice aw i cw) i (strs bs)) ∧ Below w.heap.size w wr) (fun iv _ => n2 - (intOf iv).toNat)
        case atStart => exact ⟨ds, [], rfl, Nat.zero_le _, Nat.zero_le _, fun b hb => by simp at hb, H4.out, dsP_mono ND.out (by have h10 := hi10; show _ ≤ 20 + 0; omega), by show LogIs _ _ _ _ _ (recsAt 0 (its1 1 bs ++ [])); rw [List.append_nil]; exact G4.out, O4.out, bw4⟩
        case round =>
          clear H4 G4 O4 ND HO' HG HD
          obtain ⟨d, bt, rfl, hin2, hi102, HSm2, HD, HP, HG, HO, hb⟩ := hrel
          obtain ⟨j, hjj⟩ : ∃ j, j = bt.length := ⟨_, rfl⟩
          rw [← hjj] at hin2 hi102 ⊢
          have HJ := Lib.hid hjj
          clear hjj
          have hits : c0 ++ (bt.map (frm (2 : Int))).flatten = frs (its1 1 bs ++ its1 2 bt) := by rw [frs_app, frs_its 2, ← show c0 = _ from HC0.out]; rfl
          have HITS := Lib.hid hits
          clear hits
          by_cases hgo : j < n2 ∧ j < 10
          · have u0 : decide ((j : Int) < (n2 : Int)) = true := decide_eq_true (by omega)
            have u0' : decide (j < n2) = true := decide_eq_true hgo.1
            have u1 : decide ((j : Int) < 10) = true := decide_eq_true (by omega)
            have u1' : decide (j < 10) = true := decide_eq_true hgo.2
            have hx : xs2[j]? = some (xs2[j]'(by omega)) := List.getElem?_eq_getElem _
            generalize xs2[j]'(by omega) = x at hx
            obtain ⟨b0, o0, rfl, hat⟩ := G2.out.at_ (by omega)
            obtain ⟨hcx, hax⟩ := hat j x hx
            rw [Nat.mul_one] at hcx
            have hcx' : wr.cell? ⟨b0, o0 + j, none⟩ = some (.slice x.a x.n x.c) := (World.cell?_of_block (hb.block b0 (World.block_lt_of_cell? w _ hcx))).trans hcx
            have hrx := rds_kp hax.rds hb
            have hle := hax.le
            have hno := hax.none
            have hre : x.c ≤ 140737488355328 := by have := hax.reach; omega
            have hiw := wrapi' ((j : Int) + 1) (by omega)
            clear hat hcx hax hx
            go_wp2_with fail
            refine (few_any wr x.a x.n x.c 100 x.l hrx hle hno hre (by omega) (by omega)).mono ?_
            rintro e w5 ⟨ab, cb, rfl, hob, hb5⟩
            obtain ⟨b, hbb⟩ : ∃ b, b = x.l.take (100 : Int).toNat := ⟨_, rfl⟩
            rw [← hbb] at hob ⊢
            have hbl : b.length ≤ 100 := by rw [hbb, List.length_take]; show min 100 _ ≤ _; omega
            have bw5 := hb.trans (hb5.mono hb.size)
            have KB := Keeps.of_own hob rfl
            have hfl2 := frs_its_le 2 bt HSm2.out
            have hbj : bt.length = j := (show j = bt.length from HJ.out).symm
            have hadd := add_p w5 w.heap.size LB B d 100000 (20 + bt.length) (its1 1 bs ++ its1 2 bt) c0 (bt.map (frm (2 : Int))) (HD.out.below hb5) HP.out HITS.out (by omega) (HG.out.below hb5) (by simp [its1]; omega) 2 (by omega) ab b.length cb b KB (by omega)
              (by rw [frs_app, List.length_append, ← show c0 = _ from HC0.out, ← show N = c0.length from HNN.out]; omega) (by omega)
            rw [show ((2 : Nat) : Int) = 2 from rfl] at hadd
            have HO5 := Lib.hid (own_bel HO.out hb5)
            clear hbb hob hrx hb5 hfl2 HO HD HG HP
            go_wp2_with fail
            refine hadd.mono ?_
            rintro e w6 ⟨d6, rfl, h6, n6, g6, hb6, kg6⟩
            have bw6 := bw5.trans hb6
            have O6 := Lib.hid (own_ng HO5.out kg6 (by decide) (by decide) (by decide) (by decide))
            have hlen6 : (bt ++ [b]).length = j + 1 := by rw [List.length_append, hbj]; rfl
            have S6 : Hid (∀ c ∈ bt ++ [b], c.length ≤ 100) := Lib.hid (fun c hc => by
              rcases List.mem_append.1 hc with q | q
              · exact HSm2.out c q
              · simp only [List.mem_singleton] at q; subst q; exact hbl)
            have N6 : Hid (Dsk.DsP d6 100000 [102] c0 ((bt ++ [b]).map (frm (2 : Int))) (20 + (bt ++ [b]).length)) := Lib.hid (by rw [List.map_append, hlen6, show 20 + (j + 1) = 20 + bt.length + 1 by omega]; exact n6)
            have G6 : Hid (LogIs w6 w.heap.size LB B [102] (recsAt 0 (its1 1 bs ++ its1 2 (bt ++ [b])))) := Lib.hid (by rw [its1_snoc, ← List.append_assoc]; exact g6)
            have D6 := Lib.hid h6
            have HL6 := Lib.hid hlen6
            clear h6 n6 g6 hadd hb6 kg6 KB HO5 bw5 hbj hlen6
            go_wp2
            go_roundw
            case rel => exact ⟨d6, bt ++ [b], by rw [show (bt ++ [b]).length = j + 1 from HL6.out]; push_cast; rfl, by rw [show (bt ++ [b]).length = j + 1 from HL6.out]; omega, by rw [show (bt ++ [b]).length = j + 1 from HL6.out]; omega, S6, D6, N6, G6, O6, bw6⟩
            case measure => first | (simp [intOf]; omega) | omega
          · obtain ⟨u0, v0, v0', v1⟩ : ∃ u0 : Bool, decide ((j : Int) < (n2 : Int)) = u0 ∧ decide (j < n2) = u0 ∧ (u0 = true → decide ((j : Int) < 10) = false ∧ decide (j < 10) = false) := by
              by_cases h : j < n2
              · exact ⟨true, decide_eq_true (by omega), decide_eq_true h, fun _ => ⟨decide_eq_false (by omega), decide_eq_false (by omega)⟩⟩
              · exact ⟨false, decide_eq_false (by omega), decide_eq_false h, fun e => by cases e⟩
            clear hgo
            have hbj : bt.length = j := (show j = bt.length from HJ.out).symm
            have hcr := crash_any wr w.heap.size B d HD.out a3 a4
            have HX := Lib.hid (Dsk.dsN_crash HP.out a3 a4)
            have hat := after_take c0 (bt.map (frm (2 : Int))) (a3 % (((bt.map (frm (2 : Int))).length : Int) + 1)).toNat a4
            obtain ⟨X, hX⟩ : ∃ X, X = Dsk.after c0 (bt.map (frm (2 : Int))) (a3 % (((bt.map (frm (2 : Int))).length : Int) + 1)).toNat a4 := ⟨_, rfl⟩
            rw [← hX] at hat
            have HX' : Hid (Dsk.DsN (d.crash a3 a4) 100000 [102] X (20 + bt.length)) := Lib.hid (by rw [hX]; exact HX.out)
            rw [← show N = c0.length from HNN.out] at hat
            have HAT := Lib.hid hat
            have hbs10 : bs.length ≤ 10 := by omega
            clear hX HX hat HITS HP HG
            cases u0 <;> (try obtain ⟨v2, v2'⟩ := v1 rfl) <;> clear v1
            all_goals
              go_wp2_with fail
              refine hcr.mono ?_
              rintro e w5 ⟨rfl, h5, hb5, kt5⟩
              have bw5 := hb.trans hb5
              have ho5 := own_nd HO.out kt5 (by decide) (by decide)
              have hop := open_n w5 w.heap.size B _ 100000 (20 + bt.length) X h5 HX'.out (by omega) N (its1 1 bs) (its1_ok (by omega) HSm.out) HAT.out.2 (by rw [HAT.out.1]; exact HC0.out)
              have HO5 := Lib.hid ho5
              clear hcr h5 hb5 kt5 ho5
              go_wp2_with fail
              refine hop.mono ?_
              rintro e w6 ⟨LB6, d6, rfl, h6, nd6, g6, hb6, kt6⟩
              have bw6 := bw5.trans hb6
              have O6 := Lib.hid (own_nd HO5.out kt6 (by decide) (by decide))
              have hc6 := count_any w6 _ LB6 B _ _ g6
              rw [recsAt_length, show (its1 1 bs).length = i by simp [its1]; exact (show i = bs.length from HI.out).symm] at hc6
              have hl6 := length_any w6 _ LB6 B _ _ g6 (by rw [recsAt_length]; simp [its1]; omega)
              rw [lenOf_recs, ← show c0 = _ from HC0.out, ← show N = c0.length from HNN.out] at hl6
              have hal : ∀ fr, Below w6.heap.size w6 (w6.alloc (.cells (bv [111, 110]).toArray 5 fr)) := fun fr => (Below.refl _ _).alloc (Nat.le_refl _) _
              have hadd := fun fr => add_n _ w.heap.size LB6 B d6 100000 _ (its1 1 bs) (h6.below (hal fr)) nd6 (by omega) (g6.below (hal fr)) (by simp [its1]; omega) 3 (by omega) _ 2 2 [111, 110] (keeps_lit w6 [111, 110] fr) (by omega) (by rw [← show c0 = _ from HC0.out, ← show N = c0.length from HNN.out]; omega) (by omega)
              simp only [show ((3 : Nat) : Int) = 3 from rfl] at hadd
              have bal := fun fr => bw6.trans ((hal fr).mono bw6.size)
              have oal := fun fr => own_bel O6.out (hal fr)
              have HADD := Lib.hid hadd
              have HBAL := Lib.hid bal
              have HOAL := Lib.hid oal
              have kcc := kc.out
              clear hop hb6 kt6 h6 nd6 g6 hadd bal oal hal
              go_wp2_with fail
              refine hc6.mono ?_
              rintro e w' ⟨rfl, rfl⟩
              clear hc6
              go_wp2_with fail
              refine hl6.mono ?_
              rintro e w'' ⟨rfl, rfl⟩
              clear hl6
              go_wp2_with fail
              refine (HADD.out _).mono ?_
              rintro e w7 ⟨d7, rfl, h7, nd7, g7, hb7, kg7⟩
              have bw7 := (HBAL.out _).trans hb7
              have O7 := Lib.hid (own_ng (HOAL.out _) kg7 (by decide) (by decide) (by decide) (by decide))
              have G7 := Lib.hid g7
              clear h7 nd7 g7 hb7 kg7 kcc HADD HBAL HOAL
              go_wp2_with fail
              go_loopw [19] (fun iv wr => ∃ q : Nat, q ≤ i ∧ iv = .int .i64 (q : Int) ∧ Below w7.heap.size w7 wr) (fun iv _ => i - (intOf iv).toNat)
              case atStart => exact ⟨0, Nat.zero_le _, rfl, Below.refl _ _⟩
              case round =>
                obtain ⟨q, hqi, rfl, hb8⟩ := hrel
                have G8 := G7.out.below hb8
                have O8 := own_bel O7.out hb8
                have bw8 := bw7.trans (hb8.mono bw7.size)
                have hil : (its1 1 bs).length = i := by simp [its1]; exact (show i = bs.length from HI.out).symm
                have hrl : (recsAt 0 (its1 1 bs ++ [(3, [111, 110])])).length ≤ 1048576 := by rw [recsAt_length, List.length_append, hil]; simp only [List.length_singleton]; omega
                by_cases hq : q < i
                · have e0 : decide ((q : Int) < (i : Int)) = true := decide_eq_true (by omega)
                  have e0' : decide (q < i) = true := decide_eq_true hq
                  have e1 : (q : Int) < (i : Int) := by omega
                  have hbq : bs[q]? = some (bs[q]'(by have := HI.out; omega)) := List.getElem?_eq_getElem _
                  generalize bs[q]'(by have := HI.out; omega) = x at hbq
                  have hget : (its1 1 bs ++ [(3, [111, 110])])[q]? = some (1, x) := by rw [List.getElem?_append_left (by omega)]; unfold its1; rw [List.getElem?_map, hbq]; rfl
                  obtain ⟨⟨xk, xb, xf⟩, hrx, hk1, hxb, _⟩ := recsAt_get _ 0 q _ hget
                  replace hk1 : xk = 1 := hk1
                  replace hxb : xb = x := hxb
                  subst hk1
                  subst hxb
                  have hxl : xb.length ≤ 1048576 := by have := HSm.out xb (List.mem_of_getElem? hbq); omega
                  have hrec := record_any wr _ LB6 B _ _ G8 q _ hrx hrl hxl
                  obtain ⟨ge, rfl, _, _⟩ := own_head O8 (by omega)
                  have hcell := O8.cells (g := ge) rfl q (.string (str xb)) (by unfold strs; rw [List.getElem?_map, hbq]; rfl)
                  rw [Addr.add_lit, Nat.zero_add] at hcell
                  have hqw := wrapi' ((q : Int) + 1) (by omega)
                  rw [show (((⟨1, xb, xf⟩ : Rec).kind : Nat) : Int) = 1 from rfl] at hrec
                  have hbd : (⟨1, xb, xf⟩ : Rec).body = xb := rfl
                  rw [hbd] at hrec
                  clear hget hrx G8 O8 hbq hbd
                  go_wp2_with fail
                  refine hrec.mono ?_
                  rintro e w9 ⟨a9, c9, rfl, ho9, hb9⟩
                  have hc9 : w9.cell? ⟨ge, q, none⟩ = some (.string (str xb)) := (World.cell?_of_block (hb9.block ge (World.block_lt_of_cell? wr _ hcell))).trans hcell
                  have r9 := Rds.of_own ho9 rfl
                  have cv9 := convB w9 a9 xb.length c9 xb r9
                  have cvn := fun k => convB (w9.drewN k) a9 xb.length c9 xb r9
                  have b9 := hb8.trans (hb9.mono hb8.size)
                  have hse := str_eq xb
                  have h10 : ((1 : Int) == 1) = true := by decide
                  clear hrec ho9 r9 hcell hb9
                  go_wp2_with fail
                  go_quiet (fail)
                  go_wp2
                  go_roundw
                  case rel => exact ⟨q + 1, by omega, by push_cast; rfl, bel_drewN b9 nq⟩
                  case measure => first | (simp [intOf]; omega) | omega
                · obtain rfl : q = i := by omega
                  have e0 : decide ((q : Int) < (q : Int)) = false := decide_eq_false (by omega)
                  have hget : (its1 1 bs ++ [(3, [111, 110])])[q]? = some (3, [111, 110]) := by rw [List.getElem?_append_right (by omega), hil, Nat.sub_self]; rfl
                  obtain ⟨⟨xk, xb, xf⟩, hrx, hk1, hxb, _⟩ := recsAt_get _ 0 q _ hget
                  replace hk1 : xk = 3 := hk1
                  replace hxb : xb = [111, 110] := hxb
                  subst hk1
                  subst hxb
                  have hrec := record_any wr _ LB6 B _ _ G8 q _ hrx hrl (by simp)
                  rw [show (((⟨3, [111, 110], xf⟩ : Rec).kind : Nat) : Int) = 3 from rfl, show (⟨3, [111, 110], xf⟩ : Rec).body = [111, 110] from rfl, show ([111, 110] : List UInt8).length = 2 from rfl] at hrec
                  have HG8 := Lib.hid G8
                  clear hget hrx G8 O8
                  go_wp2_with fail
                  refine hrec.mono ?_
                  rintro e w9 ⟨a9, c9, rfl, ho9, hb9⟩
                  have cv9 := convB w9 a9 2 c9 [111, 110] (Rds.of_own ho9 rfl)
                  have q0 : ((str [111, 110]).toList == [111, 110]) = true := by kernel_rfl
                  have b9 := bw8.trans (hb9.mono bw8.size)
                  have hl9 := length_any w9 _ LB6 B _ _ (HG8.out.below hb9) hrl
                  rw [lenOf_recs, show (frs (its1 1 bs ++ [(3, [111, 110])])).length = N + 11 by rw [frs_app, List.length_append, ← show c0 = _ from HC0.out, ← show N = c0.length from HNN.out]; simp [frs, frm_length]] at hl9
                  have hnw : IntKind.i64.wrap ((N : Int) + 11) = ((N + 11 : Nat) : Int) := by push_cast; exact wrapi' _ (by omega)
                  have HL9 := Lib.hid hl9
                  clear hrec ho9 hb9 hl9 HG8
                  go_wp2_with fail
                  refine HL9.out.mono ?_
                  rintro e w' ⟨rfl, rfl⟩
                  go_wp2
                  go_ret
                  exact ⟨rfl, b9⟩
end Go.Proofs.Ytjdadbpekaoijaa
