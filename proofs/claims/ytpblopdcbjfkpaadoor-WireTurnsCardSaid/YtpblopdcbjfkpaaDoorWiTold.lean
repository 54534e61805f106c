/- taprootlaw23.told: what it answers. -/
import Derived.Test.YtpblopdcbjfkpaaDoorWiAsk
import Derived.Test.YtpblopdcbjfkpaaDoorWiRdRp
import Derived.Deep.Cut
import Derived.Deep.CutRange
import Derived.Deep.CutBlock
namespace Go.Proofs.YtpblopdcbjfkpaaDoor
open Go.RowKit Go.Tap
set_option linter.unusedVariables false
set_option linter.unusedSimpArgs false
/-- told's state: the request in block b3, the reply so far in block b4. -/
structure ToSt (w3 : World) (b3 b4 : Nat) (sq kd : Int) (a : Option Addr) (n c : Nat) (wr : World) (li : List Wi.En) (v : Value) : Prop where
  t3 : wr.heap[b3]? = some (.cells #[.int .i64 sq, .int .i64 kd, .slice a n c] 50 (0, 0))
  t4 : wr.heap[b4]? = some (.cells #[.int .i64 sq, .int .i64 kd, .slice a n c, v] 55 (0, 0))
  own : OwnE wr w3.heap.size v li
  bel : Below w3.heap.size w3 wr
  lt : w3.heap.size ≤ b3 ∧ w3.heap.size ≤ b4 ∧ b3 ≠ b4
section
variable {w3 wr wr' : World} {b3 b4 : Nat} {sq kd : Int} {a : Option Addr} {n c : Nat} {li : List Wi.En} {v v' : Value} {x : Wi.En}
theorem ToSt.below (h : ToSt w3 b3 b4 sq kd a n c wr li v) (h2 : Below wr.heap.size wr wr') : ToSt w3 b3 b4 sq kd a n c wr' li v :=
  ⟨(h2.block _ (blk_lt h.t3)).trans h.t3, (h2.block _ (blk_lt h.t4)).trans h.t4, ownsRow_stay h.own (TStay.of_below h2 (fun _ => False)) (fun _ _ h => h), h.bel.trans (h2.mono h.bel.size), h.lt⟩
theorem ToSt.turn {g : Nat} (h : ToSt w3 b3 b4 sq kd a n c wr li v) (h2 : TStay (fun k => k = g) wr wr') (hg : w3.heap.size ≤ g) (h3 : g ≠ b3) (h4 : g ≠ b4) (h5 : ∀ k, v.ownBlock = some k → k ≠ g) : ToSt w3 b3 b4 sq kd a n c wr' li v :=
  ⟨(h2.block _ (blk_lt h.t3) (fun e => h3 e.symm)).trans h.t3, (h2.block _ (blk_lt h.t4) (fun e => h4 e.symm)).trans h.t4, ownsRow_stay h.own h2 (fun k hk => h5 k hk), Below.trans_stay h.bel h2 (Nat.le_refl _) (fun k hk e => by omega), h.lt⟩
theorem ToSt.app (h : ToSt w3 b3 b4 sq kd a n c wr li v) (ho : OwnE wr' w3.heap.size v' (li ++ [x])) (hg : wr.grownBy wr' v.ownBlock) :
    wr'.heap[b4]? = some (.cells #[.int .i64 sq, .int .i64 kd, .slice a n c, v] 55 (0, 0)) ∧ ToSt w3 b3 b4 sq kd a n c (wr'.setCell ⟨b4, 3, none⟩ v') (li ++ [x]) v' := by
  have hl := h.lt
  have n4 : v.ownBlock ≠ some b4 := own_ne' h.own h.t4 (by decide)
  have n3 : v.ownBlock ≠ some b3 := own_ne' h.own h.t3 (by decide)
  have e4 : wr'.heap[b4]? = some (.cells #[.int .i64 sq, .int .i64 kd, .slice a n c, v] 55 (0, 0)) := (hg.block _ (blk_lt h.t4) (fun e => n4 e.symm)).trans h.t4
  have e3 : wr'.heap[b3]? = some (.cells #[.int .i64 sq, .int .i64 kd, .slice a n c] 50 (0, 0)) := (hg.block _ (blk_lt h.t3) (fun e => n3 e.symm)).trans h.t3
  have hs : TStay (fun k => w3.heap.size ≤ k) wr wr' := (TStay.refl (fun k => w3.heap.size ≤ k) wr).grown hg (fun k hk => .inl (h.own.lt k hk).1)
  have hs2 : TStay (fun k => k = b4) wr' (wr'.setCell ⟨b4, 3, none⟩ v') := (TStay.refl (fun k => k = b4) _).setCell (p := ⟨b4, 3, none⟩) (.inl rfl) _
  have nn : v'.ownBlock ≠ some b4 := own_ne' ho e4 (by decide)
  refine ⟨e4, (hs2.block _ (blk_lt e3) hl.2.2).trans e3, heap_setCell_same _ b4 3 _ _ _ e4, ownsRow_stay ho hs2 (fun k hk e => nn (by rw [← e]; exact hk)), Below.trans_stay (Below.trans_stay h.bel hs (Nat.le_refl _) (fun k hk e => by omega)) hs2 (Nat.le_refl _) (fun k hk e => by omega), h.lt⟩
end
theorem bt_rp (s k : Int) (a : Option Addr) (n c : Nat) : Tryd.prog.built 55 [(0, .int .i64 s), (1, .int .i64 k), (2, .slice a n c)] = some #[.int .i64 s, .int .i64 k, .slice a n c, .slice none 0 0] := by kernel_rfl
theorem en_set0 (x : Wi.En) (n : Int) : (enC x).setIfInBounds 0 (.int .i64 n) = enC ⟨n, x.high, x.steps, x.hash⟩ := rfl
theorem en_set33 (x : Wi.En) (h : x.high.length = 32) (n : Int) : (enC x).setIfInBounds 33 (.int .i64 n) = enC ⟨x.status, x.high, n, x.hash⟩ := by
  apply Array.ext'
  have hl : ([Value.int .i64 x.status] ++ bv x.high).length = 33 := by simp [bv_length, h]
  have e : (enC x).toList = ([Value.int .i64 x.status] ++ bv x.high) ++ (Value.int .i64 x.steps :: bv x.hash) := by simp [enC]
  rw [Array.toList_setIfInBounds, e, List.set_append_right _ _ (by omega), hl]
  simp [enC]
theorem bt_one : Tryd.prog.built 33 [(0, .int .u8 1)] = some (hashC Wi.one32) := by kernel_rfl
theorem tdiv_in (z d : Int) (hd : 2 ≤ d) (h : Wi.i64ok z) : Wi.i64ok (z.tdiv d) := by
  obtain ⟨h1, h2⟩ := h
  have h3 : (z.tdiv d).natAbs = z.natAbs / d.natAbs := Int.natAbs_tdiv z d
  have h4 : z.natAbs / d.natAbs ≤ z.natAbs / 2 := Nat.div_le_div_left (by omega) (by omega)
  unfold Wi.i64ok
  omega
/-- An entry in a block of its own. -/
structure EnAt (w3 wr : World) (q3 eb : Nat) (v : Value) (x : Wi.En) : Prop where
  t : wr.heap[eb]? = some (.cells (enC x) 120 (0, 0))
  ok : x.ok
  n3 : eb ≠ q3
  n4 : eb ≠ q3 + 1
  le : w3.heap.size ≤ eb
  own : ∀ k, v.ownBlock = some k → k ≠ eb
theorem EnAt.turn {w3 wr wr' : World} {q3 eb : Nat} {v : Value} {x x' : Wi.En} (h : EnAt w3 wr q3 eb v x) (ht : wr'.heap[eb]? = some (.cells (enC x') 120 (0, 0))) (ho : x'.ok) : EnAt w3 wr' q3 eb v x' := ⟨ht, ho, h.n3, h.n4, h.le, h.own⟩
theorem EnAt.below {w3 wr wr' : World} {q3 eb : Nat} {v : Value} {x : Wi.En} (h : EnAt w3 wr q3 eb v x) (hb : Below wr.heap.size wr wr') : EnAt w3 wr' q3 eb v x := ⟨(hb.block _ (blk_lt h.t)).trans h.t, h.ok, h.n3, h.n4, h.le, h.own⟩
theorem EnAt.st {w3 wr wr' : World} {q3 eb : Nat} {v : Value} {x : Wi.En} {sq kd : Int} {a : Option Addr} {n c : Nat} {li : List Wi.En} (h : EnAt w3 wr q3 eb v x) (hs : ToSt w3 q3 (q3 + 1) sq kd a n c wr li v) (h2 : TStay (fun k => k = eb) wr wr') : ToSt w3 q3 (q3 + 1) sq kd a n c wr' li v := hs.turn h2 h.le h.n3 h.n4 h.own
theorem toldA_of (kd z s1 : Int) (h : s1 = if (decide (1 + z % 3 = 3) && decide (kd = 1)) = true then 2 else 1 + z % 3) :
    (s1 ≠ 1 → Wi.toldA kd z = ⟨s1, Wi.z32, 0, Wi.z32⟩) ∧ (s1 = 1 → Wi.toldA kd z = if kd = 2 then ⟨1, Hs.of (z.tdiv 180 % 60).toNat, z % 50, Hs.of (z.tdiv 3 % 60).toNat⟩ else ⟨1, Wi.z32, 0, Hs.of (z.tdiv 3 % 60).toNat⟩) := by
  have hz : z % 3 = 0 ∨ z % 3 = 1 ∨ z % 3 = 2 := by omega
  rcases hz with e | e | e
  · have : s1 = 1 := by rw [h, e]; rfl
    exact ⟨fun hn => absurd this hn, fun _ => by rw [Wi.toldA, if_pos e]⟩
  · have : s1 = 2 := by rw [h, e]; rfl
    refine ⟨fun _ => ?_, fun hn => by omega⟩
    rw [Wi.toldA, if_neg (by omega), if_neg (by omega), e, this]; rfl
  · by_cases hk : kd = 1
    · have : s1 = 2 := by rw [h, e, hk]; rfl
      refine ⟨fun _ => ?_, fun hn => by omega⟩
      rw [Wi.toldA, if_neg (by omega), if_pos ⟨e, hk⟩, this]
    · have : s1 = 3 := by rw [h, e, decide_eq_false hk, Bool.and_false]; rfl
      refine ⟨fun _ => ?_, fun hn => by omega⟩
      rw [Wi.toldA, if_neg (by omega), if_neg (by omega), e, this]; rfl
theorem rdz_cell {w : World} {b o n : Nat} {l : List Int} (h : RdZ w (some ⟨b, o, none⟩) n l) {k : Nat} {z : Int} (hz : l[k]? = some z) (hk : k < n) : w.cell? ⟨b, o + k, none⟩ = some (.int .i64 z) := by
  obtain ⟨b', o', e, _, hc⟩ := h.2.2 (by omega)
  simp only [Option.some.injEq, Addr.mk.injEq] at e
  obtain ⟨rfl, rfl, _⟩ := e
  exact hc k z hz
set_option maxHeartbeats 4000000 in
set_option maxRecDepth 100000 in
theorem told_any (w : World) (r : RawW) (h : ArgX w r) :
    Calls Tryd.prog 18 #[.agg r.cells.toArray] w fun e w' => ∃ a c a2 c2, e = .returned (.agg #[.int .i64 (Wi.askQ (rawOf r)).seq, .int .i64 (Wi.askQ (rawOf r)).kind, .slice a (Wi.askQ (rawOf r)).items.length c, .slice a2 (Wi.toldP (rawOf r)).ents.length c2]) ∧
      RdI w' a (Wi.askQ (rawOf r)).items.length (Wi.askQ (rawOf r)).items ∧ RdE w' a2 (Wi.toldP (rawOf r)).ents.length (Wi.toldP (rawOf r)).ents ∧ Below w.heap.size w w' := by
  obtain ⟨x, hx⟩ : ∃ x, x = rawOf r := ⟨_, rfl⟩
  obtain ⟨q, hq⟩ : ∃ q, q = Wi.askQ x := ⟨_, rfl⟩
  have hask := fun X (hb : Below w.heap.size w X) => ask_any X r (h.below hb)
  rw [← hx] at hask ⊢
  rw [← hq] at hask ⊢
  obtain ⟨sq, hsq⟩ : ∃ sq, sq = q.seq := ⟨_, rfl⟩
  obtain ⟨kd, hkd⟩ : ∃ kd, kd = q.kind := ⟨_, rfl⟩
  obtain ⟨N, hN⟩ : ∃ N, N = q.items.length := ⟨_, rfl⟩
  have hN18 : N ≤ 18 := by rw [hN, hq]; exact askQ_len x
  rw [← hsq, ← hkd, ← hN] at hask ⊢
  have HP : Hid ((Wi.toldP x).ents = Wi.toldL x kd N ++ if x.how.tmod 31 = 30 then [Wi.enU] else []) := Lib.hid (by rw [Wi.toldP, ← hq, ← hkd, ← hN])
  obtain ⟨P, hP⟩ : ∃ P, P = (Wi.toldP x).ents := ⟨_, rfl⟩
  rw [← hP] at HP ⊢
  have HX := Lib.hid (show x = _ from hx)
  have HXO : Hid x.ok := Lib.hid (by rw [hx]; exact h.raw)
  have HA := Lib.hid h
  have HASK := Lib.hid hask
  have HN18 := Lib.hid hN18
  have HQI : Hid (N = q.items.length) := Lib.hid hN
  obtain ⟨rc, hrc⟩ : ∃ rc, rc = r.cells.toArray := ⟨_, rfl⟩
  have hrc5 : rc = #[.int .i64 r.seq, .int .i64 r.kind, .int .i64 r.how, .slice r.l.a r.l.n r.l.c, .slice r.e.a r.e.n r.e.c] := hrc
  obtain ⟨W1, hW1⟩ : ∃ W1, W1 = (w.alloc (.cells rc 42)).alloc (.cells #[.int .i64 0, .int .i64 0, .slice none 0 0, .slice none 0 0] 55) := ⟨_, rfl⟩
  have b1 : Below w.heap.size w W1 := by rw [hW1]; exact ((Below.refl _ _).alloc (Nat.le_refl _) _).alloc (by simp) _
  have t0 : W1.heap[w.heap.size]? = some (.cells rc 42 (0, 0)) := by rw [hW1]; exact heap_alloc2_old _ _ _
  have t1 : W1.heap[w.heap.size + 1]? = some (.cells #[.int .i64 0, .int .i64 0, .slice none 0 0, .slice none 0 0] 55 (0, 0)) := by rw [hW1]; exact heap_alloc2_new _ _ _
  have B1 := Lib.hid b1
  have T0 := Lib.hid t0
  have T1 := Lib.hid t1
  have HRC := Lib.hid hrc5
  have hW1' : W1 = (w.alloc (.cells rc 42)).alloc (.cells #[.int .i64 0, .int .i64 0, .slice none 0 0, .slice none 0 0] 55) := hW1
  rw [← hrc] at hask ⊢
  have hak := hask W1 b1
  have SZ5 : Hid ((Tryd.prog.info? 42).map (·.size) = some rc.size) := Lib.hid (by rw [hrc5]; kernel_rfl)
  have PT : Hid (Part W1 w.heap.size 0 rc) := Lib.hid (Part.of_blk t0)
  clear hx hq hsq hkd hN hN18 hP h hask hrc hrc5 b1 t0 t1 hW1' HASK
  go_enter Tryd.func18, Tryd.ntmps18
  go_upto_region 1 with (fail)
  rw [← hW1]
  clear hW1
  go_wp2_with (first | (refine wpL_load ?hw 42 (.tmp 1) rfl w.heap.size 0 rfl rc _ PT.out Tryd.underlying42 rfl SZ5.out ?_; case hw => kernel_rfl))
  refine hak.mono ?_
  clear hak PT SZ5
  rintro e w3 ⟨a, c, rfl, i3, ab3, b3⟩
  have AB3 : Hid (∀ y, a = some y → y.block ≠ w.heap.size + 1) := Lib.hid (fun y hy => by have h1 := ab3 y hy; have h2 := blk_lt T1.out; omega)
  clear ab3
  have I3 := Lib.hid i3
  have B3 := Lib.hid (B1.out.trans (b3.mono B1.out.size))
  have T03 := Lib.hid ((b3.block _ (blk_lt T0.out)).trans T0.out)
  have T13 := Lib.hid ((b3.block _ (blk_lt T1.out)).trans T1.out)
  have A3 := Lib.hid (HA.out.below B3.out)
  have HLT : Hid (w.heap.size + 1 < w3.heap.size) := Lib.hid (blk_lt T13.out)
  obtain ⟨W5, hW5⟩ : ∃ W5, W5 = (w3.alloc (.cells #[.int .i64 sq, .int .i64 kd, .slice a N c] 50)).alloc (.cells #[.int .i64 sq, .int .i64 kd, .slice a N c, .slice none 0 0] 55) := ⟨_, rfl⟩
  obtain ⟨q3, hq3⟩ : ∃ q3, q3 = w3.heap.size := ⟨_, rfl⟩
  have S0 : Hid (ToSt w3 q3 (q3 + 1) sq kd a N c W5 [] (.slice none 0 0)) := Lib.hid (by
    subst hq3
    have ba : Below w3.heap.size w3 (w3.alloc (.cells #[.int .i64 sq, .int .i64 kd, .slice a N c] 50)) := (Below.refl _ _).alloc (Nat.le_refl _) _
    rw [hW5]
    exact ⟨heap_alloc2_old _ _ _, heap_alloc2_new _ _ _, World.ownsRow_nil _ _ _ _, ba.alloc (by simp) _, ⟨Nat.le_refl _, by omega, by omega⟩⟩)
  clear b3 i3 T0 T1 B1 HA
  go_upto_region 3 with (fail)
  rw [← hW5]
  clear hW5
  rw [← hq3]
  have HQ3 : Hid (q3 = w3.heap.size) := Lib.hid hq3
  clear hq3
  go_wp2
  go_loopw [5] (fun kv wr => ∃ (k : Nat) (v : Value), k ≤ N ∧ kv = .int .i64 (k : Int) ∧ Hid (ToSt w3 q3 (q3 + 1) sq kd a N c wr (Wi.toldL x kd k) v)) (fun kv _ => N - (intOf kv).toNat)
  case atStart => exact ⟨0, .slice none 0 0, Nat.zero_le _, rfl, S0⟩
  case round =>
    obtain ⟨k, v, hk, rfl, HS⟩ := hrel
    clear S0
    obtain ⟨g0, g1, g2⟩ := cells3 HS.out.t3
    obtain ⟨j0, j1, j2, j3⟩ := cells4 HS.out.t4
    by_cases hlt : k < N
    · have d0 : decide ((k : Int) < (N : Int)) = true := decide_eq_true (by omega)
      have d0' : decide (k < N) = true := decide_eq_true hlt
      have d1 : (k : Int) < (N : Int) := by omega
      have hw := wrapi' ((k : Int) + 1) (by have := HN18.out; omega)
      obtain ⟨z, hz⟩ : ∃ z, z = Wi.toldN x k := ⟨_, rfl⟩
      have hz64 : Wi.i64ok z := by rw [hz]; exact toldN_ok x HXO.out k (by have := HN18.out; omega)
      have HZ := Lib.hid hz
      have HZ64 := Lib.hid hz64
      have TRw : Hid (wr.heap[w.heap.size]? = some (.cells rc 42 (0, 0))) := Lib.hid ((HS.out.bel.block _ (by have := HLT.out; omega)).trans T03.out)
      have c4 : wr.cell? ⟨w.heap.size, 4, none⟩ = some (.slice r.e.a r.e.n r.e.c) := blk_cell (i := 4) TRw.out (by rw [HRC.out]; rfl)
      have AR : Hid (ArgX wr r) := Lib.hid (A3.out.below HS.out.bel)
      clear hz hz64
      obtain ⟨t, ht⟩ : ∃ t, decide ((k : Int) < (r.e.n : Int)) = t := ⟨_, rfl⟩
      go_upto_if 29 with (fail)
      go_cut [6] from 30 to 85 (fun v6 wx => v6 = .int .i64 z ∧ wr = wx)
      case first =>
        cases t
        · have hlt2 : ¬ k < r.e.n := by have := of_decide_eq_false ht; omega
          have hzk : z = (k : Int) := by
            rw [HZ.out, Wi.toldN, HX.out]
            show ((r.e.l)[k]?).getD _ = _
            rw [List.getElem?_eq_none (by have := AR.out.e.1; omega)]; rfl
          subst hzk
          go_wp2_with fail
          go_meet
          exact ⟨rfl, rfl⟩
        · have hlt2 : k < r.e.n := by have := of_decide_eq_true ht; omega
          have hx1 : r.e.l[k]? = some z := by
            rw [HZ.out, Wi.toldN, HX.out]
            show _ = some (((r.e.l)[k]?).getD _)
            rw [List.getElem?_eq_getElem (by have := AR.out.e.1; omega)]; rfl
          obtain ⟨eb, eo, hea, hebl, hec⟩ := AR.out.e.2.2 (by omega)
          rw [hea] at c4
          have ce : wr.cell? ⟨eb, eo + k, none⟩ = some (.int .i64 z) := hec k z hx1
          have i0 : (0 : Int) ≤ (k : Int) := by omega
          have i1 : (k : Int) < (r.e.n : Int) := by omega
          clear hec hea hx1
          go_wp2_with fail
          go_meet
          exact ⟨rfl, rfl⟩
      case rest =>
        obtain ⟨rfl, rfl⟩ := hcut
        clear ht c4 TRw
        obtain ⟨m, hm⟩ : ∃ m, m = z % 3 := ⟨_, rfl⟩
        obtain ⟨st, hst⟩ : ∃ st, st = 1 + m := ⟨_, rfl⟩
        have hm3 : 0 ≤ m ∧ m < 3 := by rw [hm]; omega
        have hp := pick_any wr z 3 HZ64.out.1 HZ64.out.2 (by omega) (by omega)
        rw [← hm] at hp
        have hws : IntKind.i64.wrap (1 + m) = st := by rw [hst]; exact wrapi' _ (by omega)
        have HM := Lib.hid hm
        have HST := Lib.hid hst
        have HM3 := Lib.hid hm3
        have OK0 : Hid ((⟨st, Wi.z32, 0, Wi.z32⟩ : Wi.En).ok) := Lib.hid (zen_ok st (by rw [hst]; unfold Wi.i64ok; omega))
        obtain ⟨eb, heb⟩ : ∃ eb, eb = wr.heap.size := ⟨_, rfl⟩
        obtain ⟨W7, hW7⟩ : ∃ W7, W7 = wr.alloc (.cells (enC ⟨st, Wi.z32, 0, Wi.z32⟩) 120) := ⟨_, rfl⟩
        have b7 : Below wr.heap.size wr W7 := by rw [hW7]; exact (Below.refl _ _).alloc (Nat.le_refl _) _
        have S7 := Lib.hid (HS.out.below b7)
        have E7 : Hid (EnAt w3 W7 q3 eb v ⟨st, Wi.z32, 0, Wi.z32⟩) := Lib.hid ⟨by rw [hW7, heb]; exact heap_alloc_new _ _, OK0.out, by have := blk_lt HS.out.t3; omega, by have := blk_lt HS.out.t4; omega, by rw [heb]; exact HS.out.bel.size, fun k' hk' => by have := (HS.out.own.lt k' hk').2; omega⟩
        clear hm hst hm3 b7 g0 g1 g2 j0 j1 j2 j3
        go_wp2_with fail
        refine hp.mono ?_
        clear hp
        rintro e w' ⟨rfl, rfl⟩
        go_upto_region 10 with (first | (refine wpL_mk (by kernel_rfl) 120 #[(0, .tmp 37)] rfl [(0, .int .i64 st)] (by rfl) (enC ⟨st, Wi.z32, 0, Wi.z32⟩) (bt_entry st) ?_) | (refine wpL_var 120 38 7 (enC ⟨0, Wi.z32, 0, Wi.z32⟩) rfl rfl rfl rfl rfl rfl (enC ⟨st, Wi.z32, 0, Wi.z32⟩) (by rfl) (by rw [enC_size _ OK0.out]; exact zi_entry) rfl (enC_one _) (by decide) (by kernel_rfl) ?_))
        rw [← hW7, ← heb]
        simp only [Act.put, List.setIfInBounds_toArray, List.set_cons_zero, List.set_cons_succ]
        clear hW7 heb hws HS AR
        obtain ⟨t1, ht1⟩ : ∃ t1, t1 = (decide (st = 3) && decide (kd = 1)) := ⟨_, rfl⟩
        have HT1 := Lib.hid ht1
        clear ht1
        go_cut [46] from 39 to 85 (fun v46 wx => v46 = .bool t1 ∧ W7 = wx)
        case first =>
          obtain ⟨j0, j1, j2, j3⟩ := cells4 S7.out.t4
          have k0 : W7.cell? ⟨eb, 0, none⟩ = some (.int .i64 st) := blk_cell (i := 0) E7.out.t (enC_status _)
          by_cases h3 : st = 3
          · have m3 : (st == 3) = true := by simp [h3]
            by_cases hk1 : kd = 1
            · have mk1 : (kd == 1) = true := by simp [hk1]
              have hh : t1 = true := by rw [HT1.out]; simp [h3, hk1]
              subst hh
              clear h3 hk1
              go_wp2
              go_meet
              exact ⟨rfl, rfl⟩
            · have mk1 : (kd == 1) = false := by simp [hk1]
              have hh : t1 = false := by rw [HT1.out]; simp [h3, hk1]
              subst hh
              clear h3 hk1
              go_wp2
              go_meet
              exact ⟨rfl, rfl⟩
          · have m3 : (st == 3) = false := by simp [h3]
            have hh : t1 = false := by rw [HT1.out]; simp [h3]
            subst hh
            clear h3
            go_wp2
            go_meet
            exact ⟨rfl, rfl⟩
        case rest =>
          obtain ⟨rfl, rfl⟩ := hcut
          obtain ⟨s1, hs1⟩ : ∃ s1, s1 = if t1 = true then 2 else st := ⟨_, rfl⟩
          have HS1 := Lib.hid hs1
          clear hs1
          go_upto_if 46 with (fail)
          go_cut [] from 47 to 85 (fun wx => Hid (ToSt w3 q3 (q3 + 1) sq kd a N c wx (Wi.toldL x kd k) v) ∧ Hid (EnAt w3 wx q3 eb v ⟨s1, Wi.z32, 0, Wi.z32⟩))
          case first =>
            cases t1
            · have hs : s1 = st := by rw [HS1.out]; rfl
              go_wp2_with fail
              go_meet
              rw [hs]
              exact ⟨S7, E7⟩
            · have hs : s1 = 2 := by rw [HS1.out]; rfl
              have k0 : W7.cell? ⟨eb, 0, none⟩ = some (.int .i64 st) := blk_cell (i := 0) E7.out.t (enC_status _)
              have f0 := blk_free E7.out.t 0
              go_wp2_with fail
              go_meet
              rw [hs]
              exact ⟨Lib.hid (E7.out.st S7.out ((TStay.refl (fun k => k = eb) _).setCell (p := ⟨eb, 0, none⟩) (.inl rfl) _)), Lib.hid (E7.out.turn (heap_setCell_same _ eb 0 _ _ _ E7.out.t) (zen_ok 2 (by unfold Wi.i64ok; omega)))⟩
          case rest =>
            obtain ⟨S8, E8⟩ := hcut
            have HT : Hid ((s1 ≠ 1 → Wi.toldA kd z = ⟨s1, Wi.z32, 0, Wi.z32⟩) ∧ (s1 = 1 → Wi.toldA kd z = if kd = 2 then ⟨1, Hs.of (z.tdiv 180 % 60).toNat, z % 50, Hs.of (z.tdiv 3 % 60).toNat⟩ else ⟨1, Wi.z32, 0, Hs.of (z.tdiv 3 % 60).toNat⟩)) := Lib.hid (toldA_of kd z s1 (by rw [HS1.out, HT1.out, HST.out, HM.out]))
            clear S7 E7 OK0
            have k0 : wc.cell? ⟨eb, 0, none⟩ = some (.int .i64 s1) := blk_cell (i := 0) E8.out.t (enC_status _)
            obtain ⟨t2, ht2⟩ : ∃ t2, (s1 == 1) = t2 := ⟨_, rfl⟩
            have HT2 : Hid (t2 = decide (s1 = 1)) := Lib.hid (by rw [← ht2]; by_cases h : s1 = 1 <;> simp [h])
            go_upto_if 50 with (fail)
            clear k0
            go_cut [] from 51 to 85 (fun wx => Hid (ToSt w3 q3 (q3 + 1) sq kd a N c wx (Wi.toldL x kd k) v) ∧ Hid (EnAt w3 wx q3 eb v (Wi.toldA kd z)))
            case first =>
              clear ht2
              cases t2
              · have h1 : s1 ≠ 1 := of_decide_eq_false HT2.out.symm
                go_wp2_with fail
                go_meet
                rw [HT.out.1 h1]
                exact ⟨S8, E8⟩
              · obtain rfl : s1 = 1 := of_decide_eq_true HT2.out.symm
                obtain ⟨zq, hzq⟩ : ∃ zq, zq = z.tdiv 3 := ⟨_, rfl⟩
                have hzi : Wi.i64ok zq := by rw [hzq]; exact tdiv_in z 3 (by omega) HZ64.out
                have hh := hash32_any wc zq hzi.1 hzi.2
                obtain ⟨H, hH⟩ : ∃ H, H = Hs.of (zq % 60).toNat := ⟨_, rfl⟩
                rw [← hH] at hh
                have HH : Hid (H.length = 32) := Lib.hid (by rw [hH]; rfl)
                have hqw : IntKind.i64.wrap (z.tdiv 3) = zq := by rw [← hzq]; exact wrapi' _ hzi
                have hq6 : wrap64 (z.tdiv 3) = zq := by rw [← hzq]; have h1 := hzi.1; have h2 := hzi.2; simp only [wrap64]; omega
                have HZQ := Lib.hid hzq
                have HHH := Lib.hid hH
                clear hzq hzi hH
                go_wp2_with fail
                refine hh.mono ?_
                clear hh
                rintro e w9 ⟨rfl, b9⟩
                have S9 := Lib.hid (S8.out.below b9)
                have E9 := Lib.hid (E8.out.below b9)
                clear b9 S8 E8
                go_upto_region 14 with (refine wpL_storeW ?hw 33 (.tmp 54) (.tmp 53) rfl eb 34 rfl (hashC H) rfl (enC ⟨1, Wi.z32, 0, Wi.z32⟩) 120 E9.out.t (enC ⟨1, Wi.z32, 0, H⟩) (sp_en_hash ⟨1, Wi.z32, 0, Wi.z32⟩ _ rfl rfl HH.out) (by rw [hashC_size _ HH.out]; exact (by decide : 34 + 32 ≤ 66)) (by intro v hv; exact bv_one _ v (by simpa [hashC] using hv)) (by rw [hashC_size _ HH.out]; exact sz_hash) ?_; case hw => kernel_rfl)
                intro wa Ta Sa
                have SA := Lib.hid (E9.out.st S9.out Sa)
                have EA := Lib.hid (E9.out.turn Ta ⟨by show Wi.i64ok 1; unfold Wi.i64ok; omega, rfl, i64_0, HH.out⟩)
                clear Ta Sa S9 E9
                obtain ⟨j0, j1, j2, j3⟩ := cells4 SA.out.t4
                by_cases hk2 : kd = 2
                · subst hk2
                  obtain ⟨zr, hzr⟩ : ∃ zr, zr = z.tdiv 180 := ⟨_, rfl⟩
                  have hzi : Wi.i64ok zr := by rw [hzr]; exact tdiv_in z 180 (by omega) HZ64.out
                  have hh := hash32_any wa zr hzi.1 hzi.2
                  obtain ⟨G, hG⟩ : ∃ G, G = Hs.of (zr % 60).toNat := ⟨_, rfl⟩
                  rw [← hG] at hh
                  obtain ⟨p, hp⟩ : ∃ p, p = z % 50 := ⟨_, rfl⟩
                  have hpk := fun X => pick_any X z 50 HZ64.out.1 HZ64.out.2 (by omega) (by omega)
                  rw [← hp] at hpk
                  have HZR := Lib.hid hzr
                  have HGH := Lib.hid hG
                  have HPE := Lib.hid hp
                  have HGG : Hid (G.length = 32) := Lib.hid (by rw [hG]; rfl)
                  have hqw2 : IntKind.i64.wrap (z.tdiv 180) = zr := by rw [← hzr]; exact wrapi' _ hzi
                  have hq62 : wrap64 (z.tdiv 180) = zr := by rw [← hzr]; have h1 := hzi.1; have h2 := hzi.2; simp only [wrap64]; omega
                  have HPP : Hid (Wi.i64ok p) := Lib.hid (by rw [hp]; unfold Wi.i64ok; omega)
                  have HPK := Lib.hid hpk
                  clear hzr hzi hG hp hpk
                  go_wp2_with fail
                  refine hh.mono ?_
                  clear hh j0 j1 j2 j3
                  rintro e wb ⟨rfl, bb⟩
                  have SB := Lib.hid (SA.out.below bb)
                  have EB := Lib.hid (EA.out.below bb)
                  clear bb SA EA
                  have hpk := HPK.out wb
                  go_wp2_with fail
                  refine hpk.mono ?_
                  clear hpk
                  rintro e w' ⟨rfl, rfl⟩
                  have HFIT : Hid (1 + (pathC G p).size ≤ (enC ⟨1, Wi.z32, 0, H⟩).size) := Lib.hid (by rw [pathC_size _ _ HGG.out, enC_size _ EB.out.ok]; decide)
                  go_wp2_with (first | (refine wpL_mk (by kernel_rfl) 69 #[(0, .tmp 60), (1, .tmp 62)] rfl [(0, .agg (hashC G)), (1, .int .i64 p)] (by rfl) (pathC G p) (bt_path G p HGG.out) ?_) | (refine wpL_storeW ?hw 69 (.tmp 64) (.tmp 63) rfl eb 1 rfl (pathC G p) rfl (enC ⟨1, Wi.z32, 0, H⟩) 120 EB.out.t (enC ⟨1, G, p, H⟩) (sp_en_path ⟨1, Wi.z32, 0, H⟩ _ _ rfl HGG.out) HFIT.out (pathC_one _ _) (by rw [pathC_size _ _ HGG.out]; exact sz_path) ?_; case hw => kernel_rfl))
                  intro wd Td Sd
                  go_wp2_with fail
                  go_meet
                  rw [HT.out.2 (by trivial), if_pos (by trivial), ← HZQ.out, ← HHH.out, ← HZR.out, ← HGH.out, ← HPE.out]
                  exact ⟨Lib.hid (EB.out.st SB.out Sd), Lib.hid (EB.out.turn Td ⟨by show Wi.i64ok 1; unfold Wi.i64ok; omega, HGG.out, HPP.out, HH.out⟩)⟩
                · have mk : (kd == 2) = false := by simp [hk2]
                  have HK2 := Lib.hid hk2
                  clear hk2
                  go_wp2_with fail
                  go_meet
                  rw [HT.out.2 (by trivial), if_neg HK2.out, ← HZQ.out, ← HHH.out]
                  exact ⟨SA, EA⟩
            case rest =>
              obtain ⟨S9, E9⟩ := hcut
              clear S8 E8 HT HT2 ht2
              obtain ⟨X, hX⟩ : ∃ X, X = Wi.toldA kd z := ⟨_, rfl⟩
              rw [← hX] at E9
              obtain ⟨m7, hm7⟩ : ∃ m7, m7 = z.tmod 47 := ⟨_, rfl⟩
              have hr7 : z.tmod 47 = m7 := hm7.symm
              have HM7 := Lib.hid hm7
              have HXX : Hid (Wi.toldE x kd k = Wi.toldT z X) := Lib.hid (by rw [Wi.toldE, ← HZ.out, hX])
              clear hX hm7
              go_upto_block 2 with fail
              go_cut [] from 67 to 85 (fun wx => Hid (ToSt w3 q3 (q3 + 1) sq kd a N c wx (Wi.toldL x kd k) v) ∧ Hid (EnAt w3 wx q3 eb v (Wi.toldT z X)))
              case first =>
                have k0 : wc.cell? ⟨eb, 0, none⟩ = some (.int .i64 X.status) := blk_cell (i := 0) E9.out.t (enC_status _)
                have k33 : wc.cell? ⟨eb, 33, none⟩ = some (.int .i64 X.steps) := blk_cell (i := 33) E9.out.t (enC_steps _ E9.out.ok)
                have f0 := blk_free E9.out.t 0
                have f33 := blk_free E9.out.t 33
                have hc : m7 = 46 ∨ m7 = 45 ∨ m7 = 44 ∨ (m7 ≠ 46 ∧ m7 ≠ 45 ∧ m7 ≠ 44) := by omega
                rcases hc with rfl | rfl | rfl | ⟨n0, n1, n2⟩
                · go_wp2_with fail
                  go_meet
                  rw [Wi.toldT, if_pos HM7.out.symm]
                  exact ⟨Lib.hid (E9.out.st S9.out ((TStay.refl (fun k => k = eb) _).setCell (p := ⟨eb, 0, none⟩) (.inl rfl) _)), Lib.hid (E9.out.turn (heap_setCell_same _ eb 0 _ _ _ E9.out.t) ⟨HZ64.out, E9.out.ok.high, E9.out.ok.steps, E9.out.ok.hash⟩)⟩
                · have HFIT : Hid (34 + (hashC Wi.one32).size ≤ (enC X).size) := Lib.hid (by rw [hashC_size _ rfl, enC_size _ E9.out.ok]; decide)
                  go_wp2_with (first | (refine wpL_mk (by kernel_rfl) 33 #[(0, .const (.int .u8 1))] rfl [(0, .int .u8 1)] (by rfl) (hashC Wi.one32) bt_one ?_) | (refine wpL_storeW ?hw 33 (.tmp 74) (.tmp 73) rfl eb 34 rfl (hashC Wi.one32) rfl (enC X) 120 E9.out.t (enC ⟨X.status, X.high, X.steps, Wi.one32⟩) (sp_en_hash X _ E9.out.ok.high E9.out.ok.hash rfl) HFIT.out (by intro v hv; exact bv_one _ v (by simpa [hashC] using hv)) sz_hash ?_; case hw => kernel_rfl))
                  intro wd Td Sd
                  go_wp2_with fail
                  go_meet
                  rw [Wi.toldT, if_neg (show ¬ z.tmod 47 = 46 by have := HM7.out; omega), if_pos HM7.out.symm]
                  exact ⟨Lib.hid (E9.out.st S9.out Sd), Lib.hid (E9.out.turn Td ⟨E9.out.ok.status, E9.out.ok.high, E9.out.ok.steps, rfl⟩)⟩
                · go_wp2_with fail
                  go_meet
                  rw [Wi.toldT, if_neg (show ¬ z.tmod 47 = 46 by have := HM7.out; omega), if_neg (show ¬ z.tmod 47 = 45 by have := HM7.out; omega), if_pos HM7.out.symm]
                  exact ⟨Lib.hid (E9.out.st S9.out ((TStay.refl (fun k => k = eb) _).setCell (p := ⟨eb, 33, none⟩) (.inl rfl) _)), Lib.hid (E9.out.turn (by rw [← en_set33 X E9.out.ok.high z]; exact heap_setCell_same _ eb 33 _ _ _ E9.out.t) ⟨E9.out.ok.status, E9.out.ok.high, HZ64.out, E9.out.ok.hash⟩)⟩
                · have m0 : (m7 == 46) = false := by simp [n0]
                  have m1 : (m7 == 45) = false := by simp [n1]
                  have m2 : (m7 == 44) = false := by simp [n2]
                  have HNN : Hid (Wi.toldT z X = X) := Lib.hid (by have := HM7.out; rw [Wi.toldT, if_neg (by omega), if_neg (by omega), if_neg (by omega)])
                  clear n0 n1 n2
                  go_wp2_with fail
                  go_meet
                  rw [HNN.out]
                  exact ⟨S9, E9⟩
              case rest =>
                obtain ⟨SX, EX⟩ := hcut
                rw [← HXX.out] at EX
                clear S9 E9 HM7 hr7 HXX
                obtain ⟨Y, hY⟩ : ∃ Y, Y = Wi.toldE x kd k := ⟨_, rfl⟩
                rw [← hY] at EX
                have HY := Lib.hid hY
                have HLL : Hid ((Wi.toldL x kd k).length ≤ 18) := Lib.hid (by rw [toldL_len]; have := HN18.out; omega)
                have HSU : Hid (Wi.toldL x kd (k + 1) = Wi.toldL x kd k ++ [Y]) := Lib.hid (by rw [toldL_succ, hY])
                clear hY
                obtain ⟨j0, j1, j2, j3⟩ := cells4 SX.out.t4
                have PX : Hid (Part wc eb 0 (enC Y)) := Lib.hid (Part.of_blk EX.out.t)
                have bx : Below wc.heap.size wc (wc.alloc (.cells (enC Y) 120)) := (Below.refl _ _).alloc (Nat.le_refl _) _
                have RX := Lib.hid (SX.out.below bx)
                have HLA : Hid (w3.heap.size ≤ (wc.alloc (.cells (enC Y) 120)).heap.size) := Lib.hid RX.out.bel.size
                clear bx
                go_wp2_with (first | (refine wpL_load ?hw 120 (.tmp 7) rfl eb 0 rfl (enC Y) _ PX.out Tryd.underlying120 rfl (by rw [enC_size _ EX.out.ok]; exact sz_entry) ?_; case hw => kernel_rfl) | (refine wpL_rowOne rfl 53 120 (.tmp 82) rfl 83 rfl Tryd.underlying53 (enC Y) (by rfl) (.agg (enC ⟨0, Wi.z32, 0, Wi.z32⟩)) 66 zi_entry (by decide) (enC_size _ EX.out.ok) ?_) | (at_builtin; refine wpL_appE _ rfl (.tmp 81) (.tmp 83) rfl w3.heap.size v (Wi.toldL x kd k) (by rfl) RX.out.own wc.heap.size Y EX.out.ok (by rfl) (heap_alloc_new _ _) (by have := HLL.out; omega) HLA.out ?_))
                intro v' w8 O8 G8
                obtain ⟨a', c', rfl, _⟩ := ownsRow_slice O8
                obtain ⟨E3, R9⟩ := RX.out.app O8 G8
                obtain ⟨m3, hm3⟩ : ∃ m3, m3 = (Wi.toldL x kd k ++ [Y]).length := ⟨_, rfl⟩
                rw [← hm3] at R9
                rw [← HSU.out] at R9
                have HR9 := Lib.hid R9
                have j3' := (cells4 E3).2.2.2
                have f3 := blk_free E3 3
                have HM3' : Hid (m3 = (Wi.toldL x kd k).length + 1) := Lib.hid (by rw [hm3]; simp)
                clear O8 G8 E3 R9 hm3 j0 j1 j2 j3
                go_wp2
                go_roundw
                case rel =>
                  exact ⟨k + 1, .slice a' ((Wi.toldL x kd k).length + 1) c', by omega, by go_num, by rw [HM3'.out] at HR9; exact HR9⟩
                case measure => simp [intOf]; omega
    · as_aux_lemma =>
      obtain rfl : k = N := by omega
      have d0 : decide ((k : Int) < (k : Int)) = false := decide_eq_false (by omega)
      have TRw : Hid (wr.heap[w.heap.size]? = some (.cells rc 42 (0, 0))) := Lib.hid ((HS.out.bel.block _ (by have := HLT.out; omega)).trans T03.out)
      have T1w : Hid (wr.heap[w.heap.size + 1]? = some (.cells #[.int .i64 0, .int .i64 0, .slice none 0 0, .slice none 0 0] 55 (0, 0))) := Lib.hid ((HS.out.bel.block _ (by have := HLT.out; omega)).trans T13.out)
      have c2 : wr.cell? ⟨w.heap.size, 2, none⟩ = some (.int .i64 r.how) := blk_cell (i := 2) TRw.out (by rw [HRC.out]; rfl)
      obtain ⟨m, hm⟩ : ∃ m, r.how.tmod 31 = m := ⟨_, rfl⟩
      have HM : Hid (x.how.tmod 31 = m) := Lib.hid (by rw [HX.out]; exact hm)
      obtain ⟨a4, c4, rfl, _⟩ := ownsRow_slice HS.out.own
      clear TRw
      have OKL : Hid (∀ y ∈ Wi.toldL x kd k, y.ok) := Lib.hid (toldL_ok x HXO.out kd k (by have := HN18.out; omega))
      by_cases h30 : m = 30
      · subst h30
        have HPE : Hid (P = Wi.toldL x kd k ++ [Wi.enU]) := Lib.hid (by rw [HP.out, if_pos HM.out])
        have HLL : Hid ((Wi.toldL x kd k).length ≤ 18) := Lib.hid (by rw [toldL_len]; exact HN18.out)
        have OKX : ∀ y ∈ Wi.toldL x kd k ++ [Wi.enU], y.ok := fun y hy => by
          rw [List.mem_append, List.mem_singleton] at hy
          rcases hy with hy | rfl
          · exact OKL.out y hy
          · exact enU_ok
        have OKXH := Lib.hid OKX
        have bx : Below wr.heap.size wr (wr.alloc (.cells (enC Wi.enU) 120)) := (Below.refl _ _).alloc (Nat.le_refl _) _
        have RX := Lib.hid (HS.out.below bx)
        have T1x := Lib.hid ((bx.block _ (blk_lt T1w.out)).trans T1w.out)
        have HLA : Hid (w3.heap.size ≤ (wr.alloc (.cells (enC Wi.enU) 120)).heap.size) := Lib.hid RX.out.bel.size
        clear bx OKX
        go_wp2_with (first | (refine wpL_mk (by kernel_rfl) 120 #[(0, .const (.int .i64 2))] rfl [(0, .int .i64 2)] (by rfl) (enC Wi.enU) (bt_entry 2) ?_) | (refine wpL_rowOne rfl 53 120 (.tmp 92) rfl 93 rfl Tryd.underlying53 (enC Wi.enU) (by rfl) (.agg (enC ⟨0, Wi.z32, 0, Wi.z32⟩)) 66 zi_entry (by decide) (enC_size _ enU_ok) ?_) | (at_builtin; refine wpL_appE _ rfl (.tmp 91) (.tmp 93) rfl w3.heap.size _ (Wi.toldL x kd k) (by rfl) RX.out.own wr.heap.size Wi.enU enU_ok (by rfl) (heap_alloc_new _ _) (by have := HLL.out; omega) HLA.out ?_))
        intro v' w8 O8 G8
        obtain ⟨a5, c5, rfl, _⟩ := ownsRow_slice O8
        obtain ⟨E3, R9⟩ := RX.out.app O8 G8
        have T18 := (G8.block _ (blk_lt T1x.out) (fun e => own_ne' RX.out.own T1x.out (by decide) e.symm)).trans T1x.out
        obtain ⟨n5, hn5⟩ : ∃ n5, n5 = (Wi.toldL x kd k ++ [Wi.enU]).length := ⟨_, rfl⟩
        rw [← hn5] at R9 ⊢
        have HN5 := Lib.hid hn5
        obtain ⟨wy, hwy⟩ : ∃ wy, wy = w8.setCell ⟨q3 + 1, 3, none⟩ (.slice a5 n5 c5) := ⟨_, rfl⟩
        rw [← hwy] at R9
        have T1y : Hid (wy.heap[w.heap.size + 1]? = some (.cells #[.int .i64 0, .int .i64 0, .slice none 0 0, .slice none 0 0] 55 (0, 0))) := Lib.hid (by
          have hs2 : TStay (fun k => k = q3 + 1) w8 wy := by rw [hwy]; exact (TStay.refl (fun k => k = q3 + 1) _).setCell (p := ⟨q3 + 1, 3, none⟩) (.inl rfl) _
          exact (hs2.block _ (blk_lt T18) (by have := HLT.out; have := HQ3.out; omega)).trans T18)
        have R9H := Lib.hid R9
        have ON : Hid (OwnE wy w3.heap.size (.slice a5 (Wi.toldL x kd k ++ [Wi.enU]).length c5) (Wi.toldL x kd k ++ [Wi.enU])) := Lib.hid (by have := R9.own; rw [hn5] at this; rw [← hn5] at this ⊢; exact this)
        have j3' := (cells4 E3).2.2.2
        have f3 := blk_free E3 3
        clear O8 G8 E3 R9 hn5 j0 j1 j2 j3 g0 g1 g2 T18 HLA
        go_upto_region 26 with (fail)
        rw [← hwy]
        clear hwy j3' f3
        have PR : Hid (Part wy (q3 + 1) 0 #[.int .i64 sq, .int .i64 kd, .slice a k c, .slice a5 n5 c5]) := Lib.hid (Part.of_blk R9H.out.t4)
        go_wp2_with (first | (refine wpL_load ?hw 55 (.tmp 4) rfl (q3 + 1) 0 rfl #[.int .i64 sq, .int .i64 kd, .slice a k c, .slice a5 n5 c5] _ PR.out Tryd.underlying55 rfl (sz_rp _ _ _ _) ?_; case hw => kernel_rfl) | (refine wpL_storeW (by kernel_rfl) 55 (.tmp 2) (.tmp 96) rfl (w.heap.size + 1) 0 rfl #[.int .i64 sq, .int .i64 kd, .slice a k c, .slice a5 n5 c5] rfl #[.int .i64 0, .int .i64 0, .slice none 0 0, .slice none 0 0] 55 T1y.out #[.int .i64 sq, .int .i64 kd, .slice a k c, .slice a5 n5 c5] rfl (Nat.le_refl 4) (one4 _ _ _ _ _ _ _ _) (sz_rp _ _ _ _) ?_))
        intro w9 T9 S9
        go_wp2
        have OX := ownsRow_stay R9H.out.own S9 (fun j hj e => own_ne' R9H.out.own T1y.out (by decide) (by rw [← e]; exact hj))
        refine bodyPost_ret (results_cell_row rfl _ _ (w.heap.size + 1) 55 _ (0, 0) _ rfl T9 Tryd.underlying55 rfl (sz_rp _ _ _ _)) rfl ?_
        rw [HPE.out]
        rw [HN5.out] at OX
        refine ⟨a, c, a5, c5, (by rw [HN5.out]), ?_, RdA.of_own OX rfl (fun y hy => enC_size y (OKXH.out y hy)), Below.trans_stay (B3.out.trans (R9H.out.bel.mono B3.out.size)) S9 (Nat.le_refl _) (fun j hj e => by omega)⟩
        exact (I3.out.below R9H.out.bel).stay S9 (fun _ b o hb e => AB3.out _ hb (by rw [← e]))
      · have HPE : Hid (P = Wi.toldL x kd k) := Lib.hid (by rw [HP.out, if_neg (by rw [HM.out]; exact h30), List.append_nil])
        have m30 : (m == 30) = false := by simp [h30]
        clear h30
        obtain ⟨a5, ha5⟩ : ∃ a5, a5 = a4 := ⟨_, rfl⟩
        obtain ⟨c5, hc5⟩ : ∃ c5, c5 = c4 := ⟨_, rfl⟩
        obtain ⟨n5, hn5⟩ : ∃ n5, n5 = (Wi.toldL x kd k).length := ⟨_, rfl⟩
        have HS4 : Hid (ToSt w3 q3 (q3 + 1) sq kd a k c wr (Wi.toldL x kd k) (.slice a5 n5 c5)) := Lib.hid (by rw [ha5, hc5, hn5]; exact HS.out)
        have HN5 := Lib.hid hn5
        rw [← ha5, ← hc5, ← hn5] at j3
        clear ha5 hc5 hn5 HS
        have PR : Hid (Part wr (q3 + 1) 0 #[.int .i64 sq, .int .i64 kd, .slice a k c, .slice a5 n5 c5]) := Lib.hid (Part.of_blk HS4.out.t4)
        go_wp2_with (first | (refine wpL_load ?hw 55 (.tmp 4) rfl (q3 + 1) 0 rfl #[.int .i64 sq, .int .i64 kd, .slice a k c, .slice a5 n5 c5] _ PR.out Tryd.underlying55 rfl (sz_rp _ _ _ _) ?_; case hw => kernel_rfl) | (refine wpL_storeW (by kernel_rfl) 55 (.tmp 2) (.tmp 96) rfl (w.heap.size + 1) 0 rfl #[.int .i64 sq, .int .i64 kd, .slice a k c, .slice a5 n5 c5] rfl #[.int .i64 0, .int .i64 0, .slice none 0 0, .slice none 0 0] 55 T1w.out #[.int .i64 sq, .int .i64 kd, .slice a k c, .slice a5 n5 c5] rfl (Nat.le_refl 4) (one4 _ _ _ _ _ _ _ _) (sz_rp _ _ _ _) ?_))
        intro w9 T9 S9
        go_wp2
        have OX := ownsRow_stay HS4.out.own S9 (fun j hj e => own_ne' HS4.out.own T1w.out (by decide) (by rw [← e]; exact hj))
        refine bodyPost_ret (results_cell_row rfl _ _ (w.heap.size + 1) 55 _ (0, 0) _ rfl T9 Tryd.underlying55 rfl (sz_rp _ _ _ _)) rfl ?_
        rw [HPE.out]
        rw [HN5.out] at OX
        refine ⟨a, c, a5, c5, (by rw [HN5.out]), ?_, RdA.of_own OX rfl (fun y hy => enC_size y (OKL.out y hy)), Below.trans_stay (B3.out.trans (HS4.out.bel.mono B3.out.size)) S9 (Nat.le_refl _) (fun j hj e => by omega)⟩
        exact (I3.out.below HS4.out.bel).stay S9 (fun _ b o hb e => AB3.out _ hb (by rw [← e]))
end Go.Proofs.YtpblopdcbjfkpaaDoor
