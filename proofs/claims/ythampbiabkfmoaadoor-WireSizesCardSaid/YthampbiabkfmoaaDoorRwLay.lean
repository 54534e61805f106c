/- The reference's LayWire and ReadWire. -/
import Derived.Test.YthampbiabkfmoaaDoorRwRh
import Derived.Test.YthampbiabkfmoaaDoorWiRdRq
namespace Go.Proofs.YthampbiabkfmoaaDoor
open Go.RowKit Go.Tap
set_option linter.unusedVariables false
set_option linter.unusedSimpArgs false
/-- What LayWire answers. -/
def LwAft (w : World) (r : Option (List UInt8)) (e : Ending) (w' : World) : Prop :=
  Below w.heap.size w w' ∧ match r with
  | none => e = .returned (.tuple #[.slice none 0 0, .int .i64 1])
  | some x => ∃ a c, e = .returned (.tuple #[.slice a x.length c, .int .i64 0]) ∧ w'.ownsRow w.heap.size 5 1 (.slice a x.length c) x.length (bv x)
theorem cell3 {w : World} {b : Nat} {x y z : Value} {t : TypeId} {fr : Nat × Nat} (h : w.heap[b]? = some (.cells #[x, y, z] t fr)) : w.cell? ⟨b, 0, none⟩ = some x ∧ w.cell? ⟨b, 1, none⟩ = some y ∧ w.cell? ⟨b, 2, none⟩ = some z :=
  ⟨by rw [cell_of_row w b 0 _ _ _ h]; rfl, by rw [cell_of_row w b 1 _ _ _ h]; rfl, by rw [cell_of_row w b 2 _ _ _ h]; rfl⟩
set_option maxHeartbeats 2000000 in
set_option maxRecDepth 100000 in
theorem layWire_any (w : World) (q : Wi.Rq) (hq : q.ok) (a : Option Addr) (n c : Nat) (hr : RdI w a n q.items) (hn : n ≤ 140737488351232) :
    Calls Tryd.prog 35 #[.agg #[.int .i64 q.seq, .int .i64 q.kind, .slice a n c]] w (LwAft w (Wi.layRq q)) := by
  obtain ⟨R, hR⟩ : ∃ R, R = Wi.layRq q := ⟨_, rfl⟩
  rw [← hR]
  have HRR := Lib.hid hR
  obtain ⟨sq, hsq⟩ : ∃ sq, sq = q.seq := ⟨_, rfl⟩
  obtain ⟨kd, hkd⟩ : ∃ kd, kd = q.kind := ⟨_, rfl⟩
  rw [← hsq, ← hkd]
  obtain ⟨W1, hW1⟩ : ∃ W1, W1 = w.alloc (.cells #[.int .i64 sq, .int .i64 kd, .slice a n c] 28) := ⟨_, rfl⟩
  have b1 : Below w.heap.size w W1 := by rw [hW1]; exact (Below.refl _ _).alloc (Nat.le_refl _) _
  have T1 : Hid (W1.heap[w.heap.size]? = some (.cells #[.int .i64 sq, .int .i64 kd, .slice a n c] 28 (0, 0))) := Lib.hid (by rw [hW1]; exact heap_alloc_new _ _)
  have hM := rightHead_any W1 q hq a n c (hr.below b1) hn
  rw [← hsq, ← hkd] at hM
  obtain ⟨g0, g1, g2⟩ := cell3 T1.out
  have HQ := Lib.hid hq
  have HR := Lib.hid hr
  have B1 := Lib.hid b1
  obtain ⟨p, hp⟩ : ∃ p, p = Wi.mayRq q := ⟨_, rfl⟩
  rw [← hp] at hM
  have HP := Lib.hid hp
  have hh0 : Hid (∀ {W : World} {B : Nat}, Wr 37 w W B [] → Wi.mayRq q = true → Calls Tryd.prog 72 #[.pointer (some ⟨B, 0, none⟩), .int .i64 1, .int .i64 sq, .int .i64 kd, .slice a n c] W (WrAft 37 w W B ([] ++ Wi.headB 1 q))) := Lib.hid (fun h hm => by
    have := rlayHead_any h 1 q HQ.out hm a n c HR.out (by simp)
    rw [← hsq, ← hkd] at this
    exact this)
  clear hq hr hn b1 hp hR hsq hkd
  go_enter Tryd.func35, Tryd.ntmps35
  go_upto_region 1 with fail
  rw [← hW1]
  clear hW1
  go_wp2_with fail
  refine hM.mono ?_
  clear hM g0 g1 g2
  rintro e w2 ⟨rfl, b2⟩
  have T2 := Lib.hid ((b2.block _ (blk_lt T1.out)).trans T1.out)
  have B2 := Lib.hid (B1.out.trans (b2.mono B1.out.size))
  clear b2 T1 B1
  cases p
  · have hnone : Hid (R = none) := Lib.hid (by rw [HRR.out]; unfold Wi.layRq; rw [← HP.out]; rfl)
    go_wp2
    go_ret2
    rw [hnone.out]
    exact ⟨B2.out, rfl⟩
  · have hsome : Hid (R = some (Wi.sumB (Wi.headB 1 q))) := Lib.hid (by rw [HRR.out]; unfold Wi.layRq; rw [← HP.out]; rfl)
    have HM : Hid (Wi.mayRq q = true) := Lib.hid HP.out.symm
    obtain ⟨BW, hBW⟩ : ∃ BW, BW = w2.heap.size := ⟨_, rfl⟩
    obtain ⟨W3, hW3⟩ : ∃ W3, W3 = w2.alloc (.cells #[.slice none 0 0] 37) := ⟨_, rfl⟩
    have b3 : Below w2.heap.size w2 W3 := by rw [hW3]; exact (Below.refl _ _).alloc (Nat.le_refl _) _
    have h3 : Wr 37 w W3 BW [] := ⟨⟨.slice none 0 0, ⟨by rw [hW3, hBW]; exact heap_alloc_new _ _, World.ownsRow_nil _ _ _ _⟩, fun k hk => by cases hk⟩, by rw [hBW]; exact B2.out.size, B2.out.trans (b3.mono B2.out.size)⟩
    obtain ⟨g0, g1, g2⟩ := cell3 ((b3.block _ (blk_lt T2.out)).trans T2.out)
    have hh := hh0.out h3 HM.out
    clear b3 h3 T2 B2 hh0
    go_upto_region 4 with fail
    rw [← hW3, ← hBW]
    clear hW3 hBW
    go_wp2_with fail
    refine hh.mono ?_
    clear hh g0 g1 g2
    rintro e w4 ⟨rfl, h4, k4⟩
    rw [List.nil_append] at h4
    have hs := seal_any h4 (by have := Wi.headB_le HM.out HQ.out 1; omega)
    clear h4 k4
    go_wp2_with fail
    refine hs.mono ?_
    clear hs
    rintro e w5 ⟨a5, c5, rfl, o5, b5⟩
    have O5 := Lib.hid o5
    have B5 := Lib.hid b5
    clear o5 b5
    go_wp2
    go_ret2
    rw [hsome.out]
    exact ⟨B5.out, a5, c5, rfl, O5.out⟩
theorem bt_reader (a : Option Addr) (n c : Nat) : Tryd.prog.built 98 [(0, .slice a n c)] = some #[.slice a n c, .bool false] := by
  rw [built_struct (z := .agg #[.slice none 0 0, .bool false]) (places := [(0, 1), (1, 1)]) (by kernel_rfl) (by kernel_rfl) (by kernel_rfl)]
  rfl
/-- The number of an answer. -/
def rqN : Except Nat Wi.Rq → Nat
  | .error k => k
  | .ok _ => 0
/-- What ReadWire answers. -/
def RwAft (w : World) (k : Nat) (e : Ending) (w' : World) : Prop :=
  Below w.heap.size w w' ∧ ∃ sq kd a n c, e = .returned (.tuple #[.agg #[.int .i64 sq, .int .i64 kd, .slice a n c], .int .i64 (k : Int)])
set_option maxHeartbeats 4000000 in
set_option maxRecDepth 100000 in
theorem readWire_any (w : World) (a : Option Addr) (n c : Nat) (l : List UInt8) (hr : Rds w a n l) (hnc : n ≤ c) (hz : a = none → c = 0) (hn : n ≤ 140737488353232) :
    Calls Tryd.prog 9 #[.slice a n c] w (RwAft w (rqN (Wi.readRq l))) := by
  obtain ⟨R, hR⟩ : ∃ R, R = rqN (Wi.readRq l) := ⟨_, rfl⟩
  rw [← hR]
  have HR := Lib.hid hR
  have HRK : Hid (∀ X, Below w.heap.size w X → Rds X a n l) := Lib.hid (fun X hX => hr.below hX (fun h0 b o e => by subst e; exact hr.lt h0))
  obtain ⟨RB, hRB⟩ : ∃ RB, RB = w.heap.size := ⟨_, rfl⟩
  obtain ⟨W1, hW1⟩ : ∃ W1, W1 = w.alloc (.cells #[.int .i64 0, .int .i64 0, .slice none 0 0] 28) := ⟨_, rfl⟩
  have b1 : Below w.heap.size w W1 := by rw [hW1]; exact (Below.refl _ _).alloc (Nat.le_refl _) _
  have T1 : Hid (W1.heap[RB]? = some (.cells #[.int .i64 0, .int .i64 0, .slice none 0 0] 28 (0, 0))) := Lib.hid (by rw [hW1, hRB]; exact heap_alloc_new _ _)
  have RBL : Hid (w.heap.size ≤ RB) := Lib.hid (by omega)
  have hop := ropen_any W1 a n c l (HRK.out _ b1) hnc hz hn
  have B1 := Lib.hid b1
  have HNL := Lib.hid hn
  obtain ⟨x, hx⟩ : ∃ x, x = Wi.opened l := ⟨_, rfl⟩
  rw [← hx] at hop
  have HX := Lib.hid hx
  clear hR hx b1 hr hn hnc hz
  go_enter Tryd.func9, Tryd.ntmps9
  go_upto_region 1 with fail
  rw [← hW1, ← hRB]
  clear hW1 hRB
  go_wp2_with fail
  refine hop.mono ?_
  clear hop
  rintro e w2 ⟨b2, he⟩
  have T2 := Lib.hid ((b2.block _ (blk_lt T1.out)).trans T1.out)
  have B2 := Lib.hid (B1.out.trans (b2.mono B1.out.size))
  cases x with
  | none =>
    obtain rfl := he
    have HE : Hid (R = 4) := Lib.hid (by rw [HR.out, Wi.readRq, ← HX.out]; rfl)
    clear b2
    go_wp2_with (refine wpL_storeW ?hw 28 (.tmp 2) (.tmp 17) rfl RB 0 rfl #[.int .i64 0, .int .i64 0, .slice none 0 0] rfl #[.int .i64 0, .int .i64 0, .slice none 0 0] 28 T2.out #[.int .i64 0, .int .i64 0, .slice none 0 0] rfl (Nat.le_refl 3) (one3 _ _ _ _ _) (sz_rq _ _ _) ?_; case hw => kernel_rfl)
    intro w9 T9 S9
    go_wp2
    refine bodyPost_ret (ret_cell_tmp rfl rfl T9 Tryd.underlying28 rfl (sz_rq _ _ _)) rfl ?_
    rw [HE.out]
    exact ⟨Below.trans_stay B2.out S9 (Nat.le_refl _) (fun k hk e => by have := RBL.out; omega), 0, 0, none, 0, 0, rfl⟩
  | some x =>
    obtain ⟨xa, xc, rfl, x2, xl, xz, xb⟩ := he
    obtain ⟨QB, hQB⟩ : ∃ QB, QB = w2.heap.size := ⟨_, rfl⟩
    obtain ⟨W3, hW3⟩ : ∃ W3, W3 = w2.alloc (.cells #[.int .i64 0, .int .i64 0, .slice none 0 0] 28) := ⟨_, rfl⟩
    have b3 : Below w2.heap.size w2 W3 := by rw [hW3]; exact (Below.refl _ _).alloc (Nat.le_refl _) _
    have Q3 : W3.heap[QB]? = some (.cells #[.int .i64 0, .int .i64 0, .slice none 0 0] 28 (0, 0)) := by rw [hW3, hQB]; exact heap_alloc_new _ _
    obtain ⟨DB, hDB⟩ : ∃ DB, DB = w2.heap.size + 1 := ⟨_, rfl⟩
    have hDB3 : DB = W3.heap.size := by rw [hDB, hW3]; simp
    obtain ⟨W4, hW4⟩ : ∃ W4, W4 = W3.alloc (.cells #[.slice xa x.length xc, .bool false] 98) := ⟨_, rfl⟩
    have b4 : Below W3.heap.size W3 W4 := by rw [hW4]; exact (Below.refl _ _).alloc (Nat.le_refl _) _
    have D4 : W4.heap[DB]? = some (.cells #[.slice xa x.length xc, .bool false] 98 (0, 0)) := by rw [hW4, hDB3]; exact heap_alloc_new _ _
    have Q4 : Hid (W4.heap[QB]? = some (.cells #[.int .i64 0, .int .i64 0, .slice none 0 0] 28 (0, 0))) := Lib.hid ((b4.block _ (blk_lt Q3)).trans Q3)
    have T4 : Hid (W4.heap[RB]? = some (.cells #[.int .i64 0, .int .i64 0, .slice none 0 0] 28 (0, 0))) := Lib.hid ((b4.block _ (blk_lt ((b3.block _ (blk_lt T2.out)).trans T2.out))).trans ((b3.block _ (blk_lt T2.out)).trans T2.out))
    have B4 : Hid (Below w.heap.size w W4) := Lib.hid ((B2.out.trans (b3.mono B2.out.size)).trans (b4.mono (Nat.le_trans B2.out.size b3.size)))
    have x4 : Rds W4 xa x.length x := (x2.below b3 (fun h0 b o e => by subst e; exact x2.lt h0)).below (b4.mono b3.size |> fun h => by exact ⟨h.os, h.tape, h.output, by have := b3.size; have := b4.size; omega, fun j hj => b4.block j (Nat.lt_of_lt_of_le hj b3.size)⟩) (fun h0 b o e => by subst e; exact x2.lt h0)
    have hD : ∃ D, InB D xa ∧ D < W4.heap.size := by
      cases xa with
      | none => exact ⟨RB, InB.nil _, blk_lt T4.out⟩
      | some y =>
        refine ⟨y.block, fun z e => by cases e; rfl, ?_⟩
        have h1 := xb y rfl
        have h2 := b2.size
        have h3 := b3.size
        have h4 := b4.size
        omega
    have LX : Hid (x.length ≤ 140737488353232) := Lib.hid (by
      have h1 : some x = Wi.opened l := HX.out
      unfold Wi.opened at h1
      have h2 := (HRK.out w (Below.refl _ _)).1
      have h3 := HNL.out
      split at h1
      · cases h1
      · split at h1
        · simp only [Option.some.injEq] at h1
          rw [h1, List.length_take]; omega
        · cases h1)
    obtain ⟨D, hD1, hD2⟩ := hD
    have r4 : Rd 98 W4 DB D x false := ⟨⟨xa, xc, ⟨⟨D4, x4, xl, xz, by have := LX.out; omega⟩, hD1⟩⟩, hD2⟩
    have hrh := head_any r4
    obtain ⟨rh, hrhe⟩ : ∃ rh, rh = Wi.rdHead (Oct.rdU 1 x false).2.1 (Oct.rdU 1 x false).2.2 := ⟨_, rfl⟩
    rw [← hrhe] at hrh
    have HOK : Hid (rh.1.ok) := Lib.hid (by rw [hrhe]; exact Wi.rdHead_ok _ _)
    have HLN : Hid (rh.1.items.length ≤ 255) := Lib.hid (by rw [hrhe]; exact rdHead_len _ _)
    have HRE : Hid (R = if Wi.layRq rh.1 = some l then 0 else 2) := Lib.hid (by
      rw [HR.out, Wi.readRq, ← HX.out]
      show rqN (if Wi.layRq (Wi.rdHead (Oct.rdU 1 x false).2.1 (Oct.rdU 1 x false).2.2).1 = some l then _ else _) = _
      rw [← hrhe]
      split <;> rfl)
    have HLK : Hid (rh.2.2 = true → R = 2) := Lib.hid (fun hlk => by
      rw [HRE.out, if_neg]
      exact Wi.lack_no x l rh.1 rh.2.1 HX.out.symm (by show Wi.rdHead (Oct.rdU 1 x false).2.1 (Oct.rdU 1 x false).2.2 = _; rw [← hrhe, ← hlk]) HOK.out)
    have NE : Hid (QB ≠ DB ∧ RB ≠ DB ∧ RB ≠ QB ∧ w.heap.size ≤ QB ∧ w.heap.size ≤ DB) := Lib.hid (by
      have h1 := blk_lt T2.out
      have h2 := B2.out.size
      have h3 := b3.size
      have h4 : W3.heap.size = w2.heap.size + 1 := by rw [hW3]; simp
      exact ⟨by omega, by omega, by omega, by omega, by omega⟩)
    clear b2 b3 b4 x2 xl xz xb D4 Q3 x4 r4 hD1 hD2 hrhe T1 T2 B1 B2
    go_upto_region 6 with (first | (refine wpL_built ?hw 98 #[(0, .tmp 19)] rfl [(0, .slice xa x.length xc)] ?hv #[.slice xa x.length xc, .bool false] ?hb ?_; (case hw => kernel_rfl); (try case hv => rfl); (case hb => exact bt_reader _ _ _)))
    rw [← hW3, ← hW4, ← hDB, ← hQB]
    clear hW3 hQB hDB hW4 hDB3
    go_wp2_with fail
    refine hrh.mono ?_
    clear hrh
    rintro e w5 ⟨⟨fz, ra, rc, rfl, i5, k5⟩, r5, s5⟩
    have B5 := Lib.hid (Below.trans_stay B4.out s5 (Nat.le_refl _) (fun k hk e => by have := NE.out; omega))
    have T5 := Lib.hid ((s5.block _ (blk_lt T4.out) NE.out.2.1).trans T4.out)
    have Q5 := Lib.hid ((s5.block _ (blk_lt Q4.out) NE.out.1).trans Q4.out)
    obtain ⟨rl, hrl⟩ : ∃ rl, rl = rh.1.items.length := ⟨_, rfl⟩
    obtain ⟨sq, hsq⟩ : ∃ sq, sq = rh.1.seq := ⟨_, rfl⟩
    obtain ⟨kd, hkd⟩ : ∃ kd, kd = rh.1.kind := ⟨_, rfl⟩
    obtain ⟨W6, hW6⟩ : ∃ W6, W6 = ((w5.setCell ⟨QB, 0, none⟩ (.int .i64 sq)).setCell ⟨QB, 1, none⟩ (.int .i64 kd)).setCell ⟨QB, 2, none⟩ (.slice ra rl rc) := ⟨_, rfl⟩
    have Q6 : W6.heap[QB]? = some (.cells #[.int .i64 sq, .int .i64 kd, .slice ra rl rc] 28 (0, 0)) := by rw [hW6]; exact set3 Q5.out _ _ _
    have s6 : TStay (fun j => j = QB) w5 W6 := by
      rw [hW6]
      exact (((TStay.refl (fun j => j = QB) _).setCell (p := ⟨QB, 0, none⟩) (.inl rfl) _).setCell (p := ⟨QB, 1, none⟩) (.inl rfl) _).setCell (p := ⟨QB, 2, none⟩) (.inl rfl) _
    have B6 := Lib.hid (Below.trans_stay B5.out s6 (Nat.le_refl _) (fun k hk e => by have := NE.out; omega))
    have T6 := Lib.hid ((s6.block _ (blk_lt T5.out) NE.out.2.2.1).trans T5.out)
    have L6 : W6.cell? ⟨DB, 1, none⟩ = some (.bool rh.2.2) := by
      have h1 := rd_lack r5
      have h2 := s6.block DB r5.lt (fun e => NE.out.1 e.symm)
      obtain ⟨⟨a', c', h3⟩, _⟩ := r5
      rw [cell_of_row W6 DB 1 _ _ _ (h2.trans h3.blk)]; rfl
    have I6 : RdI W6 ra rl rh.1.items := by
      rw [hrl]
      refine i5.stay s6 (fun h0 b o e2 e3 => ?_)
      have := k5 _ e2
      have h2 := blk_lt Q4.out
      simp only at this
      omega
    have hly := layWire_any W6 rh.1 HOK.out ra rl rc I6 (by have := HLN.out; omega)
    rw [← hsq, ← hkd] at hly
    have P6 : Hid (Part W6 QB 0 #[.int .i64 sq, .int .i64 kd, .slice ra rl rc]) := Lib.hid (Part.of_blk Q6)
    have HQ6 := Lib.hid Q6
    have HL6 := Lib.hid L6
    have f0 := blk_free Q5.out 0
    have f1 := blk_free Q5.out 1
    have f2 := blk_free Q5.out 2
    obtain ⟨g0, g1, g2⟩ := cell3 Q5.out
    rw [← hrl, ← hsq, ← hkd]
    clear r5 s5 i5 k5 hrl hsq hkd T4 Q4 B4 B5 T5 L6 I6 Q6 s6
    go_upto_region 7 with fail
    rw [← hW6]
    clear hW6 f0 f1 f2 g0 g1 g2 Q5
    go_wp2_with (refine wpL_load ?hw 28 (.tmp 6) rfl QB 0 rfl #[.int .i64 sq, .int .i64 kd, .slice ra rl rc] _ P6.out Tryd.underlying28 rfl (sz_rq _ _ _) ?_; case hw => kernel_rfl)
    refine hly.mono ?_
    clear hly
    rintro e w7 ⟨b7, he⟩
    have T7 := Lib.hid ((b7.block _ (blk_lt T6.out)).trans T6.out)
    have Q7 := Lib.hid ((b7.block _ (blk_lt HQ6.out)).trans HQ6.out)
    have P7 : Hid (Part w7 QB 0 #[.int .i64 sq, .int .i64 kd, .slice ra rl rc]) := Lib.hid (Part.of_blk Q7.out)
    have B7 := Lib.hid (B6.out.trans (b7.mono B6.out.size))
    have l7 : w7.cell? ⟨DB, 1, none⟩ = some (.bool rh.2.2) := (b7.cell (p := ⟨DB, 1, none⟩) (by
      have := HL6.out
      exact block_lt_of_cell this)).trans HL6.out
    obtain ⟨ly, hlye⟩ : ∃ ly, ly = Wi.layRq rh.1 := ⟨_, rfl⟩
    rw [← hlye] at he HRE
    have HLY := Lib.hid hlye
    obtain ⟨lk, hlk⟩ : ∃ lk, lk = rh.2.2 := ⟨_, rfl⟩
    rw [← hlk] at HLK l7
    clear P6 HQ6 T6 B6 hlye HL6 hlk
    cases ly with
    | none =>
      obtain rfl := he
      have HE : Hid (R = 2) := Lib.hid (by rw [HRE.out, if_neg (by simp)])
      clear b7
      go_wp2_with (refine wpL_storeW ?hw 28 (.tmp 2) (.tmp 52) rfl RB 0 rfl #[.int .i64 0, .int .i64 0, .slice none 0 0] rfl #[.int .i64 0, .int .i64 0, .slice none 0 0] 28 T7.out #[.int .i64 0, .int .i64 0, .slice none 0 0] rfl (Nat.le_refl 3) (one3 _ _ _ _ _) (sz_rq _ _ _) ?_; case hw => kernel_rfl)
      intro w9 T9 S9
      go_wp2
      refine bodyPost_ret (ret_cell_tmp rfl rfl T9 Tryd.underlying28 rfl (sz_rq _ _ _)) rfl ?_
      rw [HE.out]
      exact ⟨Below.trans_stay B7.out S9 (Nat.le_refl _) (fun k hk e => by have := RBL.out; omega), 0, 0, none, 0, 0, rfl⟩
    | some bb =>
      obtain ⟨ba, bc, rfl, ob⟩ := he
      cases lk
      · obtain ⟨SS1, hS1⟩ : ∃ SS1, SS1 = str bb := ⟨_, rfl⟩
        obtain ⟨SS2, hS2⟩ : ∃ SS2, SS2 = str l := ⟨_, rfl⟩
        have cv1 : (convert 25 9 (.slice ba bb.length bc)).run Tryd.prog w7 = .ok (.string SS1) w7 := by rw [hS1]; exact convB _ ba _ bc bb (Rds.of_own ob rfl)
        have cv2 : (convert 25 9 (.slice a n c)).run Tryd.prog w7 = .ok (.string SS2) w7 := by rw [hS2]; exact convB _ a n c l (HRK.out w7 B7.out)
        obtain ⟨q, hq⟩ : ∃ q, q = decide (bb = l) := ⟨_, rfl⟩
        have q0 : (SS1.toList == SS2.toList) = q := by rw [hS1, hS2, str_toList, str_toList, hq]; by_cases e : bb = l <;> simp [e]
        have HQ := Lib.hid hq
        clear hq b7 ob hS1 hS2
        cases q
        · have HE : Hid (R = 2) := Lib.hid (by rw [HRE.out, if_neg (by intro h; simp only [Option.some.injEq] at h; have := HQ.out; rw [decide_eq_true h] at this; cases this)])
          have q1 : (!(SS1.toList == SS2.toList)) = true := by rw [q0]; rfl
          go_wp2_with (refine wpL_storeW ?hw 28 (.tmp 2) (.tmp 52) rfl RB 0 rfl #[.int .i64 0, .int .i64 0, .slice none 0 0] rfl #[.int .i64 0, .int .i64 0, .slice none 0 0] 28 T7.out #[.int .i64 0, .int .i64 0, .slice none 0 0] rfl (Nat.le_refl 3) (one3 _ _ _ _ _) (sz_rq _ _ _) ?_; case hw => kernel_rfl)
          intro w9 T9 S9
          go_wp2
          refine bodyPost_ret (ret_cell_tmp rfl rfl T9 Tryd.underlying28 rfl (sz_rq _ _ _)) rfl ?_
          rw [HE.out]
          exact ⟨Below.trans_stay B7.out S9 (Nat.le_refl _) (fun k hk e => by have := RBL.out; omega), 0, 0, none, 0, 0, rfl⟩
        · have HE : Hid (R = 0) := Lib.hid (by rw [HRE.out, if_pos (by rw [of_decide_eq_true HQ.out.symm])])
          have q1 : (!(SS1.toList == SS2.toList)) = false := by rw [q0]; rfl
          go_wp2_with (first | (refine wpL_load ?hw 28 (.tmp 6) rfl QB 0 rfl #[.int .i64 sq, .int .i64 kd, .slice ra rl rc] _ P7.out Tryd.underlying28 rfl (sz_rq _ _ _) ?_; case hw => kernel_rfl) | (refine wpL_storeW ?hw 28 (.tmp 2) (.tmp 53) rfl RB 0 rfl #[.int .i64 sq, .int .i64 kd, .slice ra rl rc] rfl #[.int .i64 0, .int .i64 0, .slice none 0 0] 28 T7.out #[.int .i64 sq, .int .i64 kd, .slice ra rl rc] rfl (Nat.le_refl 3) (one3 _ _ _ _ _) (sz_rq _ _ _) ?_; case hw => kernel_rfl))
          intro w9 T9 S9
          go_wp2
          refine bodyPost_ret (ret_cell_tmp rfl rfl T9 Tryd.underlying28 rfl (sz_rq _ _ _)) rfl ?_
          rw [HE.out]
          exact ⟨Below.trans_stay B7.out S9 (Nat.le_refl _) (fun k hk e => by have := RBL.out; omega), sq, kd, ra, rl, rc, rfl⟩
      · have HE : Hid (R = 2) := Lib.hid (HLK.out rfl)
        clear b7 ob
        go_wp2_with (refine wpL_storeW ?hw 28 (.tmp 2) (.tmp 52) rfl RB 0 rfl #[.int .i64 0, .int .i64 0, .slice none 0 0] rfl #[.int .i64 0, .int .i64 0, .slice none 0 0] 28 T7.out #[.int .i64 0, .int .i64 0, .slice none 0 0] rfl (Nat.le_refl 3) (one3 _ _ _ _ _) (sz_rq _ _ _) ?_; case hw => kernel_rfl)
        intro w9 T9 S9
        go_wp2
        refine bodyPost_ret (ret_cell_tmp rfl rfl T9 Tryd.underlying28 rfl (sz_rq _ _ _)) rfl ?_
        rw [HE.out]
        exact ⟨Below.trans_stay B7.out S9 (Nat.le_refl _) (fun k hk e => by have := RBL.out; omega), 0, 0, none, 0, 0, rfl⟩
end Go.Proofs.YthampbiabkfmoaaDoor
