/- ReadRequest, SameRequest: what they answer. -/
import Derived.Test.YthampbiabkfmoaaDoorWiEqI
namespace Go.Proofs.YthampbiabkfmoaaDoor
open Go.RowKit Go.Tap
set_option linter.unusedVariables false
set_option linter.unusedSimpArgs false
theorem ret_cell_tmp {fn : Func} {p u : Tmp} {ty : TypeId} (hf : fn.results = #[.cell p ty, .tmp u]) {tmps : Array Value} {X : World} {b : Nat} {cs : Array Value} {t : TypeId} {fr : Nat × Nat} {d : TypeDesc} (hp : tmps.getD p undef = .pointer (some ⟨b, 0, none⟩)) (h : X.heap[b]? = some (.cells cs t fr))
    (hu : Tryd.prog.underlying ty = some d) (hd : isAggDesc d = true) (hi : (Tryd.prog.info? ty).map (·.size) = some cs.size) :
    (results fn tmps).run Tryd.prog X = .ok (.tuple #[.agg cs, tmps.getD u undef]) X := by
  rw [results_cell_tmp hf, hp]
  simp only [asAddr, Sem.run_pure, Result.andThen, run_loadVar_at (P := Tryd.prog) (Part.of_blk h) hu hd hi]
/-- What ReadRequest answers. -/
def RqAft (w : World) (r : Except Nat Wi.Rq) (e : Ending) (w' : World) : Prop :=
  Below w.heap.size w w' ∧ match r with
  | .error k => e = .returned (.tuple #[.agg #[.int .i64 0, .int .i64 0, .slice none 0 0], .iface 45 (.int .i64 (k : Int))])
  | .ok q => ∃ a c, e = .returned (.tuple #[.agg #[.int .i64 q.seq, .int .i64 q.kind, .slice a q.items.length c], .nilIface]) ∧ RdI w' a q.items.length q.items ∧ (a = none → c = 0) ∧ q.items.length ≤ c ∧ ∀ x, a = some x → w.heap.size ≤ x.block
theorem one3 (s k : Int) (a : Option Addr) (n c : Nat) : ∀ u ∈ (#[.int .i64 s, .int .i64 k, .slice a n c] : Array Value).toList, u.oneCell' = true := by
  intro u hu
  simp only [List.mem_cons, List.not_mem_nil, or_false] at hu
  rcases hu with rfl | rfl | rfl <;> rfl
theorem rdHead_len (l : List UInt8) (lk : Bool) : (Wi.rdHead l lk).1.items.length ≤ 255 := by
  unfold Wi.rdHead
  have h := Oct.rdU_lt 1 (Oct.rdU 1 (Oct.rdU 4 l lk).2.1 (Oct.rdU 4 l lk).2.2).2.1 (Oct.rdU 1 (Oct.rdU 4 l lk).2.1 (Oct.rdU 4 l lk).2.2).2.2
  exact Nat.le_trans (Wi.rdIts_len _ _ _) (by simp at h; omega)
set_option maxHeartbeats 4000000 in
set_option maxRecDepth 100000 in
theorem readRequest_any (w : World) (a : Option Addr) (n c : Nat) (l : List UInt8) (hr : Rds w a n l) (hnc : n ≤ c) (hz : a = none → c = 0) (hn : n ≤ 140737488353232) :
    Calls Tryd.prog 11 #[.slice a n c] w (RqAft w (Wi.readRq l)) := by
  obtain ⟨R, hR⟩ : ∃ R, R = Wi.readRq l := ⟨_, rfl⟩
  rw [← hR]
  have HR := Lib.hid hR
  have hrk : ∀ X, Below w.heap.size w X → Rds X a n l := fun X hX => hr.below hX (fun h0 b o e => by subst e; exact hr.lt h0)
  have b1 : Below w.heap.size w (w.alloc (.cells #[.int .i64 0, .int .i64 0, .slice none 0 0] 28)) := (Below.refl _ _).alloc (Nat.le_refl _) _
  have hck := checked_any _ a n c l (hrk _ b1) hnc hz hn
  have T1 : Hid ((w.alloc (.cells #[.int .i64 0, .int .i64 0, .slice none 0 0] 28)).heap[w.heap.size]? = some (.cells #[.int .i64 0, .int .i64 0, .slice none 0 0] 28 (0, 0))) := Lib.hid (heap_alloc_new _ _)
  have B1 := Lib.hid b1
  have HRK := Lib.hid hrk
  have HNL := Lib.hid hn
  obtain ⟨x, hx⟩ : ∃ x, x = Wi.opened l := ⟨_, rfl⟩
  rw [← hx] at hck
  have HX := Lib.hid hx
  have HW1 : Hid (w.heap.size < (w.alloc (.cells #[.int .i64 0, .int .i64 0, .slice none 0 0] 28)).heap.size) := Lib.hid (by simp)
  clear hR hx b1 hr hrk hn hnc hz
  go_enter Tryd.func11, Tryd.ntmps11
  go_wp2_with fail
  refine hck.mono ?_
  clear hck
  rintro e w2 ⟨b2, he⟩
  have T2 := Lib.hid ((b2.block _ (blk_lt T1.out)).trans T1.out)
  have B2 := Lib.hid (B1.out.trans (b2.mono B1.out.size))
  cases x with
  | none =>
    obtain rfl := he
    have HE : Hid (R = .error 4) := Lib.hid (by rw [HR.out, Wi.readRq, ← HX.out])
    clear b2
    go_wp2_with (refine wpL_storeW ?hw 28 (.tmp 2) (.tmp 16) rfl w.heap.size 0 rfl #[.int .i64 0, .int .i64 0, .slice none 0 0] rfl #[.int .i64 0, .int .i64 0, .slice none 0 0] 28 T2.out #[.int .i64 0, .int .i64 0, .slice none 0 0] rfl (Nat.le_refl 3) (one3 _ _ _ _ _) (sz_rq _ _ _) ?_; case hw => kernel_rfl)
    intro w9 T9 S9
    go_wp2
    refine bodyPost_ret (ret_cell_tmp rfl rfl T9 Tryd.underlying28 rfl (sz_rq _ _ _)) rfl ?_
    rw [HE.out]
    exact ⟨Below.trans_stay B2.out S9 (Nat.le_refl _) (fun k hk e => by omega), rfl⟩
  | some x =>
    obtain ⟨B, D, rfl, hB, hD, r2⟩ := he
    have HBB : Hid (w.heap.size < B) := Lib.hid (by have := HW1.out; omega)
    have HDD : Hid (w.heap.size < D) := Lib.hid (by have := HW1.out; omega)
    have hrh := readHead_any r2
    obtain ⟨rh, hrhe⟩ : ∃ rh, rh = Wi.rdHead (Wi.behind x).1 (Wi.behind x).2 := ⟨_, rfl⟩
    rw [← hrhe] at hrh
    have HRH := Lib.hid hrhe
    have HOK : Hid (rh.1.ok) := Lib.hid (by rw [hrhe]; exact Wi.rdHead_ok _ _)
    have HLN : Hid (rh.1.items.length ≤ 255) := Lib.hid (by rw [hrhe]; exact rdHead_len _ _)
    have HRE : Hid (R = if Wi.layRq rh.1 = some l then .ok rh.1 else .error 2) := Lib.hid (by rw [HR.out, Wi.readRq, ← HX.out, hrhe])
    clear b2 hB hD r2 hrhe
    go_wp2_with fail
    refine hrh.mono ?_
    clear hrh
    rintro e w3 ⟨⟨ra, rc, rfl, i3, z3, c3, k3⟩, r3, s3⟩
    have B3 := Lib.hid (Below.trans_stay B2.out s3 (Nat.le_refl _) (fun k hk e => by have := HBB.out; omega))
    have T3 := Lib.hid ((s3.block _ (blk_lt T2.out) (by have := HBB.out; omega)).trans T2.out)
    have I3 := Lib.hid i3
    have Z3 := Lib.hid z3
    have C3 := Lib.hid c3
    have K3 := Lib.hid (fun y (hy : ra = some y) => Nat.lt_of_lt_of_le (blk_lt T2.out) (k3 y hy))
    obtain ⟨rl, hrl⟩ : ∃ rl, rl = rh.1.items.length := ⟨_, rfl⟩
    rw [← hrl] at I3 C3 HLN ⊢
    have HRL := Lib.hid hrl
    obtain ⟨sq, hsq⟩ : ∃ sq, sq = rh.1.seq := ⟨_, rfl⟩
    obtain ⟨kd, hkd⟩ : ∃ kd, kd = rh.1.kind := ⟨_, rfl⟩
    rw [← hsq, ← hkd]
    have HSQ := Lib.hid hsq
    have HKD := Lib.hid hkd
    have b4 : Below w3.heap.size w3 (w3.alloc (.cells #[.int .i64 sq, .int .i64 kd, .slice ra rl rc] 28)) := (Below.refl _ _).alloc (Nat.le_refl _) _
    have P4 : Hid (Part (w3.alloc (.cells #[.int .i64 sq, .int .i64 kd, .slice ra rl rc] 28)) w3.heap.size 0 #[.int .i64 sq, .int .i64 kd, .slice ra rl rc]) := Lib.hid (Part.of_blk (heap_alloc_new _ _))
    have T4 : Hid ((w3.alloc (.cells #[.int .i64 sq, .int .i64 kd, .slice ra rl rc] 28)).heap[w3.heap.size]? = some (.cells #[.int .i64 sq, .int .i64 kd, .slice ra rl rc] 28 (0, 0))) := Lib.hid (heap_alloc_new _ _)
    have T42 := Lib.hid ((b4.block _ (blk_lt T3.out)).trans T3.out)
    have B4 := Lib.hid (B3.out.trans (b4.mono B3.out.size))
    have hly := layRequest_any _ rh.1 HOK.out ra rl rc (I3.out.below b4) (by have := HLN.out; omega)
    rw [← HSQ.out, ← HKD.out] at hly
    have I4 := Lib.hid (I3.out.below b4)
    have NE : Hid (w.heap.size ≠ w3.heap.size) := Lib.hid (by have := blk_lt T3.out; omega)
    clear r3 s3 i3 z3 c3 k3 hrl hsq hkd b4 T2 T1 B1 B2 T3
    go_wp2_with (refine wpL_load ?hw 28 (.tmp 6) rfl w3.heap.size 0 rfl #[.int .i64 sq, .int .i64 kd, .slice ra rl rc] _ P4.out Tryd.underlying28 rfl (sz_rq _ _ _) ?_; case hw => kernel_rfl)
    refine hly.mono ?_
    clear hly
    rintro e w5 ⟨b5, he⟩
    have T5 := Lib.hid ((b5.block _ (blk_lt T4.out)).trans T4.out)
    have T52 := Lib.hid ((b5.block _ (blk_lt T42.out)).trans T42.out)
    have B5 := Lib.hid (B4.out.trans (b5.mono B4.out.size))
    have I5 := Lib.hid (I4.out.below b5)
    obtain ⟨ly, hlye⟩ : ∃ ly, ly = Wi.layRq rh.1 := ⟨_, rfl⟩
    rw [← hlye] at he HRE
    have HLY := Lib.hid hlye
    clear P4 T4 T42 B4 B3 I3 I4 hlye
    cases ly with
    | none =>
      obtain rfl := he
      have HE : Hid (R = .error 2) := Lib.hid (by rw [HRE.out, if_neg (by simp)])
      clear b5
      go_wp2_with (refine wpL_storeW ?hw 28 (.tmp 2) (.tmp 33) rfl w.heap.size 0 rfl #[.int .i64 0, .int .i64 0, .slice none 0 0] rfl #[.int .i64 0, .int .i64 0, .slice none 0 0] 28 T52.out #[.int .i64 0, .int .i64 0, .slice none 0 0] rfl (Nat.le_refl 3) (one3 _ _ _ _ _) (sz_rq _ _ _) ?_; case hw => kernel_rfl)
      intro w9 T9 S9
      go_wp2
      refine bodyPost_ret (ret_cell_tmp rfl rfl T9 Tryd.underlying28 rfl (sz_rq _ _ _)) rfl ?_
      rw [HE.out]
      exact ⟨Below.trans_stay B5.out S9 (Nat.le_refl _) (fun k hk e => by omega), rfl⟩
    | some bb =>
      obtain ⟨ba, bc, rfl, ob⟩ := he
      have heq := equal_any w5 ba bb.length bc bb (Rds.of_own ob rfl) a n c l (HRK.out w5 B5.out) (by
        obtain ⟨hm, hb⟩ := Wi.layRq_parts HLY.out.symm
        have := Wi.headB_le hm HOK.out 1
        rw [hb, Wi.sumB_len]; omega) (by have := HNL.out; omega)
      obtain ⟨q, hq⟩ : ∃ q, q = decide (bb = l) := ⟨_, rfl⟩
      rw [← hq] at heq
      have HQ := Lib.hid hq
      clear hq b5 ob
      go_wp2_with fail
      refine heq.mono ?_
      clear heq
      rintro e w6 ⟨rfl, b6⟩
      have T6 := Lib.hid ((b6.block _ (blk_lt T5.out)).trans T5.out)
      have T62 := Lib.hid ((b6.block _ (blk_lt T52.out)).trans T52.out)
      have B6 := Lib.hid (B5.out.trans (b6.mono B5.out.size))
      have I6 := Lib.hid (I5.out.below b6)
      clear b6 T5 T52 B5 I5
      cases q
      · have HE : Hid (R = .error 2) := Lib.hid (by rw [HRE.out, if_neg (by intro h; simp only [Option.some.injEq] at h; have := HQ.out; rw [decide_eq_true h] at this; cases this)])
        go_wp2_with (refine wpL_storeW ?hw 28 (.tmp 2) (.tmp 33) rfl w.heap.size 0 rfl #[.int .i64 0, .int .i64 0, .slice none 0 0] rfl #[.int .i64 0, .int .i64 0, .slice none 0 0] 28 T62.out #[.int .i64 0, .int .i64 0, .slice none 0 0] rfl (Nat.le_refl 3) (one3 _ _ _ _ _) (sz_rq _ _ _) ?_; case hw => kernel_rfl)
        intro w9 T9 S9
        go_wp2
        refine bodyPost_ret (ret_cell_tmp rfl rfl T9 Tryd.underlying28 rfl (sz_rq _ _ _)) rfl ?_
        rw [HE.out]
        exact ⟨Below.trans_stay B6.out S9 (Nat.le_refl _) (fun k hk e => by omega), rfl⟩
      · have HE : Hid (R = .ok rh.1) := Lib.hid (by rw [HRE.out, if_pos (by rw [of_decide_eq_true HQ.out.symm])])
        have P6 : Hid (Part w6 w3.heap.size 0 #[.int .i64 sq, .int .i64 kd, .slice ra rl rc]) := Lib.hid (Part.of_blk T6.out)
        go_wp2_with (first | (refine wpL_load ?hw 28 (.tmp 6) rfl w3.heap.size 0 rfl #[.int .i64 sq, .int .i64 kd, .slice ra rl rc] _ P6.out Tryd.underlying28 rfl (sz_rq _ _ _) ?_; case hw => kernel_rfl) | (refine wpL_storeW ?hw 28 (.tmp 2) (.tmp 35) rfl w.heap.size 0 rfl #[.int .i64 sq, .int .i64 kd, .slice ra rl rc] rfl #[.int .i64 0, .int .i64 0, .slice none 0 0] 28 T62.out #[.int .i64 sq, .int .i64 kd, .slice ra rl rc] rfl (Nat.le_refl 3) (one3 _ _ _ _ _) (sz_rq _ _ _) ?_; case hw => kernel_rfl))
        intro w9 T9 S9
        go_wp2
        refine bodyPost_ret (ret_cell_tmp rfl rfl T9 Tryd.underlying28 rfl (sz_rq _ _ _)) rfl ?_
        rw [HE.out]
        refine ⟨Below.trans_stay B6.out S9 (Nat.le_refl _) (fun k hk e => by omega), ra, rc, by rw [HSQ.out, HKD.out, HRL.out]; rfl, ?_, Z3.out, by rw [← HRL.out]; exact C3.out, fun y hy => Nat.le_of_lt (K3.out y hy)⟩
        rw [← HRL.out]
        refine I6.out.stay S9 (fun h0 b o e2 e3 => ?_)
        have := K3.out _ e2
        simp only at this
        omega
end Go.Proofs.YthampbiabkfmoaaDoor
