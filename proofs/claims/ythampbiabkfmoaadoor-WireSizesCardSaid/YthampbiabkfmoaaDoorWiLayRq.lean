/- LayRequest, Reply.request: what they answer. -/
import Derived.Test.YthampbiabkfmoaaDoorWiHead
namespace Go.Proofs.YthampbiabkfmoaaDoor
open Go.RowKit Go.Tap
set_option linter.unusedVariables false
set_option linter.unusedSimpArgs false
theorem sz_rq (x y z : Value) : (Tryd.prog.info? 28).map (·.size) = some (#[x, y, z] : Array Value).size := by kernel_rfl
theorem sz_rp (x y z u : Value) : (Tryd.prog.info? 88).map (·.size) = some (#[x, y, z, u] : Array Value).size := by kernel_rfl
theorem newW_any (w0 w : World) (hb : Below w0.heap.size w0 w) : Calls Tryd.prog 28 #[] w fun e w' => ∃ B, e = .returned (.pointer (some ⟨B, 0, none⟩)) ∧ Wr 145 w0 w' B [] ∧ Below w.heap.size w w' :=
  (newWriter_any w).mono fun e w' ⟨B, h1, h2, h3, h4⟩ => ⟨B, h1, ⟨⟨_, h3, fun k hk => by simp [Value.ownBlock] at hk⟩, Nat.le_trans hb.size h2, hb.trans (h4.mono hb.size)⟩, h4⟩
set_option maxHeartbeats 1000000 in
set_option maxRecDepth 100000 in
theorem layRequest_any (w : World) (q : Wi.Rq) (hq : q.ok) (a : Option Addr) (n c : Nat) (hr : RdI w a n q.items) (hn : n ≤ 140737488351232) :
    Calls Tryd.prog 6 #[.agg #[.int .i64 q.seq, .int .i64 q.kind, .slice a n c]] w (LayAft w (Wi.layRq q)) := by
  obtain ⟨x, hx⟩ : ∃ x, x = Value.int .i64 q.seq := ⟨_, rfl⟩
  obtain ⟨y, hy⟩ : ∃ y, y = Value.int .i64 q.kind := ⟨_, rfl⟩
  obtain ⟨z, hz⟩ : ∃ z, z = Value.slice a n c := ⟨_, rfl⟩
  have hD : (#[.int .i64 q.seq, .int .i64 q.kind, .slice a n c] : Array Value) = #[x, y, z] := by rw [hx, hy, hz]
  rw [hD]
  have b1 : Below w.heap.size w (w.alloc (.cells #[x, y, z] 28)) := (Below.refl _ _).alloc (Nat.le_refl _) _
  have hM := mayRequest_any _ q hq a n c (hr.below b1) hn
  rw [hD] at hM
  have P1 : Hid (Part (w.alloc (.cells #[x, y, z] 28)) w.heap.size 0 #[x, y, z]) := Lib.hid (Part.of_blk (heap_alloc_new _ _))
  have T1 : Hid ((w.alloc (.cells #[x, y, z] 28)).heap[w.heap.size]? = some (.cells #[x, y, z] 28 (0, 0))) := Lib.hid (heap_alloc_new _ _)
  have B1 := Lib.hid b1
  have HQ := Lib.hid hq
  have HR := Lib.hid hr
  have HD := Lib.hid hD
  clear hx hy hz hD b1 hq hr hn
  go_enter Tryd.func6, Tryd.ntmps6
  go_wp2_with (refine wpL_load ?hw 28 (.tmp 1) rfl w.heap.size 0 rfl #[x, y, z] _ P1.out Tryd.underlying28 rfl (sz_rq x y z) ?_; case hw => kernel_rfl)
  refine hM.mono ?_
  clear hM
  rintro e w2 ⟨rfl, b2⟩
  have T2 := Lib.hid ((b2.block _ (blk_lt T1.out)).trans T1.out)
  have B2 := Lib.hid (B1.out.trans (b2.mono B1.out.size))
  clear b2 P1 T1 B1
  obtain ⟨p, hp⟩ : ∃ p, p = Wi.mayRq q := ⟨_, rfl⟩
  rw [← hp]
  have HP := Lib.hid hp
  clear hp
  cases p
  · have hnone : Hid (Wi.layRq q = none) := Lib.hid (by unfold Wi.layRq; rw [← HP.out]; rfl)
    go_wp2
    go_ret2
    rw [hnone.out]
    exact ⟨B2.out, rfl⟩
  · have hsome : Hid (Wi.layRq q = some (Wi.sumB (Wi.headB 1 q))) := Lib.hid (by unfold Wi.layRq; rw [← HP.out]; rfl)
    have HM : Hid (Wi.mayRq q = true) := Lib.hid HP.out.symm
    have hnw := newW_any w w2 B2.out
    go_wp2_with fail
    refine hnw.mono ?_
    clear hnw
    rintro e w3 ⟨B, rfl, h3, b3⟩
    have P3 : Hid (Part w3 w.heap.size 0 #[x, y, z]) := Lib.hid (Part.of_blk ((b3.block _ (blk_lt T2.out)).trans T2.out))
    have hh := layHead_any h3 1 q HQ.out HM.out a n c HR.out (by simp)
    rw [HD.out] at hh
    clear h3 b3 T2 B2
    go_wp2_with (refine wpL_load ?hw 28 (.tmp 1) rfl w.heap.size 0 rfl #[x, y, z] _ P3.out Tryd.underlying28 rfl (sz_rq x y z) ?_; case hw => kernel_rfl)
    refine hh.mono ?_
    clear hh
    rintro e w4 ⟨rfl, h4, k4⟩
    rw [List.nil_append] at h4
    have hs := summed_any h4 (by have := Wi.headB_le HM.out HQ.out 1; omega)
    clear h4 k4
    go_wp2_with fail
    refine hs.mono ?_
    clear hs
    rintro e w5 ⟨a5, c5, rfl, o5, b5⟩
    have O5 := Lib.hid o5
    have B5 := Lib.hid b5
    clear o5 b5
    go_wp2
    go_ret2
    rw [hsome.out]
    exact ⟨B5.out, a5, c5, rfl, O5.out⟩
theorem set3 {w : World} {b : Nat} {t : TypeId} {x y z : Value} (h : w.heap[b]? = some (.cells #[x, y, z] t (0, 0))) (x' y' z' : Value) : (((w.setCell ⟨b, 0, none⟩ x').setCell ⟨b, 1, none⟩ y').setCell ⟨b, 2, none⟩ z').heap[b]? = some (.cells #[x', y', z'] t (0, 0)) :=
  heap_setCell_same _ b 2 _ _ _ (heap_setCell_same _ b 1 _ _ _ (heap_setCell_same w b 0 _ _ _ h))
set_option maxHeartbeats 1000000 in
set_option maxRecDepth 100000 in
theorem request_any (w : World) (sq kd : Int) (a : Option Addr) (n c : Nat) (a2 : Option Addr) (n2 c2 : Nat) : Calls Tryd.prog 98 #[.agg #[.int .i64 sq, .int .i64 kd, .slice a n c, .slice a2 n2 c2]] w fun e w' => e = .returned (.agg #[.int .i64 sq, .int .i64 kd, .slice a n c]) ∧ Below w.heap.size w w' := by
  go_enter Tryd.func98, Tryd.ntmps98
  go_wp2
  ((try simp only [Exit.inBlock, Exit.then]))
  exact bodyPost_ret (results_cell_row rfl _ _ (w.heap.size + 1) 28 _ (0, 0) _ rfl (heap_alloc2_new _ _ _) Tryd.underlying28 rfl (sz_rq _ _ _)) rfl ⟨rfl, ((Below.refl _ _).alloc (Nat.le_refl _) _).alloc (by simp) _⟩
end Go.Proofs.YthampbiabkfmoaaDoor
