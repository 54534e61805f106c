/- SameRequest: what it answers. -/
import Derived.Test.YtpblopdcbjfkpaaDoorWiRdRp
namespace Go.Proofs.YtpblopdcbjfkpaaDoor
open Go.RowKit Go.Tap
set_option linter.unusedVariables false
set_option linter.unusedSimpArgs false
set_option maxHeartbeats 2000000 in
set_option maxRecDepth 100000 in
theorem sameRequest_any (w : World) (q1 q2 : Wi.Rq) (h1 : q1.ok) (h2 : q2.ok) (a1 : Option Addr) (n1 c1 : Nat) (r1 : RdI w a1 n1 q1.items) (a2 : Option Addr) (n2 c2 : Nat) (r2 : RdI w a2 n2 q2.items) (hn1 : n1 ≤ 1000000) (hn2 : n2 ≤ 1000000) :
    Calls Tryd.prog 26 #[.agg #[.int .i64 q1.seq, .int .i64 q1.kind, .slice a1 n1 c1], .agg #[.int .i64 q2.seq, .int .i64 q2.kind, .slice a2 n2 c2]] w fun e w' => e = .returned (.bool (decide (q1 = q2))) ∧ Below w.heap.size w w' := by
  obtain ⟨r, hr⟩ : ∃ r, r = decide (q1 = q2) := ⟨_, rfl⟩
  rw [← hr]
  have HR : Hid (r = (decide (q1.seq = q2.seq) && decide (q1.kind = q2.kind) && decide (q1.items = q2.items))) := Lib.hid (by
    rw [hr, Bool.eq_iff_iff]; simp only [Bool.and_eq_true, decide_eq_true_eq]
    constructor
    · rintro rfl; exact ⟨⟨rfl, rfl⟩, rfl⟩
    · rintro ⟨⟨x, y⟩, z⟩; cases q1; cases q2; simp_all)
  obtain ⟨s1, hs1⟩ : ∃ s, s = q1.seq := ⟨_, rfl⟩
  obtain ⟨s2, hs2⟩ : ∃ s, s = q2.seq := ⟨_, rfl⟩
  obtain ⟨k1, hk1⟩ : ∃ s, s = q1.kind := ⟨_, rfl⟩
  obtain ⟨k2, hk2⟩ : ∃ s, s = q2.kind := ⟨_, rfl⟩
  rw [← hs1, ← hs2, ← hk1, ← hk2] at HR
  rw [← hs1, ← hs2, ← hk1, ← hk2]
  have b1 : Below w.heap.size w ((w.alloc (.cells #[.int .i64 s1, .int .i64 k1, .slice a1 n1 c1] 50)).alloc (.cells #[.int .i64 s2, .int .i64 k2, .slice a2 n2 c2] 50)) := ((Below.refl _ _).alloc (Nat.le_refl _) _).alloc (by simp) _
  have heq := equalI_any _ a1 n1 c1 q1.items (r1.below b1) h1.items a2 n2 c2 q2.items (r2.below b1) h2.items (by omega) (by omega)
  have B1 := Lib.hid b1
  obtain ⟨z, hz⟩ : ∃ z, z = decide (q1.items = q2.items) := ⟨_, rfl⟩
  rw [← hz] at heq
  rw [← hz] at HR
  clear hr hs1 hs2 hk1 hk2 b1 r1 r2 h1 h2 hz hn1 hn2
  by_cases e1 : s1 = s2
  · subst e1
    by_cases e2 : k1 = k2
    · subst e2
      have q0 : (s1 == s1) = true := by simp
      have q1' : (k1 == k1) = true := by simp
      go_enter Tryd.func26, Tryd.ntmps26
      go_wp2_with fail
      refine heq.mono ?_
      clear heq
      rintro e w2 ⟨rfl, b2⟩
      have B2 := Lib.hid (B1.out.trans (b2.mono B1.out.size))
      clear b2
      go_wp2
      go_ret
      exact ⟨ret_bool (by rw [HR.out]; simp), B2.out⟩
    · have q0 : (s1 == s1) = true := by simp
      have q1' : (k1 == k2) = false := by simp [e2]
      have HF : Hid (r = false) := Lib.hid (by rw [HR.out, decide_eq_false e2]; simp)
      clear e2
      go_enter Tryd.func26, Tryd.ntmps26
      go_wp2
      go_ret
      exact ⟨ret_bool (by rw [HF.out]), B1.out⟩
  · have q0 : (s1 == s2) = false := by simp [e1]
    have HF : Hid (r = false) := Lib.hid (by rw [HR.out, decide_eq_false e1]; simp)
    clear e1
    go_enter Tryd.func26, Tryd.ntmps26
    go_wp2
    go_ret
    exact ⟨ret_bool (by rw [HF.out]), B1.out⟩
end Go.Proofs.YtpblopdcbjfkpaaDoor
