/- FrameReads: what it comes to, where what is read is of bulk at most 1048576. -/
import Derived.Test.YtjdadbpekaoijaaDoorFrameKnown
import Derived.Test.YtjdadbpekaoijaaDoorRefFrame
import Derived.Test.YtjdadbpekaoijaaDoorHand
import Derived.Test.YtjdadbpekaoijaaDoorOpen
import Derived.Deep.Cut
import Derived.Deep.CutRange
import Derived.Deep.CutBlock
namespace Go.Proofs.YtjdadbpekaoijaaDoor
open Go.RowKit Go.Tap
set_option linter.unusedVariables false

theorem wrapi' (x : Int) (h : -9223372036854775808 ≤ x ∧ x ≤ 9223372036854775807) : IntKind.i64.wrap x = x := by simp [IntKind.wrap, IntKind.bits, IntKind.signed]; omega
theorem xor_u8' (x y : UInt8) : bits BinOp.xor IntKind.u8 (x.toNat : Int) (y.toNat : Int) = ((x ^^^ y).toNat : Int) := by
  rw [u8_xor_nat _ _ x.toNat_lt y.toNat_lt, UInt8.toNat_xor]
/-- What the bytes are, behind the turning. -/
def Got (w wx : World) (b : Value) : Prop := ∃ a n c l, b = .slice a n c ∧ Rds wx a n l ∧ n ≤ c ∧ (a = none → c = 0) ∧ n ≤ 4194304 ∧ Below w.heap.size w wx
set_option maxHeartbeats 8000000 in
set_option maxRecDepth 100000 in
theorem frameReads_walk_upto (w : World) (hg : EType w) (a0 : Int) (b0 : -9223372036854775808 ≤ a0 ∧ a0 ≤ 9223372036854775807) (s1 : Option Addr) (n1 c1 : Nat) (l1 : List UInt8) (g1 : ArgB 1048576 w s1 n1 c1 l1)
    (s2 : Option Addr) (n2 c2 : Nat) (l2 : List UInt8) (g2 : ArgB 1048576 w s2 n2 c2 l2) (s3 : Option Addr) (n3 c3 : Nat) (l3 : List UInt8) (g3 : ArgB 1048576 w s3 n3 c3 l3)
    (a4 : Int) (b4 : -9223372036854775808 ≤ a4 ∧ a4 ≤ 9223372036854775807) (a5 : Int) (b5 : -9223372036854775808 ≤ a5 ∧ a5 ≤ 9223372036854775807) (a6 : Int) (b6 : 0 ≤ a6 ∧ a6 ≤ 255) :
    Calls Tryd.prog 4 #[.int .i64 a0, .slice s1 n1 c1, .slice s2 n2 c2, .slice s3 n3 c3, .int .i64 a4, .int .i64 a5, .int .u8 a6] w fun e w' => e = .returned (.bool true) ∧ Below w.heap.size w w' := by
  obtain ⟨i0, hi, hz0, hz1, hz2'⟩ := info_parts Tryd.infoB
  obtain ⟨Y, rfl⟩ := byte_of b6
  have r1 := g1.rds
  have le1 := g1.le
  have z1 := g1.none
  have m1 := g1.cap
  have le3 := g3.le
  have z3 := g3.none
  have m3 := g3.cap
  have le2 := g2.le
  have m2 := g2.cap
  have R1 := Lib.hid r1
  have rlen2 := g2.rds.1
  have R3 := Lib.hid g3.rds
  have F2 := few_all w s2 n2 c2 l2 g2.rds g2.le g2.none (by omega)
  have BB := Lib.hid (And.intro b0 (And.intro b4 b5))
  clear g1 g2 g3 r1 b0 b4 b5 b6
  go_enter Tryd.func4, Tryd.ntmps4
  go_wp2_with fail
  refine F2.mono ?_
  rintro e w1 ⟨x1, k1, rfl, hown1, hb1⟩
  clear F2
  obtain ⟨_, _, hq1, hk1, _, hz11, _⟩ := ownsRow_slice hown1
  simp only [Value.slice.injEq] at hq1
  obtain ⟨rfl, _, rfl⟩ := hq1
  obtain ⟨t, ht⟩ : ∃ t, decide (0 < a4.tmod 5) = t := ⟨_, rfl⟩
  have HT := Lib.hid ht
  go_upto_if 30 with (fail)
  go_cut [15] from 31 to 63 (fun b wx => Got w wx b)
  case first =>
    clear ht
    cases t
    rotate_left
    · obtain ⟨p, hp⟩ : ∃ p : Nat, a0 % 255 = p := ⟨(a0 % 255).toNat, by have := Int.emod_nonneg a0 (show (255 : Int) ≠ 0 by omega); omega⟩
      have hp255 : p < 255 := by have := Int.emod_lt_of_pos a0 (show (0 : Int) < 255 by omega); omega
      have hw := wrapi' (1 + (p : Int)) (by omega)
      obtain ⟨q, hq⟩ : ∃ q : Nat, a4 % 4 = q := ⟨(a4 % 4).toNat, by have := Int.emod_nonneg a4 (show (4 : Int) ≠ 0 by omega); omega⟩
      have hq4 : q < 4 := by have := Int.emod_lt_of_pos a4 (show (0 : Int) < 4 by omega); omega
      have HQ := Lib.hid hq
      clear hq
      go_wp2_with fail
      refine (pick_any _ a0 255 BB.out.1.1 BB.out.1.2 (by omega) (by omega)).mono ?_
      rintro e w' ⟨he, rfl⟩
      rw [hp] at he
      subst he
      clear hp
      go_wp2_with fail
      refine (refFrame_any w1 _ s1 n1 c1 l1 (rds_keep R1.out hb1) z1 (by omega)).mono ?_
      rintro e w2 ⟨v, rfl, ho2, hb2⟩
      have b2 := hb1.trans (hb2.mono hb1.size)
      obtain ⟨F, hF⟩ : ∃ F, F = frm (1 + (p : Int)) l1 := ⟨_, rfl⟩
      rw [← hF] at ho2
      obtain ⟨N, hN⟩ : ∃ N, N = F.length := ⟨_, rfl⟩
      have hN9 : 9 ≤ N ∧ N ≤ 1048585 := by have : N = 9 + n1 := by rw [hN, hF, frm_length, R1.out.1]
                                           omega
      rw [← hN] at ho2
      obtain ⟨a2, c2', rfl, hk2, _, hz2, _⟩ := ownsRow_slice ho2
      obtain ⟨g, rfl, hg1, hg2⟩ := own_head ho2 (by omega)
      have hr2 : Rds w2 (some ⟨g, 0, none⟩) N F := Rds.of_own (by rw [← hN]; exact ho2) hN.symm
      have HO := Lib.hid ho2
      have HR2 := Lib.hid hr2
      have HF := Lib.hid hN
      clear ho2 hr2 hF hN hown1 hk1 hz11
      go_wp2_with fail
      refine (pick_any _ a4 4 BB.out.2.1.1 BB.out.2.1.2 (by omega) (by omega)).mono ?_
      rintro e w' ⟨he, rfl⟩
      rw [HQ.out] at he
      subst he
      rcases (show q = 0 ∨ q = 1 ∨ q = 2 ∨ q = 3 by omega) with rfl | rfl | rfl | rfl
      · obtain ⟨k, hk⟩ : ∃ k : Nat, a5 % (N : Int) = k := ⟨(a5 % (N : Int)).toNat, by have := Int.emod_nonneg a5 (show (N : Int) ≠ 0 by omega); omega⟩
        have hkn : k < N := by have := Int.emod_lt_of_pos a5 (show (0 : Int) < N by omega); omega
        have hFl := HF.out
        have hx : F[k]? = some (F[k]'(by omega)) := List.getElem?_eq_getElem _
        have hcell : w2.cell? ⟨g, k, none⟩ = some (.int .u8 ((F[k]'(by omega)).toNat : Int)) := by
          rw [HO.out.cellAt k (by omega), bv_getElem?, hx]; rfl
        have hfr : w2.frozen? ⟨g, k, none⟩ = false := HO.out.frozenAt k
        have hst := HO.out.stored k (.int .u8 (((F[k]'(by omega)) ^^^ Y).toNat : Int))
        rw [bv_set] at hst
        generalize (F[k]'(by omega)) = x at hx hcell hst
        have HS := Lib.hid hst
        have HK := Lib.hid hk
        clear hx hst hk hFl
        go_wp2_with fail
        refine (pick_any _ a5 N BB.out.2.2.1 BB.out.2.2.2 (by omega) (by omega)).mono ?_
        rintro e w' ⟨he, rfl⟩
        rw [HK.out] at he
        subst he
        go_wp2
        rw [xor_u8']
        go_meet
        case rel => exact ⟨_, N, _, F.set k (x ^^^ Y), rfl, Rds.of_own (by have h := HS.out.1; rw [List.length_set, ← HF.out]; exact h) (by rw [List.length_set, ← HF.out]), hk2, (by intro h; cases h), by omega, b2.setCell (by have := hb1.size; show w.heap.size ≤ g; omega) _⟩
      · obtain ⟨k, hk⟩ : ∃ k : Nat, a5 % ((N : Int) + 1) = k := ⟨(a5 % ((N : Int) + 1)).toNat, by have := Int.emod_nonneg a5 (show (N : Int) + 1 ≠ 0 by omega); omega⟩
        have hkn : k ≤ N := by have := Int.emod_lt_of_pos a5 (show (0 : Int) < (N : Int) + 1 by omega); omega
        have hw1 := wrapi' ((N : Int) + 1) (by omega)
        have hk0 : (0 : Int) ≤ (k : Int) := by omega
        have hkc : (k : Int) ≤ (c2' : Int) := by omega
        have hkc' : k ≤ c2' := by omega
        have HK := Lib.hid hk
        clear hk
        go_wp2_with fail
        refine (pick_any _ a5 ((N : Int) + 1) BB.out.2.2.1 BB.out.2.2.2 (by omega) (by omega)).mono ?_
        rintro e w' ⟨he, rfl⟩
        rw [HK.out] at he
        subst he
        go_wp2
        go_meet
        case rel => exact ⟨_, k, _, F.take k, rfl, HR2.out.take hkn, hkc', (by intro h; cases h), by omega, b2⟩
      · obtain ⟨i0, hi, hz0, hz1, hz2'⟩ := info_parts Tryd.infoB
        have hr3 := rds_keep R3.out b2
        go_wp2_with (at_builtin; refine wpList_append_rds _ rfl (.tmp 61) (.tmp 62) 22 rfl w1.heap.size 5 i0 Tryd.underlying22 hi hz0 hz1 hz2' _ N F rfl HO.out _ _ _ rfl z3 l3 hr3 (by omega) hb2.size ?_)
        intro v3 w3 hown3 hg3
        have b3 : Below w.heap.size w w3 := hb1.trans (((hb2.grown hg3 hb2.size (fun j hj => (HO.out.lt j hj).1))).mono hb1.size)
        obtain ⟨a3, c3', rfl, hk3, _, hz3, _⟩ := ownsRow_slice hown3
        have hlen : (F ++ l3).length = N + n3 := by rw [List.length_append, ← HF.out, R3.out.1]
        have hr4 : Rds w3 a3 (N + n3) (F ++ l3) := Rds.of_own (by rw [hlen]; exact hown3) hlen
        clear hown3 hg3 hr3
        go_wp2
        go_meet
        case rel => exact ⟨_, N + n3, _, F ++ l3, rfl, hr4, hk3, hz3, by omega, b3⟩
      · go_wp2
        go_meet
        case rel => exact ⟨_, N, _, F, rfl, HR2.out, hk2, (by intro h; cases h), by omega, b2⟩
    · go_wp2
      go_meet
      case rel => exact ⟨_, n2, _, l2, rfl, Rds.of_own (by rw [rlen2]; exact hown1) rlen2, hk1, hz11, by omega, hb1⟩
  case rest =>
    clear ht
    obtain ⟨a, n, c, l, rfl, hr, hnc, hz, hn, hb⟩ := hcut
    have HRl := Lib.hid hr
    clear hr hown1 hb1 hk1 hz11
    go_wp2_with fail
    refine (next_any _ a n c l HRl.out hnc hz (by omega)).mono ?_
    cases hq : nxt l with
    | error k =>
      rintro e w3 ⟨hb3, rfl⟩
      have b3 := hb.trans (hb3.mono hb.size)
      have HR3 := Lib.hid (rds_keep HRl.out hb3)
      go_wp2_with fail
      refine (refNext_any w3 a n c l HR3.out hnc hz (by omega)).mono ?_
      rw [hq]
      rintro e w4 ⟨hb4, rfl⟩
      have b4 := b3.trans (hb4.mono b3.size)
      clear hb hb3 b3 hb4 hq
      go_wp2_with fail
      refine (known4 w4 (hg.keep b4)).mono ?_
      rintro e w5 ⟨rfl, hb5⟩
      have b5 := b4.trans (hb5.mono b4.size)
      have cv := convB w5 none 0 0 [] (Rds.nil _ _)
      clear b4 hb5
      go_wp2_with fail
      refine (kind_errno w5 (k : Int) (hg.keep b5)).mono ?_
      rintro e w6 ⟨rfl, hb6⟩
      have b6 := b5.trans (hb6.mono b5.size)
      clear b5 hb6
      go_wp2
      go_ret
      exact ⟨rfl, b6⟩
    | ok q =>
      rintro e w3 ⟨hb3, v3, rfl, ho3⟩
      obtain ⟨x3, y3, rfl, _⟩ := ownsRow_slice ho3
      have b3 := hb.trans (hb3.mono hb.size)
      have HR3 := Lib.hid (rds_keep HRl.out hb3)
      have rr3 := Rds.of_own ho3 rfl
      go_wp2_with fail
      refine (refNext_any w3 a n c l HR3.out hnc hz (by omega)).mono ?_
      rw [hq]
      rintro e w4 ⟨hb4, v4, rfl, ho4⟩
      obtain ⟨x4, y4, rfl, _⟩ := ownsRow_slice ho4
      have b4 := b3.trans (hb4.mono b3.size)
      have rr34 := rds_keep rr3 hb4
      have rr4 := Rds.of_own ho4 rfl
      clear hb hb3 b3 hb4 hq rr3 ho3 ho4
      go_wp2_with fail
      refine (known4 w4 (hg.keep b4)).mono ?_
      rintro e w5 ⟨rfl, hb5⟩
      have b5 := b4.trans (hb5.mono b4.size)
      have cv := convB w5 x3 _ y3 q.2.1 (rds_keep rr34 hb5)
      have cw := convB w5 x4 _ y4 q.2.1 (rds_keep rr4 hb5)
      clear b4 hb5 rr34 rr4
      go_wp2_with fail
      refine (kind_nil w5).mono ?_
      rintro e w' ⟨rfl, rfl⟩
      go_wp2
      go_ret
      exact ⟨rfl, b5⟩
end Go.Proofs.YtjdadbpekaoijaaDoor
