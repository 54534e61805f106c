/- The reference's disk: what its calls answer. -/
import Derived.Test.YtkalpkmnelgieaaGreatDoorRfPend
import Derived.Test.YtkalpkmnelgieaaGreatDoorHand
import Derived.Lib.SlBytesConst
namespace Go.Proofs.YtkalpkmnelgieaaGreatDoor
open Go.RowKit Go.Tap Go.Maps
set_option linter.unusedVariables false
set_option linter.unusedSimpArgs false
attribute [local go_sem ↓] Go.wp_at_zero Go.wp_at_succ

theorem Rok.bnd {r : Ref.Rd} (h : Rok r) : (-1 ≤ r.fuse ∧ r.fuse ≤ 9223372036854775807) ∧ r.works ≤ 100000 ∧ r.room ≤ 16777216 := by
  obtain ⟨d, he, ho⟩ := h
  rw [he.fuse, he.works, he.room]
  exact ⟨ho.fuse, ho.works, ho.room⟩
theorem Rok.now {r : Ref.Rd} (h : Rok r) : r.now.length ≤ 1000000 ∧ Dsk.used r.now ≤ 16777216 := by
  have := h.step r.pend.length (Nat.le_refl _)
  rw [List.take_length] at this
  exact this
theorem rname_any (w : World) (s : List UInt8) : Calls Tryz.prog 78 #[.string (str s)] w fun e w' => e = .returned (.bool (decide (Dsk.good s))) ∧ w = w' := by
  have hl : (str s).size = s.length := by simp [str, ByteArray.size]
  obtain ⟨n, hn⟩ : ∃ n, n = s.length := ⟨_, rfl⟩
  have hg : decide (Dsk.good s) = (decide (1 ≤ n) && decide (n ≤ 20)) := by
    rw [hn, ← Bool.decide_and]
    exact decide_eq_decide.2 Iff.rfl
  rw [hg]
  rw [← hn] at hl
  clear hg
  by_cases h1 : 1 ≤ n
  · have d0 : decide (1 ≤ (n : Int)) = true := decide_eq_true (by omega)
    have d0' : decide (1 ≤ n) = true := decide_eq_true h1
    by_cases h2 : n ≤ 20
    · have d1 : decide ((n : Int) ≤ 20) = true := decide_eq_true (by omega)
      have d1' : decide (n ≤ 20) = true := decide_eq_true h2
      rw [d0', d1']
      clear h1 h2 hn
      go_enter Tryz.func78, Tryz.ntmps78
      go_wp2
      go_ret
      exact ⟨rfl, rfl⟩
    · have d1 : decide ((n : Int) ≤ 20) = false := decide_eq_false (by omega)
      have d1' : decide (n ≤ 20) = false := decide_eq_false h2
      rw [d0', d1']
      clear h1 h2 hn
      go_enter Tryz.func78, Tryz.ntmps78
      go_wp2
      go_ret
      exact ⟨rfl, rfl⟩
  · have d0 : decide (1 ≤ (n : Int)) = false := decide_eq_false (by omega)
    have d0' : decide (1 ≤ n) = false := decide_eq_false h1
    rw [d0', Bool.false_and]
    clear h1 hn
    go_enter Tryz.func78, Tryz.ntmps78
    go_wp2
    go_ret
    exact ⟨rfl, rfl⟩
theorem rpick_any (w : World) (n m : Int) (h0 : -9223372036854775808 ≤ n) (h1 : n ≤ 9223372036854775807) (hm : 0 < m) (hm1 : m ≤ 9223372036854775807) :
    Calls Tryz.prog 47 #[.int .i64 n, .int .i64 m] w fun e w' => e = .returned (.int .i64 (n % m)) ∧ w = w' := by
  have ht := tmod_pick n m hm
  have b1 := Int.tmod_lt_of_pos n hm
  have b2 : -m < n.tmod m := by have := Int.tmod_lt_of_pos (-n) hm; rw [Int.neg_tmod] at this; omega
  have hw := wrapi' (n.tmod m) (by omega)
  have hne : (m == 0) = false := by simp; omega
  have hne2 : (m == -1) = false := by simp; omega
  by_cases h : n.tmod m < 0
  · have d : decide (n.tmod m < 0) = true := decide_eq_true h
    have hw2 := wrapi' (n.tmod m + m) (by omega)
    rw [if_pos h] at ht
    rw [← ht]
    clear ht
    go_enter Tryz.func47, Tryz.ntmps47
    go_wp2
    go_ret
    exact ⟨rfl, rfl⟩
  · have d : decide (n.tmod m < 0) = false := decide_eq_false h
    rw [if_neg h] at ht
    rw [← ht]
    clear ht
    go_enter Tryz.func47, Tryz.ntmps47
    go_wp2
    go_ret
    exact ⟨rfl, rfl⟩
/-- A call that changes nothing. -/
theorem ROp.same {w w' : World} {B k : Nat} {r : Ref.Rd} (h : IsRd w B r) (hb : Below w.heap.size w w') : ROp w B (r, k) (.returned (.int .i64 (k : Int))) w' := ⟨rfl, h.below hb, TStay.of_below hb _⟩
theorem ROp.pre {w w1 w' : World} {B : Nat} {q : Ref.Rd × Nat} {e : Ending} (h : ROp w1 B q e w') (hb : Below w.heap.size w w1) : ROp w B q e w' := ⟨h.1, h.2.1, (TStay.of_below hb _).trans h.2.2 (fun _ _ h => h)⟩
set_option maxHeartbeats 4000000 in
set_option maxRecDepth 100000 in
theorem rtrunc_any (w : World) (B : Nat) (r : Ref.Rd) (h : IsRd w B r) (hr : Rok r) (s : List UInt8) (z : Int) (hz : z ≤ 9223372036854775807) :
    Calls Tryz.prog 41 #[.pointer (some ⟨B, 0, none⟩), .string (str s), .int .i64 z] w (ROp w B (r.trunc s z)) := by
  obtain ⟨n1, n2⟩ := hr.now
  obtain ⟨b1, b2, b3⟩ := hr.bnd
  have hnow := rnow_any w B r h hr.kp
  have H := Lib.hid h
  have HR := Lib.hid hr
  obtain ⟨g, hg⟩ : ∃ g, g = decide (Dsk.good s) := ⟨_, rfl⟩
  obtain ⟨is, his⟩ : ∃ is, is = (Dsk.get r.now s).isSome := ⟨_, rfl⟩
  obtain ⟨n, hn⟩ : ∃ n, n = (Dsk.val r.now s).length := ⟨_, rfl⟩
  obtain ⟨dd, hdd⟩ : ∃ dd, dd = r.dead := ⟨_, rfl⟩
  have hq : r.trunc s z = if g = false then (r, 1) else if dd = true then (r, 7) else if is = false then (r, 11) else if z < 0 ∨ (n : Int) < z then (r, 1) else r.pnd ⟨1, s, [], [], z.toNat⟩ := by
    unfold Ref.Rd.trunc
    rw [his, hdd, hg, hn]
    by_cases h : Dsk.good s <;> simp [h]
  obtain ⟨R, hRR⟩ : ∃ R, R = r.trunc s z := ⟨_, rfl⟩
  rw [← hRR]
  rw [hq] at hRR
  have HQ := Lib.hid hRR
  clear hRR
  have hnm := rname_any w s
  have HG := Lib.hid hg
  have HIS := Lib.hid his
  have HN := Lib.hid hn
  have HDD := Lib.hid hdd
  clear h hr hg hn his hdd hq hnm
  go_enter Tryz.func41, Tryz.ntmps41
  go_wp2_with fail
  refine hnow.mono ?_
  clear hnow
  rintro e w1 ⟨v, rfl, hf, hb⟩
  have hfd := find_any w1 v r.now hf s n1
  have HB := Lib.hid hb
  have hnm := rname_any w1 s
  rw [← HG.out] at hnm
  have H1 := Lib.hid (H.out.below hb)
  obtain ⟨kv, pv, hv1⟩ := H1.out
  have c4 : w1.cell? ⟨B, 4, none⟩ = some (.bool dd) := by rw [HDD.out]; exact blk_cell (i := 4) hv1.blk rfl
  clear hf hb hv1
  go_wp2_with fail
  refine hfd.mono ?_
  clear hfd
  unfold FindAft
  rw [← HIS.out, ← HN.out]
  rintro e w' ⟨a, c, rfl, _, rfl⟩
  go_wp2_with fail
  refine hnm.mono ?_
  clear hnm
  rintro e w' ⟨rfl, rfl⟩
  cases g
  · have HE : Hid (R = (r, 1)) := Lib.hid (by rw [HQ.out]; simp)
    go_wp2
    go_ret
    rw [HE.out]
    exact ROp.same H.out HB.out
  · cases dd
    · cases is
      · have HE : Hid (R = (r, 11)) := Lib.hid (by rw [HQ.out]; simp)
        go_wp2
        go_ret
        rw [HE.out]
        exact ROp.same H.out HB.out
      · by_cases hz0 : z < 0
        · have q0 : decide (z < 0) = true := decide_eq_true hz0
          have HE : Hid (R = (r, 1)) := Lib.hid (by rw [HQ.out]; simp [hz0])
          go_wp2
          go_ret
          rw [HE.out]
          exact ROp.same H.out HB.out
        have q0 : decide (z < 0) = false := decide_eq_false hz0
        by_cases hz1 : (n : Int) < z
        · have q1 : decide ((n : Int) < z) = true := decide_eq_true hz1
          have HE : Hid (R = (r, 1)) := Lib.hid (by rw [HQ.out]; simp [hz0, hz1])
          go_wp2
          go_ret
          rw [HE.out]
          exact ROp.same H.out HB.out
        have q1 : decide ((n : Int) < z) = false := decide_eq_false hz1
        obtain ⟨k, rfl⟩ : ∃ k : Nat, z = k := ⟨z.toNat, by omega⟩
        have HE : Hid (R = r.pnd ⟨1, s, [], [], k⟩) := Lib.hid (by rw [HQ.out, if_neg (by simp), if_neg (by simp), if_neg (by simp), if_neg (by rintro (h | h); exact hz0 h; exact hz1 h), Int.toNat_natCast])
        have hp : Calls Tryz.prog 79 #[.pointer (some ⟨B, 0, none⟩), .agg #[.int .i64 2, .string (str s), .string ⟨#[]⟩, .slice none 0 0, .int .i64 (k : Int)]] w1 _ := rpend_any w1 B r H1.out b1 (by omega) ⟨1, s, [], [], k⟩ none 0 (Keeps.nil _) (by have := HR.out.len; omega)
        go_wp2_with fail
        refine hp.mono ?_
        clear hp c4
        rintro e w2 hop
        obtain ⟨kk, hk⟩ : ∃ kk, kk = (r.pnd ⟨1, s, [], [], k⟩).2 := ⟨_, rfl⟩
        have hop2 := Lib.hid (hop.pre HB.out)
        obtain ⟨rfl, _⟩ := hop
        go_wp2
        go_ret
        rw [HE.out]
        exact hop2.out
    · have HE : Hid (R = (r, 7)) := Lib.hid (by rw [HQ.out]; simp)
      go_wp2
      go_ret
      rw [HE.out]
      exact ROp.same H.out HB.out
set_option maxHeartbeats 4000000 in
set_option maxRecDepth 100000 in
theorem rread_any (w : World) (B : Nat) (r : Ref.Rd) (h : IsRd w B r) (hr : Rok r) (hd : r.dead = false) (s : List UInt8) :
    Calls Tryz.prog 39 #[.pointer (some ⟨B, 0, none⟩), .string (str s)] w fun e w' => ∃ a c, e = .returned (.tuple #[.slice a (Dsk.val r.now s).length c, .bool (Dsk.get r.now s).isSome]) ∧ Keeps w' a (Dsk.val r.now s).length c (Dsk.val r.now s) ∧ Below w.heap.size w w' := by
  obtain ⟨n1, n2⟩ := hr.now
  have hnow := rnow_any w B r h hr.kp
  obtain ⟨kv, pv, hv⟩ := h
  have c4 : w.cell? ⟨B, 4, none⟩ = some (.bool r.dead) := blk_cell (i := 4) hv.blk rfl
  rw [hd] at c4
  obtain ⟨is, his⟩ : ∃ is, is = (Dsk.get r.now s).isSome := ⟨_, rfl⟩
  obtain ⟨V, hV⟩ : ∃ V, V = Dsk.val r.now s := ⟨_, rfl⟩
  rw [← his, ← hV]
  have HIS := Lib.hid his
  have HVV := Lib.hid hV
  clear hv hd hr his hV
  go_enter Tryz.func39, Tryz.ntmps39
  go_wp2_with fail
  refine hnow.mono ?_
  clear hnow c4
  rintro e w1 ⟨v, rfl, hf, hb⟩
  have hfd := find_any w1 v r.now hf s n1
  unfold FindAft at hfd
  rw [← HIS.out, ← HVV.out] at hfd
  clear hf
  go_wp2_with fail
  refine hfd.mono ?_
  clear hfd
  rintro e w' ⟨a, c, rfl, hk, rfl⟩
  have HK := Lib.hid hk
  clear hk
  go_wp2
  go_ret2
  exact ⟨a, c, rfl, HK.out, hb⟩
theorem rread_dead (w : World) (B : Nat) (r : Ref.Rd) (h : IsRd w B r) (hd : r.dead = true) (s : List UInt8) :
    Calls Tryz.prog 39 #[.pointer (some ⟨B, 0, none⟩), .string (str s)] w fun e w' => e = .returned (.tuple #[.slice none 0 0, .bool false]) ∧ w = w' := by
  obtain ⟨kv, pv, hv⟩ := h
  have c4 : w.cell? ⟨B, 4, none⟩ = some (.bool r.dead) := blk_cell (i := 4) hv.blk rfl
  rw [hd] at c4
  clear hv hd
  go_enter Tryz.func39, Tryz.ntmps39
  go_wp2
  go_ret2
  exact ⟨rfl, rfl⟩
theorem rfuse_any (w : World) (B : Nat) (r : Ref.Rd) (h : IsRd w B r) (n : Int) :
    Calls Tryz.prog 21 #[.pointer (some ⟨B, 0, none⟩), .int .i64 n] w fun e w' => e = .returned (.tuple #[]) ∧ IsRd w' B { r with fuse := if n < -1 then -1 else n } ∧ TStay (fun k => k = B) w w' := by
  obtain ⟨kv, pv, hv⟩ := h
  have f3 := blk_free hv.blk 3
  have c3 : w.cell? ⟨B, 3, none⟩ = some (.int .i64 r.fuse) := blk_cell (i := 3) hv.blk rfl
  have H := Lib.hid hv
  clear hv
  have fin : ∀ m : Int, IsRd (w.setCell ⟨B, 3, none⟩ (.int .i64 m)) B { r with fuse := m } ∧ TStay (fun k => k = B) w (w.setCell ⟨B, 3, none⟩ (.int .i64 m)) := fun m => by
    have st := (TStay.refl (fun k => k = B) w).setCell (p := ⟨B, 3, none⟩) (.inl rfl) (.int .i64 m)
    have kf := IsRv.keepB H.out.blk st
    exact ⟨⟨kv, pv, heap_setCell_same w B 3 _ _ _ H.out.blk, H.out.kept.keep kf, H.out.pend.keep kf⟩, st⟩
  have FIN := Lib.hid fin
  clear fin
  by_cases h : n < -1
  · have a1 : max (-1) n = -1 := by omega
    have a2 : ¬ (-1 < n) := by omega
    have a3 : ¬ (-1 ≤ n) := by omega
    rw [if_pos h]
    go_enter Tryz.func21, Tryz.ntmps21
    go_wp2
    go_end0
    exact ⟨rfl, (FIN.out (-1)).1, (FIN.out (-1)).2⟩
  · rw [if_neg h]
    by_cases h1 : n = -1
    · subst h1
      clear h
      go_enter Tryz.func21, Tryz.ntmps21
      go_wp2
      go_end0
      exact ⟨rfl, (FIN.out (-1)).1, (FIN.out (-1)).2⟩
    have a1 : max (-1) n = n := by omega
    have a3 : -1 ≤ n := by omega
    have a4 : -1 < n := by omega
    clear h h1
    go_enter Tryz.func21, Tryz.ntmps21
    go_wp2
    go_end0
    exact ⟨rfl, (FIN.out n).1, (FIN.out n).2⟩
end Go.Proofs.YtkalpkmnelgieaaGreatDoor
