/- frame.Next: what it answers. -/
import Derived.Test.YthampbiabkfmoaaGreatDoorFrame
import Derived.Test.YthampbiabkfmoaaGreatDoorOctPlain
namespace Go.Proofs.YthampbiabkfmoaaGreatDoor
open Go.RowKit Go.Tap
set_option linter.unusedVariables false

def nxt (l : List UInt8) : Except Nat (Nat × List UInt8 × Nat) :=
  if l.length < 9 then .error 3
  else if (Oct.rdU 1 (l.take 9) false).1 = 0 ∨ 1048576 < (Oct.rdU 4 (Oct.rdU 1 (l.take 9) false).2.1 false).1 then .error 2
  else if l.length - 9 < (Oct.rdU 4 (Oct.rdU 1 (l.take 9) false).2.1 false).1 then .error 3
  else if Crc.sum (l.take 5 ++ (l.drop 9).take (Oct.rdU 4 (Oct.rdU 1 (l.take 9) false).2.1 false).1) ≠ (Oct.rdU 4 (Oct.rdU 4 (Oct.rdU 1 (l.take 9) false).2.1 false).2.1 false).1 then .error 4
  else .ok ((Oct.rdU 1 (l.take 9) false).1, (l.drop 9).take (Oct.rdU 4 (Oct.rdU 1 (l.take 9) false).2.1 false).1, 9 + (Oct.rdU 4 (Oct.rdU 1 (l.take 9) false).2.1 false).1)
/-- Behind Next. -/
def NextAft (w : World) (r : Except Nat (Nat × List UInt8 × Nat)) (e : Ending) (w' : World) : Prop :=
  Below w.heap.size w w' ∧ match r with
  | .error k => e = .returned (.tuple #[.int .i64 0, .slice none 0 0, .int .i64 0, .iface 65 (.int .i64 (k : Int))])
  | .ok q => ∃ v, e = .returned (.tuple #[.int .i64 (q.1 : Int), v, .int .i64 (q.2.2 : Int), .nilIface]) ∧ w'.ownsRow w.heap.size 5 1 v q.2.1.length (bv q.2.1)
theorem i64_small (v : Nat) (h : v < 4294967296) : Oct.i64 v = (v : Int) := by unfold Oct.i64; rw [if_pos (by omega)]
theorem rdU_ok (n : Nat) (l : List UInt8) (h : n ≤ l.length) : (Oct.rdU n l false).2.2 = false ∧ (Oct.rdU n l false).2.1 = l.drop n := by
  unfold Oct.rdU; rw [if_neg (by simp; omega)]; exact ⟨rfl, rfl⟩
set_option maxHeartbeats 4000000 in
set_option maxRecDepth 100000 in
theorem next_any (w : World) (a : Option Addr) (n c : Nat) (l : List UInt8) (hr : Rds w a n l) (hnc : n ≤ c) (hz : a = none → c = 0) (hn : n ≤ 140737488355328) :
    Calls Tryz.prog 36 #[.slice a n c] w (NextAft w (nxt l)) := by
  have hl := hr.1
  by_cases h9 : n < 9
  · have d1 : decide ((n : Int) < 9) = true := decide_eq_true (by omega)
    have d2 : decide (n < 9) = true := decide_eq_true h9
    have HE := Lib.hid (show nxt l = .error 3 from if_pos (by omega))
    go_enter Tryz.func36, Tryz.ntmps36
    go_wp2
    ((try simp only [Exit.inBlock, Exit.then]); refine bodyPost_ret (results_tmp4 rfl _ _ _) rfl ?_)
    rw [HE.out]
    exact ⟨Below.refl _ _, rfl⟩
  · have d1 : decide ((n : Int) < 9) = false := decide_eq_false (by omega)
    have d2 : decide (n < 9) = false := decide_eq_false h9
    have d3 : decide (9 ≤ n) = true := decide_eq_true (by omega)
    obtain ⟨i0, hi, hz0, hz1, hz2'⟩ := info_parts Tryz.infoB
    obtain ⟨b, o, rfl, hcell⟩ := hr.2 (by omega)
    have hlt := hr.lt (by omega)
    have HR := Lib.hid hr
    clear hr hcell
    go_enter Tryz.func36, Tryz.ntmps36
    go_wp2_with fail
    refine (newReader_any w _ 9 _ (l.take 9) (HR.out.take (by omega)) (by intro h; cases h) (by omega)).mono ?_
    rintro e w1 ⟨B, a', c', rfl, hB, h1, _, hb1⟩
    obtain ⟨k, hk⟩ : ∃ k, (Oct.rdU 1 (l.take 9) false).1 = k := ⟨_, rfl⟩
    have hk256 : k < 256 := by rw [← hk]; exact Oct.rdU_lt 1 _ _
    have q1 := rdU_ok 1 (l.take 9) (by rw [List.length_take]; omega)
    obtain ⟨r1, hr1⟩ : ∃ r1, (Oct.rdU 1 (l.take 9) false).2.1 = r1 := ⟨_, rfl⟩
    have hr1l : r1.length = 8 := by rw [← hr1, q1.2, List.length_drop, List.length_take]; omega
    go_wp2_with fail
    refine (rU8_any w1 B a' c' false (l.take 9) h1).mono ?_
    rw [hk, i64_small k (by omega)]
    rintro e w2 ⟨rfl, a2, c2, h2, s2⟩
    rw [hr1, q1.1] at h2
    have b2 : Below w.heap.size w w2 := Below.trans_stay hb1 s2 (Nat.le_refl _) (by rintro j hj rfl; omega)
    clear h1 hb1 s2 q1
    obtain ⟨m, hm⟩ : ∃ m, (Oct.rdU 4 r1 false).1 = m := ⟨_, rfl⟩
    have hm32 : m < 4294967296 := by rw [← hm]; exact Oct.rdU_lt 4 _ _
    have q2 := rdU_ok 4 r1 (by omega)
    obtain ⟨r2, hr2⟩ : ∃ r2, (Oct.rdU 4 r1 false).2.1 = r2 := ⟨_, rfl⟩
    have hr2l : r2.length = 4 := by rw [← hr2, q2.2, List.length_drop]; omega
    go_wp2_with fail
    refine (rU32_any w2 B a2 c2 false r1 h2).mono ?_
    rw [hm, i64_small m hm32]
    rintro e w3 ⟨rfl, a3, c3, h3, s3⟩
    rw [hr2, q2.1] at h3
    have b3 : Below w.heap.size w w3 := Below.trans_stay b2 s3 (Nat.le_refl _) (by rintro j hj rfl; omega)
    clear h2 b2 s3 q2
    obtain ⟨s, hs⟩ : ∃ s, (Oct.rdU 4 r2 false).1 = s := ⟨_, rfl⟩
    have hs32 : s < 4294967296 := by rw [← hs]; exact Oct.rdU_lt 4 _ _
    go_wp2_with fail
    refine (rU32_any w3 B a3 c3 false r2 h3).mono ?_
    rw [hs, i64_small s hs32]
    rintro e w4 ⟨rfl, a4, c4, h4, s4⟩
    have b4 : Below w.heap.size w w4 := Below.trans_stay b3 s4 (Nat.le_refl _) (by rintro j hj rfl; omega)
    have HN := Lib.hid (show nxt l = if k = 0 ∨ 1048576 < m then .error 2 else if l.length - 9 < m then .error 3 else if Crc.sum (l.take 5 ++ (l.drop 9).take m) ≠ s then .error 4 else .ok (k, (l.drop 9).take m, 9 + m) by
      unfold nxt; rw [if_neg (by omega), hk, hr1, hm, hr2, hs])
    clear h3 h4 b3 s4 hk hr1 hm hr2 hs hr1l hr2l
    by_cases g1 : k = 0
    · have e1 : ((k : Int) == 0) = true := by simp [g1]
      have e2 : (k == 0) = true := by simp [g1]
      have HE := Lib.hid (show nxt l = .error 2 by rw [HN.out, if_pos (.inl g1)])
      clear g1
      go_wp2
      ((try simp only [Exit.inBlock, Exit.then]); refine bodyPost_ret (results_tmp4 rfl _ _ _) rfl ?_)
      rw [HE.out]
      exact ⟨b4, rfl⟩
    have e1 : ((k : Int) == 0) = false := by simp; omega
    have e2 : (k == 0) = false := by simp; omega
    by_cases g2 : 1048576 < m
    · have e3 : decide ((1048576 : Int) < (m : Int)) = true := decide_eq_true (by omega)
      have e4 : decide (1048576 < m) = true := decide_eq_true g2
      have HE := Lib.hid (show nxt l = .error 2 by rw [HN.out, if_pos (.inr g2)])
      go_wp2
      ((try simp only [Exit.inBlock, Exit.then]); refine bodyPost_ret (results_tmp4 rfl _ _ _) rfl ?_)
      rw [HE.out]
      exact ⟨b4, rfl⟩
    have e3 : decide ((1048576 : Int) < (m : Int)) = false := decide_eq_false (by omega)
    have e4 : decide (1048576 < m) = false := decide_eq_false g2
    by_cases g3 : n - 9 < m
    · have e5 : decide ((n : Int) - 9 < (m : Int)) = true := decide_eq_true (by omega)
      have HE := Lib.hid (show nxt l = .error 3 by rw [HN.out, if_neg (by rintro (h | h); exact g1 h; exact g2 h), if_pos (by omega)])
      go_wp2
      ((try simp only [Exit.inBlock, Exit.then]); refine bodyPost_ret (results_tmp4 rfl _ _ _) rfl ?_)
      rw [HE.out]
      exact ⟨b4, rfl⟩
    have e5 : decide ((n : Int) - 9 < (m : Int)) = false := decide_eq_false (by omega)
    have HM := Lib.hid (show nxt l = if Crc.sum (l.take 5 ++ (l.drop 9).take m) ≠ s then .error 4 else .ok (k, (l.drop 9).take m, 9 + m) by rw [HN.out, if_neg (by rintro (h | h); exact g1 h; exact g2 h), if_neg (by omega)])
    have hm9 : 9 + m ≤ n := by omega
    clear HN g1 g2 g3
    by_cases hm0 : m = 0
    · subst hm0
      have HB := Lib.hid (show (l.drop 9).take 0 = ([] : List UInt8) from rfl)
      by_cases hc9 : c = 9
      · have hrb4 : Rds w4 (some ⟨b, o, none⟩) 0 [] := Rds.nil _ _
        subst hc9
        go_wp2_with (at_builtin; refine wpList_append_rds _ rfl (.tmp 37) (.tmp 41) 66 rfl w4.heap.size 5 i0 Tryz.underlying66 hi hz0 hz1 hz2' _ 0 [] rfl (own_empty _ _) _ _ _ rfl (by intro h; cases h) ([] : List UInt8) (by exact hrb4.alloc _) (by omega) (by simp) ?_)
        intro v5 w5 hown hg
        have b45 : Below w4.heap.size w4 w5 := ((Below.refl _ _).alloc (Nat.le_refl _) _).grown hg (by simp) (by intro j hj; simp [Value.ownBlock] at hj; omega)
        have b5 : Below w.heap.size w w5 := b4.trans (b45.mono b4.size)
        obtain ⟨a5, c5, rfl, _, _, hz5, _⟩ := ownsRow_slice hown
        have hr5 : Rds w5 a5 0 ([] : List UInt8) := Rds.of_own (by simpa using hown) rfl
        have hown5 : w5.ownsRow w.heap.size 5 1 (.slice a5 0 c5) 0 (bv ([] : List UInt8)) := ownsRow_base (by simpa using hown) b4.size
        have hrh : Rds w5 (some ⟨b, o, none⟩) 5 (l.take 5) := (HR.out.take (k := 5) (by omega)).below b5 (fun h0 b' o' e => by simp only [Option.some.injEq, Addr.mk.injEq] at e; omega)
        clear hown hg b45
        go_wp2_with fail
        refine (frameSum_any w5 _ 5 _ (l.take 5) hrh (by intro h; cases h) a5 0 c5 ([] : List UInt8) hr5 hz5 (by omega)).mono ?_
        rintro e w6 ⟨rfl, hb6⟩
        have b6 : Below w.heap.size w w6 := b5.trans (hb6.mono b5.size)
        have hown6 := ownsRow_stay hown5 (TStay.of_below hb6 (fun _ => False)) (fun _ _ h => h)
        clear hown5 hr5 hrh hb6 b5
        obtain ⟨t, ht⟩ : ∃ t, Crc.sum (l.take 5 ++ ([] : List UInt8)) = t := ⟨_, rfl⟩
        have HT := Lib.hid ht
        rw [ht]
        clear ht
        by_cases g4 : t = s
        · have e6 : ((t : Int) == (s : Int)) = true := by simp [g4]
          have e7 : (t == s) = true := by simp [g4]
          have HE := Lib.hid (show nxt l = .ok (k, ([] : List UInt8), 9 + 0) by rw [HM.out, HB.out, HT.out, if_neg (by simpa using g4)])
          clear g4
          go_wp2
          ((try simp only [Exit.inBlock, Exit.then]); refine bodyPost_ret (results_tmp4 rfl _ _ _) rfl ?_)
          rw [HE.out]
          exact ⟨b6, _, rfl, by simpa using hown6⟩
        · have e6 : ((t : Int) == (s : Int)) = false := by simp; omega
          have e7 : (t == s) = false := by simp; omega
          have HE := Lib.hid (show nxt l = .error 4 by rw [HM.out, HB.out, HT.out, if_pos (by simpa using g4)])
          clear g4
          go_wp2
          ((try simp only [Exit.inBlock, Exit.then]); refine bodyPost_ret (results_tmp4 rfl _ _ _) rfl ?_)
          rw [HE.out]
          exact ⟨b6, rfl⟩
      · have hrb4 : Rds w4 (some ⟨b, o + 9, none⟩) 0 [] := Rds.nil _ _
        have hc9' : (c == 9) = false := by simp [hc9]
        have hc9'' : decide (c = 9) = false := decide_eq_false hc9
        go_wp2_with (at_builtin; refine wpList_append_rds _ rfl (.tmp 37) (.tmp 41) 66 rfl w4.heap.size 5 i0 Tryz.underlying66 hi hz0 hz1 hz2' _ 0 [] rfl (own_empty _ _) _ _ _ rfl (by intro h; cases h) ([] : List UInt8) (by exact hrb4.alloc _) (by omega) (by simp) ?_)
        intro v5 w5 hown hg
        have b45 : Below w4.heap.size w4 w5 := ((Below.refl _ _).alloc (Nat.le_refl _) _).grown hg (by simp) (by intro j hj; simp [Value.ownBlock] at hj; omega)
        have b5 : Below w.heap.size w w5 := b4.trans (b45.mono b4.size)
        obtain ⟨a5, c5, rfl, _, _, hz5, _⟩ := ownsRow_slice hown
        have hr5 : Rds w5 a5 0 ([] : List UInt8) := Rds.of_own (by simpa using hown) rfl
        have hown5 : w5.ownsRow w.heap.size 5 1 (.slice a5 0 c5) 0 (bv ([] : List UInt8)) := ownsRow_base (by simpa using hown) b4.size
        have hrh : Rds w5 (some ⟨b, o, none⟩) 5 (l.take 5) := (HR.out.take (k := 5) (by omega)).below b5 (fun h0 b' o' e => by simp only [Option.some.injEq, Addr.mk.injEq] at e; omega)
        clear hown hg b45
        go_wp2_with fail
        refine (frameSum_any w5 _ 5 _ (l.take 5) hrh (by intro h; cases h) a5 0 c5 ([] : List UInt8) hr5 hz5 (by omega)).mono ?_
        rintro e w6 ⟨rfl, hb6⟩
        have b6 : Below w.heap.size w w6 := b5.trans (hb6.mono b5.size)
        have hown6 := ownsRow_stay hown5 (TStay.of_below hb6 (fun _ => False)) (fun _ _ h => h)
        clear hown5 hr5 hrh hb6 b5
        obtain ⟨t, ht⟩ : ∃ t, Crc.sum (l.take 5 ++ ([] : List UInt8)) = t := ⟨_, rfl⟩
        have HT := Lib.hid ht
        rw [ht]
        clear ht
        by_cases g4 : t = s
        · have e6 : ((t : Int) == (s : Int)) = true := by simp [g4]
          have e7 : (t == s) = true := by simp [g4]
          have HE := Lib.hid (show nxt l = .ok (k, ([] : List UInt8), 9 + 0) by rw [HM.out, HB.out, HT.out, if_neg (by simpa using g4)])
          clear g4
          go_wp2
          ((try simp only [Exit.inBlock, Exit.then]); refine bodyPost_ret (results_tmp4 rfl _ _ _) rfl ?_)
          rw [HE.out]
          exact ⟨b6, _, rfl, by simpa using hown6⟩
        · have e6 : ((t : Int) == (s : Int)) = false := by simp; omega
          have e7 : (t == s) = false := by simp; omega
          have HE := Lib.hid (show nxt l = .error 4 by rw [HM.out, HB.out, HT.out, if_pos (by simpa using g4)])
          clear g4
          go_wp2
          ((try simp only [Exit.inBlock, Exit.then]); refine bodyPost_ret (results_tmp4 rfl _ _ _) rfl ?_)
          rw [HE.out]
          exact ⟨b6, rfl⟩
    · have hc9 : ¬ c = 9 := by omega
      obtain ⟨body, hbody⟩ : ∃ body, (l.drop 9).take m = body := ⟨_, rfl⟩
      have hbl : body.length = m := by rw [← hbody, List.length_take, List.length_drop]; omega
      have hrb4 : Rds w4 (some ⟨b, o + 9, none⟩) m body := by
        have h1 := HR.out.drop (k := 9) (by omega) hnc
        rw [if_neg hc9] at h1
        have h2 := h1.take (k := m) (by omega)
        rw [hbody] at h2
        refine Rds.below (B := w.heap.size) (w := w) (by simpa [Addr.add_lit] using h2) b4 (fun h0 b' o' e => by simp only [Option.some.injEq, Addr.mk.injEq] at e; omega)
      have HB := Lib.hid hbody
      clear hbody
      have hc9' : (c == 9) = false := by simp [hc9]
      have hc9'' : decide (c = 9) = false := decide_eq_false hc9
      have hm0' : (m == 0) = false := by simp [hm0]
      go_wp2_with (at_builtin; refine wpList_append_rds _ rfl (.tmp 37) (.tmp 41) 66 rfl w4.heap.size 5 i0 Tryz.underlying66 hi hz0 hz1 hz2' _ 0 [] rfl (own_empty _ _) _ _ _ rfl (by intro h; cases h) body (by rw [Nat.add_sub_cancel_left]; exact hrb4.alloc _) (by omega) (by simp) ?_)
      intro v5 w5 hown hg
      have b45 : Below w4.heap.size w4 w5 := ((Below.refl _ _).alloc (Nat.le_refl _) _).grown hg (by simp) (by intro j hj; simp [Value.ownBlock] at hj; omega)
      have b5 : Below w.heap.size w w5 := b4.trans (b45.mono b4.size)
      obtain ⟨a5, c5, rfl, _, _, hz5, _⟩ := ownsRow_slice hown
      have hr5 : Rds w5 a5 m body := Rds.of_own (by simpa [hbl] using hown) hbl
      have hown5 : w5.ownsRow w.heap.size 5 1 (.slice a5 m c5) m (bv body) := ownsRow_base (by simpa using hown) b4.size
      have hrh : Rds w5 (some ⟨b, o, none⟩) 5 (l.take 5) := (HR.out.take (k := 5) (by omega)).below b5 (fun h0 b' o' e => by simp only [Option.some.injEq, Addr.mk.injEq] at e; omega)
      clear hown hg b45
      go_wp2_with fail
      refine (frameSum_any w5 _ 5 _ (l.take 5) hrh (by intro h; cases h) a5 m c5 body hr5 hz5 (by omega)).mono ?_
      rintro e w6 ⟨rfl, hb6⟩
      have b6 : Below w.heap.size w w6 := b5.trans (hb6.mono b5.size)
      have hown6 := ownsRow_stay hown5 (TStay.of_below hb6 (fun _ => False)) (fun _ _ h => h)
      clear hown5 hr5 hrh hb6 b5
      obtain ⟨t, ht⟩ : ∃ t, Crc.sum (l.take 5 ++ body) = t := ⟨_, rfl⟩
      have HT := Lib.hid ht
      rw [ht]
      clear ht
      by_cases g4 : t = s
      · have e6 : ((t : Int) == (s : Int)) = true := by simp [g4]
        have e7 : (t == s) = true := by simp [g4]
        have HE := Lib.hid (show nxt l = .ok (k, body, 9 + m) by rw [HM.out, HB.out, HT.out, if_neg (by simpa using g4)])
        clear g4
        go_wp2
        ((try simp only [Exit.inBlock, Exit.then]); refine bodyPost_ret (results_tmp4 rfl _ _ _) rfl ?_)
        rw [HE.out]
        exact ⟨b6, _, rfl, by simpa [hbl] using hown6⟩
      · have e6 : ((t : Int) == (s : Int)) = false := by simp; omega
        have e7 : (t == s) = false := by simp; omega
        have HE := Lib.hid (show nxt l = .error 4 by rw [HM.out, HB.out, HT.out, if_pos (by simpa using g4)])
        clear g4
        go_wp2
        ((try simp only [Exit.inBlock, Exit.then]); refine bodyPost_ret (results_tmp4 rfl _ _ _) rfl ?_)
        rw [HE.out]
        exact ⟨b6, rfl⟩
end Go.Proofs.YthampbiabkfmoaaGreatDoor
/- A record that was laid is read. -/
namespace Go.Proofs.YthampbiabkfmoaaGreatDoor
open Go.RowKit Go.Tap Go.Maps
set_option linter.unusedVariables false

theorem rdU_be' (k v : Nat) (r : List UInt8) : Oct.rdU k (Oct.be k v ++ r) false = (v % 256 ^ k, r, false) := by
  unfold Oct.rdU
  rw [if_neg (by simp [Oct.be_length])]
  rw [List.take_append_of_le_length (by simp [Oct.be_length]), List.take_of_length_le (by simp [Oct.be_length]), Oct.val_be, List.drop_append_of_le_length (by simp [Oct.be_length]), List.drop_eq_nil_of_le (by simp [Oct.be_length])]
  rfl
theorem u64_nat (n : Nat) (h : n < 4294967296) : Oct.u64 (n : Int) = n := by unfold Oct.u64; omega
theorem nxt_frm (k : Nat) (hk : 1 ≤ k ∧ k ≤ 255) (b r : List UInt8) (hb : b.length ≤ 1048576) : nxt (frm (k : Int) b ++ r) = .ok (k, b, 9 + b.length) := by
  have e : frm (k : Int) b = Oct.be 1 k ++ Oct.be 4 b.length ++ Oct.be 4 (Crc.sum (Oct.be 1 k ++ Oct.be 4 b.length ++ b)) ++ b := by
    unfold frm
    simp only
    rw [u64_nat k (by omega), u64_nat b.length (by omega), u64_nat _ (Crc.sum_lt _)]
  have hs := Crc.sum_lt (Oct.be 1 k ++ Oct.be 4 b.length ++ b)
  generalize hM : Crc.sum (Oct.be 1 k ++ Oct.be 4 b.length ++ b) = M at e hs
  have hA : (Oct.be 1 k).length = 1 := Oct.be_length _ _
  have hB : (Oct.be 4 b.length).length = 4 := Oct.be_length _ _
  have hS : (Oct.be 4 M).length = 4 := Oct.be_length _ _
  have e2 : frm (k : Int) b ++ r = (Oct.be 1 k ++ (Oct.be 4 b.length ++ Oct.be 4 M)) ++ (b ++ r) := by rw [e]; simp [List.append_assoc]
  have t9 : (frm (k : Int) b ++ r).take 9 = Oct.be 1 k ++ (Oct.be 4 b.length ++ Oct.be 4 M) := by
    rw [e2, List.take_append_of_le_length (by simp only [List.length_append]; omega), List.take_of_length_le (by simp only [List.length_append]; omega)]
  have d9 : (frm (k : Int) b ++ r).drop 9 = b ++ r := by
    rw [e2, List.drop_append_of_le_length (by simp only [List.length_append]; omega), List.drop_eq_nil_of_le (by simp only [List.length_append]; omega)]; rfl
  have e3 : frm (k : Int) b ++ r = (Oct.be 1 k ++ Oct.be 4 b.length) ++ (Oct.be 4 M ++ (b ++ r)) := by rw [e2]; simp [List.append_assoc]
  have t5 : (frm (k : Int) b ++ r).take 5 = Oct.be 1 k ++ Oct.be 4 b.length := by
    rw [e3, List.take_append_of_le_length (by simp only [List.length_append]; omega), List.take_of_length_le (by simp only [List.length_append]; omega)]
  have hlen : (frm (k : Int) b ++ r).length = 9 + b.length + r.length := by rw [List.length_append, frm_length]
  have r1 := rdU_be' 1 k (Oct.be 4 b.length ++ Oct.be 4 M)
  have r2 := rdU_be' 4 b.length (Oct.be 4 M)
  have r3 := rdU_be' 4 M []
  rw [List.append_nil] at r3
  have m1 : k % 256 ^ 1 = k := Nat.mod_eq_of_lt (by omega)
  have m2 : b.length % 256 ^ 4 = b.length := Nat.mod_eq_of_lt (by omega)
  have m3 : M % 256 ^ 4 = M := Nat.mod_eq_of_lt (by omega)
  rw [m1] at r1; rw [m2] at r2; rw [m3] at r3
  have tb : (b ++ r).take b.length = b := List.take_left
  unfold nxt
  rw [if_neg (by omega), t9, d9, t5, r1]
  simp only
  rw [r2]
  simp only
  rw [r3, hlen, tb, hM]
  simp only
  rw [if_neg (by omega), if_neg (by omega), if_neg (by simp)]
theorem nxt_ok {l : List UInt8} {q : Nat × List UInt8 × Nat} (h : nxt l = .ok q) : q.2.2 = 9 + q.2.1.length ∧ q.2.2 ≤ l.length ∧ q.1 < 256 := by
  unfold nxt at h
  split at h
  · cases h
  · rename_i h0
    split at h
    · cases h
    · split at h
      · cases h
      · split at h
        · cases h
        · simp only [Except.ok.injEq] at h
          subst h
          have h1 := Oct.rdU_lt 1 (l.take 9) false
          refine ⟨?_, ?_, h1⟩
          · show 9 + _ = 9 + (List.take _ _).length
            rw [List.length_take, List.length_drop]; omega
          · show 9 + _ ≤ _; omega
theorem nxt_pos {l : List UInt8} {k : Nat} (h : nxt l = .error k) : 0 < k := by
  unfold nxt at h
  split at h
  · cases h; omega
  · split at h
    · cases h; omega
    · split at h
      · cases h; omega
      · split at h
        · cases h; omega
        · cases h
end Go.Proofs.YthampbiabkfmoaaGreatDoor
