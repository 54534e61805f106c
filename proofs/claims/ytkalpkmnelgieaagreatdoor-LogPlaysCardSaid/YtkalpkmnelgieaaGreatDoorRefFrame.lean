/- taprootref1.Frame, Next: what they answer. -/
import Derived.Test.YtkalpkmnelgieaaGreatDoorNext
namespace Go.Proofs.YtkalpkmnelgieaaGreatDoor
open Go.RowKit Go.Tap
set_option linter.unusedVariables false

theorem rdU_take (n m : Nat) (l : List UInt8) (h : n ≤ m) (hm : m ≤ l.length) : Oct.rdU n l false = ((Oct.rdU n (l.take m) false).1, l.drop n, false) ∧ (Oct.rdU n (l.take m) false).2.1 = (l.drop n).take (m - n) := by
  unfold Oct.rdU
  rw [if_neg (by simp; omega), if_neg (by simp; omega), List.take_take, Nat.min_eq_left h, List.drop_take]
  exact ⟨rfl, rfl⟩
set_option maxHeartbeats 4000000 in
set_option maxRecDepth 100000 in
theorem refFrame_any (w : World) (k : Int) (a : Option Addr) (n c : Nat) (l : List UInt8) (hr : Rds w a n l) (hz : a = none → c = 0) (hn : n ≤ 1048576) :
    Calls Tryz.prog 52 #[.int .i64 k, .slice a n c] w fun e w' => ∃ v, e = .returned v ∧ w'.ownsRow w.heap.size 5 1 v (frm k l).length (bv (frm k l)) ∧ Below w.heap.size w w' := by
  obtain ⟨i0, hi, hz0, hz1, hz2'⟩ := info_parts Tryz.infoB
  have hl := hr.1
  have hrk : ∀ w', Below w.heap.size w w' → Rds w' a n l := fun w' hb => hr.below hb (fun h0 b o e => by subst e; exact hr.lt h0)
  have HRK := Lib.hid hrk
  have h1 : IsW 188 (w.alloc (.cells #[.slice none 0 0] 188)) w.heap.size (.slice none 0 0) [] := ⟨heap_alloc_new _ _, World.ownsRow_nil _ _ _ _⟩
  have hb1 : Below w.heap.size w (w.alloc (.cells #[.slice none 0 0] 188)) := (Below.refl _ _).alloc (Nat.le_refl _) _
  clear hrk hr
  go_enter Tryz.func52, Tryz.ntmps52
  go_wp2_with fail
  refine (refU8_any _ w.heap.size _ [] h1 k (by simp)).mono ?_
  rintro e w2 ⟨rfl, v2, h2, s2, f2⟩
  have g2 : ∀ j, v2.ownBlock = some j → w.heap.size ≤ j := fun j hj => (f2 j hj).elim (fun h => by simp [Value.ownBlock] at h) (fun h => by have := hb1.size; omega)
  have b2 : Below w.heap.size w w2 := Below.trans_stay hb1 s2 (Nat.le_refl _) (wf_new (w1 := w) (Nat.le_refl _) (fun j hj => by simp [Value.ownBlock] at hj))
  clear h1 hb1 s2 f2
  go_wp2_with fail
  refine (refU32_any w2 w.heap.size _ _ h2 (n : Int) (by simp [Oct.be_length])).mono ?_
  rintro e w3 ⟨rfl, v3, h3, s3, f3⟩
  have g3 : ∀ j, v3.ownBlock = some j → w.heap.size ≤ j := fun j hj => (f3 j hj).elim (g2 j) (fun h => by have := b2.size; omega)
  have b3 : Below w.heap.size w w3 := Below.trans_stay b2 s3 (Nat.le_refl _) (wf_new (w1 := w2) (Nat.le_refl _) g2)
  clear h2 s3 f3 g2 b2
  rw [List.nil_append] at h3
  obtain ⟨hd, hhd⟩ : ∃ hd, hd = Oct.be 1 (Oct.u64 k) ++ Oct.be 4 (Oct.u64 (n : Int)) := ⟨_, rfl⟩
  rw [← hhd] at h3
  have hdl : hd.length = 5 := by rw [hhd]; simp [Oct.be_length]
  have HHD := Lib.hid hhd
  have HDL := Lib.hid hdl
  clear hhd
  have hc0 : w3.cell? ⟨w.heap.size, 0, none⟩ = some v3 := blk_cell (i := 0) h3.blk rfl
  have hlt3 := blk_lt h3.blk
  obtain ⟨a3, c3, rfl, hq3, _, hz3, _⟩ := ownsRow_slice h3.own
  have hr3 : Rds w3 a3 5 hd := by have := Rds.of_own h3.own rfl; rwa [hdl] at this
  rw [hdl] at hc0
  have hc0' : (w3.alloc (.cells #[] 5)).cell? ⟨w.heap.size, 0, none⟩ = some (.slice a3 5 c3) := (World.cell?_of_block ((MapKept.heap_alloc w3 _).2 _ hlt3)).trans hc0
  clear hdl
  have h3' : IsW 188 w3 w.heap.size (.slice a3 5 c3) hd := by have := h3; rwa [HDL.out] at this
  have g3' : ∀ j, (Value.slice a3 5 c3).ownBlock = some j → w.heap.size ≤ j := by have := g3; rwa [HDL.out] at this
  clear h3 g3 hq3
  go_wp2_with (at_builtin; refine wpList_append_rds _ rfl (.tmp 16) (.tmp 20) 38 rfl w3.heap.size 5 i0 Tryz.underlying38 hi hz0 hz1 hz2' _ 0 [] rfl (own_empty _ _) _ _ _ rfl hz3 hd (hr3.alloc _) (by omega) (by simp) ?_)
  intro x4 w4 hown4 hg4
  have c4 : Below w3.heap.size w3 w4 := ((Below.refl _ _).alloc (Nat.le_refl _) _).grown hg4 (by simp) (by intro j hj; simp [Value.ownBlock] at hj; omega)
  have b4 := b3.trans (c4.mono b3.size)
  have hr4 := HRK.out w4 b4
  clear hg4
  have hown4' : w4.ownsRow w3.heap.size 5 1 x4 5 (bv hd) := by simpa using hown4
  clear hown4
  have s4 := c4.size
  go_wp2_with (at_builtin; refine wpList_append_rds _ rfl (.tmp 21) (.tmp 22) 38 rfl w3.heap.size 5 i0 Tryz.underlying38 hi hz0 hz1 hz2' _ 5 hd rfl hown4' _ _ _ rfl hz l hr4 (by omega) s4 ?_)
  intro x5 w5 hown5 hg5
  have c5 : Below w3.heap.size w3 w5 := c4.grown hg5 c4.size (fun j hj => (hown4'.lt j hj).1)
  have b5 := b3.trans (c5.mono b3.size)
  obtain ⟨a5, k5, rfl, _⟩ := ownsRow_slice hown5
  have hr5 : Rds w5 a5 (5 + n) (hd ++ l) := Rds.of_own (by rw [List.length_append, HDL.out, hl]; exact hown5) (by rw [List.length_append, HDL.out, hl])
  have h5 : IsW 188 w5 w.heap.size (.slice a3 5 c3) hd := ⟨(c5.block _ (blk_lt h3'.blk)).trans h3'.blk, ownsRow_stay h3'.own (TStay.of_below c5 (fun _ => False)) (fun _ _ h => h)⟩
  clear hown4' hown5 hg5 c4 c5 hr4 h3' hr3 b3 b4 hc0
  go_wp2_with fail
  refine (refSum w5 a5 (5 + n) k5 (hd ++ l) hr5 (by omega)).mono ?_
  rintro e w' ⟨rfl, rfl⟩
  have hw := u32_int (Crc.sum (hd ++ l)) (Crc.sum_lt _)
  have hs := Crc.sum_lt (hd ++ l)
  clear hr5
  go_wp2_with fail
  refine (refU32_any w5 w.heap.size _ _ h5 (Crc.sum (hd ++ l) : Nat) (by have := HDL.out; omega)).mono ?_
  rintro e w6 ⟨rfl, v6, h6, s6, f6⟩
  have g6 : ∀ j, v6.ownBlock = some j → w.heap.size ≤ j := fun j hj => (f6 j hj).elim (g3' j) (fun h => by have := b5.size; omega)
  have b6 : Below w.heap.size w w6 := Below.trans_stay b5 s6 (Nat.le_refl _) (wf_new (w1 := w5) (Nat.le_refl _) g3')
  clear h5 s6 f6 g3' b5
  go_wp2_with fail
  refine (refRaw_any w6 w.heap.size _ _ h6 a n c l (HRK.out w6 b6) hz (by have := HDL.out; simp [Oct.be_length]; omega)).mono ?_
  rintro e w7 ⟨rfl, v7, h7, s7, f7⟩
  have g7 : ∀ j, v7.ownBlock = some j → w.heap.size ≤ j := fun j hj => (f7 j hj).elim (g6 j) (fun h => by have := b6.size; omega)
  have b7 : Below w.heap.size w w7 := Below.trans_stay b6 s7 (Nat.le_refl _) (wf_new (w1 := w6) (Nat.le_refl _) g6)
  clear h6 s7 f7 g6 b6
  have HF := Lib.hid (show hd ++ Oct.be 4 (Oct.u64 (Crc.sum (hd ++ l) : Nat)) ++ l = frm k l by rw [HHD.out, ← hl]; rfl)
  rw [HF.out] at h7
  have hc7 : w7.cell? ⟨w.heap.size, 0, none⟩ = some v7 := blk_cell (i := 0) h7.blk rfl
  have hown7 := ownsRow_rebase h7.own g7
  clear h7 g7
  go_wp2
  go_ret
  exact ⟨_, rfl, hown7, b7⟩

def RefNextAft (w : World) (r : Except Nat (Nat × List UInt8 × Nat)) (e : Ending) (w' : World) : Prop :=
  Below w.heap.size w w' ∧ match r with
  | .error k => e = .returned (.tuple #[.int .i64 0, .slice none 0 0, .int .i64 0, .int .i64 (k : Int)])
  | .ok q => ∃ v, e = .returned (.tuple #[.int .i64 (q.1 : Int), v, .int .i64 (q.2.2 : Int), .int .i64 0]) ∧ w'.ownsRow w.heap.size 5 1 v q.2.1.length (bv q.2.1)
set_option maxHeartbeats 4000000 in
set_option maxRecDepth 100000 in
theorem refNext_any (w : World) (a : Option Addr) (n c : Nat) (l : List UInt8) (hr : Rds w a n l) (hnc : n ≤ c) (hz : a = none → c = 0) (hn : n ≤ 140737488355328) :
    Calls Tryz.prog 40 #[.slice a n c] w (RefNextAft w (nxt l)) := by
  have hl := hr.1
  by_cases h9 : n < 9
  · have d1 : decide ((n : Int) < 9) = true := decide_eq_true (by omega)
    have d2 : decide (n < 9) = true := decide_eq_true h9
    have HE := Lib.hid (show nxt l = .error 3 from if_pos (by omega))
    go_enter Tryz.func40, Tryz.ntmps40
    go_wp2
    ((try simp only [Exit.inBlock, Exit.then]); refine bodyPost_ret (results_tmp4 rfl _ _ _) rfl ?_)
    rw [HE.out]
    exact ⟨Below.refl _ _, rfl⟩
  · have d1 : decide ((n : Int) < 9) = false := decide_eq_false (by omega)
    have d2 : decide (n < 9) = false := decide_eq_false h9
    obtain ⟨i0, hi, hz0, hz1, hz2'⟩ := info_parts Tryz.infoB
    obtain ⟨b, o, rfl, hcell⟩ := hr.2 (by omega)
    have hlt := hr.lt (by omega)
    have HR := Lib.hid hr
    have h1 : IsR 159 (w.alloc (.cells #[.slice (some ⟨b, o, none⟩) n c, .bool false] 159)) w.heap.size (some ⟨b, o, none⟩) c false l :=
      ⟨by rw [hl]; exact heap_alloc_new _ _, by rw [hl]; exact hr.alloc _, by omega, (by intro h; cases h), by omega⟩
    have hb1 : Below w.heap.size w (w.alloc (.cells #[.slice (some ⟨b, o, none⟩) n c, .bool false] 159)) := (Below.refl _ _).alloc (Nat.le_refl _) _
    clear hr hcell
    have T1 := rdU_take 1 9 l (by omega) (by omega)
    obtain ⟨k, hk⟩ : ∃ k, (Oct.rdU 1 (l.take 9) false).1 = k := ⟨_, rfl⟩
    have hk256 : k < 256 := by rw [← hk]; exact Oct.rdU_lt 1 _ _
    obtain ⟨m, hm⟩ : ∃ m, (Oct.rdU 4 (Oct.rdU 1 (l.take 9) false).2.1 false).1 = m := ⟨_, rfl⟩
    have hm32 : m < 4294967296 := by rw [← hm]; exact Oct.rdU_lt 4 _ _
    obtain ⟨s, hs⟩ : ∃ s, (Oct.rdU 4 (Oct.rdU 4 (Oct.rdU 1 (l.take 9) false).2.1 false).2.1 false).1 = s := ⟨_, rfl⟩
    have hs32 : s < 4294967296 := by rw [← hs]; exact Oct.rdU_lt 4 _ _
    have HN := Lib.hid (show nxt l = if k = 0 ∨ 1048576 < m then .error 2 else if l.length - 9 < m then .error 3 else if Crc.sum (l.take 5 ++ (l.drop 9).take m) ≠ s then .error 4 else .ok (k, (l.drop 9).take m, 9 + m) by
      unfold nxt; rw [if_neg (by omega), hk, hm, hs])
    have R1 : Oct.rdU 1 l false = (k, l.drop 1, false) := by rw [T1.1, hk]
    have T2 := rdU_take 4 8 (l.drop 1) (by omega) (by rw [List.length_drop]; omega)
    have R2 : Oct.rdU 4 (l.drop 1) false = (m, l.drop 5, false) := by
      rw [T2.1, ← hm, T1.2, List.drop_drop]
    have T3 := rdU_take 4 4 (l.drop 5) (by omega) (by rw [List.length_drop]; omega)
    have e59 : (Oct.rdU 4 (Oct.rdU 1 (l.take 9) false).2.1 false).2.1 = (l.drop 5).take 4 := by rw [T1.2, T2.2, List.drop_drop]
    have R3 : Oct.rdU 4 (l.drop 5) false = (s, l.drop 9, false) := by
      rw [T3.1, ← hs, e59, List.drop_drop]
    clear T1 T2 T3 e59 hk hm hs
    have Q1 := Lib.hid R1
    have Q2 := Lib.hid R2
    have Q3 := Lib.hid R3
    clear R1 R2 R3
    go_enter Tryz.func40, Tryz.ntmps40
    go_wp2_with fail
    refine (sU8_any _ w.heap.size _ c false l h1).mono ?_
    rw [Q1.out, i64_small k (by omega)]
    rintro e w2 ⟨rfl, a2, c2, h2, s2⟩
    have b2 : Below w.heap.size w w2 := Below.trans_stay hb1 s2 (by simp) (by rintro j hj rfl; omega)
    clear h1 hb1 s2
    go_wp2_with fail
    refine (sU32_any w2 w.heap.size a2 c2 false (l.drop 1) h2).mono ?_
    rw [Q2.out, i64_small m hm32]
    rintro e w3 ⟨rfl, a3, c3, h3, s3⟩
    have b3 : Below w.heap.size w w3 := Below.trans_stay b2 s3 (Nat.le_refl _) (by rintro j hj rfl; omega)
    clear h2 b2 s3
    go_wp2_with fail
    refine (sU32_any w3 w.heap.size a3 c3 false (l.drop 5) h3).mono ?_
    rw [Q3.out, i64_small s hs32]
    rintro e w4 ⟨rfl, a4, c4, h4, s4⟩
    have b4 : Below w.heap.size w w4 := Below.trans_stay b3 s4 (Nat.le_refl _) (by rintro j hj rfl; omega)
    clear h3 h4 b3 s4
    have hsw : IntKind.u32.wrap (s : Int) = (s : Int) := by simp [IntKind.wrap, IntKind.bits, IntKind.signed]; omega
    by_cases g1 : k = 0
    · have e1 : ((k : Int) == 0) = true := by simp [g1]
      have e2 : (k == 0) = true := by simp [g1]
      have HE := Lib.hid (show nxt l = .error 2 by rw [HN.out, if_pos (.inl g1)])
      clear g1
      go_wp2
      ((try simp only [Exit.inBlock, Exit.then]); refine bodyPost_ret (results_tmp4 rfl _ _ _) rfl ?_)
      rw [HE.out]
      exact ⟨b4, rfl⟩
    have e1 : ((k : Int) == 0) = false := by simp; omega
    have e2 : (k == 0) = false := by simp; omega
    by_cases g2 : 1048576 < m
    · have e3 : decide ((1048576 : Int) < (m : Int)) = true := decide_eq_true (by omega)
      have e4 : decide (1048576 < m) = true := decide_eq_true g2
      have HE := Lib.hid (show nxt l = .error 2 by rw [HN.out, if_pos (.inr g2)])
      go_wp2
      ((try simp only [Exit.inBlock, Exit.then]); refine bodyPost_ret (results_tmp4 rfl _ _ _) rfl ?_)
      rw [HE.out]
      exact ⟨b4, rfl⟩
    have e3 : decide ((1048576 : Int) < (m : Int)) = false := decide_eq_false (by omega)
    have e4 : decide (1048576 < m) = false := decide_eq_false g2
    by_cases g3 : n - 9 < m
    · have e5 : decide ((n : Int) - 9 < (m : Int)) = true := decide_eq_true (by omega)
      have HE := Lib.hid (show nxt l = .error 3 by rw [HN.out, if_neg (by rintro (h | h); exact g1 h; exact g2 h), if_pos (by omega)])
      go_wp2
      ((try simp only [Exit.inBlock, Exit.then]); refine bodyPost_ret (results_tmp4 rfl _ _ _) rfl ?_)
      rw [HE.out]
      exact ⟨b4, rfl⟩
    have e5 : decide ((n : Int) - 9 < (m : Int)) = false := decide_eq_false (by omega)
    have HM := Lib.hid (show nxt l = if Crc.sum (l.take 5 ++ (l.drop 9).take m) ≠ s then .error 4 else .ok (k, (l.drop 9).take m, 9 + m) by rw [HN.out, if_neg (by rintro (h | h); exact g1 h; exact g2 h), if_neg (by omega)])
    have hm9 : 9 + m ≤ n := by omega
    clear HN g1 g2 g3
    by_cases hm0 : m = 0
    · subst hm0
      have HB := Lib.hid (show (l.drop 9).take 0 = ([] : List UInt8) from rfl)
      by_cases hc9 : c = 9
      · have hrb4 : Rds w4 (some ⟨b, o, none⟩) 0 [] := Rds.nil _ _
        subst hc9
        go_wp2_with (at_builtin; refine wpList_append_rds _ rfl (.tmp 35) (.tmp 39) 38 rfl w4.heap.size 5 i0 Tryz.underlying38 hi hz0 hz1 hz2' _ 0 [] rfl (own_empty _ _) _ _ _ rfl (by intro h; cases h) ([] : List UInt8) (by exact hrb4.alloc _) (by omega) (by simp) ?_)
        intro v5 w5 hown hg
        have b45 : Below w4.heap.size w4 w5 := ((Below.refl _ _).alloc (Nat.le_refl _) _).grown hg (by simp) (by intro j hj; simp [Value.ownBlock] at hj; omega)
        have b5 : Below w.heap.size w w5 := b4.trans (b45.mono b4.size)
        obtain ⟨a5, c5, rfl, _, _, hz5, _⟩ := ownsRow_slice hown
        have hr5 : Rds w5 a5 0 ([] : List UInt8) := Rds.of_own (by simpa using hown) rfl
        have hown5 : w5.ownsRow w.heap.size 5 1 (.slice a5 0 c5) 0 (bv ([] : List UInt8)) := ownsRow_base (by simpa using hown) b4.size
        have hrh : Rds w5 (some ⟨b, o, none⟩) 5 (l.take 5) := (HR.out.take (k := 5) (by omega)).below b5 (fun h0 b' o' e => by simp only [Option.some.injEq, Addr.mk.injEq] at e; omega)
        clear hown hg b45
        go_wp2_with (at_builtin; refine wpList_append_rds _ rfl (.tmp 41) (.tmp 43) 38 rfl w5.heap.size 5 i0 Tryz.underlying38 hi hz0 hz1 hz2' _ 0 [] rfl (own_empty _ _) _ _ _ rfl (by intro h; cases h) (l.take 5) (hrh.alloc _) (by omega) (by simp) ?_)
        intro v6 w6 hown6 hg6
        have c6 : Below w5.heap.size w5 w6 := ((Below.refl _ _).alloc (Nat.le_refl _) _).grown hg6 (by simp) (by intro j hj; simp [Value.ownBlock] at hj; omega)
        have hr6 : Rds w6 a5 0 ([] : List UInt8) := hr5.below c6 (fun h0 b' o' e => by subst e; exact hr5.lt h0)
        have b6 : Below w.heap.size w w6 := b5.trans (c6.mono b5.size)
        clear hg6 hr5 hrh
        have hown6' : w6.ownsRow w5.heap.size 5 1 v6 5 (bv (l.take 5)) := by simpa using hown6
        clear hown6
        have hz5' := hz5
        go_wp2_with (at_builtin; refine wpList_append_rds _ rfl (.tmp 44) (.tmp 45) 38 rfl w5.heap.size 5 i0 Tryz.underlying38 hi hz0 hz1 hz2' _ 5 (l.take 5) rfl hown6' _ _ _ rfl hz5' ([] : List UInt8) hr6 (by omega) c6.size ?_)
        intro v7 w7 hown7 hg7
        have c7 : Below w5.heap.size w5 w7 := c6.grown hg7 c6.size (fun j hj => (hown6'.lt j hj).1)
        have own7 : w7.ownsRow w.heap.size 5 1 (.slice a5 0 c5) 0 (bv ([] : List UInt8)) := ownsRow_stay hown5 (TStay.of_below c7 (fun _ => False)) (fun _ _ h => h)
        have b7 : Below w.heap.size w w7 := b5.trans (c7.mono b5.size)
        obtain ⟨a7, c7', rfl, _⟩ := ownsRow_slice hown7
        have hr7 : Rds w7 a7 (5 + 0) (l.take 5 ++ ([] : List UInt8)) := Rds.of_own (by rw [List.length_append, List.length_take, Nat.min_eq_left (by omega)]; simpa using hown7) (by rw [List.length_append, List.length_take, Nat.min_eq_left (by omega)]; simp)
        clear hown5 hown6' hown7 hg7 c6 c7 hr6 b5 b6
        go_wp2_with fail
        refine (refSum w7 a7 (5 + 0) c7' (l.take 5 ++ ([] : List UInt8)) hr7 (by omega)).mono ?_
        rintro e w' ⟨rfl, rfl⟩
        obtain ⟨t, ht⟩ : ∃ t, Crc.sum (l.take 5 ++ ([] : List UInt8)) = t := ⟨_, rfl⟩
        have HT := Lib.hid ht
        rw [ht]
        clear ht
        have hts : t < 4294967296 := by rw [← HT.out]; exact Crc.sum_lt _
        by_cases g4 : t = s
        · have e6 : ((t : Int) == (s : Int)) = true := by simp [g4]
          have e7 : (t == s) = true := by simp [g4]
          have HE := Lib.hid (show nxt l = .ok (k, ([] : List UInt8), 9 + 0) by rw [HM.out, HB.out, HT.out, if_neg (by simpa using g4)])
          clear g4
          go_wp2
          ((try simp only [Exit.inBlock, Exit.then]); refine bodyPost_ret (results_tmp4 rfl _ _ _) rfl ?_)
          rw [HE.out]
          exact ⟨b7, _, rfl, by simpa using own7⟩
        · have e6 : ((t : Int) == (s : Int)) = false := by simp; omega
          have e7 : (t == s) = false := by simp; omega
          have HE := Lib.hid (show nxt l = .error 4 by rw [HM.out, HB.out, HT.out, if_pos (by simpa using g4)])
          clear g4
          go_wp2
          ((try simp only [Exit.inBlock, Exit.then]); refine bodyPost_ret (results_tmp4 rfl _ _ _) rfl ?_)
          rw [HE.out]
          exact ⟨b7, rfl⟩
      · have hrb4 : Rds w4 (some ⟨b, o + 9, none⟩) 0 [] := Rds.nil _ _
        have hc9' : (c == 9) = false := by simp [hc9]
        have hc9'' : decide (c = 9) = false := decide_eq_false hc9
        go_wp2_with (at_builtin; refine wpList_append_rds _ rfl (.tmp 35) (.tmp 39) 38 rfl w4.heap.size 5 i0 Tryz.underlying38 hi hz0 hz1 hz2' _ 0 [] rfl (own_empty _ _) _ _ _ rfl (by intro h; cases h) ([] : List UInt8) (by exact hrb4.alloc _) (by omega) (by simp) ?_)
        intro v5 w5 hown hg
        have b45 : Below w4.heap.size w4 w5 := ((Below.refl _ _).alloc (Nat.le_refl _) _).grown hg (by simp) (by intro j hj; simp [Value.ownBlock] at hj; omega)
        have b5 : Below w.heap.size w w5 := b4.trans (b45.mono b4.size)
        obtain ⟨a5, c5, rfl, _, _, hz5, _⟩ := ownsRow_slice hown
        have hr5 : Rds w5 a5 0 ([] : List UInt8) := Rds.of_own (by simpa using hown) rfl
        have hown5 : w5.ownsRow w.heap.size 5 1 (.slice a5 0 c5) 0 (bv ([] : List UInt8)) := ownsRow_base (by simpa using hown) b4.size
        have hrh : Rds w5 (some ⟨b, o, none⟩) 5 (l.take 5) := (HR.out.take (k := 5) (by omega)).below b5 (fun h0 b' o' e => by simp only [Option.some.injEq, Addr.mk.injEq] at e; omega)
        clear hown hg b45
        go_wp2_with (at_builtin; refine wpList_append_rds _ rfl (.tmp 41) (.tmp 43) 38 rfl w5.heap.size 5 i0 Tryz.underlying38 hi hz0 hz1 hz2' _ 0 [] rfl (own_empty _ _) _ _ _ rfl (by intro h; cases h) (l.take 5) (hrh.alloc _) (by omega) (by simp) ?_)
        intro v6 w6 hown6 hg6
        have c6 : Below w5.heap.size w5 w6 := ((Below.refl _ _).alloc (Nat.le_refl _) _).grown hg6 (by simp) (by intro j hj; simp [Value.ownBlock] at hj; omega)
        have hr6 : Rds w6 a5 0 ([] : List UInt8) := hr5.below c6 (fun h0 b' o' e => by subst e; exact hr5.lt h0)
        have b6 : Below w.heap.size w w6 := b5.trans (c6.mono b5.size)
        clear hg6 hr5 hrh
        have hown6' : w6.ownsRow w5.heap.size 5 1 v6 5 (bv (l.take 5)) := by simpa using hown6
        clear hown6
        have hz5' := hz5
        go_wp2_with (at_builtin; refine wpList_append_rds _ rfl (.tmp 44) (.tmp 45) 38 rfl w5.heap.size 5 i0 Tryz.underlying38 hi hz0 hz1 hz2' _ 5 (l.take 5) rfl hown6' _ _ _ rfl hz5' ([] : List UInt8) hr6 (by omega) c6.size ?_)
        intro v7 w7 hown7 hg7
        have c7 : Below w5.heap.size w5 w7 := c6.grown hg7 c6.size (fun j hj => (hown6'.lt j hj).1)
        have own7 : w7.ownsRow w.heap.size 5 1 (.slice a5 0 c5) 0 (bv ([] : List UInt8)) := ownsRow_stay hown5 (TStay.of_below c7 (fun _ => False)) (fun _ _ h => h)
        have b7 : Below w.heap.size w w7 := b5.trans (c7.mono b5.size)
        obtain ⟨a7, c7', rfl, _⟩ := ownsRow_slice hown7
        have hr7 : Rds w7 a7 (5 + 0) (l.take 5 ++ ([] : List UInt8)) := Rds.of_own (by rw [List.length_append, List.length_take, Nat.min_eq_left (by omega)]; simpa using hown7) (by rw [List.length_append, List.length_take, Nat.min_eq_left (by omega)]; simp)
        clear hown5 hown6' hown7 hg7 c6 c7 hr6 b5 b6
        go_wp2_with fail
        refine (refSum w7 a7 (5 + 0) c7' (l.take 5 ++ ([] : List UInt8)) hr7 (by omega)).mono ?_
        rintro e w' ⟨rfl, rfl⟩
        obtain ⟨t, ht⟩ : ∃ t, Crc.sum (l.take 5 ++ ([] : List UInt8)) = t := ⟨_, rfl⟩
        have HT := Lib.hid ht
        rw [ht]
        clear ht
        have hts : t < 4294967296 := by rw [← HT.out]; exact Crc.sum_lt _
        by_cases g4 : t = s
        · have e6 : ((t : Int) == (s : Int)) = true := by simp [g4]
          have e7 : (t == s) = true := by simp [g4]
          have HE := Lib.hid (show nxt l = .ok (k, ([] : List UInt8), 9 + 0) by rw [HM.out, HB.out, HT.out, if_neg (by simpa using g4)])
          clear g4
          go_wp2
          ((try simp only [Exit.inBlock, Exit.then]); refine bodyPost_ret (results_tmp4 rfl _ _ _) rfl ?_)
          rw [HE.out]
          exact ⟨b7, _, rfl, by simpa using own7⟩
        · have e6 : ((t : Int) == (s : Int)) = false := by simp; omega
          have e7 : (t == s) = false := by simp; omega
          have HE := Lib.hid (show nxt l = .error 4 by rw [HM.out, HB.out, HT.out, if_pos (by simpa using g4)])
          clear g4
          go_wp2
          ((try simp only [Exit.inBlock, Exit.then]); refine bodyPost_ret (results_tmp4 rfl _ _ _) rfl ?_)
          rw [HE.out]
          exact ⟨b7, rfl⟩
    · have hc9 : ¬ c = 9 := by omega
      obtain ⟨body, hbody⟩ : ∃ body, (l.drop 9).take m = body := ⟨_, rfl⟩
      have hbl : body.length = m := by rw [← hbody, List.length_take, List.length_drop]; omega
      have hrb4 : Rds w4 (some ⟨b, o + 9, none⟩) m body := by
        have h1 := HR.out.drop (k := 9) (by omega) hnc
        rw [if_neg hc9] at h1
        have h2 := h1.take (k := m) (by omega)
        rw [hbody] at h2
        refine Rds.below (B := w.heap.size) (w := w) (by simpa [Addr.add_lit] using h2) b4 (fun h0 b' o' e => by simp only [Option.some.injEq, Addr.mk.injEq] at e; omega)
      have HB := Lib.hid hbody
      clear hbody
      have hc9' : (c == 9) = false := by simp [hc9]
      have hc9'' : decide (c = 9) = false := decide_eq_false hc9
      have hm0' : (m == 0) = false := by simp [hm0]
      go_wp2_with (at_builtin; refine wpList_append_rds _ rfl (.tmp 35) (.tmp 39) 38 rfl w4.heap.size 5 i0 Tryz.underlying38 hi hz0 hz1 hz2' _ 0 [] rfl (own_empty _ _) _ _ _ rfl (by intro h; cases h) body (by rw [Nat.add_sub_cancel_left]; exact hrb4.alloc _) (by omega) (by simp) ?_)
      intro v5 w5 hown hg
      have b45 : Below w4.heap.size w4 w5 := ((Below.refl _ _).alloc (Nat.le_refl _) _).grown hg (by simp) (by intro j hj; simp [Value.ownBlock] at hj; omega)
      have b5 : Below w.heap.size w w5 := b4.trans (b45.mono b4.size)
      obtain ⟨a5, c5, rfl, _, _, hz5, _⟩ := ownsRow_slice hown
      have hr5 : Rds w5 a5 m body := Rds.of_own (by simpa [hbl] using hown) hbl
      have hown5 : w5.ownsRow w.heap.size 5 1 (.slice a5 m c5) m (bv body) := ownsRow_base (by simpa using hown) b4.size
      have hrh : Rds w5 (some ⟨b, o, none⟩) 5 (l.take 5) := (HR.out.take (k := 5) (by omega)).below b5 (fun h0 b' o' e => by simp only [Option.some.injEq, Addr.mk.injEq] at e; omega)
      clear hown hg b45
      go_wp2_with (at_builtin; refine wpList_append_rds _ rfl (.tmp 41) (.tmp 43) 38 rfl w5.heap.size 5 i0 Tryz.underlying38 hi hz0 hz1 hz2' _ 0 [] rfl (own_empty _ _) _ _ _ rfl (by intro h; cases h) (l.take 5) (hrh.alloc _) (by omega) (by simp) ?_)
      intro v6 w6 hown6 hg6
      have c6 : Below w5.heap.size w5 w6 := ((Below.refl _ _).alloc (Nat.le_refl _) _).grown hg6 (by simp) (by intro j hj; simp [Value.ownBlock] at hj; omega)
      have hr6 : Rds w6 a5 m body := hr5.below c6 (fun h0 b' o' e => by subst e; exact hr5.lt h0)
      have b6 : Below w.heap.size w w6 := b5.trans (c6.mono b5.size)
      clear hg6 hr5 hrh
      have hown6' : w6.ownsRow w5.heap.size 5 1 v6 5 (bv (l.take 5)) := by simpa using hown6
      clear hown6
      have hz5' := hz5
      go_wp2_with (at_builtin; refine wpList_append_rds _ rfl (.tmp 44) (.tmp 45) 38 rfl w5.heap.size 5 i0 Tryz.underlying38 hi hz0 hz1 hz2' _ 5 (l.take 5) rfl hown6' _ _ _ rfl hz5' body hr6 (by omega) c6.size ?_)
      intro v7 w7 hown7 hg7
      have c7 : Below w5.heap.size w5 w7 := c6.grown hg7 c6.size (fun j hj => (hown6'.lt j hj).1)
      have own7 : w7.ownsRow w.heap.size 5 1 (.slice a5 m c5) m (bv body) := ownsRow_stay hown5 (TStay.of_below c7 (fun _ => False)) (fun _ _ h => h)
      have b7 : Below w.heap.size w w7 := b5.trans (c7.mono b5.size)
      obtain ⟨a7, c7', rfl, _⟩ := ownsRow_slice hown7
      have hr7 : Rds w7 a7 (5 + m) (l.take 5 ++ body) := Rds.of_own (by rw [List.length_append, List.length_take, Nat.min_eq_left (by omega)]; rw [hbl]; exact hown7) (by rw [List.length_append, List.length_take, Nat.min_eq_left (by omega)]; rw [hbl])
      clear hown5 hown6' hown7 hg7 c6 c7 hr6 b5 b6
      go_wp2_with fail
      refine (refSum w7 a7 (5 + m) c7' (l.take 5 ++ body) hr7 (by omega)).mono ?_
      rintro e w' ⟨rfl, rfl⟩
      obtain ⟨t, ht⟩ : ∃ t, Crc.sum (l.take 5 ++ body) = t := ⟨_, rfl⟩
      have HT := Lib.hid ht
      rw [ht]
      clear ht
      have hts : t < 4294967296 := by rw [← HT.out]; exact Crc.sum_lt _
      by_cases g4 : t = s
      · have e6 : ((t : Int) == (s : Int)) = true := by simp [g4]
        have e7 : (t == s) = true := by simp [g4]
        have HE := Lib.hid (show nxt l = .ok (k, body, 9 + m) by rw [HM.out, HB.out, HT.out, if_neg (by simpa using g4)])
        clear g4
        go_wp2
        ((try simp only [Exit.inBlock, Exit.then]); refine bodyPost_ret (results_tmp4 rfl _ _ _) rfl ?_)
        rw [HE.out]
        exact ⟨b7, _, rfl, by simpa [hbl] using own7⟩
      · have e6 : ((t : Int) == (s : Int)) = false := by simp; omega
        have e7 : (t == s) = false := by simp; omega
        have HE := Lib.hid (show nxt l = .error 4 by rw [HM.out, HB.out, HT.out, if_pos (by simpa using g4)])
        clear g4
        go_wp2
        ((try simp only [Exit.inBlock, Exit.then]); refine bodyPost_ret (results_tmp4 rfl _ _ _) rfl ?_)
        rw [HE.out]
        exact ⟨b7, rfl⟩
end Go.Proofs.YtkalpkmnelgieaaGreatDoor
