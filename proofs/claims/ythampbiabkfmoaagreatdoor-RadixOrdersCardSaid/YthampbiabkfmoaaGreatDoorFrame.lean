/- frame.sum, Lay, Next: what they answer. -/
import Derived.Test.YthampbiabkfmoaaGreatDoorCrc
import Derived.Test.YthampbiabkfmoaaGreatDoorOctNew
import Derived.Test.YthampbiabkfmoaaGreatDoorReader
import Derived.Test.YthampbiabkfmoaaGreatDoorAid
namespace Go.Proofs.YthampbiabkfmoaaGreatDoor
open Go.RowKit Go.Tap
set_option linter.unusedVariables false

/-- Four results. -/
theorem results_tmp4 {fn : Func} {t u v x : Tmp} (h : fn.results = #[.tmp t, .tmp u, .tmp v, .tmp x]) (tmps : Array Value) (P : Program) (w : World) :
    (results fn tmps).run P w = .ok (.tuple #[tmps.getD t undef, tmps.getD u undef, tmps.getD v undef, tmps.getD x undef]) w := by
  simp [results, h]
theorem wf_new {w w1 : World} {B : Nat} {v : Value} (hb : w.heap.size ≤ B) (hv : ∀ k, v.ownBlock = some k → w.heap.size ≤ k) : ∀ k, k < w.heap.size → ¬ WFoot B v k := by
  rintro k hk (rfl | h)
  · omega
  · have := hv k h; omega
theorem u32_int (s : Nat) (h : s < 4294967296) : IntKind.i64.wrap (s : Int) = s := by simp [IntKind.wrap, IntKind.bits, IntKind.signed]; omega
set_option maxHeartbeats 1000000 in
theorem frameSum_any (w : World) (a : Option Addr) (n c : Nat) (l : List UInt8) (hr : Rds w a n l) (hz : a = none → c = 0) (a2 : Option Addr) (n2 c2 : Nat) (l2 : List UInt8) (hr2 : Rds w a2 n2 l2) (hz2 : a2 = none → c2 = 0) (hn : n + n2 ≤ 140737488355328) :
    Calls Tryz.prog 56 #[.slice a n c, .slice a2 n2 c2] w fun e w' => e = .returned (.int .i64 (Crc.sum (l ++ l2) : Nat)) ∧ Below w.heap.size w w' := by
  obtain ⟨i0, hi, hz0, hz1, hz2'⟩ := info_parts Tryz.infoB
  go_enter Tryz.func56, Tryz.ntmps56
  go_wp2_with (at_builtin; refine wpList_append_rds _ rfl (.tmp 5) (.tmp 6) 66 rfl w.heap.size 5 i0 Tryz.underlying66 hi hz0 hz1 hz2' _ 0 [] rfl (own_empty _ _) _ _ _ rfl hz l (hr.alloc _) (by omega) (by simp) ?_)
  intro v1 w1 hown hg
  have b1 : Below w.heap.size w w1 := ((Below.refl _ _).alloc (Nat.le_refl _) _).grown hg (by simp) (by intro j hj; simp [Value.ownBlock] at hj; omega)
  have hr3 : Rds w1 a2 n2 l2 := hr2.below b1 (fun h0 b o e => by subst e; exact hr2.lt h0)
  have hl := hr.1
  have hl2 := hr2.1
  clear hg hr hr2
  go_wp2_with (at_builtin; refine wpList_append_rds _ rfl (.tmp 7) (.tmp 8) 66 rfl w.heap.size 5 i0 Tryz.underlying66 hi hz0 hz1 hz2' _ n l rfl hown _ _ _ rfl hz2 l2 hr3 (by omega) b1.size ?_)
  intro v2 w2 hown2 hg2
  have b2 : Below w.heap.size w w2 := b1.grown hg2 b1.size (fun k hk => (hown.lt k hk).1)
  obtain ⟨a3, c3, rfl, _⟩ := ownsRow_slice hown2
  have hr4 : Rds w2 a3 (n + n2) (l ++ l2) := Rds.of_own (by rw [List.length_append, hl, hl2]; exact hown2) (by rw [List.length_append, hl, hl2])
  clear hown hown2 hg2 b1 hr3 hl hl2
  go_wp2_with fail
  refine (crcSum w2 a3 (n + n2) c3 (l ++ l2) hr4 hn).mono ?_
  rintro e w' ⟨rfl, rfl⟩
  have hw := u32_int (Crc.sum (l ++ l2)) (Crc.sum_lt _)
  have hs := Crc.sum_lt (l ++ l2)
  go_wp2
  go_ret
  exact ⟨rfl, b2⟩
/-- A record's bytes. -/
def frm (k : Int) (l : List UInt8) : List UInt8 :=
  let h := Oct.be 1 (Oct.u64 k) ++ Oct.be 4 (Oct.u64 (l.length : Int))
  h ++ Oct.be 4 (Oct.u64 (Crc.sum (h ++ l) : Nat)) ++ l
theorem frm_length (k : Int) (l : List UInt8) : (frm k l).length = 9 + l.length := by
  simp [frm, Oct.be_length]; omega
theorem lay_bad (w : World) (k : Int) (a : Option Addr) (n c : Nat) (h : k < 1 ∨ 255 < k ∨ 1048576 < n) (hn : n ≤ 140737488355328) :
    Calls Tryz.prog 68 #[.int .i64 k, .slice a n c] w fun e w' => e = .returned (.tuple #[.slice none 0 0, .iface 65 (.int .i64 1)]) ∧ w' = w := by
  have hways : (decide (k < 1) = true) ∨ (decide (k < 1) = false ∧ decide ((255 : Int) < k) = true) ∨ (decide (k < 1) = false ∧ decide ((255 : Int) < k) = false ∧ decide ((1048576 : Int) < (n : Int)) = true ∧ decide (1048576 < n) = true) := by
    by_cases h1 : k < 1
    · exact .inl (decide_eq_true h1)
    · by_cases h2 : 255 < k
      · exact .inr (.inl ⟨decide_eq_false h1, decide_eq_true h2⟩)
      · exact .inr (.inr ⟨decide_eq_false h1, decide_eq_false h2, decide_eq_true (by omega), decide_eq_true (by omega)⟩)
  clear h
  rcases hways with d1 | ⟨d1, d2⟩ | ⟨d1, d2, d3, d4⟩
  all_goals
    go_enter Tryz.func68, Tryz.ntmps68
    go_wp2
    go_ret2
    exact ⟨rfl, rfl⟩
set_option maxHeartbeats 2000000 in
set_option maxRecDepth 100000 in
theorem lay_any (w : World) (k : Int) (hk0 : 1 ≤ k) (hk1 : k ≤ 255) (a : Option Addr) (n c : Nat) (l : List UInt8) (hr : Rds w a n l) (hz : a = none → c = 0) (hn : n ≤ 1048576) :
    Calls Tryz.prog 68 #[.int .i64 k, .slice a n c] w fun e w' => ∃ v, e = .returned (.tuple #[v, .nilIface]) ∧ w'.ownsRow w.heap.size 5 1 v (frm k l).length (bv (frm k l)) ∧ Below w.heap.size w w' := by
  have d1 : decide (k < 1) = false := decide_eq_false (by omega)
  have d2 : decide ((255 : Int) < k) = false := decide_eq_false (by omega)
  have d3 : decide ((1048576 : Int) < (n : Int)) = false := decide_eq_false (by omega)
  have d4 : decide (1048576 < n) = false := decide_eq_false (by omega)
  have hl := hr.1
  have hrk : ∀ w', Below w.heap.size w w' → Rds w' a n l := fun w' hb => hr.below hb (fun h0 b o e => by subst e; exact hr.lt h0)
  have HRK := Lib.hid hrk
  clear hrk
  go_enter Tryz.func68, Tryz.ntmps68
  go_wp2_with fail
  refine (newWriter_any _).mono ?_
  rintro e w1 ⟨B, rfl, hB, h1, hb1⟩
  go_wp2_with fail
  refine (oU8_any w1 B _ [] h1 k (by simp)).mono ?_
  rintro e w2 ⟨rfl, v2, h2, s2, f2⟩
  have g2 : ∀ j, v2.ownBlock = some j → w.heap.size ≤ j := fun j hj => (f2 j hj).elim (fun h => by simp [Value.ownBlock] at h) (fun h => by have := hb1.size; omega)
  have b2 : Below w.heap.size w w2 := Below.trans_stay hb1 s2 (Nat.le_refl _) (wf_new (w1 := w1) hB (fun j hj => by simp [Value.ownBlock] at hj))
  clear h1 hb1 s2 f2
  go_wp2_with fail
  refine (oU32_any w2 B _ _ h2 (n : Int) (by simp [Oct.be_length])).mono ?_
  rintro e w3 ⟨rfl, v3, h3, s3, f3⟩
  have g3 : ∀ j, v3.ownBlock = some j → w.heap.size ≤ j := fun j hj => (f3 j hj).elim (g2 j) (fun h => by have := b2.size; omega)
  have b3 : Below w.heap.size w w3 := Below.trans_stay b2 s3 (Nat.le_refl _) (wf_new (w1 := w2) hB g2)
  clear h2 s3 f3 g2 b2
  rw [List.nil_append] at h3
  obtain ⟨hd, hhd⟩ : ∃ hd, hd = Oct.be 1 (Oct.u64 k) ++ Oct.be 4 (Oct.u64 (n : Int)) := ⟨_, rfl⟩
  rw [← hhd] at h3
  have hdl : hd.length = 5 := by rw [hhd]; simp [Oct.be_length]
  have HHD := Lib.hid hhd
  clear hhd
  go_wp2_with fail
  refine (bytes_any w3 B _ _ h3 (by omega)).mono ?_
  rintro e w4 ⟨a4, c4, rfl, hown4, hb4⟩
  have b4 := b3.trans (hb4.mono b3.size)
  have h4 : IsW 175 w4 B v3 hd := ⟨(hb4.block B (blk_lt h3.blk)).trans h3.blk, ownsRow_stay h3.own (TStay.of_below hb4 (fun _ => False)) (fun _ _ h => h)⟩
  have hr4 : Rds w4 a4 5 hd := by have := Rds.of_own hown4 rfl; rwa [hdl] at this
  obtain ⟨_, _, hq4, _, _, hz4, _⟩ := ownsRow_slice hown4
  simp only [Value.slice.injEq] at hq4
  obtain ⟨rfl, _, rfl⟩ := hq4
  clear h3 hown4 hb4 b3
  go_wp2_with fail
  refine (frameSum_any w4 a4 5 c4 hd hr4 hz4 a n c l (HRK.out w4 b4) hz (by omega)).mono ?_
  rintro e w5 ⟨rfl, hb5⟩
  have b5 := b4.trans (hb5.mono b4.size)
  have h5 : IsW 175 w5 B v3 hd := ⟨(hb5.block B (blk_lt h4.blk)).trans h4.blk, ownsRow_stay h4.own (TStay.of_below hb5 (fun _ => False)) (fun _ _ h => h)⟩
  clear h4 hb5 hr4 hz4 b4
  go_wp2_with fail
  refine (oU32_any w5 B _ _ h5 (Crc.sum (hd ++ l) : Nat) (by omega)).mono ?_
  rintro e w6 ⟨rfl, v6, h6, s6, f6⟩
  have g6 : ∀ j, v6.ownBlock = some j → w.heap.size ≤ j := fun j hj => (f6 j hj).elim (g3 j) (fun h => by have := b5.size; omega)
  have b6 : Below w.heap.size w w6 := Below.trans_stay b5 s6 (Nat.le_refl _) (wf_new (w1 := w5) hB g3)
  clear h5 s6 f6 g3 b5
  go_wp2_with fail
  refine (oRaw_any w6 B _ _ h6 a n c l (HRK.out w6 b6) hz (by simp [Oct.be_length]; omega)).mono ?_
  rintro e w7 ⟨rfl, v7, h7, s7, f7⟩
  have b7 : Below w.heap.size w w7 := Below.trans_stay b6 s7 (Nat.le_refl _) (wf_new (w1 := w6) hB g6)
  clear h6 s7 f7 g6 b6
  have HF := Lib.hid (show hd ++ Oct.be 4 (Oct.u64 (Crc.sum (hd ++ l) : Nat)) ++ l = frm k l by rw [HHD.out, ← hl]; rfl)
  rw [HF.out] at h7
  go_wp2_with fail
  refine (bytes_any w7 B _ _ h7 (by rw [frm_length]; omega)).mono ?_
  rintro e w8 ⟨a8, c8, rfl, hown8, hb8⟩
  have b8 := b7.trans (hb8.mono b7.size)
  have hown9 := ownsRow_base hown8 b7.size
  clear hown8
  go_wp2
  go_ret2
  exact ⟨_, rfl, hown9, b8⟩
end Go.Proofs.YthampbiabkfmoaaGreatDoor
