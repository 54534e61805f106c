/- What OctetLays comes to. -/
import Derived.Test.YteilcnpednigbaaOctBack
import Derived.Test.YteilcnpednigbaaConv
import Derived.Deep.Cut
import Derived.Deep.CutRange
import Derived.Deep.QuietTactic
import Derived.BigQuiet
import Derived.Test.YteilcnpednigbaaCrcLaws
import Derived.Deep.CutBlock
namespace Go.Proofs.Yteilcnpednigbaa
open Go.RowKit Go.Tap
set_option linter.unusedVariables false

/-- The two Writers, each with its bytes, apart from each other and from what came in. -/
structure Two (w wr : World) (B1 B2 : Nat) (v1 v2 : Value) (l1 l2 : List UInt8) : Prop where
  one : IsW 95 wr B1 v1 l1
  two : IsW 35 wr B2 v2 l2
  own1 : ∀ j, v1.ownBlock = some j → w.heap.size ≤ j
  own2 : ∀ j, v2.ownBlock = some j → w.heap.size ≤ j
  apart : ∀ j, v1.ownBlock = some j → v2.ownBlock ≠ some j
  b1 : w.heap.size ≤ B1
  b2 : w.heap.size ≤ B2
  bel : Below w.heap.size w wr
theorem Two.ne {w wr : World} {B1 B2 : Nat} {v1 v2 : Value} {l1 l2 : List UInt8} (h : Two w wr B1 B2 v1 v2 l1 l2) : B1 ≠ B2 := by
  rintro rfl; have := h.one.blk.symm.trans h.two.blk; simp at this
theorem Two.below {w wr w' : World} {B1 B2 : Nat} {v1 v2 : Value} {l1 l2 : List UInt8} (h : Two w wr B1 B2 v1 v2 l1 l2) (hb : Below wr.heap.size wr w') : Two w w' B1 B2 v1 v2 l1 l2 :=
  ⟨h.one.below hb, h.two.below hb, h.own1, h.own2, h.apart, h.b1, h.b2, h.bel.trans (hb.mono h.bel.size)⟩
theorem Two.drew {w wr : World} {B1 B2 : Nat} {v1 v2 : Value} {l1 l2 : List UInt8} (h : Two w wr B1 B2 v1 v2 l1 l2) : Two w wr.drew B1 B2 v1 v2 l1 l2 := h.below (Below.refl _ _).drew
theorem Two.alloc {w wr : World} {B1 B2 : Nat} {v1 v2 : Value} {l1 l2 : List UInt8} (h : Two w wr B1 B2 v1 v2 l1 l2) (o : Obj) : Two w (wr.alloc o) B1 B2 v1 v2 l1 l2 :=
  h.below ((Below.refl _ _).alloc (Nat.le_refl _) _)
theorem Two.left {w wr w' : World} {B1 B2 : Nat} {v1 v2 v : Value} {l1 l2 l : List UInt8} (h : Two w wr B1 B2 v1 v2 l1 l2) (hw : IsW 95 w' B1 v l) (ht : TStay (WFoot B1 v1) wr w')
    (hf : ∀ k, v.ownBlock = some k → v1.ownBlock = some k ∨ wr.heap.size ≤ k) : Two w w' B1 B2 v v2 l l2 := by
  refine ⟨hw, ⟨(ht.block B2 (blk_lt h.two.blk) ?_).trans h.two.blk, ownsRow_stay h.two.own ht ?_⟩, ?_, h.own2, ?_, h.b1, h.b2, Below.trans_stay h.bel ht (Nat.le_refl _) (wfoot_new (w1 := wr) h.b1 h.own1)⟩
  · rintro (e | e)
    · exact h.ne e.symm
    · exact own_ne h.one.own h.two.blk (by decide) e
  · rintro k hk (e | e)
    · subst e; exact own_ne h.two.own h.one.blk (by decide) hk
    · exact h.apart k e hk
  · intro j hj
    rcases hf j hj with e | e
    · exact h.own1 j e
    · have := h.bel.size; omega
  · intro j hj e
    rcases hf j hj with e' | e'
    · exact h.apart j e' e
    · have := (h.two.own.lt j e).2; omega
theorem Two.right {w wr w' : World} {B1 B2 : Nat} {v1 v2 v : Value} {l1 l2 l : List UInt8} (h : Two w wr B1 B2 v1 v2 l1 l2) (hw : IsW 35 w' B2 v l) (ht : TStay (WFoot B2 v2) wr w')
    (hf : ∀ k, v.ownBlock = some k → v2.ownBlock = some k ∨ wr.heap.size ≤ k) : Two w w' B1 B2 v1 v l1 l := by
  refine ⟨⟨(ht.block B1 (blk_lt h.one.blk) ?_).trans h.one.blk, ownsRow_stay h.one.own ht ?_⟩, hw, h.own1, ?_, ?_, h.b1, h.b2, Below.trans_stay h.bel ht (Nat.le_refl _) (wfoot_new (w1 := wr) h.b2 h.own2)⟩
  · rintro (e | e)
    · exact h.ne e
    · exact own_ne h.two.own h.one.blk (by decide) e
  · rintro k hk (e | e)
    · subst e; exact own_ne h.one.own h.two.blk (by decide) hk
    · exact h.apart k hk e
  · intro j hj
    rcases hf j hj with e | e
    · exact h.own2 j e
    · have := h.bel.size; omega
  · intro j hj e
    rcases hf j e with e' | e'
    · exact h.apart j hj e'
    · have := (h.one.own.lt j hj).2; omega
theorem take_f (f : UInt8 → UInt8) (l : List UInt8) (k : Nat) (y : UInt8) (h : l[k]? = some y) : ((l.take k).map f ++ l.drop k).set k (f y) = (l.take (k + 1)).map f ++ l.drop (k + 1) := by
  have hk : k < l.length := (List.getElem?_eq_some_iff.1 h).1
  have e1 : ((l.take k).map f).length = k := by simp; omega
  rw [List.set_append_right _ _ (by omega), e1, Nat.sub_self]
  have hd : l.drop k = y :: l.drop (k + 1) := by
    rw [List.drop_eq_getElem_cons hk]; congr 1; have := (List.getElem?_eq_some_iff.1 h).2; exact this
  rw [hd, List.take_add_one, h]
  simp
theorem xor1_u8 (x : UInt8) : bits BinOp.xor IntKind.u8 (x.toNat : Int) 1 = ((x ^^^ 1 : UInt8).toNat : Int) := xor_u8 x 1

set_option maxRecDepth 100000 in
set_option maxHeartbeats 4000000 in
theorem octetLays_walk_upto (w : World) (a : Option Addr) (n c : Nat) (xs : List StepD) (h : ArgSt 1048576 w a n c xs) :
    Calls Try.prog 6 #[.slice a n c] w fun e w' => e = .returned (.bool true) ∧ Below w.heap.size w w' := by
  have hlen := h.len
  have hn44 : n ≤ 1048576 := by have := h.le; have := h.cap; omega
  have hargs : Hid (0 < n → ∃ b o, a = some ⟨b, o, none⟩ ∧ b < w.heap.size ∧ ∀ i (s : StepD), xs[i]? = some s → s.ok ∧ w.cell? ⟨b, o + i * 3, none⟩ = some (.int .i64 s.what) ∧ w.cell? ⟨b, o + i * 3 + 1, none⟩ = some (.int .i64 s.n) ∧ w.cell? ⟨b, o + i * 3 + 2, none⟩ = some s.b.val ∧ ArgB 1048576 w s.b.a s.b.n s.b.c s.b.l) := by
    intro h0
    obtain ⟨b, o, e, hx⟩ := h.at_ h0
    have h1 := hx 0 _ (List.getElem?_eq_getElem (show 0 < xs.length by omega))
    exact ⟨b, o, e, block_lt_of_cell h1.2.1, fun i s hs => hx i s hs⟩
  have HLEN := Lib.hid hlen
  clear h hlen
  go_enter Try.func6, Try.ntmps6
  go_wp2_with fail
  refine (newWriter_any _).mono ?_
  rintro e w1 ⟨B1, rfl, hB1, h1, hb1⟩
  go_wp2_with fail
  refine (known1 _).mono ?_
  rintro e w2 ⟨rfl, hb2⟩
  have h2 := h1.below hb2
  have b2 := hb1.trans (hb2.mono hb1.size)
  clear h1 hb1 hb2
  have T0 : Two w (w2.alloc (.cells #[.slice none 0 0] 35)) B1 w2.heap.size (.slice none 0 0) (.slice none 0 0) [] [] :=
    ⟨h2.below ((Below.refl _ _).alloc (Nat.le_refl _) _), ⟨heap_alloc_new _ _, World.ownsRow_nil _ _ _ _⟩, fun j hj => by simp [Value.ownBlock] at hj, fun j hj => by simp [Value.ownBlock] at hj, fun j hj => by simp [Value.ownBlock] at hj, hB1, b2.size, b2.alloc b2.size _⟩
  clear h2 b2 hB1
  go_upto_block 0 with fail
  go_cut [5, 6] from 18 to 94 (fun _ _ wx => ∃ (v1 v2 : Value) (l : List UInt8), Two w wx B1 w2.heap.size v1 v2 l l ∧ l.length ≤ 41943440)
  case first =>
    go_wp2
    generalize w2.heap.size = B2 at *
    go_loopw [5, 6] (fun t _ wr => ∃ (k : Nat) (v1 v2 : Value) (l : List UInt8), k ≤ n ∧ k ≤ 40 ∧ t = .int .i64 (k : Int) ∧ Two w wr B1 B2 v1 v2 l l ∧ Hid (l.length ≤ k * 1048586)) (fun t _ _ => n - (intOf t).toNat)
    case atStart => exact ⟨0, _, _, [], Nat.zero_le _, by omega, rfl, T0, Nat.zero_le _⟩
    case round =>
      obtain ⟨k, v1, v2, l, hkn, hk40, rfl, hT0, hle⟩ := hrel
      by_cases hlt : k < n ∧ k < 40
      · obtain ⟨hk1, hk2⟩ := hlt
        obtain ⟨b, o, rfl, hbl, hx⟩ := hargs.out (by omega)
        have hs : xs[k]? = some (xs[k]'(by have := HLEN.out; omega)) := List.getElem?_eq_getElem _
        generalize (xs[k]'(by have := HLEN.out; omega)) = s at hs
        obtain ⟨hok, hc0, hc1, hc2, hB⟩ := hx k s hs
        obtain ⟨what, sn, ba, bn, bc, bl⟩ := s
        simp only [SlD.val] at hc2 hB
        have hc0' := (hT0.bel.cell (p := ⟨b, o + k * 3, none⟩) hbl).trans hc0
        have hc1' := (hT0.bel.cell (p := ⟨b, o + k * 3 + 1, none⟩) hbl).trans hc1
        have hc2' := (hT0.bel.cell (p := ⟨b, o + k * 3 + 2, none⟩) hbl).trans hc2
        have HOK := Lib.hid hok
        simp only at hc0' hc1' hc2'
        have HSN := Lib.hid (show bn ≤ 1048576 by have := hB.le; have := hB.cap; omega)
        have hbn := Lib.hid hB.rds.1
        have hbz : Hid (ba = none → bc = 0) := hB.none
        have hsl0 := hB.rds.below hT0.bel (fun h0 b o e => by subst e; exact hB.rds.lt h0)
        have hbl' : Hid (0 < bn → ∀ b o, ba = some ⟨b, o, none⟩ → b < w.heap.size) := fun h0 b o e => by subst e; exact hB.rds.lt h0
        have hslf : Hid (0 < bn → ∀ b o, ba = some ⟨b, o, none⟩ → ¬ WFoot B1 v1 b) := fun h0 b o e => wfoot_new (w1 := wr) hT0.b1 hT0.own1 b (hbl'.out h0 b o e)
        clear hc0 hc1 hc2 hx hs hok hB
        have hways : what % 6 = 0 ∨ what % 6 = 1 ∨ what % 6 = 2 ∨ what % 6 = 3 ∨ what % 6 = 4 ∨ what % 6 = 5 := by omega
        have hXf : ¬ WFoot B1 v1 wr.heap.size := by
          rintro (e | e)
          · have := blk_lt hT0.one.blk; omega
          · have := (hT0.one.own.lt _ e).2; omega
        have hT := hT0.alloc (.cells #[.int .i64 what, .int .i64 sn, .slice ba bn bc] 37)
        have hXb := heap_alloc_new wr (.cells #[.int .i64 what, .int .i64 sn, .slice ba bn bc] 37)
        have hXl := blk_lt hXb
        have hsl := hsl0.alloc (.cells #[.int .i64 what, .int .i64 sn, .slice ba bn bc] 37)
        have cA := blk_cell (i := 0) hXb rfl
        have dA := blk_cell (i := 1) hXb rfl
        have eA := blk_cell (i := 2) hXb rfl
        clear hT0 hsl0
        obtain ⟨d1, d2⟩ : decide ((k : Int) < (n : Int)) = true ∧ decide ((k : Int) < 40) = true := ⟨decide_eq_true (by omega), decide_eq_true (by omega)⟩
        have HW := Lib.hid hways
        clear hways
        go_wp2_with fail
        generalize wr.alloc (.cells #[.int .i64 what, .int .i64 sn, .slice ba bn bc] 37) = wa at *
        generalize wr.heap.size = X at *
        rcases HW.out with hm | hm | hm | hm | hm | hm
        · have HM := Lib.hid hm
          clear hm
          refine (pick_any _ what 6 HOK.out.1.1 HOK.out.1.2 (by omega) (by omega)).mono ?_
          rintro e w' ⟨he, rfl⟩
          rw [HM.out] at he
          subst he
          go_wp2_with fail
          refine (oU8_any _ B1 v1 l hT.one (sn) (by have := hle.out; have := HSN.out; omega)).mono ?_
          rintro e w3 ⟨rfl, v3, h3, s3, f3⟩
          have T3 := hT.left h3 s3 f3
          have hX3 := (s3.block X hXl hXf).trans hXb
          have c3 := blk_cell (i := 0) hX3 rfl
          have d3 := blk_cell (i := 1) hX3 rfl
          have e3 := blk_cell (i := 2) hX3 rfl
          have hr3 := hsl.stay s3 hslf.out
          clear h3 s3 f3 hT hXb hX3 cA dA eA hsl
          go_wp2_with fail
          refine (refU8_any _ B2 v2 l T3.two (sn) (by have := hle.out; have := HSN.out; omega)).mono ?_
          rintro e w4 ⟨rfl, v4, h4, s4, f4⟩
          have T4 := T3.right h4 s4 f4
          clear h4 s4 f4 T3 c3 d3 e3 hr3
          have HLE := Lib.hid (show (l ++ Oct.be 1 (Oct.u64 sn)).length ≤ (k + 1) * 1048586 by rw [List.length_append, Oct.be_length]; have := hle.out;  omega)
          generalize l ++ Oct.be 1 (Oct.u64 sn) = l' at T4 HLE
          go_wp2
          go_roundw
          case rel => exact ⟨k + 1, _, _, l', by omega, by omega, by go_num, T4, HLE⟩
          case measure => first | (simp [intOf]; done) | (simp [intOf]; omega)
        · have HM := Lib.hid hm
          clear hm
          refine (pick_any _ what 6 HOK.out.1.1 HOK.out.1.2 (by omega) (by omega)).mono ?_
          rintro e w' ⟨he, rfl⟩
          rw [HM.out] at he
          subst he
          go_wp2_with fail
          refine (oU32_any _ B1 v1 l hT.one (sn) (by have := hle.out; have := HSN.out; omega)).mono ?_
          rintro e w3 ⟨rfl, v3, h3, s3, f3⟩
          have T3 := hT.left h3 s3 f3
          have hX3 := (s3.block X hXl hXf).trans hXb
          have c3 := blk_cell (i := 0) hX3 rfl
          have d3 := blk_cell (i := 1) hX3 rfl
          have e3 := blk_cell (i := 2) hX3 rfl
          have hr3 := hsl.stay s3 hslf.out
          clear h3 s3 f3 hT hXb hX3 cA dA eA hsl
          go_wp2_with fail
          refine (refU32_any _ B2 v2 l T3.two (sn) (by have := hle.out; have := HSN.out; omega)).mono ?_
          rintro e w4 ⟨rfl, v4, h4, s4, f4⟩
          have T4 := T3.right h4 s4 f4
          clear h4 s4 f4 T3 c3 d3 e3 hr3
          have HLE := Lib.hid (show (l ++ Oct.be 4 (Oct.u64 sn)).length ≤ (k + 1) * 1048586 by rw [List.length_append, Oct.be_length]; have := hle.out;  omega)
          generalize l ++ Oct.be 4 (Oct.u64 sn) = l' at T4 HLE
          go_wp2
          go_roundw
          case rel => exact ⟨k + 1, _, _, l', by omega, by omega, by go_num, T4, HLE⟩
          case measure => first | (simp [intOf]; done) | (simp [intOf]; omega)
        · have HM := Lib.hid hm
          clear hm
          refine (pick_any _ what 6 HOK.out.1.1 HOK.out.1.2 (by omega) (by omega)).mono ?_
          rintro e w' ⟨he, rfl⟩
          rw [HM.out] at he
          subst he
          go_wp2_with fail
          refine (oU64_any _ B1 v1 l hT.one (sn) (by have := hle.out; have := HSN.out; omega)).mono ?_
          rintro e w3 ⟨rfl, v3, h3, s3, f3⟩
          have T3 := hT.left h3 s3 f3
          have hX3 := (s3.block X hXl hXf).trans hXb
          have c3 := blk_cell (i := 0) hX3 rfl
          have d3 := blk_cell (i := 1) hX3 rfl
          have e3 := blk_cell (i := 2) hX3 rfl
          have hr3 := hsl.stay s3 hslf.out
          clear h3 s3 f3 hT hXb hX3 cA dA eA hsl
          go_wp2_with fail
          refine (refU64_any _ B2 v2 l T3.two (sn) (by have := hle.out; have := HSN.out; omega)).mono ?_
          rintro e w4 ⟨rfl, v4, h4, s4, f4⟩
          have T4 := T3.right h4 s4 f4
          clear h4 s4 f4 T3 c3 d3 e3 hr3
          have HLE := Lib.hid (show (l ++ Oct.be 8 (Oct.u64 sn)).length ≤ (k + 1) * 1048586 by rw [List.length_append, Oct.be_length]; have := hle.out;  omega)
          generalize l ++ Oct.be 8 (Oct.u64 sn) = l' at T4 HLE
          go_wp2
          go_roundw
          case rel => exact ⟨k + 1, _, _, l', by omega, by omega, by go_num, T4, HLE⟩
          case measure => first | (simp [intOf]; done) | (simp [intOf]; omega)
        · have HM := Lib.hid hm
          clear hm
          refine (pick_any _ what 6 HOK.out.1.1 HOK.out.1.2 (by omega) (by omega)).mono ?_
          rintro e w' ⟨he, rfl⟩
          rw [HM.out] at he
          subst he
          go_wp2_with fail
          refine (oVar_any _ B1 v1 l hT.one (sn) (by have := hle.out; have := HSN.out; omega)).mono ?_
          rintro e w3 ⟨rfl, v3, h3, s3, f3⟩
          have T3 := hT.left h3 s3 f3
          have hX3 := (s3.block X hXl hXf).trans hXb
          have c3 := blk_cell (i := 0) hX3 rfl
          have d3 := blk_cell (i := 1) hX3 rfl
          have e3 := blk_cell (i := 2) hX3 rfl
          have hr3 := hsl.stay s3 hslf.out
          clear h3 s3 f3 hT hXb hX3 cA dA eA hsl
          go_wp2_with fail
          refine (refVar_any _ B2 v2 l T3.two (sn) (by have := hle.out; have := HSN.out; omega)).mono ?_
          rintro e w4 ⟨rfl, v4, h4, s4, f4⟩
          have T4 := T3.right h4 s4 f4
          clear h4 s4 f4 T3 c3 d3 e3 hr3
          have HLE := Lib.hid (show (l ++ Oct.var (Oct.u64 sn)).length ≤ (k + 1) * 1048586 by rw [List.length_append]; have := hle.out; have := var_le (Oct.u64 sn); omega)
          generalize l ++ Oct.var (Oct.u64 sn) = l' at T4 HLE
          go_wp2
          go_roundw
          case rel => exact ⟨k + 1, _, _, l', by omega, by omega, by go_num, T4, HLE⟩
          case measure => first | (simp [intOf]; done) | (simp [intOf]; omega)
        · have HM := Lib.hid hm
          clear hm
          refine (pick_any _ what 6 HOK.out.1.1 HOK.out.1.2 (by omega) (by omega)).mono ?_
          rintro e w' ⟨he, rfl⟩
          rw [HM.out] at he
          subst he
          go_wp2_with fail
          refine (pick_any _ sn 1000 HOK.out.2.1 HOK.out.2.2 (by omega) (by omega)).mono ?_
          rintro e w' ⟨rfl, rfl⟩
          go_wp2_with fail
          refine (oVar_any _ B1 v1 l hT.one (sn % 1000) (by have := hle.out; have := HSN.out; omega)).mono ?_
          rintro e w3 ⟨rfl, v3, h3, s3, f3⟩
          have T3 := hT.left h3 s3 f3
          have hX3 := (s3.block X hXl hXf).trans hXb
          have c3 := blk_cell (i := 0) hX3 rfl
          have d3 := blk_cell (i := 1) hX3 rfl
          have e3 := blk_cell (i := 2) hX3 rfl
          have hr3 := hsl.stay s3 hslf.out
          clear h3 s3 f3 hT hXb hX3 cA dA eA hsl
          go_wp2_with fail
          refine (pick_any _ sn 1000 HOK.out.2.1 HOK.out.2.2 (by omega) (by omega)).mono ?_
          rintro e w' ⟨rfl, rfl⟩
          go_wp2_with fail
          refine (refVar_any _ B2 v2 l T3.two (sn % 1000) (by have := hle.out; have := HSN.out; omega)).mono ?_
          rintro e w4 ⟨rfl, v4, h4, s4, f4⟩
          have T4 := T3.right h4 s4 f4
          clear h4 s4 f4 T3 c3 d3 e3 hr3
          have HLE := Lib.hid (show (l ++ Oct.var (Oct.u64 (sn % 1000))).length ≤ (k + 1) * 1048586 by rw [List.length_append]; have := hle.out; have := var_le (Oct.u64 (sn % 1000)); omega)
          generalize l ++ Oct.var (Oct.u64 (sn % 1000)) = l' at T4 HLE
          go_wp2
          go_roundw
          case rel => exact ⟨k + 1, _, _, l', by omega, by omega, by go_num, T4, HLE⟩
          case measure => first | (simp [intOf]; done) | (simp [intOf]; omega)
        · have HM := Lib.hid hm
          clear hm
          refine (pick_any _ what 6 HOK.out.1.1 HOK.out.1.2 (by omega) (by omega)).mono ?_
          rintro e w' ⟨he, rfl⟩
          rw [HM.out] at he
          subst he
          go_wp2_with fail
          refine (oRaw_any _ B1 v1 l hT.one ba bn bc bl hsl hbz.out (by have := hle.out; have := HSN.out; omega)).mono ?_
          rintro e w3 ⟨rfl, v3, h3, s3, f3⟩
          have T3 := hT.left h3 s3 f3
          have hX3 := (s3.block X hXl hXf).trans hXb
          have c3 := blk_cell (i := 0) hX3 rfl
          have d3 := blk_cell (i := 1) hX3 rfl
          have e3 := blk_cell (i := 2) hX3 rfl
          have hr3 := hsl.stay s3 hslf.out
          clear h3 s3 f3 hT hXb hX3 cA dA eA hsl
          go_wp2_with fail
          refine (refRaw_any _ B2 v2 l T3.two ba bn bc bl hr3 hbz.out (by have := hle.out; have := HSN.out; omega)).mono ?_
          rintro e w4 ⟨rfl, v4, h4, s4, f4⟩
          have T4 := T3.right h4 s4 f4
          clear h4 s4 f4 T3 c3 d3 e3 hr3
          have HLE := Lib.hid (show (l ++ bl).length ≤ (k + 1) * 1048586 by rw [List.length_append]; have := hle.out; have := hbn.out; have := HSN.out; omega)
          generalize l ++ bl = l' at T4 HLE
          go_wp2
          go_roundw
          case rel => exact ⟨k + 1, _, _, l', by omega, by omega, by go_num, T4, HLE⟩
          case measure => first | (simp [intOf]; done) | (simp [intOf]; omega)
      · have hex : (decide ((k : Int) < (n : Int)) = false ∧ decide (k < n) = false) ∨ ((decide ((k : Int) < (n : Int)) = true ∧ decide (k < n) = true) ∧ decide ((k : Int) < 40) = false) := by
          by_cases h : k < n
          · exact .inr ⟨⟨decide_eq_true (by omega), decide_eq_true h⟩, decide_eq_false (by omega)⟩
          · exact .inl ⟨decide_eq_false (by omega), decide_eq_false h⟩
        rcases hex with ⟨d1, d2⟩ | ⟨⟨d1, d2⟩, d3⟩
        all_goals
          go_wp2
          go_meet
          case rel => exact ⟨v1, v2, l, hT0, by have := hle.out; omega⟩
  case rest =>
    obtain ⟨v1, v2, l, hT, hle⟩ := hcut
    clear T0
    generalize w2.heap.size = B2 at *
    go_wp2_with fail
    refine (bytes_any _ B1 v1 l hT.one (by omega)).mono ?_
    rintro e w5 ⟨a5, c5, rfl, hown, hb5⟩
    have T5 := hT.below hb5
    obtain ⟨a2, c2, rfl, q1, q2, q3, q4⟩ := ownsRow_slice T5.two.own
    have hr2 := Rds.of_own T5.two.own rfl
    have hr5 := Rds.of_own hown rfl
    have g0 := blk_cell (i := 0) T5.two.blk rfl
    have m1 := convB w5 a5 _ c5 l hr5
    have m2 := convB w5.drew a5 _ c5 l hr5
    have m3 := convB w5.drew.drew a5 _ c5 l hr5
    have m4 := convB w5 a2 _ c2 l hr2
    have m5 := convB w5.drew a2 _ c2 l hr2
    have m6 := convB w5.drew.drew a2 _ c2 l hr2
    clear q1 q2 q3 q4
    go_wp2
    go_region
    go_wp2
    have hT5 := T5
    clear m1 m2 m3 m4 m5 m6 g0 hr2 hr5
    go_loopw [8] (fun t wr => ∃ k : Nat, k ≤ l.length ∧ t = .int .i64 (k : Int) ∧ wr.ownsRow wc.heap.size 5 1 (.slice a5 l.length c5) l.length (bv ((l.take k).map (· ^^^ 1) ++ l.drop k)) ∧ Below wc.heap.size wc wr) (fun t _ => l.length - (intOf t).toNat)
    case atStart => exact ⟨0, Nat.zero_le _, rfl, by rw [List.take_zero, List.map_nil, List.nil_append, List.drop_zero]; exact hown, hb5.drew⟩
    case round =>
      obtain ⟨k, hk, rfl, how, hb⟩ := hrel
      by_cases hlt : k < l.length
      · obtain ⟨g, rfl, hg1, hg2⟩ := own_head how (by omega)
        have hx : l[k]? = some (l[k]'(by omega)) := List.getElem?_eq_getElem _
        have hcell : wr.cell? ⟨g, k, none⟩ = some (.int .u8 ((l[k]'(by omega)).toNat : Int)) := by
          rw [how.cellAt k (by omega), bv_getElem?, List.getElem?_append_right (by simp; omega)]; simp [Nat.min_eq_left (show k ≤ l.length by omega)]; exact ⟨_, hx, rfl⟩
        have hfr : wr.frozen? ⟨g, k, none⟩ = false := how.frozenAt k
        have hst := (how.stored k (.int .u8 (((l[k]'(by omega)) ^^^ 1 : UInt8).toNat : Int))).1
        rw [bv_set, take_f _ _ _ _ hx] at hst
        have hor := Lib.hid (xor1_u8 (l[k]'(by omega)))
        generalize (l[k]'(by omega)) = x at hx hcell hst hor
        have hd1 : decide ((k : Int) < (l.length : Int)) = true := decide_eq_true (by omega)
        have HX := Lib.hid hx
        have HS := Lib.hid hst
        clear hx hst
        go_wp2
        rw [hor.out]
        go_roundw
        case rel => exact ⟨k + 1, by omega, by go_num, HS.out, hb.setCell (by simp; omega) _⟩
        case measure => first | (simp [intOf]; done) | (simp [intOf]; omega)
      · have hd1 : decide ((k : Int) < (l.length : Int)) = false := decide_eq_false (by omega)
        have T6 := hT.below hb
        have hr2 := Rds.of_own T6.two.own rfl
        have g0 := blk_cell (i := 0) T6.two.blk rfl
        have m4 := convB wr a2 _ c2 l hr2
        have m5 := convB wr.drew a2 _ c2 l hr2
        have m6 := convB wr.drew.drew a2 _ c2 l hr2
        have m7 := convB wr.drew.drew.drew a2 _ c2 l hr2
        clear how
        go_wp2
        go_region_with (go_at_call 35
                        refine (bytes_any _ B1 v1 l (by first | exact T6.one | exact (T6.drew).one | exact T6.drew.drew.one | exact T6.drew.drew.drew.one) (by omega)).mono ?_
                        rintro e w7 ⟨a7, c7, rfl, hown7, hb7⟩
                        have T7 : Two w w7 B1 B2 v1 (.slice a2 l.length c2) l l := by first | exact T6.below hb7 | exact T6.drew.below hb7 | exact T6.drew.drew.below hb7 | exact T6.drew.drew.drew.below hb7
                        have hr7 := Rds.of_own hown7 rfl
                        have hr8 := Rds.of_own T7.two.own rfl
                        have g1 := blk_cell (i := 0) T7.two.blk rfl
                        have k4 := convB w7 a2 _ c2 l hr8
                        have k5 := convB w7.drew a2 _ c2 l hr8
                        have k6 := convB w7.drew.drew a2 _ c2 l hr8
                        have k7 := convB w7.drew.drew.drew a2 _ c2 l hr8
                        have n4 := convB w7 a7 _ c7 l hr7
                        have n5 := convB w7.drew a7 _ c7 l hr7
                        have n6 := convB w7.drew.drew a7 _ c7 l hr7
                        have n7 := convB w7.drew.drew.drew a7 _ c7 l hr7
                        clear hown7 hr7 hr8)
        all_goals
          go_wp2
          go_ret
          exact ⟨rfl, by first | exact T7.bel | exact T7.bel.drew | exact T7.bel.drew.drew⟩
#print axioms octetLays_walk_upto
end Go.Proofs.Yteilcnpednigbaa
