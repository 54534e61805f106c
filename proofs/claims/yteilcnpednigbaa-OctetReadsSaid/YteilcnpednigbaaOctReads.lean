/- What OctetReads comes to. -/
import Derived.Test.YteilcnpednigbaaOctBack
import Derived.Test.YteilcnpednigbaaHand2
import Derived.Deep.Cut
import Derived.Deep.CutRange
import Derived.Deep.QuietTactic
import Derived.BigQuiet
namespace Go.Proofs.Yteilcnpednigbaa
open Go.RowKit Go.Tap
set_option linter.unusedVariables false

theorem IsR.drewN {T : TypeId} {w : World} {B : Nat} {a : Option Addr} {c : Nat} {lk : Bool} {l : List UInt8} (h : IsR T w B a c lk l) (n : Nat) : IsR T (w.drewN n) B a c lk l := ⟨h.blk, h.rds, h.le, h.nnil, h.cap⟩
theorem IsR.alloc {T : TypeId} {w : World} {B : Nat} {a : Option Addr} {c : Nat} {lk : Bool} {l : List UInt8} (h : IsR T w B a c lk l) (o : Obj) : IsR T (w.alloc o) B a c lk l :=
  ⟨(Below.heap_alloc _ _ _ h.lt).trans h.blk, h.rds.alloc _, h.le, h.nnil, h.cap⟩
theorem IsR.box {T : TypeId} {w : World} {a : Option Addr} {n c : Nat} {l : List UInt8} (hr : Rds w a n l) (hc : n ≤ c) (hz : a = none → c = 0) (hn : n ≤ 140737488355328) :
    IsR T (w.alloc (.cells #[.slice a n c, .bool false] T)) w.heap.size a c false l := by
  have hl := hr.1
  subst hl
  exact ⟨heap_alloc_new _ _, hr.alloc _, hc, hz, hn⟩
theorem lack_q (w : World) (n : Nat) (B : Nat) (a : Option Addr) (c : Nat) (lack : Bool) (l : List UInt8) (h : IsR 98 w B a c lack l) :
    Calls Try.prog 39 #[.pointer (some ⟨B, 0, none⟩)] (w.drewN n) fun e w' => e = .returned (.bool lack) ∧ w' = w.drewN n :=
  (lack_any (w.drewN n) B a c lack l (h.drewN n)).mono fun _ _ ⟨h1, h2⟩ => ⟨h1, h2.symm⟩
theorem left_q (w : World) (n : Nat) (B : Nat) (a : Option Addr) (c : Nat) (lack : Bool) (l : List UInt8) (h : IsR 98 w B a c lack l) :
    Calls Try.prog 38 #[.pointer (some ⟨B, 0, none⟩)] (w.drewN n) fun e w' => e = .returned (.int .i64 (l.length : Int)) ∧ w' = w.drewN n :=
  (left_any (w.drewN n) B a c lack l (h.drewN n)).mono fun _ _ ⟨h1, h2⟩ => ⟨h1, h2.symm⟩
theorem below_drewN {B : Nat} {a w : World} (h : Below B a w) (n : Nat) : Below B a (w.drewN n) := ⟨h.os, h.tape, h.output, h.size, h.block⟩
theorem conv_b (w : World) (a : Option Addr) (n c : Nat) (l : List UInt8) (h : Rds w a n l) : (convert 25 9 (.slice a n c)).run Try.prog w = .ok (.string (str l)) w :=
  run_str (P := Try.prog) w a n c l 25 9 5 Try.underlying25 Try.underlying5 Try.underlying9 h
theorem Rds.drew {w : World} {a : Option Addr} {n : Nat} {l : List UInt8} (h : Rds w a n l) : Rds w.drew a n l := h
theorem or128_u8 (x : UInt8) : bits BinOp.or IntKind.u8 (x.toNat : Int) 128 = ((x ||| 128 : UInt8).toNat : Int) := by
  have := u8_or_nat x.toNat 128 x.toNat_lt (by omega)
  rw [show ((128 : Nat) : Int) = 128 from rfl] at this
  rw [this, UInt8.toNat_or]; rfl
theorem take_or (l : List UInt8) (k : Nat) (y : UInt8) (h : l[k]? = some y) : ((l.take k).map (· ||| 128) ++ l.drop k).set k (y ||| 128) = (l.take (k + 1)).map (· ||| 128) ++ l.drop (k + 1) := by
  have hk : k < l.length := (List.getElem?_eq_some_iff.1 h).1
  have e1 : ((l.take k).map (· ||| 128)).length = k := by simp; omega
  rw [List.set_append_right _ _ (by omega), e1, Nat.sub_self]
  have hd : l.drop k = y :: l.drop (k + 1) := by
    rw [List.drop_eq_getElem_cons hk]; congr 1; have := (List.getElem?_eq_some_iff.1 h).2; exact this
  rw [hd, List.take_add_one, h]
  simp

set_option maxRecDepth 100000 in
set_option maxHeartbeats 4000000 in
theorem octetReads_walk (w : World) (a0 : Option Addr) (n0 c0 : Nat) (l0 : List UInt8) (h0 : ArgB 140737488351232 w a0 n0 c0 l0) (a : Option Addr) (n c : Nat) (xs : List StepD) (h : ArgSt 140737488351232 w a n c xs) (high : Bool) :
    Calls Try.prog 9 #[.slice a0 n0 c0, .slice a n c, .bool high] w fun e w' => e = .returned (.bool true) ∧ Below w.heap.size w w' := by
  have hlen := h.len
  have hn44 : n ≤ 3518437208784 := by have := h.le; have := h.reach; omega
  have hargs : Hid (0 < n → ∃ b o, a = some ⟨b, o, none⟩ ∧ b < w.heap.size ∧ ∀ i (s : StepD), xs[i]? = some s → s.ok ∧ w.cell? ⟨b, o + i * 3, none⟩ = some (.int .i64 s.what) ∧ w.cell? ⟨b, o + i * 3 + 1, none⟩ = some (.int .i64 s.n)) := by
    intro h0
    obtain ⟨b, o, e, hx⟩ := h.at_ h0
    have h1 := hx 0 _ (List.getElem?_eq_getElem (show 0 < xs.length by omega))
    exact ⟨b, o, e, block_lt_of_cell h1.2.1, fun i s hs => ⟨(hx i s hs).1, (hx i s hs).2.1, (hx i s hs).2.2.1⟩⟩
  have HLEN := Lib.hid hlen
  have hn0 : n0 ≤ 140737488351232 := by have := h0.le; have := h0.reach; omega
  clear h hlen
  go_enter Try.func9, Try.ntmps9
  go_wp2_with fail
  refine (few_allw _ _ _ _ l0 h0.rds h0.le h0.none (by omega)).mono ?_
  rintro e w1 ⟨a1, c1, rfl, hown, hb1⟩
  have hl0 := Lib.hid h0.rds.1
  have hz1 : Hid (a1 = none → c1 = 0) := by obtain ⟨_, _, e, _, _, h3, _⟩ := ownsRow_slice hown; simp at e; obtain ⟨rfl, rfl⟩ := e; exact h3
  have hc1 : Hid (n0 ≤ c1) := by obtain ⟨_, _, e, h3, _⟩ := ownsRow_slice hown; simp at e; obtain ⟨rfl, rfl⟩ := e; exact h3
  clear h0
  go_upto_if 18 with (fail)
  go_cut [8] from 18 to 32 (fun _ wx => ∃ l1 : List UInt8, Rds wx a1 n0 l1 ∧ Below w.heap.size w wx)
  case first =>
    cases high with
    | false =>
      go_wp2_with fail
      go_meet
      case rel => exact ⟨l0, Rds.of_own (by rw [hl0.out]; exact hown) hl0.out, hb1⟩
    | true =>
      go_wp2_with fail
      go_loopw [8] (fun t wr => ∃ k : Nat, k ≤ n0 ∧ t = .int .i64 (k : Int) ∧ wr.ownsRow w.heap.size 5 1 (.slice a1 n0 c1) n0 (bv ((l0.take k).map (· ||| 128) ++ l0.drop k)) ∧ Below w.heap.size w wr) (fun t _ => n0 - (intOf t).toNat)
      case atStart => exact ⟨0, Nat.zero_le _, rfl, by simpa using hown, hb1⟩
      case round =>
        obtain ⟨k, hk, rfl, how, hb⟩ := hrel
        by_cases hlt : k < n0
        · obtain ⟨g, rfl, hg1, hg2⟩ := own_head how (by omega)
          have hl := hl0.out
          have hx : l0[k]? = some (l0[k]'(by omega)) := List.getElem?_eq_getElem _
          have hcell : wr.cell? ⟨g, k, none⟩ = some (.int .u8 ((l0[k]'(by omega)).toNat : Int)) := by
            rw [how.cellAt k (by omega), bv_getElem?, List.getElem?_append_right (by simp; omega)]; simp [hl, Nat.min_eq_left (show k ≤ n0 by omega), hx]
          have hfr : wr.frozen? ⟨g, k, none⟩ = false := how.frozenAt k
          have hst := (how.stored k (.int .u8 (((l0[k]'(by omega)) ||| 128 : UInt8).toNat : Int))).1
          rw [bv_set, take_or _ _ _ hx] at hst
          have hor := Lib.hid (or128_u8 (l0[k]'(by omega)))
          generalize (l0[k]'(by omega)) = x at hx hcell hst hor
          have hd1 : decide ((k : Int) < (n0 : Int)) = true := decide_eq_true (by omega)
          have HX := Lib.hid hx
          have HS := Lib.hid hst
          clear hx hst hl
          go_wp2
          rw [hor.out]
          go_roundw
          case rel => exact ⟨k + 1, by omega, by go_num, HS.out, hb.setCell (by simp; omega) _⟩
          case measure => first | (simp [intOf]; done) | (simp [intOf]; omega)
        · have hd1 : decide ((k : Int) < (n0 : Int)) = false := decide_eq_false (by omega)
          go_wp2
          have hll : ((l0.take k).map (· ||| 128) ++ l0.drop k).length = n0 := by have := hl0.out; simp; omega
          go_meet
          case rel => exact ⟨_, Rds.of_own (by rw [hll]; exact how) hll, hb⟩
  case rest =>
    obtain ⟨l1, hr1, hb⟩ := hcut
    clear hown hb1
    go_wp2_with fail
    refine (newReader_any _ _ _ _ l1 hr1 hz1.out (by omega)).mono ?_
    rintro e w2 ⟨B1, a2, c2, rfl, hB1, h1, ha2, hb2⟩
    have hr2 := hr1.below hb2 (fun h0 b o e => by subst e; exact hr1.lt h0)
    have b2 := hb.trans (hb2.mono hb.size)
    have hB1' : w.heap.size ≤ B1 := by have := hb.size; omega
    clear hr1 hb2 ha2 hb
    go_wp2_with fail
    refine (known1 _).mono ?_
    rintro e w3 ⟨rfl, hb3⟩
    have hr3 := hr2.below hb3 (fun h0 b o e => by subst e; exact hr2.lt h0)
    have h3 := h1.below hb3
    have b3 := b2.trans (hb3.mono b2.size)
    clear hr2 hb3 h1 b2
    go_wp2_with fail
    refine (few_allw _ _ _ _ l1 hr3 hc1.out hz1.out (by omega)).mono ?_
    rintro e w4 ⟨a4, c4, rfl, hown4, hb4⟩
    have h4 := h3.below hb4
    have b4 := b3.trans (hb4.mono b3.size)
    have hl1 := Lib.hid hr3.1
    have hr4 : Rds w4 a4 n0 l1 := Rds.of_own (by rw [hl1.out]; exact hown4) hl1.out
    have hz4 : Hid (a4 = none → c4 = 0) := by obtain ⟨_, _, e, _, _, h3, _⟩ := ownsRow_slice hown4; simp at e; obtain ⟨rfl, rfl⟩ := e; exact h3
    have hc4 : Hid (n0 ≤ c4) := by obtain ⟨_, _, e, h3, _⟩ := ownsRow_slice hown4; simp at e; obtain ⟨rfl, rfl⟩ := e; exact h3
    clear hown4 hb4 h3 b3 hr3
    have h5 := IsR.box (T := 50) hr4 hc4.out hz4.out (by omega)
    have h5a := h4.alloc (.cells #[.slice a4 n0 c4, .bool false] 50)
    have b5 := b4.alloc b4.size (.cells #[.slice a4 n0 c4, .bool false] 50)
    have hB2 : w.heap.size ≤ w4.heap.size := b4.size
    have hBne : B1 ≠ w4.heap.size := by have := h4.lt; omega
    clear hr4 h4 b4
    go_wp2
    generalize w4.heap.size = B2 at *
    go_loopw [11, 12, 13] (fun t _ _ wr => ∃ (k : Nat) (x1 : Option Addr) (d1 : Nat) (x2 : Option Addr) (d2 : Nat) (lk : Bool) (l : List UInt8), k ≤ n ∧ t = .int .i64 (k : Int) ∧ IsR 98 wr B1 x1 d1 lk l ∧ IsR 50 wr B2 x2 d2 lk l ∧ Below w.heap.size w wr) (fun t _ _ _ => n - (intOf t).toNat)
    case atStart => exact ⟨0, a2, c2, a4, c4, false, l1, Nat.zero_le _, rfl, h5a, h5, b5⟩
    case round =>
      obtain ⟨k, x1, d1, x2, d2, lk, l, hkn, rfl, h1, h2, hb⟩ := hrel
      by_cases hlt : k < n ∧ k < 40
      · obtain ⟨hk1, hk2⟩ := hlt
        obtain ⟨b, o, rfl, hbl, hx⟩ := hargs.out (by omega)
        have hs : xs[k]? = some (xs[k]'(by have := HLEN.out; omega)) := List.getElem?_eq_getElem _
        generalize (xs[k]'(by have := HLEN.out; omega)) = s at hs
        obtain ⟨hok, hc0, hc1⟩ := hx k s hs
        have hc0' := (hb.cell (p := ⟨b, o + k * 3, none⟩) hbl).trans hc0
        have hc1' := (hb.cell (p := ⟨b, o + k * 3 + 1, none⟩) hbl).trans hc1
        have HOK := Lib.hid hok
        clear hc0 hc1 hx hs hok
        have hways : s.what % 6 = 0 ∨ s.what % 6 = 1 ∨ s.what % 6 = 2 ∨ s.what % 6 = 3 ∨ s.what % 6 = 4 ∨ s.what % 6 = 5 := by omega
        rcases hways with hm | hm | hm | hm | hm | hm
        · have HM := Lib.hid hm
          clear hm
          go_wp2_with fail
          refine (pick_any _ s.what 6 HOK.out.1.1 HOK.out.1.2 (by omega) (by omega)).mono ?_
          rintro e w' ⟨he, rfl⟩
          rw [HM.out] at he
          subst he
          go_wp2_with fail
          refine (rU8_any wr B1 x1 d1 lk l h1).mono ?_
          rintro e w6 ⟨rfl, y1, e1, g1, s6⟩
          have h2' := h2.stayR h1 s6 hBne.symm
          have hb6 := below_R hb s6 hB1'
          go_wp2_with fail
          refine (sU8_any w6 B2 x2 d2 lk l h2').mono ?_
          rintro e w7 ⟨rfl, y2, e2, g2, s7⟩
          have g1' := g1.stayR h2' s7 hBne
          have hb7 := below_R hb6 s7 hB2
          generalize Oct.rdU 1 l lk = q at g1' g2
          obtain ⟨q0, q1, q2⟩ := q
          have f0 := blk_cell (i := 0) g2.blk rfl
          have f1 := blk_cell (i := 1) g2.blk rfl
          clear g1 s6 s7 h1 h2 h2' hb hb6
          go_wp2
          cases q2
          all_goals
            go_quiet (first | (go_at_call 39; exact Calls.quiet_of_same (lack_q _ _ B1 y1 e1 _ q1 g1')) | (go_at_call 38; exact Calls.quiet_of_same (left_q _ _ B1 y1 e1 _ q1 g1')))
            go_wp2
            go_roundw
            case rel => exact ⟨k + 1, y1, e1, y2, e2, _, q1, by omega, by go_num, g1'.drewN _, g2.drewN _, below_drewN hb7 _⟩
            case measure => first | (simp [intOf]; done) | (simp [intOf]; omega)
        · have HM := Lib.hid hm
          clear hm
          go_wp2_with fail
          refine (pick_any _ s.what 6 HOK.out.1.1 HOK.out.1.2 (by omega) (by omega)).mono ?_
          rintro e w' ⟨he, rfl⟩
          rw [HM.out] at he
          subst he
          go_wp2_with fail
          refine (rU32_any wr B1 x1 d1 lk l h1).mono ?_
          rintro e w6 ⟨rfl, y1, e1, g1, s6⟩
          have h2' := h2.stayR h1 s6 hBne.symm
          have hb6 := below_R hb s6 hB1'
          go_wp2_with fail
          refine (sU32_any w6 B2 x2 d2 lk l h2').mono ?_
          rintro e w7 ⟨rfl, y2, e2, g2, s7⟩
          have g1' := g1.stayR h2' s7 hBne
          have hb7 := below_R hb6 s7 hB2
          generalize Oct.rdU 4 l lk = q at g1' g2
          obtain ⟨q0, q1, q2⟩ := q
          have f0 := blk_cell (i := 0) g2.blk rfl
          have f1 := blk_cell (i := 1) g2.blk rfl
          clear g1 s6 s7 h1 h2 h2' hb hb6
          go_wp2
          cases q2
          all_goals
            go_quiet (first | (go_at_call 39; exact Calls.quiet_of_same (lack_q _ _ B1 y1 e1 _ q1 g1')) | (go_at_call 38; exact Calls.quiet_of_same (left_q _ _ B1 y1 e1 _ q1 g1')))
            go_wp2
            go_roundw
            case rel => exact ⟨k + 1, y1, e1, y2, e2, _, q1, by omega, by go_num, g1'.drewN _, g2.drewN _, below_drewN hb7 _⟩
            case measure => first | (simp [intOf]; done) | (simp [intOf]; omega)
        · have HM := Lib.hid hm
          clear hm
          go_wp2_with fail
          refine (pick_any _ s.what 6 HOK.out.1.1 HOK.out.1.2 (by omega) (by omega)).mono ?_
          rintro e w' ⟨he, rfl⟩
          rw [HM.out] at he
          subst he
          go_wp2_with fail
          refine (rU64_any wr B1 x1 d1 lk l h1).mono ?_
          rintro e w6 ⟨rfl, y1, e1, g1, s6⟩
          have h2' := h2.stayR h1 s6 hBne.symm
          have hb6 := below_R hb s6 hB1'
          go_wp2_with fail
          refine (sU64_any w6 B2 x2 d2 lk l h2').mono ?_
          rintro e w7 ⟨rfl, y2, e2, g2, s7⟩
          have g1' := g1.stayR h2' s7 hBne
          have hb7 := below_R hb6 s7 hB2
          generalize Oct.rdU 8 l lk = q at g1' g2
          obtain ⟨q0, q1, q2⟩ := q
          have f0 := blk_cell (i := 0) g2.blk rfl
          have f1 := blk_cell (i := 1) g2.blk rfl
          clear g1 s6 s7 h1 h2 h2' hb hb6
          go_wp2
          cases q2
          all_goals
            go_quiet (first | (go_at_call 39; exact Calls.quiet_of_same (lack_q _ _ B1 y1 e1 _ q1 g1')) | (go_at_call 38; exact Calls.quiet_of_same (left_q _ _ B1 y1 e1 _ q1 g1')))
            go_wp2
            go_roundw
            case rel => exact ⟨k + 1, y1, e1, y2, e2, _, q1, by omega, by go_num, g1'.drewN _, g2.drewN _, below_drewN hb7 _⟩
            case measure => first | (simp [intOf]; done) | (simp [intOf]; omega)
        · have HM := Lib.hid hm
          clear hm
          go_wp2_with fail
          refine (pick_any _ s.what 6 HOK.out.1.1 HOK.out.1.2 (by omega) (by omega)).mono ?_
          rintro e w' ⟨he, rfl⟩
          rw [HM.out] at he
          subst he
          go_wp2_with fail
          refine (rVar_any' wr B1 x1 d1 lk l h1).mono ?_
          rintro e w6 ⟨rfl, y1, e1, g1, s6⟩
          have h2' := h2.stayR h1 s6 hBne.symm
          have hb6 := below_R hb s6 hB1'
          go_wp2_with fail
          refine (sVar_any w6 B2 x2 d2 lk l h2').mono ?_
          rintro e w7 ⟨rfl, y2, e2, g2, s7⟩
          have g1' := g1.stayR h2' s7 hBne
          have hb7 := below_R hb6 s7 hB2
          generalize Oct.rdVar l lk = q at g1' g2
          obtain ⟨q0, q1, q2⟩ := q
          have f0 := blk_cell (i := 0) g2.blk rfl
          have f1 := blk_cell (i := 1) g2.blk rfl
          clear g1 s6 s7 h1 h2 h2' hb hb6
          go_wp2
          cases q2
          all_goals
            go_quiet (first | (go_at_call 39; exact Calls.quiet_of_same (lack_q _ _ B1 y1 e1 _ q1 g1')) | (go_at_call 38; exact Calls.quiet_of_same (left_q _ _ B1 y1 e1 _ q1 g1')))
            go_wp2
            go_roundw
            case rel => exact ⟨k + 1, y1, e1, y2, e2, _, q1, by omega, by go_num, g1'.drewN _, g2.drewN _, below_drewN hb7 _⟩
            case measure => first | (simp [intOf]; done) | (simp [intOf]; omega)
        · have HM := Lib.hid hm
          clear hm
          go_wp2_with fail
          refine (pick_any _ s.what 6 HOK.out.1.1 HOK.out.1.2 (by omega) (by omega)).mono ?_
          rintro e w' ⟨he, rfl⟩
          rw [HM.out] at he
          subst he
          go_wp2_with fail
          refine (rVar_any' wr B1 x1 d1 lk l h1).mono ?_
          rintro e w6 ⟨rfl, y1, e1, g1, s6⟩
          have h2' := h2.stayR h1 s6 hBne.symm
          have hb6 := below_R hb s6 hB1'
          go_wp2_with fail
          refine (sVar_any w6 B2 x2 d2 lk l h2').mono ?_
          rintro e w7 ⟨rfl, y2, e2, g2, s7⟩
          have g1' := g1.stayR h2' s7 hBne
          have hb7 := below_R hb6 s7 hB2
          generalize Oct.rdVar l lk = q at g1' g2
          obtain ⟨q0, q1, q2⟩ := q
          have f0 := blk_cell (i := 0) g2.blk rfl
          have f1 := blk_cell (i := 1) g2.blk rfl
          clear g1 s6 s7 h1 h2 h2' hb hb6
          go_wp2
          cases q2
          all_goals
            go_quiet (first | (go_at_call 39; exact Calls.quiet_of_same (lack_q _ _ B1 y1 e1 _ q1 g1')) | (go_at_call 38; exact Calls.quiet_of_same (left_q _ _ B1 y1 e1 _ q1 g1')))
            go_wp2
            go_roundw
            case rel => exact ⟨k + 1, y1, e1, y2, e2, _, q1, by omega, by go_num, g1'.drewN _, g2.drewN _, below_drewN hb7 _⟩
            case measure => first | (simp [intOf]; done) | (simp [intOf]; omega)
        · have HM := Lib.hid hm
          clear hm
          go_wp2_with fail
          refine (pick_any _ s.what 6 HOK.out.1.1 HOK.out.1.2 (by omega) (by omega)).mono ?_
          rintro e w' ⟨he, rfl⟩
          rw [HM.out] at he
          subst he
          go_wp2_with fail
          refine (pick_any _ s.n 9 HOK.out.2.1 HOK.out.2.2 (by omega) (by omega)).mono ?_
          have hr := Lib.hid (show 0 ≤ s.n % 9 ∧ s.n % 9 ≤ 8 by omega)
          rintro e w' ⟨rfl, rfl⟩
          generalize s.n % 9 = r at hr
          have hr1 := hr.out
          have hrw : IntKind.i64.wrap (r - 1) = r - 1 := by rw [IntKind.wrap_i64]; omega
          go_wp2
          have cq := Lib.hid (fun wz (h : IsR 98 wz B1 x1 d1 lk l) => qRaw_any wz B1 x1 d1 lk l h (r - 1) (by omega))
          have cs := Lib.hid (fun wz (h : IsR 50 wz B2 x2 d2 lk l) => sRaw_any wz B2 x2 d2 lk l h (r - 1) (by omega))
          generalize Oct.rdRaw (r - 1) l lk = q at cq cs
          obtain ⟨q0, q1, q2⟩ := q
          have hB2l := h2.lt
          go_region_with (first
            | (go_at_call 47
               refine (cq.out _ (by first | exact h1 | exact h1.drew | exact h1.drew.drew)).mono ?_
               rintro e w6 ⟨y, e1, rfl, ho1, ya, ec, g1, s6⟩
               have h2' : IsR 50 w6 B2 x2 d2 lk l := by first | exact h2.stayR h1 s6 hBne.symm | exact h2.drew.stayR h1.drew s6 hBne.symm | exact h2.drew.drew.stayR h1.drew.drew s6 hBne.symm
               have hb6 : Below w.heap.size w w6 := by first | exact below_R hb s6 hB1' | exact below_R hb.drew s6 hB1' | exact below_R hb.drew.drew s6 hB1'
               have hy := Rds.of_own ho1 rfl
               have hne : Hid (0 < q0.length → ∀ b o, y = some ⟨b, o, none⟩ → ¬ b = B2) := fun _ b o e hb => by
                 have := (ho1.lt b (by subst e; simp [Value.ownBlock])).1
                 simp at this; omega
               have k0 := conv_b w6 y _ e1 _ hy
               have k1 := conv_b w6.drew y _ e1 _ hy
               have k2 := conv_b w6.drew.drew y _ e1 _ hy
               clear s6 ho1)
            | (go_at_call 48
               refine (cs.out _ (by first | exact h2' | exact h2'.drew | exact h2'.drew.drew)).mono ?_
               rintro e w7 ⟨z, e2, rfl, ho2, za, ed, g2, s7⟩
               have g1' : IsR 98 w7 B1 ya ec q2 q1 := by first | exact g1.stayR h2' s7 hBne | exact g1.drew.stayR h2'.drew s7 hBne | exact g1.drew.drew.stayR h2'.drew.drew s7 hBne
               have hb7 : Below w.heap.size w w7 := by first | exact below_R hb6 s7 hB2 | exact below_R hb6.drew s7 hB2 | exact below_R hb6.drew.drew s7 hB2
               have hy7 : Rds w7 y q0.length q0 := by first | exact hy.stay s7 hne.out | exact hy.drew.stay s7 hne.out | exact hy.drew.drew.stay s7 hne.out
               have hz7 := Rds.of_own ho2 rfl
               have k3 := conv_b w7 y _ e1 _ hy7
               have k4 := conv_b w7.drew y _ e1 _ hy7
               have k5 := conv_b w7.drew.drew y _ e1 _ hy7
               have k6 := conv_b w7 z _ e2 _ hz7
               have k7 := conv_b w7.drew z _ e2 _ hz7
               have k8 := conv_b w7.drew.drew z _ e2 _ hz7
               have f0 := blk_cell (i := 0) g2.blk rfl
               have f1 := blk_cell (i := 1) g2.blk rfl
               clear s7 ho2))
          all_goals
            clear hc0' hc1' h1 h2 h2' hb hb6 g1 k0 k1 k2 k3 k4 k5 k6 k7 k8 hy hy7 hz7 hB2l
            go_wp2
            cases q2
            all_goals
              go_quiet (first | (go_at_call 39; exact Calls.quiet_of_same (lack_q _ _ B1 _ _ _ q1 (by first | exact g1' | exact g1'.drew | exact g1'.drew.drew))) | (go_at_call 38; exact Calls.quiet_of_same (left_q _ _ B1 _ _ _ q1 (by first | exact g1' | exact g1'.drew | exact g1'.drew.drew))))
              go_wp2
              go_roundw
              case rel => exact ⟨k + 1, _, _, _, _, _, q1, by omega, by go_num, IsR.drewN (by first | exact g1' | exact g1'.drew | exact g1'.drew.drew) _, IsR.drewN (by first | exact g2 | exact g2.drew | exact g2.drew.drew) _, below_drewN (by first | exact hb7 | exact hb7.drew | exact hb7.drew.drew) _⟩
              case measure => first | (simp [intOf]; done) | (simp [intOf]; omega)
      · have hex : (decide ((k : Int) < (n : Int)) = false ∧ decide (k < n) = false) ∨ ((decide ((k : Int) < (n : Int)) = true ∧ decide (k < n) = true) ∧ decide ((k : Int) < 40) = false) := by
          by_cases h : k < n
          · exact .inr ⟨⟨decide_eq_true (by omega), decide_eq_true h⟩, decide_eq_false (by omega)⟩
          · exact .inl ⟨decide_eq_false (by omega), decide_eq_false h⟩
        rcases hex with ⟨d1, d2⟩ | ⟨⟨d1, d2⟩, d3⟩
        all_goals
          go_wp2
          go_ret
          exact ⟨rfl, hb⟩
#print axioms octetReads_walk
end Go.Proofs.Yteilcnpednigbaa
