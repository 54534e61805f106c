/- lex.Lex: what it answers. -/
import Derived.Test.YtcbddbclgepcmaaDoorLexOne
import Derived.Test.YtcbddbclgepcmaaDoorAid2
namespace Go.Proofs.YtcbddbclgepcmaaDoor
open Go.RowKit Go.Tap
set_option linter.unusedVariables false

theorem at_any (w : World) (k : Int) (T : TypeId) (v : Value) : Calls Tryd.prog 48 #[.int .i64 k, .iface T v] w fun e w' => e = .returned (.iface 98 (.pointer (some ⟨w.heap.size, 0, none⟩))) ∧ w' = w.alloc (.cells #[.int .i64 k, .iface T v] 101) := by
  go_enter Tryd.func48, Tryd.ntmps48
  go_wp2
  go_ret
  exact ⟨rfl, rfl⟩
theorem Tryd.infoT : (Tryd.prog.info? 49).map (fun i => (i.zero, i.size, i.bytes)) = some (some (.agg #[.int .i64 0, .int .i64 0, .string ⟨#[]⟩]), 3, 32) := by kernel_rfl
/-- The cells of a token, of tokens. -/
def tc (t : Lx.Tok) : List Value := [.int .i64 (t.kind : Int), .int .i64 (t.place : Int), .string (str t.text)]
def tv (l : List Lx.Tok) : List Value := l.flatMap tc
theorem tv_length (l : List Lx.Tok) : (tv l).length = l.length * 3 := by
  induction l with
  | nil => rfl
  | cons t l ih => simp only [tv, List.flatMap_cons, List.length_append, List.length_cons] at ih ⊢; rw [ih]; simp [tc]; omega
theorem tv_snoc (l : List Lx.Tok) (t : Lx.Tok) : tv (l ++ [t]) = tv l ++ tc t := by simp [tv]
/-- Behind Lex. -/
def LexAft (w : World) (r : Except Nat (List Lx.Tok)) (e : Ending) (w' : World) : Prop :=
  Below w.heap.size w w' ∧ match r with
  | .error _ => ∃ T v, e = .returned (.tuple #[.slice none 0 0, .iface T v])
  | .ok l => ∃ v, e = .returned (.tuple #[v, .nilIface]) ∧ w'.ownsRow w.heap.size 49 3 v l.length (tv l)
/-- .. and what the error is. -/
def LexAftS (w : World) (r : Except Nat (List Lx.Tok)) (e : Ending) (w' : World) : Prop :=
  Below w.heap.size w w' ∧ match r with
  | .error p => ∃ pb, e = .returned (.tuple #[.slice none 0 0, .iface 98 (.pointer (some ⟨pb, 0, none⟩))]) ∧ w'.heap[pb]? = some (.cells #[.int .i64 (p : Int), .iface 30 (.int .i64 15)] 101 (0, 0))
  | .ok l => ∃ v, e = .returned (.tuple #[v, .nilIface]) ∧ w'.ownsRow w.heap.size 49 3 v l.length (tv l)
theorem LexAftS.weak {w : World} {r : Except Nat (List Lx.Tok)} {e : Ending} {w' : World} (h : LexAftS w r e w') : LexAft w r e w' := by
  refine ⟨h.1, ?_⟩
  cases r with
  | error p => obtain ⟨pb, he, _⟩ := h.2; exact ⟨_, _, he⟩
  | ok l => exact h.2
def pre (ts : List Lx.Tok) : Except Nat (List Lx.Tok) → Except Nat (List Lx.Tok)
  | .error e => .error e
  | .ok l => .ok (ts ++ l)
theorem lexF_blank (n : Nat) (x : UInt8) (r : List UInt8) (p : Nat) (h : Lx.blank x = true) : Lx.lexF (n + 1) (x :: r) p = Lx.lexF n r (p + 1) := by simp [Lx.lexF, h]
theorem lexF_bad (n : Nat) (x : UInt8) (r : List UInt8) (p : Nat) (h : Lx.blank x = false) (h0 : (Lx.one (x :: r)).1 = 0) : Lx.lexF (n + 1) (x :: r) p = .error p := by simp [Lx.lexF, h, h0]
theorem pre_pre (ts us : List Lx.Tok) (r : Except Nat (List Lx.Tok)) : pre ts (pre us r) = pre (ts ++ us) r := by cases r <;> simp [pre]
theorem pre_one (t : Lx.Tok) (r : Except Nat (List Lx.Tok)) : Except.map (fun l => t :: l) r = pre [t] r := by cases r <;> rfl
theorem lexF_tok (n m : Nat) (x : UInt8) (r : List UInt8) (p : Nat) (h : Lx.blank x = false) (h0 : (Lx.one (x :: r)).1 ≠ 0) (hn : r.length ≤ n) (hm : (x :: r).length - (Lx.one (x :: r)).2 ≤ m) :
    Lx.lexF (n + 1) (x :: r) p = pre [⟨(Lx.one (x :: r)).1, p, (x :: r).take (Lx.one (x :: r)).2⟩] (Lx.lexF m ((x :: r).drop (Lx.one (x :: r)).2) (p + (Lx.one (x :: r)).2)) := by
  have hp := Lx.one_pos _ h0
  simp only [Lx.lexF, h, h0, if_false, Bool.false_eq_true]
  rw [Lx.lexF_fuel n m _ _ (by rw [List.length_drop]; simp only [List.length_cons]; omega) (by rw [List.length_drop]; exact hm)]
  exact pre_one _ _
set_option maxHeartbeats 2000000 in
theorem lex_strong (w : World) (l : List UInt8) (hl : l.length ≤ 600) : Calls Tryd.prog 18 #[.string (str l)] w (LexAftS w (Lx.lex l)) := by
  obtain ⟨i0, hi, hz0, hz1, hz2⟩ := info_parts Tryd.infoT
  have hsz : (str l).size = l.length := rfl
  have hd0 : decide ((600 : Int) < (l.length : Int)) = false := decide_eq_false (by omega)
  go_enter Tryd.func18, Tryd.ntmps18
  go_wp2
  go_loopw [4, 5, 6, 7] (fun o t _ _ wr => ∃ (p : Nat) (ts : List Lx.Tok), p ≤ l.length ∧ ts.length ≤ p ∧ t = .int .i64 (p : Int) ∧ wr.ownsRow w.heap.size 49 3 o ts.length (tv ts) ∧ Hid (Lx.lex l = pre ts (Lx.lexF (l.length - p) (l.drop p) p)) ∧ Below w.heap.size w wr) (fun _ t _ _ _ => l.length - (intOf t).toNat)
  case atStart => exact ⟨0, [], Nat.zero_le _, Nat.zero_le _, rfl, World.ownsRow_nil _ _ _ _, by rw [Nat.sub_zero, List.drop_zero]; unfold Lx.lex pre; split <;> simp_all [Hid], Below.refl _ _⟩
  case round =>
    obtain ⟨p, ts, hp, htp, rfl, how, HL, hb⟩ := hrel
    by_cases hlt : p < l.length
    · have hd1 : decide ((p : Int) < (l.length : Int)) = true := decide_eq_true (by omega)
      have hx : l.drop p = (l[p]'hlt) :: l.drop (p + 1) := List.drop_eq_getElem_cons hlt
      have HX := Lib.hid hx
      clear hx
      go_wp2_with fail
      refine (blank_any _ _).mono ?_
      rintro e w' ⟨rfl, rfl⟩
      rw [show (str l)[p]'(by rw [hsz]; exact hlt) = l[p]'hlt from rfl]
      have hbl := blank_ge (l[p]'hlt)
      generalize (l[p]'hlt) = x at HX hbl
      generalize Lib.indexByte [32, 9, 10] x = q at hbl
      cases hbx : Lx.blank x with
      | true =>
        rw [hbx] at hbl
        have HB := Lib.hid hbx
        clear hbx
        go_wp2
        go_roundw
        case rel => exact ⟨p + 1, ts, by omega, by omega, by go_num, how, by rw [HL.out, HX.out, show l.length - p = (l.length - (p + 1)) + 1 by omega, lexF_blank _ _ _ _ HB.out]; rfl, hb⟩
        case measure => first | (simp [intOf]; done) | (simp [intOf]; omega)
      | false =>
        rw [hbx] at hbl
        have HB := Lib.hid hbx
        clear hbx
        have hrl : (x :: l.drop (p + 1)).length = l.length - p := by rw [← HX.out, List.length_drop]
        have hle := Lx.one_le (x :: l.drop (p + 1))
        have hpos := Lib.hid (Lx.one_pos (x :: l.drop (p + 1)))
        rw [hrl] at hle
        have HR := Lib.hid hrl
        clear hrl
        go_wp2_with fail
        rw [sub_str, List.take_length, HX.out]
        refine (one_any _ x (l.drop (p + 1)) (by have := HR.out; omega)).mono ?_
        obtain ⟨q, hq⟩ : ∃ q, Lx.one (x :: l.drop (p + 1)) = q := ⟨_, rfl⟩
        rw [hq] at hle hpos ⊢
        have HQ := Lib.hid hq
        clear hq
        obtain ⟨q1, q2⟩ := q
        simp only [sgn] at hle hpos ⊢
        rintro e w2 ⟨rfl, hb2⟩
        have b2 := hb.trans (hb2.mono hb.size)
        by_cases h0 : q1 = 0
        · subst h0
          go_wp2_with fail
          refine (at_any _ _ _ _).mono ?_
          rintro e w3 ⟨rfl, hw3⟩
          have hbk : w3.heap[w2.heap.size]? = some (.cells #[.int .i64 (p : Int), .iface 30 (.int .i64 15)] 101 (0, 0)) := by rw [hw3]; exact heap_alloc_new _ _
          have hb3 : Below w2.heap.size w2 w3 := by rw [hw3]; exact (Below.refl _ _).alloc (Nat.le_refl _) _
          clear hw3
          go_wp2
          go_ret2
          have HE : Lx.lex l = .error p := by rw [HL.out, HX.out, show l.length - p = (l.length - (p + 1)) + 1 by omega, lexF_bad _ _ _ _ HB.out (by rw [HQ.out])]; rfl
          rw [HE]
          exact ⟨b2.trans (hb3.mono b2.size), _, rfl, hbk⟩
        · have hp2 := hpos.out h0
          have hd3 : ((q1 : Int) == 0) = false := by simp; omega
          have hd4 : (q1 == 0) = false := by simp; omega
          have H0 := Lib.hid h0
          clear h0
          have hpq : p + q2 ≤ l.length := by omega
          have hs1 : (str l).extract p (p + q2) = str ((x :: l.drop (p + 1)).take q2) := by rw [sub_str, ← HX.out, List.drop_take, Nat.add_sub_cancel_left]
          have HS := Lib.hid hs1
          clear hs1
          have how2 : w2.ownsRow w.heap.size 49 3 _ ts.length (tv ts) := ownsRow_stay how (TStay.of_below hb2 (fun _ => False)) (fun _ _ h => h)
          set_option maxRecDepth 100000 in
          go_wp2_with (at_builtin; refine wpList_append_one _ rfl (.tmp 35) (.tmp 45) 41 rfl w.heap.size 49 i0 _ 3 32 Tryd.underlying41 hi hz0 hz1 hz2 rfl (by decide) _ ts.length (tv ts) rfl (how2.alloc _) w2.heap.size 1 _ _ rfl (heap_alloc_new _ _) rfl (by intro u hu; simp at hu; rcases hu with rfl | rfl | rfl <;> rfl) (by omega) (by omega) (by have := b2.size; simp; omega) ?_)
          intro v' w3 hown hg
          have HT := Lib.hid (lexF_tok (l.length - (p + 1)) (l.length - (p + q2)) x (l.drop (p + 1)) p HB.out (by rw [HQ.out]; exact H0.out) (by rw [List.length_drop]; omega) (by rw [HQ.out, HR.out]; omega))
          go_wp2
          go_roundw
          case rel =>
            refine ⟨p + q2, ts ++ [⟨q1, p, (x :: l.drop (p + 1)).take q2⟩], hpq, by simp; omega, by go_num, ?_, ?_, ?_⟩
            · rw [List.length_append, tv_snoc]
              simpa [tc, HS.out] using hown
            · have h1 := HT.out
              rw [HQ.out] at h1
              show Lx.lex l = _
              rw [HL.out, show l.length - p = (l.length - (p + 1)) + 1 by omega, HX.out, h1, ← HX.out, List.drop_drop, pre_pre]
            · exact (b2.alloc b2.size _).grown hg (by have := b2.size; simp; omega) (by intro j hj; exact (how2.lt j hj).1)
          case measure => first | (simp [intOf]; done) | (simp [intOf]; omega)
    · obtain rfl : p = l.length := by omega
      have hd1 : decide ((l.length : Int) < (l.length : Int)) = false := decide_eq_false (by omega)
      have HE := Lib.hid (show Lx.lex l = .ok (ts ++ [⟨11, l.length, []⟩]) by rw [HL.out, Nat.sub_self]; rfl)
      clear HL
      set_option maxRecDepth 100000 in
      go_wp2_with (at_builtin; refine wpList_append_one _ rfl (.tmp 50) (.tmp 54) 41 rfl w.heap.size 49 i0 _ 3 32 Tryd.underlying41 hi hz0 hz1 hz2 rfl (by decide) _ ts.length (tv ts) rfl (how.alloc _) _ 1 _ _ rfl (heap_alloc_new _ _) rfl (by intro u hu; simp at hu; rcases hu with rfl | rfl | rfl <;> rfl) (by omega) (by omega) (by have := hb.size; simp; omega) ?_)
      intro v' w3 hown hg
      go_wp2
      go_ret2
      rw [HE.out]
      refine ⟨(hb.alloc hb.size _).grown hg (by have := hb.size; simp; omega) (by intro j hj; exact (how.lt j hj).1), v', rfl, ?_⟩
      rw [List.length_append, tv_snoc]
      simpa [tc, str] using hown
theorem lex_any (w : World) (l : List UInt8) (hl : l.length ≤ 600) : Calls Tryd.prog 18 #[.string (str l)] w (LexAft w (Lx.lex l)) := (lex_strong w l hl).mono fun _ _ h => h.weak
theorem lex_long (w : World) (l : List UInt8) (hl : 600 < l.length) : Calls Tryd.prog 18 #[.string (str l)] w fun e w' => e = .returned (.tuple #[.slice none 0 0, .iface 30 (.int .i64 5)]) ∧ w' = w := by
  have hsz : (str l).size = l.length := rfl
  have hd0 : decide ((600 : Int) < (l.length : Int)) = true := decide_eq_true (by omega)
  have hd1 : decide (600 < l.length) = true := decide_eq_true (by omega)
  go_enter Tryd.func18, Tryd.ntmps18
  go_wp2
  go_ret2
  exact ⟨rfl, rfl⟩
end Go.Proofs.YtcbddbclgepcmaaDoor
