/- lex.Lex: what it answers. -/
import Derived.Test.YtcbddbclgepcmaaLexOne
import Derived.Test.YtcbddbclgepcmaaAid2
namespace Go.Proofs.Ytcbddbclgepcmaa
open Go.RowKit Go.Tap
set_option linter.unusedVariables false

theorem at_any (w : World) (k : Int) (T : TypeId) (v : Value) : Calls Try.prog 63 #[.int .i64 k, .iface T v] w fun e w' => (∃ T' v', e = .returned (.iface T' v')) ∧ Below w.heap.size w w' := by
  go_enter Try.func63, Try.ntmps63
  go_wp2
  go_ret
  exact ⟨⟨_, _, rfl⟩, (Below.refl _ _).alloc (Nat.le_refl _) _⟩
theorem Try.infoT : (Try.prog.info? 48).map (fun i => (i.zero, i.size, i.bytes)) = some (some (.agg #[.int .i64 0, .int .i64 0, .string ⟨#[]⟩]), 3, 32) := by kernel_rfl
/-- The cells of a token, of tokens. -/
def tc (t : Lx.Tok) : List Value := [.int .i64 (t.kind : Int), .int .i64 (t.place : Int), .string (str t.text)]
def tv (l : List Lx.Tok) : List Value := l.flatMap tc
theorem tv_length (l : List Lx.Tok) : (tv l).length = l.length * 3 := by
  induction l with
  | nil => rfl
  | cons t l ih => simp only [tv, List.flatMap_cons, List.length_append, List.length_cons] at ih ⊢; rw [ih]; simp [tc]; omega
theorem tv_snoc (l : List Lx.Tok) (t : Lx.Tok) : tv (l ++ [t]) = tv l ++ tc t := by simp [tv]
/-- Behind Lex. -/
def LexAft (w : World) (r : Except Nat (List Lx.Tok)) (e : Ending) (w' : World) : Prop :=
  Below w.heap.size w w' ∧ match r with
  | .error _ => ∃ T v, e = .returned (.tuple #[.slice none 0 0, .iface T v])
  | .ok l => ∃ v, e = .returned (.tuple #[v, .nilIface]) ∧ w'.ownsRow w.heap.size 48 3 v l.length (tv l)
def pre (ts : List Lx.Tok) : Except Nat (List Lx.Tok) → Except Nat (List Lx.Tok)
  | .error e => .error e
  | .ok l => .ok (ts ++ l)
theorem lexF_blank (n : Nat) (x : UInt8) (r : List UInt8) (p : Nat) (h : Lx.blank x = true) : Lx.lexF (n + 1) (x :: r) p = Lx.lexF n r (p + 1) := by simp [Lx.lexF, h]
theorem lexF_bad (n : Nat) (x : UInt8) (r : List UInt8) (p : Nat) (h : Lx.blank x = false) (h0 : (Lx.one (x :: r)).1 = 0) : Lx.lexF (n + 1) (x :: r) p = .error p := by simp [Lx.lexF, h, h0]
theorem pre_pre (ts us : List Lx.Tok) (r : Except Nat (List Lx.Tok)) : pre ts (pre us r) = pre (ts ++ us) r := by cases r <;> simp [pre]
theorem pre_one (t : Lx.Tok) (r : Except Nat (List Lx.Tok)) : Except.map (fun l => t :: l) r = pre [t] r := by cases r <;> rfl
theorem lexF_tok (n m : Nat) (x : UInt8) (r : List UInt8) (p : Nat) (h : Lx.blank x = false) (h0 : (Lx.one (x :: r)).1 ≠ 0) (hn : r.length ≤ n) (hm : (x :: r).length - (Lx.one (x :: r)).2 ≤ m) :
    Lx.lexF (n + 1) (x :: r) p = pre [⟨(Lx.one (x :: r)).1, p, (x :: r).take (Lx.one (x :: r)).2⟩] (Lx.lexF m ((x :: r).drop (Lx.one (x :: r)).2) (p + (Lx.one (x :: r)).2)) := by
  have hp := Lx.one_pos _ h0
  simp only [Lx.lexF, h, h0, if_false, Bool.false_eq_true]
  rw [Lx.lexF_fuel n m _ _ (by rw [List.length_drop]; simp only [List.length_cons]; omega) (by rw [List.length_drop]; exact hm)]
  exact pre_one _ _
set_option maxHeartbeats 2000000 in
theorem lex_any (w : World) (l : List UInt8) (hl : l.length ≤ 600) : Calls Try.prog 32 #[.string (str l)] w (LexAft w (Lx.lex l)) := by
  obtain ⟨i0, hi, hz0, hz1, hz2⟩ := info_parts Try.infoT
  have hsz : (str l).size = l.length := rfl
  have hd0 : decide ((600 : Int) < (l.length : Int)) = false := decide_eq_false (by omega)
  go_enter Try.func32, Try.ntmps32
  go_wp2
  go_loopw [4, 5, 6, 7] (fun o t _ _ wr => ∃ (p : Nat) (ts : List Lx.Tok), p ≤ l.length ∧ ts.length ≤ p ∧ t = .int .i64 (p : Int) ∧ wr.ownsRow w.heap.size 48 3 o ts.length (tv ts) ∧ Hid (Lx.lex l = pre ts (Lx.lexF (l.length - p) (l.drop p) p)) ∧ Below w.heap.size w wr) (fun _ t _ _ _ => l.length - (intOf t).toNat)
  case atStart => exact ⟨0, [], Nat.zero_le _, Nat.zero_le _, rfl, World.ownsRow_nil _ _ _ _, by rw [Nat.sub_zero, List.drop_zero]; unfold Lx.lex pre; split <;> simp_all [Hid], Below.refl _ _⟩
  case round =>
    obtain ⟨p, ts, hp, htp, rfl, how, HL, hb⟩ := hrel
    by_cases hlt : p < l.length
    · have hd1 : decide ((p : Int) < (l.length : Int)) = true := decide_eq_true (by omega)
      have hx : l.drop p = (l[p]'hlt) :: l.drop (p + 1) := List.drop_eq_getElem_cons hlt
      have HX := Lib.hid hx
      clear hx
      go_wp2_with fail
      refine (blank_any _ _).mono ?_
      rintro e w' ⟨rfl, rfl⟩
      rw [show (str l)[p]'(by rw [hsz]; exact hlt) = l[p]'hlt from rfl]
      have hbl := blank_ge (l[p]'hlt)
      generalize (l[p]'hlt) = x at HX hbl
      generalize Lib.indexByte [32, 9, 10] x = q at hbl
      cases hbx : Lx.blank x with
      | true =>
        rw [hbx] at hbl
        have HB := Lib.hid hbx
        clear hbx
        go_wp2
        go_roundw
        case rel => exact ⟨p + 1, ts, by omega, by omega, by go_num, how, by rw [HL.out, HX.out, show l.length - p = (l.length - (p + 1)) + 1 by omega, lexF_blank _ _ _ _ HB.out]; rfl, hb⟩
        case measure => first | (simp [intOf]; done) | (simp [intOf]; omega)
      | false =>
        rw [hbx] at hbl
        have HB := Lib.hid hbx
        clear hbx
        have hrl : (x :: l.drop (p + 1)).length = l.length - p := by rw [← HX.out, List.length_drop]
        have hle := Lx.one_le (x :: l.drop (p + 1))
        have hpos := Lib.hid (Lx.one_pos (x :: l.drop (p + 1)))
        rw [hrl] at hle
        have HR := Lib.hid hrl
        clear hrl
        go_wp2_with fail
        rw [sub_str, List.take_length, HX.out]
        refine (one_any _ x (l.drop (p + 1)) (by have := HR.out; omega)).mono ?_
        obtain ⟨q, hq⟩ : ∃ q, Lx.one (x :: l.drop (p + 1)) = q := ⟨_, rfl⟩
        rw [hq] at hle hpos ⊢
        have HQ := Lib.hid hq
        clear hq
        obtain ⟨q1, q2⟩ := q
        simp only [sgn] at hle hpos ⊢
        rintro e w2 ⟨rfl, hb2⟩
        have b2 := hb.trans (hb2.mono hb.size)
        by_cases h0 : q1 = 0
        · subst h0
          go_wp2_with fail
          refine (at_any _ _ _ _).mono ?_
          rintro e w3 ⟨⟨T', v', rfl⟩, hb3⟩
          go_wp2
          go_ret2
          have HE : Lx.lex l = .error p := by rw [HL.out, HX.out, show l.length - p = (l.length - (p + 1)) + 1 by omega, lexF_bad _ _ _ _ HB.out (by rw [HQ.out])]; rfl
          rw [HE]
          exact ⟨b2.trans (hb3.mono b2.size), T', v', rfl⟩
        · have hp2 := hpos.out h0
          have hd3 : ((q1 : Int) == 0) = false := by simp; omega
          have hd4 : (q1 == 0) = false := by simp; omega
          have H0 := Lib.hid h0
          clear h0
          have hpq : p + q2 ≤ l.length := by omega
          have hs1 : (str l).extract p (p + q2) = str ((x :: l.drop (p + 1)).take q2) := by rw [sub_str, ← HX.out, List.drop_take, Nat.add_sub_cancel_left]
          have HS := Lib.hid hs1
          clear hs1
          have how2 : w2.ownsRow w.heap.size 48 3 _ ts.length (tv ts) := ownsRow_stay how (TStay.of_below hb2 (fun _ => False)) (fun _ _ h => h)
          set_option maxRecDepth 100000 in
          go_wp2_with (at_builtin; refine wpList_append_one _ rfl (.tmp 35) (.tmp 45) 42 rfl w.heap.size 48 i0 _ 3 32 Try.underlying42 hi hz0 hz1 hz2 rfl (by decide) _ ts.length (tv ts) rfl (how2.alloc _) w2.heap.size 1 _ _ rfl (heap_alloc_new _ _) rfl (by intro u hu; simp at hu; rcases hu with rfl | rfl | rfl <;> rfl) (by omega) (by omega) (by have := b2.size; simp; omega) ?_)
          intro v' w3 hown hg
          have HT := Lib.hid (lexF_tok (l.length - (p + 1)) (l.length - (p + q2)) x (l.drop (p + 1)) p HB.out (by rw [HQ.out]; exact H0.out) (by rw [List.length_drop]; omega) (by rw [HQ.out, HR.out]; omega))
          go_wp2
          go_roundw
          case rel =>
            refine ⟨p + q2, ts ++ [⟨q1, p, (x :: l.drop (p + 1)).take q2⟩], hpq, by simp; omega, by go_num, ?_, ?_, ?_⟩
            · rw [List.length_append, tv_snoc]
              simpa [tc, HS.out] using hown
            · have h1 := HT.out
              rw [HQ.out] at h1
              show Lx.lex l = _
              rw [HL.out, show l.length - p = (l.length - (p + 1)) + 1 by omega, HX.out, h1, ← HX.out, List.drop_drop, pre_pre]
            · exact (b2.alloc b2.size _).grown hg (by have := b2.size; simp; omega) (by intro j hj; exact (how2.lt j hj).1)
          case measure => first | (simp [intOf]; done) | (simp [intOf]; omega)
    · obtain rfl : p = l.length := by omega
      have hd1 : decide ((l.length : Int) < (l.length : Int)) = false := decide_eq_false (by omega)
      have HE := Lib.hid (show Lx.lex l = .ok (ts ++ [⟨11, l.length, []⟩]) by rw [HL.out, Nat.sub_self]; rfl)
      clear HL
      set_option maxRecDepth 100000 in
      go_wp2_with (at_builtin; refine wpList_append_one _ rfl (.tmp 50) (.tmp 54) 42 rfl w.heap.size 48 i0 _ 3 32 Try.underlying42 hi hz0 hz1 hz2 rfl (by decide) _ ts.length (tv ts) rfl (how.alloc _) _ 1 _ _ rfl (heap_alloc_new _ _) rfl (by intro u hu; simp at hu; rcases hu with rfl | rfl | rfl <;> rfl) (by omega) (by omega) (by have := hb.size; simp; omega) ?_)
      intro v' w3 hown hg
      go_wp2
      go_ret2
      rw [HE.out]
      refine ⟨(hb.alloc hb.size _).grown hg (by have := hb.size; simp; omega) (by intro j hj; exact (how.lt j hj).1), v', rfl, ?_⟩
      rw [List.length_append, tv_snoc]
      simpa [tc, str] using hown
end Go.Proofs.Ytcbddbclgepcmaa
