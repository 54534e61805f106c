/- LexBack: what it comes to. -/
import Derived.Test.YtcbddbclgepcmaaBent
import Derived.Test.YtcbddbclgepcmaaLexKn
namespace Go.Proofs.Ytcbddbclgepcmaa
open Go.RowKit Go.Tap
set_option linter.unusedVariables false

theorem argI_below {N : Nat} {w w' : World} {a : Option Addr} {n c : Nat} {zs : List Int} (g : ArgI N w a n c zs) (hb : Below w.heap.size w w') : ArgI N w' a n c zs := by
  refine ⟨g.len, fun h0 => ?_, g.le, g.none, g.cap, g.reach⟩
  obtain ⟨b, o, e, hx⟩ := g.at_ h0
  exact ⟨b, o, e, fun i x hi => ⟨(hb.cell (block_lt_of_cell (hx i x hi).1)).trans (hx i x hi).1, (hx i x hi).2⟩⟩
theorem alike_at {a b : List Lx.Tok} (h : Lx.alike a b) : a.length = b.length ∧ ∀ (i : Nat) (t u : Lx.Tok), a[i]? = some t → b[i]? = some u → t.kind = u.kind ∧ t.text = u.text := by
  refine ⟨by have := congrArg List.length h; simpa using this, fun i t u ht hu => ?_⟩
  have := congrArg (fun l => l[i]?) h
  simp only [List.getElem?_map, ht, hu, Option.map_some, Option.some.injEq, Prod.mk.injEq] at this
  exact this
theorem joinR_step (a : List Lx.Tok) (i : Nat) (t : Lx.Tok) (h : a[i]? = some t) (b : Bool) : Lx.joinR b (a.drop i) = (if b then [] else [32]) ++ (t.text ++ Lx.joinR false (a.drop (i + 1))) := by
  obtain ⟨hlt, rfl⟩ := List.getElem?_eq_some_iff.1 h
  rw [List.drop_eq_getElem_cons hlt]; rfl
theorem str_cat (a b : List UInt8) : str a ++ str b = str (a ++ b) := by
  apply ByteArray.ext; simp [str]
theorem str_size (l : List UInt8) : (str l).size = l.length := rfl
set_option maxHeartbeats 4000000 in
set_option maxRecDepth 100000 in
theorem lexBack_walk (w : World) (a0 : Option Addr) (n0 c0 : Nat) (xs : List Int) (g0 : ArgI 140737488351232 w a0 n0 c0 xs) (a1 : Option Addr) (n1 c1 : Nat) (ys : List Int) (g1 : ArgI 140737488351232 w a1 n1 c1 ys) :
    Calls Try.prog 5 #[.slice a0 n0 c0, .slice a1 n1 c1] w fun e w' => e = .returned (.bool true) ∧ Below w.heap.size w w' := by
  go_enter Try.func5, Try.ntmps5
  go_wp2_with fail
  refine (text_any w a0 n0 c0 xs g0).mono ?_
  rintro e w1 ⟨⟨s1, hs1, rfl⟩, hb1⟩
  go_wp2_with fail
  refine (bent_any w1 s1 hs1 a1 n1 c1 ys (argI_below g1 hb1)).mono ?_
  rintro e w2 ⟨⟨s2, hs2, rfl⟩, hb2⟩
  obtain ⟨l, rfl⟩ := str_of s2
  have b2 : Below w.heap.size w w2 := hb1.trans (hb2.mono hb1.size)
  clear g0 g1 hb1 hb2 hs1 hs2
  go_wp2_with fail
  refine (lexR_any w2 l).mono ?_
  rintro e w3 ⟨hb3, hr⟩
  have b3 : Below w.heap.size w w3 := b2.trans (hb3.mono b2.size)
  clear b2
  cases hlr : Lx.lexR l with
  | error pe =>
    rw [hlr] at hr
    obtain ⟨T, v, rfl⟩ := hr
    clear hlr hb3
    go_wp2_with fail
    refine (known17 _).mono ?_
    rintro e w4 ⟨rfl, hb4⟩
    have b4 : Below w.heap.size w w4 := b3.trans (hb4.mono b3.size)
    clear b3 hb4
    go_wp2_with fail
    refine (known17 _).mono ?_
    rintro e w5 ⟨rfl, hb5⟩
    have b5 : Below w.heap.size w w5 := b4.trans (hb5.mono b4.size)
    go_wp2
    go_ret
    exact ⟨rfl, b5⟩
  | ok a =>
    rw [hlr] at hr
    obtain ⟨v, rfl, how⟩ := hr
    obtain ⟨hlex, hl6⟩ := Lx.lexR_ok l a hlr
    obtain ⟨hj, hm⟩ := Lx.join_len l.length l 0 a hlex (Nat.le_refl _)
    have hne := Lx.lexF_ne l.length l 0 a hlex
    have HST := Lib.hid (Lx.lex_stands l a hlex)
    have HBK := Lib.hid (Lx.lex_back l a hlex)
    have HKL := Lib.hid (Lx.kind_le l.length l 0 a hlex)
    have hm0 : 0 < a.length := List.length_pos_iff.2 hne
    obtain ⟨av, cv, rfl, _⟩ := ownsRow_slice how
    obtain ⟨g, rfl, _, _⟩ := own_head how hm0
    clear hlr hlex hne
    go_wp2_with fail
    refine (known17 _).mono ?_
    rintro e w4 ⟨rfl, hb4⟩
    have how4 := ownsRow_stay how (TStay.of_below hb4 (fun _ => False)) (fun _ _ h => h)
    have HO := Lib.hid how4
    have b4 : Below w.heap.size w w4 := b3.trans (hb4.mono b3.size)
    clear how how4 hb3 b3 hb4
    go_wp2
    go_loopw [8, 9] (fun sv t wr => ∃ (i : Nat) (T : List UInt8), i ≤ a.length ∧ t = .int .i64 (i : Int) ∧ sv = .string (str T) ∧ Hid (Lx.join a = T ++ Lx.joinR (decide (i = 0)) (a.drop i)) ∧ Hid (TStay (fun _ => False) w4 wr) ∧ Below w.heap.size w wr) (fun _ t _ => a.length - (intOf t).toNat)
    case atStart => exact ⟨0, [], Nat.zero_le _, rfl, rfl, by rw [Lx.join_eq]; rfl, TStay.refl _ _, b4⟩
    case round =>
      obtain ⟨i, T, hi, rfl, rfl, HJ, HC, bw⟩ := hrel
      have hTl : T.length ≤ 1200 := by
        have := congrArg List.length HJ.out
        rw [List.length_append] at this; omega
      by_cases hlt : i < a.length
      · have d1 : decide ((i : Int) < (a.length : Int)) = true := decide_eq_true (by omega)
        have d2 : decide (i < a.length) = true := decide_eq_true hlt
        obtain ⟨t, ht⟩ : ∃ t, a[i]? = some t := ⟨_, List.getElem?_eq_getElem hlt⟩
        have HOr := Lib.hid (ownsRow_stay HO.out HC.out (fun _ _ h => h))
        obtain ⟨hcK, hcP, hcT⟩ := tok_cell HOr.out ht
        obtain ⟨_, hp1, hp2⟩ := Lx.stand_at l a 0 HST.out i t ht
        have HJ1 := Lib.hid (joinR_step a i t ht (decide (i = 0)))
        have hx1 : (str l).extract t.place (t.place + t.text.length) = str t.text := by rw [sub_str, List.drop_take, Nat.add_sub_cancel_left, hp2]
        have e1 : decide ((t.place : Int) < 0) = false := decide_eq_false (by omega)
        have e2 : decide ((l.length : Int) < (t.place : Int) + (t.text.length : Int)) = false := decide_eq_false (by omega)
        have hsl : (str l).size = l.length := rfl
        have hst : (str t.text).size = t.text.length := rfl
        have hsT : (str T).size = T.length := rfl
        have hpl : t.place + t.text.length ≤ l.length := hp1
        have hsT2 : (str T ++ ⟨#[32]⟩).size = T.length + 1 := by rw [show (⟨#[32]⟩ : ByteArray) = str [32] from rfl, str_cat]; simp [str, ByteArray.size]
        have u1 : IntKind.i64.wrap ((t.place : Int) + (t.text.length : Int)) = (t.place : Int) + (t.text.length : Int) := wrapi _ (by omega)
        have u2 : (t.place : Int) ≤ (t.place : Int) + (t.text.length : Int) := by omega
        have u3 : (t.place : Int) + (t.text.length : Int) ≤ (l.length : Int) := by omega
        have u4 : (0 : Int) ≤ (t.place : Int) + (t.text.length : Int) := by omega
        have u5 : (i : Int) < (a.length : Int) := by omega
        have tn : ((t.place : Int) + (t.text.length : Int)).toNat = t.place + t.text.length := by omega
        rcases Nat.eq_zero_or_pos i with hi0 | hi0
        · as_aux_lemma =>
            subst hi0
            simp only [Nat.zero_mul, Nat.zero_add] at hcP hcT
            go_wp2_with fail
            go_quiet (fail)
            go_wp2
            go_roundw
            case rel => 
              refine ⟨1, T ++ t.text, by omega, by go_num, ?_, ?_, ⟨HC.out.os, HC.out.tape, HC.out.output, HC.out.size, HC.out.block⟩, bel_drewN bw nq⟩
              · rw [str_cat]
              · show _ = _
                rw [HJ.out, HJ1.out]
                simp
            case measure => first | (simp [intOf]; done) | (simp [intOf]; omega)
        · as_aux_lemma =>
            obtain ⟨j, hji⟩ : ∃ j, i = j + 1 := ⟨i - 1, by omega⟩
            obtain ⟨u, hu⟩ : ∃ u, a[j]? = some u := ⟨_, List.getElem?_eq_getElem (by omega)⟩
            have hnx := Lx.stand_next l a 0 HST.out j u t hu (by rw [← hji]; exact ht)
            obtain ⟨hdK, hdP, hdT⟩ := tok_cell HOr.out hu
            have hsu : (str u.text).size = u.text.length := rfl
            have e3 : decide ((t.place : Int) < (u.place : Int) + (u.text.length : Int)) = false := decide_eq_false (by omega)
            have e4 : decide ((0 : Int) < (i : Int)) = true := decide_eq_true (by omega)
            have e5 : decide (0 < i) = true := decide_eq_true (by omega)
            have u6 : IntKind.i64.wrap ((i : Int) - 1) = (j : Int) := by rw [show (i : Int) - 1 = (j : Int) by omega]; exact wrapi _ (by omega)
            have u7 : (j : Int) < (a.length : Int) := by omega
            have u8 : IntKind.i64.wrap ((u.place : Int) + (u.text.length : Int)) = (u.place : Int) + (u.text.length : Int) := wrapi _ (by omega)
            have HI := Lib.hid hji
            clear hji
            go_wp2_with fail
            go_quiet (fail)
            go_wp2
            go_roundw
            case rel =>
              refine ⟨i + 1, T ++ [32] ++ t.text, by omega, by go_num, ?_, ?_, ⟨HC.out.os, HC.out.tape, HC.out.output, HC.out.size, HC.out.block⟩, bel_drewN bw nq⟩
              · rw [show (⟨#[32]⟩ : ByteArray) = str [32] from rfl, str_cat, str_cat]
              · show _ = _
                rw [HJ.out, HJ1.out, decide_eq_false (show ¬ i = 0 by omega)]
                simp
            case measure => first | (simp [intOf]; done) | (simp [intOf]; omega)
      · as_aux_lemma =>
          obtain rfl : i = a.length := by omega
          have HT := Lib.hid (show Lx.join a = T by rw [HJ.out, List.drop_length]; simp [Lx.joinR])
          have d1 : decide ((a.length : Int) < (a.length : Int)) = false := decide_eq_false (by omega)
          have hsT : (str T).size = T.length := rfl
          by_cases h6 : 600 < T.length
          · have e1 : decide ((600 : Int) < (T.length : Int)) = true := decide_eq_true (by omega)
            have e2 : decide (600 < T.length) = true := decide_eq_true h6
            go_wp2
            go_ret
            exact ⟨rfl, bw⟩
          · have e1 : decide ((600 : Int) < (T.length : Int)) = false := decide_eq_false (by omega)
            have e2 : decide (600 < T.length) = false := decide_eq_false h6
            obtain ⟨bt, hbt, hal⟩ := HBK.out
            rw [HT.out] at hbt
            have HBT := Lib.hid hbt
            obtain ⟨hlen, hat⟩ := alike_at hal
            have HAT := Lib.hid hat
            clear hbt hal hat
            have HOw := Lib.hid (ownsRow_stay HO.out HC.out (fun _ _ h => h))
            go_wp2_with fail
            refine (lex_any wr T (by omega)).mono ?_
            rw [HBT.out]
            rintro e w6 ⟨hb6, v6, rfl, how6⟩
            obtain ⟨av6, c6, rfl, _⟩ := ownsRow_slice how6
            obtain ⟨g6, rfl, _, _⟩ := own_head how6 (by omega)
            have b6 : Below w.heap.size w w6 := bw.trans (hb6.mono bw.size)
            have HO6 := Lib.hid (show w6.ownsRow w2.heap.size 48 3 (.slice (some ⟨g, 0, none⟩) a.length cv) a.length (tv a) from ownsRow_stay HOw.out (TStay.of_below hb6 (fun _ => False)) (fun _ _ h => h))
            have HP6 := Lib.hid how6
            have dl : ((a.length : Int) == (bt.length : Int)) = true := by simp [hlen]
            clear how6 hb6 bw
            go_wp2
            go_loopw [12] (fun t wr => ∃ i : Nat, i ≤ a.length ∧ t = .int .i64 (i : Int) ∧ Hid (TStay (fun _ => False) w6 wr) ∧ Below w.heap.size w wr) (fun t _ => a.length - (intOf t).toNat)
            case atStart => exact ⟨0, Nat.zero_le _, rfl, TStay.refl _ _, b6⟩
            case round =>
              obtain ⟨i, hi, rfl, HC6, bw6⟩ := hrel
              by_cases hlt : i < a.length
              · have d1 : decide ((i : Int) < (a.length : Int)) = true := decide_eq_true (by omega)
                have d2 : decide (i < a.length) = true := decide_eq_true hlt
                obtain ⟨t, ht⟩ : ∃ t, a[i]? = some t := ⟨_, List.getElem?_eq_getElem hlt⟩
                obtain ⟨u, hu⟩ : ∃ u, bt[i]? = some u := ⟨_, List.getElem?_eq_getElem (by omega)⟩
                obtain ⟨hkk, htt⟩ := HAT.out i t u ht hu
                have HOa := Lib.hid (ownsRow_stay HO6.out HC6.out (fun _ _ h => h))
                have HOb := Lib.hid (ownsRow_stay HP6.out HC6.out (fun _ _ h => h))
                obtain ⟨hcK, hcP, hcT⟩ := tok_cell HOa.out ht
                obtain ⟨hdK, hdP, hdT⟩ := tok_cell HOb.out hu
                rw [← hkk] at hdK
                rw [← htt] at hdT
                have q1 : (i : Int) < (a.length : Int) := by omega
                have q2 : (i : Int) < (bt.length : Int) := by omega
                clear hkk htt hcP hdP
                go_wp2_with fail
                go_quiet (fail)
                go_wp2
                go_roundw
                case rel => exact ⟨i + 1, by omega, by go_num, ⟨HC6.out.os, HC6.out.tape, HC6.out.output, HC6.out.size, HC6.out.block⟩, bel_drewN bw6 nq⟩
                case measure => first | (simp [intOf]; done) | (simp [intOf]; omega)
              · obtain rfl : i = a.length := by omega
                have d1 : decide ((a.length : Int) < (a.length : Int)) = false := decide_eq_false (by omega)
                go_wp2
                go_ret
                exact ⟨rfl, bw6⟩
end Go.Proofs.Ytcbddbclgepcmaa
