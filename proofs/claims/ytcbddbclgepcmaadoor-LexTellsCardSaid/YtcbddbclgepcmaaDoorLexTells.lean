/- LexTells: what it comes to. -/
import Derived.Test.YtcbddbclgepcmaaDoorKindPl
import Derived.Test.YtcbddbclgepcmaaDoorLexKn
import Derived.Test.YtcbddbclgepcmaaDoorRefLex
import Derived.Test.YtcbddbclgepcmaaDoorBent
namespace Go.Proofs.YtcbddbclgepcmaaDoor
open Go.RowKit Go.Tap
set_option linter.unusedVariables false

theorem argI_below {N : Nat} {w w' : World} {a : Option Addr} {n c : Nat} {zs : List Int} (g : ArgI N w a n c zs) (hb : Below w.heap.size w w') : ArgI N w' a n c zs := by
  refine ⟨g.len, fun h0 => ?_, g.le, g.none, g.cap, g.reach⟩
  obtain ⟨b, o, e, hx⟩ := g.at_ h0
  exact ⟨b, o, e, fun i x hi => ⟨(hb.cell (block_lt_of_cell (hx i x hi).1)).trans (hx i x hi).1, (hx i x hi).2⟩⟩
theorem tok_cellR {w : World} {base n g cap : Nat} {a : List Lx.Tok} (h : w.ownsRow base 50 3 (.slice (some ⟨g, 0, none⟩) n cap) n (tv a)) {i : Nat} {t : Lx.Tok} (hi : a[i]? = some t) :
    w.cell? ⟨g, i * 3, none⟩ = some (.int .i64 (t.kind : Int)) ∧ w.cell? ⟨g, i * 3 + 1, none⟩ = some (.int .i64 (t.place : Int)) ∧ w.cell? ⟨g, i * 3 + 2, none⟩ = some (.string (str t.text)) := by
  have h0 := h.cells (g := g) rfl (i * 3) _ (by rw [show i * 3 = i * 3 + 0 from rfl, tv_get a i 0 t hi (by omega)]; rfl)
  have h1 := h.cells (g := g) rfl (i * 3 + 1) _ (by rw [tv_get a i 1 t hi (by omega)]; rfl)
  have h2 := h.cells (g := g) rfl (i * 3 + 2) _ (by rw [tv_get a i 2 t hi (by omega)]; rfl)
  rw [Addr.add_lit, Nat.zero_add] at h0 h1 h2
  exact ⟨h0, h1, h2⟩
set_option maxHeartbeats 4000000 in
set_option maxRecDepth 100000 in
theorem lexTells_walk (w : World) (hg : EType w) (s0 : Option Addr) (n0 c0 : Nat) (l0 : List Int) (g0 : ArgI 140737488351232 w s0 n0 c0 l0) (a1 : ByteArray) (b1 : a1.size ≤ 140737488351232) (a2 : Bool) (s3 : Option Addr) (n3 c3 : Nat) (l3 : List Int) (g3 : ArgI 140737488351232 w s3 n3 c3 l3) :
    Calls Tryd.prog 5 #[.slice s0 n0 c0, .string a1, .bool a2, .slice s3 n3 c3] w fun e w' => e = .returned (.bool true) ∧ Below w.heap.size w w' := by
  cases a2 with
  | true =>
    go_enter Tryd.func5, Tryd.ntmps5
    go_wp2_with fail
    refine (text_any w s0 n0 c0 l0 g0).mono ?_
    rintro e w1 ⟨⟨s1, hs1, rfl⟩, hb1⟩
    go_wp2_with fail
    refine (bent_any w1 s1 hs1 s3 n3 c3 l3 (argI_below g3 hb1)).mono ?_
    rintro e w2 ⟨⟨sb, hs2, rfl⟩, hb2⟩
    have b2 : Below w.heap.size w w2 := hb1.trans (hb2.mono hb1.size)
    clear g0 g3 hb1 hb2 hs1 hs2
    obtain ⟨s2, rfl⟩ : ∃ s2, s2 = a1 := ⟨_, rfl⟩
    obtain ⟨l, rfl⟩ := str_of s2
    by_cases hl : 600 < l.length
    · as_aux_lemma =>
        go_wp2_with fail
        refine (lex_long w2 l hl).mono ?_
        rintro e w' ⟨rfl, rfl⟩
        go_wp2_with fail
        refine (ref_long _ l hl).mono ?_
        rintro e w' ⟨rfl, rfl⟩
        go_wp2_with fail
        refine (known17 _).mono ?_
        rintro e w5 ⟨rfl, hb5⟩
        have b5 := b2.trans (hb5.mono b2.size)
        clear b2 hb5
        go_wp2_with fail
        refine (kind_errno w5 5 (hg.keep b5)).mono ?_
        rintro e w6 ⟨rfl, hb6⟩
        have b6 := b5.trans (hb6.mono b5.size)
        clear b5 hb6
        go_wp2
        go_loopw [15] (fun t wr => t = .int .i64 0 ∧ wr = w6) (fun _ _ => 0)
        case atStart => exact ⟨rfl, rfl⟩
        case round =>
          obtain ⟨rfl, rfl⟩ := hrel
          go_wp2
          go_ret
          exact ⟨rfl, b6⟩
    · have hl6 : l.length ≤ 600 := by omega
      cases hlex : Lx.lex l with
      | error p =>
        as_aux_lemma =>
          go_wp2_with fail
          refine (lex_strong w2 l hl6).mono ?_
          rw [hlex]
          rintro e w3 ⟨hb3, pb, rfl, hpb⟩
          have b3 := b2.trans (hb3.mono b2.size)
          have P3 : IsPl w3 pb (p : Int) 15 := ⟨blk_cell hpb rfl, blk_cell hpb rfl⟩
          clear b2 hb3 hpb
          go_wp2_with fail
          refine (ref_any w3 l hl6).mono ?_
          rw [hlex]
          rintro e w4 ⟨hb4, rfl⟩
          have b4 := b3.trans (hb4.mono b3.size)
          have P4 := P3.keep hb4
          clear b3 hb4 P3 hlex
          go_wp2_with fail
          refine (known17 _).mono ?_
          rintro e w5 ⟨rfl, hb5⟩
          have b5 := b4.trans (hb5.mono b4.size)
          have P5 := P4.keep hb5
          clear b4 hb5 P4
          go_wp2_with fail
          refine (kind_place w5 pb (p : Int) 15 P5 (hg.keep b5)).mono ?_
          rintro e w6 ⟨rfl, hb6⟩
          have b6 := b5.trans (hb6.mono b5.size)
          have P6 := P5.keep hb6
          clear b5 hb6 P5
          go_wp2_with fail
          refine (at_place w6 pb (p : Int) 15 P6 (hg.keep b6)).mono ?_
          rintro e w7 ⟨rfl, hb7⟩
          have b7 := b6.trans (hb7.mono b6.size)
          clear b6 hb7 P6
          go_wp2
          go_loopw [15] (fun t wr => t = .int .i64 0 ∧ wr = w7) (fun _ _ => 0)
          case atStart => exact ⟨rfl, rfl⟩
          case round =>
            obtain ⟨rfl, rfl⟩ := hrel
            go_wp2
            go_ret
            exact ⟨rfl, b7⟩
      | ok a =>
        as_aux_lemma =>
          go_wp2_with fail
          refine (lex_strong w2 l hl6).mono ?_
          rw [hlex]
          rintro e w3 ⟨hb3, va, rfl, ha⟩
          have b3 := b2.trans (hb3.mono b2.size)
          clear b2 hb3
          obtain ⟨xa, ca, rfl, _⟩ := ownsRow_slice ha
          have hm0 : 0 < a.length := List.length_pos_iff.2 (Lx.lexF_ne l.length l 0 a hlex)
          obtain ⟨ga, rfl, _, _⟩ := own_head ha hm0
          have hal : a.length ≤ 601 := by have := (Lx.join_len l.length l 0 a hlex (Nat.le_refl _)).2; omega
          go_wp2_with fail
          refine (ref_any w3 l hl6).mono ?_
          rw [hlex]
          rintro e w4 ⟨hb4, vb, rfl, hbr⟩
          have b4 := b3.trans (hb4.mono b3.size)
          have ha4 := ownsRow_stay ha (TStay.of_below hb4 (fun _ => False)) (fun _ _ h => h)
          obtain ⟨xb, cb, rfl, _⟩ := ownsRow_slice hbr
          obtain ⟨gb, rfl, _, _⟩ := own_head hbr hm0
          clear b3 hb4 ha hlex
          go_wp2_with fail
          refine (known17 _).mono ?_
          rintro e w5 ⟨rfl, hb5⟩
          have b5 := b4.trans (hb5.mono b4.size)
          have HA := Lib.hid (ownsRow_stay ha4 (TStay.of_below hb5 (fun _ => False)) (fun _ _ h => h))
          have HBr := Lib.hid (ownsRow_stay hbr (TStay.of_below hb5 (fun _ => False)) (fun _ _ h => h))
          clear b4 hb5 ha4 hbr
          go_wp2_with fail
          refine (kind_nil _).mono ?_
          rintro e w' ⟨rfl, rfl⟩
          go_wp2
          go_loopw [15] (fun t wr => ∃ i : Nat, i ≤ a.length ∧ t = .int .i64 (i : Int) ∧ Hid (TStay (fun _ => False) w' wr) ∧ Below w.heap.size w wr) (fun t _ => a.length - (intOf t).toNat)
          case atStart => exact ⟨0, Nat.zero_le _, rfl, TStay.refl _ _, b5⟩
          case round =>
            obtain ⟨i, hi, rfl, HC6, bw6⟩ := hrel
            by_cases hlt : i < a.length
            · have d1 : decide ((i : Int) < (a.length : Int)) = true := decide_eq_true (by omega)
              have d2 : decide (i < a.length) = true := decide_eq_true hlt
              obtain ⟨t, ht⟩ : ∃ t, a[i]? = some t := ⟨_, List.getElem?_eq_getElem hlt⟩
              have HOa := Lib.hid (ownsRow_stay HA.out HC6.out (fun _ _ h => h))
              have HOb := Lib.hid (ownsRow_stay HBr.out HC6.out (fun _ _ h => h))
              obtain ⟨hcK, hcP, hcT⟩ := tok_cell HOa.out ht
              obtain ⟨hdK, hdP, hdT⟩ := tok_cellR HOb.out ht
              have q1 : (i : Int) < (a.length : Int) := by omega
              clear ht
              go_wp2_with fail
              go_quiet (fail)
              go_wp2
              go_roundw
              case rel => exact ⟨i + 1, by omega, by go_num, ⟨HC6.out.os, HC6.out.tape, HC6.out.output, HC6.out.size, HC6.out.block⟩, bel_drewN bw6 nq⟩
              case measure => first | (simp [intOf]; done) | (simp [intOf]; omega)
            · obtain rfl : i = a.length := by omega
              have d1 : decide ((a.length : Int) < (a.length : Int)) = false := decide_eq_false (by omega)
              go_wp2
              go_ret
              exact ⟨rfl, bw6⟩
  | false =>
    go_enter Tryd.func5, Tryd.ntmps5
    go_wp2_with fail
    refine (text_any w s0 n0 c0 l0 g0).mono ?_
    rintro e w1 ⟨⟨s1, hs1, rfl⟩, hb1⟩
    go_wp2_with fail
    refine (bent_any w1 s1 hs1 s3 n3 c3 l3 (argI_below g3 hb1)).mono ?_
    rintro e w2 ⟨⟨s2, hs2, rfl⟩, hb2⟩
    have b2 : Below w.heap.size w w2 := hb1.trans (hb2.mono hb1.size)
    clear g0 g3 hb1 hb2 hs1 hs2
    obtain ⟨l, rfl⟩ := str_of s2
    by_cases hl : 600 < l.length
    · as_aux_lemma =>
        go_wp2_with fail
        refine (lex_long w2 l hl).mono ?_
        rintro e w' ⟨rfl, rfl⟩
        go_wp2_with fail
        refine (ref_long _ l hl).mono ?_
        rintro e w' ⟨rfl, rfl⟩
        go_wp2_with fail
        refine (known17 _).mono ?_
        rintro e w5 ⟨rfl, hb5⟩
        have b5 := b2.trans (hb5.mono b2.size)
        clear b2 hb5
        go_wp2_with fail
        refine (kind_errno w5 5 (hg.keep b5)).mono ?_
        rintro e w6 ⟨rfl, hb6⟩
        have b6 := b5.trans (hb6.mono b5.size)
        clear b5 hb6
        go_wp2
        go_loopw [15] (fun t wr => t = .int .i64 0 ∧ wr = w6) (fun _ _ => 0)
        case atStart => exact ⟨rfl, rfl⟩
        case round =>
          obtain ⟨rfl, rfl⟩ := hrel
          go_wp2
          go_ret
          exact ⟨rfl, b6⟩
    · have hl6 : l.length ≤ 600 := by omega
      cases hlex : Lx.lex l with
      | error p =>
        as_aux_lemma =>
          go_wp2_with fail
          refine (lex_strong w2 l hl6).mono ?_
          rw [hlex]
          rintro e w3 ⟨hb3, pb, rfl, hpb⟩
          have b3 := b2.trans (hb3.mono b2.size)
          have P3 : IsPl w3 pb (p : Int) 15 := ⟨blk_cell hpb rfl, blk_cell hpb rfl⟩
          clear b2 hb3 hpb
          go_wp2_with fail
          refine (ref_any w3 l hl6).mono ?_
          rw [hlex]
          rintro e w4 ⟨hb4, rfl⟩
          have b4 := b3.trans (hb4.mono b3.size)
          have P4 := P3.keep hb4
          clear b3 hb4 P3 hlex
          go_wp2_with fail
          refine (known17 _).mono ?_
          rintro e w5 ⟨rfl, hb5⟩
          have b5 := b4.trans (hb5.mono b4.size)
          have P5 := P4.keep hb5
          clear b4 hb5 P4
          go_wp2_with fail
          refine (kind_place w5 pb (p : Int) 15 P5 (hg.keep b5)).mono ?_
          rintro e w6 ⟨rfl, hb6⟩
          have b6 := b5.trans (hb6.mono b5.size)
          have P6 := P5.keep hb6
          clear b5 hb6 P5
          go_wp2_with fail
          refine (at_place w6 pb (p : Int) 15 P6 (hg.keep b6)).mono ?_
          rintro e w7 ⟨rfl, hb7⟩
          have b7 := b6.trans (hb7.mono b6.size)
          clear b6 hb7 P6
          go_wp2
          go_loopw [15] (fun t wr => t = .int .i64 0 ∧ wr = w7) (fun _ _ => 0)
          case atStart => exact ⟨rfl, rfl⟩
          case round =>
            obtain ⟨rfl, rfl⟩ := hrel
            go_wp2
            go_ret
            exact ⟨rfl, b7⟩
      | ok a =>
        as_aux_lemma =>
          go_wp2_with fail
          refine (lex_strong w2 l hl6).mono ?_
          rw [hlex]
          rintro e w3 ⟨hb3, va, rfl, ha⟩
          have b3 := b2.trans (hb3.mono b2.size)
          clear b2 hb3
          obtain ⟨xa, ca, rfl, _⟩ := ownsRow_slice ha
          have hm0 : 0 < a.length := List.length_pos_iff.2 (Lx.lexF_ne l.length l 0 a hlex)
          obtain ⟨ga, rfl, _, _⟩ := own_head ha hm0
          have hal : a.length ≤ 601 := by have := (Lx.join_len l.length l 0 a hlex (Nat.le_refl _)).2; omega
          go_wp2_with fail
          refine (ref_any w3 l hl6).mono ?_
          rw [hlex]
          rintro e w4 ⟨hb4, vb, rfl, hbr⟩
          have b4 := b3.trans (hb4.mono b3.size)
          have ha4 := ownsRow_stay ha (TStay.of_below hb4 (fun _ => False)) (fun _ _ h => h)
          obtain ⟨xb, cb, rfl, _⟩ := ownsRow_slice hbr
          obtain ⟨gb, rfl, _, _⟩ := own_head hbr hm0
          clear b3 hb4 ha hlex
          go_wp2_with fail
          refine (known17 _).mono ?_
          rintro e w5 ⟨rfl, hb5⟩
          have b5 := b4.trans (hb5.mono b4.size)
          have HA := Lib.hid (ownsRow_stay ha4 (TStay.of_below hb5 (fun _ => False)) (fun _ _ h => h))
          have HBr := Lib.hid (ownsRow_stay hbr (TStay.of_below hb5 (fun _ => False)) (fun _ _ h => h))
          clear b4 hb5 ha4 hbr
          go_wp2_with fail
          refine (kind_nil _).mono ?_
          rintro e w' ⟨rfl, rfl⟩
          go_wp2
          go_loopw [15] (fun t wr => ∃ i : Nat, i ≤ a.length ∧ t = .int .i64 (i : Int) ∧ Hid (TStay (fun _ => False) w' wr) ∧ Below w.heap.size w wr) (fun t _ => a.length - (intOf t).toNat)
          case atStart => exact ⟨0, Nat.zero_le _, rfl, TStay.refl _ _, b5⟩
          case round =>
            obtain ⟨i, hi, rfl, HC6, bw6⟩ := hrel
            by_cases hlt : i < a.length
            · have d1 : decide ((i : Int) < (a.length : Int)) = true := decide_eq_true (by omega)
              have d2 : decide (i < a.length) = true := decide_eq_true hlt
              obtain ⟨t, ht⟩ : ∃ t, a[i]? = some t := ⟨_, List.getElem?_eq_getElem hlt⟩
              have HOa := Lib.hid (ownsRow_stay HA.out HC6.out (fun _ _ h => h))
              have HOb := Lib.hid (ownsRow_stay HBr.out HC6.out (fun _ _ h => h))
              obtain ⟨hcK, hcP, hcT⟩ := tok_cell HOa.out ht
              obtain ⟨hdK, hdP, hdT⟩ := tok_cellR HOb.out ht
              have q1 : (i : Int) < (a.length : Int) := by omega
              clear ht
              go_wp2_with fail
              go_quiet (fail)
              go_wp2
              go_roundw
              case rel => exact ⟨i + 1, by omega, by go_num, ⟨HC6.out.os, HC6.out.tape, HC6.out.output, HC6.out.size, HC6.out.block⟩, bel_drewN bw6 nq⟩
              case measure => first | (simp [intOf]; done) | (simp [intOf]; omega)
            · obtain rfl : i = a.length := by omega
              have d1 : decide ((a.length : Int) < (a.length : Int)) = false := decide_eq_false (by omega)
              go_wp2
              go_ret
              exact ⟨rfl, bw6⟩
end Go.Proofs.YtcbddbclgepcmaaDoor
