/- The reference's put, turn, Now. -/
import Derived.Test.YtkalpkmnelgieaaGreatDoorRfFile
import Derived.Deep.DeepFit
namespace Go.Proofs.YtkalpkmnelgieaaGreatDoor
open Go.RowKit Go.Tap Go.Maps
set_option linter.unusedVariables false
attribute [local go_sem ↓] Go.wp_at_zero Go.wp_at_succ

theorem less_is : ∀ (x y : List UInt8), Op.bytesLess x y = decide (x < y)
  | [], [] => by simp [Op.bytesLess]
  | _ :: _, [] => by simp [Op.bytesLess]
  | [], _ :: _ => by simp [Op.bytesLess]
  | a :: x, b :: y => by
    rw [Op.bytesLess, less_is x y]
    simp only [List.cons_lt_cons_iff]
    by_cases h1 : a < b <;> by_cases h2 : a = b <;> by_cases h3 : x < y <;> simp [h1, h2, h3]
namespace Ref
open Dsk
theorem lowTo_lt : ∀ {l : Files} {s : Name} {i : Nat} {x : Name × List UInt8}, i < lowTo l s → l[i]? = some x → x.1 < s
  | [], s, i, x, hi, hx => by simp at hx
  | p :: r, s, i, x, hi, hx => by
    unfold lowTo at hi
    rw [List.takeWhile_cons] at hi
    split at hi
    · rename_i hp
      cases i with
      | zero => simp at hx; subst hx; simpa using hp
      | succ i => exact lowTo_lt (l := r) (by unfold lowTo; simpa using hi) (by simpa using hx)
    · simp at hi
theorem lowTo_at : ∀ {l : Files} {s : Name} {x : Name × List UInt8}, l[lowTo l s]? = some x → ¬ x.1 < s
  | [], s, x, hx => by simp at hx
  | p :: r, s, x, hx => by
    unfold lowTo at hx
    rw [List.takeWhile_cons] at hx
    split at hx
    · rename_i hp
      exact lowTo_at (l := r) (s := s) (x := x) (by unfold lowTo; simpa using hx)
    · rename_i hp
      simp at hx; subst hx
      simpa using hp
end Ref
theorem bel_drewN' {B : Nat} {a w : World} (h : Below B a w) (n : Nat) : Below B a (w.drewN n) := h.trans ⟨rfl, rfl, rfl, Nat.le_refl _, fun _ _ => rfl⟩
theorem bel_drew3 {B : Nat} {a w : World} (h : Below B a w) : Below B a w.drew := h.trans ⟨rfl, rfl, rfl, Nat.le_refl _, fun _ _ => rfl⟩
theorem Keeps.below {w w' : World} {a : Option Addr} {n c : Nat} {b : List UInt8} (h : Keeps w a n c b) (hb : Below w.heap.size w w') : Keeps w' a n c b := h.stay (KeepU.below hb (Nat.le_refl _))
theorem src_new2 (w : World) (u v : Value) (t : TypeId) : Src (w.alloc (.cells #[u, v] t)) (some ⟨w.heap.size, 0, none⟩) 1 2 [u, v] := by
  refine ⟨rfl, fun _ => ⟨w.heap.size, 0, rfl, fun j x hx => ?_⟩⟩
  have hT := heap_alloc_new w (.cells #[u, v] t)
  match j, hx with
  | 0, hx => simp at hx; subst hx; exact blk_cell (i := 0) hT rfl
  | 1, hx => simp at hx; subst hx; exact blk_cell (i := 1) hT rfl
  | j + 2, hx => simp at hx
set_option maxHeartbeats 8000000 in
set_option maxRecDepth 100000 in
theorem rput_any (w : World) (v : Value) (l : Dsk.Files) (h : FRow w v l) (s : Dsk.Name) (a : Option Addr) (n c : Nat) (b : List UInt8) (hk : Keeps w a n c b) (hn : l.length ≤ 1000000) :
    Calls Tryz.prog 85 #[v, .agg #[.string (str s), .slice a n c]] w (RowAft w (Ref.put l s b)) := by
  obtain ⟨i0, hi, hz0, hz1, hz2⟩ := info_parts infoFile
  obtain rfl := hk.len
  obtain ⟨W1, hW1⟩ : ∃ W1, W1 = w.alloc (.cells #[.string (str s), .slice a b.length c] 178) := ⟨_, rfl⟩
  have hT1 : W1.heap[w.heap.size]? = some (.cells #[.string (str s), .slice a b.length c] 178 (0, 0)) := by rw [hW1]; exact heap_alloc_new _ _
  have hB1 : Below w.heap.size w W1 := by rw [hW1]; exact (Below.refl _ _).alloc (Nat.le_refl _) _
  have hs1 : W1.heap.size = w.heap.size + 1 := by rw [hW1]; simp
  have hdr := drop_any W1 v l (h.below hB1) s hn
  have c0 : W1.cell? ⟨w.heap.size, 0, none⟩ = some (.string (str s)) := blk_cell (i := 0) hT1 rfl
  have hL : (Dsk.del l s).length ≤ 1000000 := by have := Dsk.len_del l s; omega
  have HT1 := Lib.hid hT1
  have HB1 := Lib.hid hB1
  have HS1 := Lib.hid hs1
  have HK := Lib.hid (hk.below hB1)
  clear h hk hT1 hB1 hs1 hn
  obtain ⟨L, hLe⟩ : ∃ L, L = Dsk.del l s := ⟨_, rfl⟩
  rw [← hLe] at hdr hL
  have hput : Ref.put l s b = L.take (Ref.lowTo L s) ++ [(s, b)] ++ L.drop (Ref.lowTo L s) := by rw [hLe, List.append_assoc]; rfl
  rw [hput]
  clear hput hLe
  obtain ⟨K, hKe⟩ : ∃ K, K = Ref.lowTo L s := ⟨_, rfl⟩
  have hKl : K ≤ L.length := by rw [hKe]; exact Ref.lowTo_le _ _
  have hKlt : ∀ (i : Nat) (x : Dsk.Name × List UInt8), i < K → L[i]? = some x → Op.bytesLess (str x.1).toList (str s).toList = true := fun i x h1 h2 => by
    rw [str_toList, str_toList, less_is]; exact decide_eq_true (Ref.lowTo_lt (by rw [← hKe]; exact h1) h2)
  have hKat : ∀ x : Dsk.Name × List UInt8, L[K]? = some x → Op.bytesLess (str x.1).toList (str s).toList = false := fun x h2 => by
    rw [str_toList, str_toList, less_is]; exact decide_eq_false (Ref.lowTo_at (by rw [← hKe]; exact h2))
  rw [← hKe]
  have HLT := Lib.hid hKlt
  have HAT := Lib.hid hKat
  clear hKe hKlt hKat
  go_enter Tryz.func85, Tryz.ntmps85
  go_wp2_with fail
  rw [← hW1]
  clear hW1
  refine hdr.mono ?_
  clear hdr
  rintro e w1 ⟨v1, rfl, hf1, hb1⟩
  have hro := hf1.choose_spec.2.2
  obtain ⟨ra, rc, rfl, hrc, _, hrn, hra0⟩ := ownsRow_slice hro
  have HRA := Lib.hid hra0
  clear hro hra0
  have hTb : w.heap.size < W1.heap.size := by rw [HS1.out]; omega
  have HF1 := Lib.hid hf1
  obtain ⟨m, hm⟩ : ∃ m, m = L.length := ⟨_, rfl⟩
  rw [← hm] at hKl hL hrc ⊢
  have HM := Lib.hid hm
  clear hf1 hm c0
  go_wp2_with fail
  go_loopw [5] (fun kv wr => ∃ k : Nat, k ≤ K ∧ kv = .int .i64 (k : Int) ∧ Below w1.heap.size w1 wr) (fun kv _ => m - (intOf kv).toNat)
  case atStart => exact ⟨0, Nat.zero_le _, rfl, Below.refl _ _⟩
  case round =>
    obtain ⟨k, hkK, rfl, hb⟩ := hrel
    have hTr : wr.heap[w.heap.size]? = some (.cells #[.string (str s), .slice a b.length c] 178 (0, 0)) := (hb.block _ (by have := hb1.size; omega)).trans ((hb1.block _ hTb).trans HT1.out)
    have c0 : wr.cell? ⟨w.heap.size, 0, none⟩ = some (.string (str s)) := blk_cell (i := 0) hTr rfl
    have c1 : wr.cell? ⟨w.heap.size, 1, none⟩ = some (.slice a b.length c) := blk_cell (i := 1) hTr rfl
    have hw := wrapi' ((k : Int) + 1) (by omega)
    -- behind the loop
    by_cases hlt : k < K
    · have d0 : decide ((k : Int) < (m : Int)) = true := decide_eq_true (by omega)
      have d0' : decide (k < m) = true := decide_eq_true (by omega)
      have d1 : (k : Int) < (m : Int) := by omega
      have d2 : (0 : Int) ≤ (k : Int) := by omega
      have hx : L[k]? = some (L[k]'(by have := HM.out; omega)) := List.getElem?_eq_getElem _
      generalize L[k]'(by have := HM.out; omega) = x at hx
      obtain ⟨g, cap, a2, c2, hsl, hk2, e0, e1⟩ := (HF1.out.row.below hb).elem hx
      simp only [Value.slice.injEq] at hsl
      obtain ⟨rfl, _, rfl⟩ := hsl
      have q0 := HLT.out k x hlt hx
      clear hk2 hx e1 c1 hTr
      go_wp2_with fail
      go_quiet (fail)
      go_wp2
      go_roundw
      case rel => exact ⟨k + 1, by omega, by go_num, bel_drewN' hb nq⟩
      case measure => simp [intOf]; omega
    · obtain rfl : k = K := by omega
      clear hlt
      obtain ⟨t, q0, q0', q1⟩ : ∃ t : Bool, decide ((k : Int) < (m : Int)) = t ∧ decide (k < m) = t ∧ (t = true → ∃ (g : Nat) (x : Dsk.Name × List UInt8), (k : Int) < (m : Int) ∧ ra = some ⟨g, 0, none⟩ ∧ wr.cell? ⟨g, k * 2, none⟩ = some (.string (str x.1)) ∧ Op.bytesLess (str x.1).toList (str s).toList = false) := by
        by_cases h : k < m
        · refine ⟨true, decide_eq_true (by omega), decide_eq_true h, fun _ => ?_⟩
          have hx : L[k]? = some (L[k]'(by have := HM.out; omega)) := List.getElem?_eq_getElem _
          generalize L[k]'(by have := HM.out; omega) = x at hx
          obtain ⟨g, cap, a2, c2, hsl, hk2, e0, e1⟩ := (HF1.out.row.below hb).elem hx
          simp only [Value.slice.injEq] at hsl
          exact ⟨g, x, by omega, hsl.1, e0, HAT.out x hx⟩
        · exact ⟨false, decide_eq_false (by omega), decide_eq_false h, fun e => by cases e⟩
      have hk0 : (0 : Int) ≤ (k : Int) := by omega
      have hkc : (k : Int) ≤ (rc : Int) := by omega
      have hkm : (k : Int) ≤ (m : Int) := by omega
      have hkm0 : k ≤ m := hKl
      -- what is read of the list
      obtain ⟨ps, hp1, hp2, hp3⟩ := HF1.out
      rw [← show m = L.length from HM.out] at hp3
      have hsrc : ∀ X : World, Below w1.heap.size w1 X → Src X ra m 2 (ps.flatMap Fc.cells) := fun X hX => (Src.of_own hp3).below (by omega) hX (Nat.le_refl _)
      have hkeep : ∀ X : World, Below w1.heap.size w1 X → ∀ p ∈ ps, Keeps X p.a p.b.length p.c p.b := fun X hX p hp => (hp2 p hp).below hX
      have hbox : ∀ X : World, Below w1.heap.size w1 X → X.cell? ⟨w.heap.size, 0, none⟩ = some (.string (str s)) ∧ X.cell? ⟨w.heap.size, 1, none⟩ = some (.slice a b.length c) := fun X hX => by
        have hT := (hX.block _ (by have := hb1.size; omega)).trans ((hb1.block _ hTb).trans HT1.out)
        exact ⟨blk_cell (i := 0) hT rfl, blk_cell (i := 1) hT rfl⟩
      have hnew : ∀ X : World, Below w1.heap.size w1 X → Keeps X a b.length c b := fun X hX => (HK.out.below hb1).below hX
      have hone := Fc.cells_one ps
      have HP1 := Lib.hid hp1
      have HSRC := Lib.hid hsrc
      have HKEEP := Lib.hid hkeep
      have HBOX := Lib.hid hbox
      have HNEW := Lib.hid hnew
      have HONE := Lib.hid hone
      have HBW : Hid (Below w.heap.size w w1) := Lib.hid (HB1.out.trans (hb1.mono HB1.out.size))
      clear hp1 hp2 hp3 hsrc hkeep hbox hnew hone c1 hTr hb1 HF1
      cases t
      all_goals
        (try obtain ⟨g, x, q2, rfl, q3, q4⟩ := q1 rfl)
        clear q1
        go_wp2_with fail
        go_quiet (fail)
        obtain ⟨X, hX⟩ : ∃ X, X = wr.drewN nq := ⟨_, rfl⟩
        rw [← hX]
        have hbX : Below w1.heap.size w1 X := by rw [hX]; exact bel_drewN' hb nq
        have bwX : Below w.heap.size w X := HBW.out.trans (hbX.mono HBW.out.size)
        have hbr : Below w1.heap.size w1 wr := hb
        try clear q3
        clear hX c0 hb hbr
        -- the beginning
        have hap1 : Src (X.alloc (.cells #[] 178)) _ k 2 ((ps.flatMap Fc.cells).take (k * 2)) := ((HSRC.out X hbX).take (by omega)).alloc (by omega) _
        have hot : ∀ u ∈ (ps.flatMap Fc.cells).take (k * 2), u.oneCell' = true := fun u hu => HONE.out u (List.mem_of_mem_take hu)
        have HAP1 := Lib.hid hap1
        have HOT := Lib.hid hot
        have HRN := Lib.hid hrn
        have HX := Lib.hid hbX
        have hsX := bwX.size
        clear hap1 hot hrn hbX
        go_wp2_with (at_builtin; go_must (refine wpList_append_src _ rfl (.tmp 27) (.tmp 30) 87 rfl X.heap.size 178 i0 _ 2 40 Tryz.underlying87 hi hz0 hz1 hz2 rfl (by omega) _ 0 [] rfl (World.ownsRow_made X #[] 0 (Nat.le_refl _) (Nat.zero_le _) rfl) _ k rc rfl HRN.out _ HAP1.out HOT.out (by omega) (by omega) (by first | (simp; done) | (simp; omega)) ?_))
        intro a3 c3 w3 hown3 hg3
        have hX3 : Below w1.heap.size w1 w3 := (HX.out.alloc HX.out.size _).grown hg3 (by have := HX.out.size; simp; omega) (fun j hj => by
          have : j = X.heap.size := by simpa [Value.ownBlock] using hj.symm
          have := HX.out.size
          omega)
        obtain ⟨q0, q1⟩ := HBOX.out w3 hX3
        obtain ⟨A3, hA3⟩ : ∃ A3, A3 = w3.alloc (.cells #[.string (str s), .slice a b.length c] 178) := ⟨_, rfl⟩
        have hsrc3 : Src A3 (some ⟨w3.heap.size, 0, none⟩) 1 2 [.string (str s), .slice a b.length c] := by rw [hA3]; exact src_new2 _ _ _ _
        have hownA : A3.ownsRow X.heap.size 178 2 (.slice a3 k c3) k ((ps.flatMap Fc.cells).take (k * 2)) := by rw [hA3]; exact hown3.alloc _
        have hXA : Below w1.heap.size w1 A3 := by rw [hA3]; exact hX3.alloc hX3.size _
        have hxA : X.heap.size ≤ A3.heap.size := by have := hg3.size; rw [hA3]; simp at this ⊢; omega
        have HSRC3 := Lib.hid hsrc3
        have HOA := Lib.hid hownA
        have HXA := Lib.hid hXA
        have HA3 := Lib.hid hA3
        have hw1X := HX.out.size
        have hk1 : (k + 1) * 40 ≤ 140737488355328 := by omega
        clear hown3 hg3 hX3 hA3 hsrc3 hownA hXA HAP1 HOT
        go_wp2_with (at_builtin; rw [← HA3.out]; go_must (refine wpList_append_src _ rfl (.tmp 32) (.tmp 34) 87 rfl X.heap.size 178 i0 _ 2 40 Tryz.underlying87 hi hz0 hz1 hz2 rfl (by omega) _ k _ rfl HOA.out _ 1 1 rfl (by intro h; cases h) _ HSRC3.out (by intro u hu; simp only [List.mem_cons, List.not_mem_nil, or_false] at hu; rcases hu with rfl | rfl <;> rfl) (by omega) hk1 hxA ?_))
        intro a4 c4 w4 hown4 hg4
        have hX4 : Below w1.heap.size w1 w4 := HXA.out.grown hg4 HXA.out.size (fun j hj => by have := (HOA.out.lt j hj).1; omega)
        have hXs4 : X.heap.size ≤ w4.heap.size := by have := hg4.size; omega
        have hsr := HSRC.out w4 hX4
        have hfinal : ∀ (v : Value) (w5 : World), w5.ownsRow X.heap.size 178 2 v (k + 1 + (m - k)) ((ps.flatMap Fc.cells).take (k * 2) ++ [.string (str s), .slice a b.length c] ++ (ps.flatMap Fc.cells).drop (k * 2)) → w4.grownBy w5 (Value.slice a4 (k + 1) c4).ownBlock →
            RowAft w (L.take k ++ [(s, b)] ++ L.drop k) (.returned v) w5 := fun v w5 ho hg => by
          have hlo4 : ∀ j, (Value.slice a4 (k + 1) c4).ownBlock = some j → w1.heap.size ≤ j := fun j hj => by have := (hown4.lt j hj).1; omega
          have hX5 : Below w1.heap.size w1 w5 := hX4.grown hg hX4.size hlo4
          refine ⟨v, rfl, ⟨ps.take k ++ [⟨s, a, c, b⟩] ++ ps.drop k, ?_, ?_, ?_⟩, HBW.out.trans (hX5.mono HBW.out.size)⟩
          · rw [List.map_append, List.map_append, List.map_take, List.map_drop, HP1.out]; rfl
          · intro p hp
            rcases List.mem_append.1 hp with hp | hp
            · rcases List.mem_append.1 hp with hp | hp
              · exact HKEEP.out w5 hX5 p (List.mem_of_mem_take hp)
              · rw [List.mem_singleton.1 hp]; exact HNEW.out w5 hX5
            · exact HKEEP.out w5 hX5 p (List.mem_of_mem_drop hp)
          · have e1 : (L.take k ++ [(s, b)] ++ L.drop k).length = k + 1 + (m - k) := by
              have := HM.out
              rw [List.length_append, List.length_append, List.length_take, List.length_drop]; simp; omega
            have e2 : (ps.take k ++ [⟨s, a, c, b⟩] ++ ps.drop k : List Fc).flatMap Fc.cells = (ps.flatMap Fc.cells).take (k * 2) ++ [.string (str s), .slice a b.length c] ++ (ps.flatMap Fc.cells).drop (k * 2) := by
              rw [List.flatMap_append, List.flatMap_append, flatK_take Fc.cells 2 Fc.cells_length, flatK_drop Fc.cells 2 Fc.cells_length]; simp [Fc.cells]
            rw [e1, e2]
            exact ownsRow_base ho hsX
        have HFN := Lib.hid hfinal
        have HO4 := Lib.hid hown4
        have HSR := Lib.hid (hsr.drop hkm0)
        have hk2 : (k + 1 + (m - k)) * 40 ≤ 140737488355328 := by omega
        have hot2 : ∀ u ∈ (ps.flatMap Fc.cells).drop (k * 2), u.oneCell' = true := fun u hu => HONE.out u (List.mem_of_mem_drop hu)
        have HOT2 := Lib.hid hot2
        clear hfinal hown4 hg4 hsr hot2 hX4 q0 q1 HSRC3 HOA HXA HA3
        have hHR := HSR.out
        by_cases hck : rc = k
        · obtain rfl : k = rc := hck.symm
          have hmk : m - k = 0 := by omega
          have hdr0 : (ps.flatMap Fc.cells).drop (k * 2) = [] := List.eq_nil_of_length_eq_zero (by have := hHR.1; rw [hmk] at this; simpa using this)
          have hs0 : ∀ ad : Option Addr, Src w4 ad 0 2 ((ps.flatMap Fc.cells).drop (k * 2)) := fun ad => by rw [hdr0]; exact Src.nil _ _ _
          have hfn0 : ∀ (v : Value) (w5 : World), w5.ownsRow X.heap.size 178 2 v (k + 1 + 0) ((ps.flatMap Fc.cells).take (k * 2) ++ [.string (str s), .slice a b.length c] ++ (ps.flatMap Fc.cells).drop (k * 2)) → w4.grownBy w5 (Value.slice a4 (k + 1) c4).ownBlock → RowAft w (L.take k ++ [(s, b)] ++ L.drop k) (.returned v) w5 := fun v w5 h1 h2 => HFN.out v w5 (by rw [hmk]; exact h1) h2
          have HS0 := Lib.hid hs0
          have HFN0 := Lib.hid hfn0
          have hk9 : (k + 1 + 0) * 40 ≤ 140737488355328 := by omega
          clear hHR hdr0 hs0 hfn0 hmk
          (first | cases ra | skip)
          all_goals
            go_wp2_with (at_builtin; go_must (refine wpList_append_src _ rfl (.tmp 36) (.tmp 39) 87 rfl X.heap.size 178 i0 _ 2 40 Tryz.underlying87 hi hz0 hz1 hz2 rfl (by omega) _ (k + 1) _ rfl HO4.out _ 0 _ rfl (by first | (intro h; cases h; done) | (intro _; rfl)) _ (HS0.out _) HOT2.out (by omega) hk9 hXs4 ?_))
            intro a5 c5 w5 hown5 hg5
            have HF5 := Lib.hid (HFN0.out _ w5 (by simpa using hown5) hg5)
            clear hown5 hg5
            go_wp2
            go_ret
            simpa using HF5.out
        · (first
            | obtain ⟨g, rfl⟩ : ∃ g, ra = some ⟨g, 0, none⟩ := by
                cases ra with
                | none => exact absurd (HRN.out rfl) (by omega)
                | some ad => exact ⟨ad.block, by have := HRA.out ad.block rfl; exact this⟩
            | skip)
          have hck' : (k == rc) = false := by simp; omega
          have hsr' : Src w4 (some ⟨g, k * 2, none⟩) (m - k) 2 ((ps.flatMap Fc.cells).drop (k * 2)) := by simpa [Addr.add_lit] using hHR
          have HS9 := Lib.hid hsr'
          clear hHR hsr'
          go_wp2_with (at_builtin; go_must (refine wpList_append_src _ rfl (.tmp 36) (.tmp 39) 87 rfl X.heap.size 178 i0 _ 2 40 Tryz.underlying87 hi hz0 hz1 hz2 rfl (by omega) _ (k + 1) _ rfl HO4.out _ (m - k) _ rfl (by intro h; cases h) _ HS9.out HOT2.out (by omega) hk2 hXs4 ?_))
          intro a5 c5 w5 hown5 hg5
          have HF5 := Lib.hid (HFN.out _ w5 (by simpa using hown5) hg5)
          clear hown5 hg5
          go_wp2
          go_ret
          simpa using HF5.out
end Go.Proofs.YtkalpkmnelgieaaGreatDoor
