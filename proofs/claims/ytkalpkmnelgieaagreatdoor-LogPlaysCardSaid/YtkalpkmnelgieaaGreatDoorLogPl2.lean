/- A disk with one file, as a log uses it: said plainly; taprootlaw7's known. -/
import Derived.Test.YtkalpkmnelgieaaGreatDoorLogAdd
import Derived.Test.YtkalpkmnelgieaaGreatDoorDskKn
import Derived.Lib.SmallJoins
namespace Go.Proofs.YtkalpkmnelgieaaGreatDoor
open Go.RowKit Go.Tap Go.Maps
set_option linter.unusedVariables false
namespace Dsk
/-- One file of that name, or none and nothing. -/
def One (fs : Files) (s : Name) (c : List UInt8) : Prop := fs = [(s, c)] ∨ (fs = [] ∧ c = [])
theorem One.val {fs : Files} {s : Name} {c : List UInt8} (h : One fs s c) : Dsk.val fs s = c := by
  rcases h with rfl | ⟨rfl, rfl⟩
  · simp [Dsk.val, Dsk.get]
  · rfl
theorem One.used {fs : Files} {s : Name} {c : List UInt8} (h : One fs s c) : Dsk.used fs = c.length := by
  rcases h with rfl | ⟨rfl, rfl⟩
  · simp [Dsk.used]
  · rfl
theorem One.put {fs : Files} {s : Name} {c : List UInt8} (h : One fs s c) (b : List UInt8) : Dsk.put fs s b = [(s, b)] := by
  rcases h with rfl | ⟨rfl, rfl⟩
  · simp [Dsk.put, Dsk.del]
  · rfl
theorem One.some {fs : Files} {s : Name} {c : List UInt8} (h : One fs s c) (hc : c ≠ []) : (get fs s).isSome = true := by
  rcases h with rfl | ⟨rfl, rfl⟩
  · simp [get]
  · exact absurd rfl hc
structure DsN (d : Dk) (room : Nat) (s : Name) (c : List UInt8) (w : Nat) : Prop where
  room : d.room = room
  dead : d.dead = false
  fuse : d.fuse = -1
  now : One d.now s c
  works : d.works ≤ w
structure DsP (d : Dk) (room : Nat) (s : Name) (c0 : List UInt8) (L : List (List UInt8)) (w : Nat) : Prop where
  n : DsN d room s (c0 ++ L.flatten) w
  done : One d.done s c0
  pend : d.pend = pends s L
theorem dsN_new (room : Nat) (s : Name) : DsN (newD room) room s [] 0 := ⟨rfl, rfl, rfl, .inr ⟨rfl, rfl⟩, Nat.le_refl _⟩
theorem dsN_app {d : Dk} {room w : Nat} {s : Name} {c : List UInt8} (h : DsN d room s c w) (b : List UInt8) (hb : c.length + b.length ≤ room) : ∃ d', d.append s b = (d', 0) ∧ DsN d' room s (c ++ b) (w + 1) := by
  refine ⟨_, append_eq h.dead h.fuse s b (by rw [h.now.used, h.room]; exact hb), ⟨h.room, h.dead, h.fuse, .inl ?_, by have := h.works; show d.works + 1 ≤ _; omega⟩⟩
  show Dsk.put d.now s (Dsk.val d.now s ++ b) = _
  rw [h.now.put, h.now.val]
theorem dsP_app {d : Dk} {room w : Nat} {s : Name} {c0 : List UInt8} {L : List (List UInt8)} (h : DsP d room s c0 L w) (b : List UInt8) (hb : (c0 ++ L.flatten).length + b.length ≤ room) : ∃ d', d.append s b = (d', 0) ∧ DsP d' room s c0 (L ++ [b]) (w + 1) := by
  refine ⟨_, append_eq h.n.dead h.n.fuse s b (by rw [h.n.now.used, h.n.room]; exact hb), ⟨⟨h.n.room, h.n.dead, h.n.fuse, .inl ?_, by have := h.n.works; show d.works + 1 ≤ _; omega⟩, h.done, ?_⟩⟩
  · show Dsk.put d.now s (Dsk.val d.now s ++ b) = _
    rw [h.n.now.put, h.n.now.val]
    simp
  · show d.pend ++ [_] = _
    rw [h.pend]; simp [pends]
theorem dsP_sync {d : Dk} {room w : Nat} {s : Name} {c : List UInt8} (h : DsN d room s c w) : ∃ d', d.sync = (d', 0) ∧ DsP d' room s c [] (w + 1) := by
  refine ⟨_, sync_eq h.dead h.fuse, ⟨⟨h.room, h.dead, h.fuse, ?_, by have := h.works; show d.works + 1 ≤ _; omega⟩, h.now, rfl⟩⟩
  rw [List.flatten_nil, List.append_nil]; exact h.now
theorem cr_one (s : Name) (c0 : List UInt8) (L : List (List UInt8)) (fs : Files) (h : One fs s c0) (k : Nat) (part : Int) : ∀ j, j ≤ L.length →
    One (cr k part fs (pends s L) j) s (cont c0 L k (part % (((L.getD k []).length : Int) + 1)).toNat j)
  | 0, _ => by
    have e : cont c0 L k (part % (((L.getD k []).length : Int) + 1)).toNat 0 = c0 := by simp [cont]
    rw [e]; exact h
  | j + 1, hj => by
    have ih := cr_one s c0 L fs h k part j (by omega)
    have hb : L[j]? = some (L[j]'(by omega)) := List.getElem?_eq_getElem _
    generalize (L[j]'(by omega)) = b at hb
    have hx : (pends s L)[j]? = some ⟨0, s, [], b, 0⟩ := by unfold pends; rw [List.getElem?_map, hb]; rfl
    rw [cr_succ hx, stp]
    by_cases h1 : j < k
    · rw [if_pos h1]
      left
      show (some (Dsk.put _ s (Dsk.val _ s ++ b))).getD _ = _
      rw [Option.getD_some, ih.put, ih.val]
      unfold cont
      rw [if_pos (by omega), if_pos (by omega), flat_succ hb, List.append_assoc]
    · rw [if_neg h1]
      by_cases h2 : j = k
      · subst h2
        have hg : L.getD j [] = b := by rw [List.getD_eq_getElem?_getD, hb]; rfl
        have hpl : pl part (⟨0, s, [], b, 0⟩ : Wk) = (part % (((L.getD j []).length : Int) + 1)).toNat := by unfold pl; rw [hg]
        rw [hpl]
        generalize (part % (((L.getD j []).length : Int) + 1)).toNat = p at ih
        by_cases h3 : 0 < p
        · rw [if_pos ⟨rfl, rfl, h3⟩]
          left
          show Dsk.put _ s (Dsk.val _ s ++ b.take p) = _
          rw [ih.put, ih.val]
          unfold cont
          rw [if_pos (Nat.le_refl _), if_neg (by omega), hg]
        · rw [if_neg (fun h => h3 h.2.2)]
          unfold cont at ih ⊢
          rw [if_pos (Nat.le_refl _)] at ih
          rw [if_neg (by omega), show p = 0 by omega]
          simpa using ih
      · rw [if_neg (fun h => h2 h.1)]
        unfold cont at ih ⊢
        rw [if_neg (by omega)] at ih
        rw [if_neg (by omega)]
        exact ih
theorem dsN_crash {d : Dk} {room w : Nat} {s : Name} {c0 : List UInt8} {L : List (List UInt8)} (h : DsP d room s c0 L w) (done part : Int) : DsN (d.crash done part) room s (after c0 L (done % ((L.length : Int) + 1)).toNat part) w := by
  have e : d.pend.length = L.length := by rw [h.pend]; simp [pends]
  refine ⟨h.n.room, rfl, rfl, ?_, h.n.works⟩
  show One (cr _ part d.done d.pend d.pend.length) s _
  rw [e, h.pend]
  exact cr_one s c0 L d.done h.done _ part L.length (Nat.le_refl _)
theorem trunc_eq {d : Dk} (h1 : d.dead = false) (h2 : d.fuse = -1) (s : Name) (n : Nat) (h3 : (get d.now s).isSome = true) (h4 : n ≤ (Dsk.val d.now s).length) :
    d.trunc s (n : Int) = ({ d with pend := d.pend ++ [⟨1, s, [], [], n⟩], now := Dsk.put d.now s ((Dsk.val d.now s).take n), works := d.works + 1 }, 0) := by
  have ht : d.there s = 0 := by unfold Dk.there; rw [if_neg (by rw [h1]; simp), if_pos h3]
  unfold Dk.trunc Dk.putr
  rw [if_pos ht, if_neg (by omega), one_eq h1 h2, if_pos rfl, Int.toNat_natCast]
end Dsk
theorem dsN_open {d : Dsk.Dk} {room w : Nat} {s : Dsk.Name} {c : List UInt8} (h : Dsk.DsN d room s c w) (len : Nat) (hl : len ≤ c.length) : ∃ d', openD d s len = (d', 0) ∧ Dsk.DsN d' room s (c.take len) (w + 1) := by
  unfold openD
  rw [h.now.val]
  by_cases hlt : len < c.length
  · rw [if_pos hlt]
    have hc : c ≠ [] := fun e => by rw [e] at hlt; simp at hlt
    refine ⟨_, Dsk.trunc_eq h.dead h.fuse s len (h.now.some hc) (by rw [h.now.val]; exact hl), ⟨h.room, h.dead, h.fuse, .inl ?_, by have := h.works; show d.works + 1 ≤ _; omega⟩⟩
    show Dsk.put d.now s ((Dsk.val d.now s).take len) = _
    rw [h.now.put, h.now.val]
  · rw [if_neg hlt]
    refine ⟨d, rfl, h.room, h.dead, h.fuse, ?_, by have := h.works; omega⟩
    rw [List.take_of_length_le (by omega)]
    exact h.now

/-- Open and Add on such a disk. -/
theorem open_n (w : World) (lo B : Nat) (d : Dsk.Dk) (room wk : Nat) (c : List UInt8) (h : IsDk w lo B d) (hn : Dsk.DsN d room [102] c wk) (hw : wk ≤ 99999) (len : Nat) (its : List (Nat × List UInt8)) (hits : ∀ p ∈ its, Ok1 p) (hle : len ≤ c.length) (hc : c.take len = frs its) :
    Calls Tryz.prog 10 #[.pointer (some ⟨B, 0, none⟩), .string (str [102]), .int .i64 (len : Int)] w fun e w' => ∃ LB d', e = .returned (.tuple #[.pointer (some ⟨LB, 0, none⟩), .nilIface]) ∧ IsDk w' lo B d' ∧ Dsk.DsN d' room [102] (frs its) (wk + 1) ∧ LogIs w' lo LB B [102] (recsAt 0 its) ∧ Below lo w w' ∧ KeepT w w' := by
  obtain ⟨d', ho, hd'⟩ := dsN_open hn len hle
  rw [hc] at hd'
  refine (open_ok w lo B d d' h (by have := hn.works; omega) hn.dead [102] goodf len (by rw [hn.now.val]; exact hle) (recsAt 0 its) (by rw [hn.now.val, hc, scan_frs its hits]) ho).mono ?_
  rintro e w' ⟨LB, rfl, h1, h2, h3, h4⟩
  exact ⟨LB, d', rfl, h1, hd', h2, h3, h4⟩
theorem add_n (w : World) (lo LB B : Nat) (d : Dsk.Dk) (room wk : Nat) (its : List (Nat × List UInt8)) (h : IsDk w lo B d) (hn : Dsk.DsN d room [102] (frs its) wk) (hw : wk ≤ 99999) (hg : LogIs w lo LB B [102] (recsAt 0 its)) (hil : its.length ≤ 1000000)
    (k : Nat) (hk : 1 ≤ k ∧ k ≤ 255) (a : Option Addr) (n c : Nat) (l : List UInt8) (hkk : Keeps w a n c l) (hnn : n ≤ 1048576) (hroom : (frs its).length + (9 + n) ≤ room) (hr24 : room ≤ 16777216) :
    Calls Tryz.prog 22 #[.pointer (some ⟨LB, 0, none⟩), .int .i64 (k : Int), .slice a n c] w fun e w' => ∃ d', e = .returned .nilIface ∧ IsDk w' lo B d' ∧ Dsk.DsN d' room [102] (frs (its ++ [(k, l)])) (wk + 1) ∧ LogIs w' lo LB B [102] (recsAt 0 (its ++ [(k, l)])) ∧ Below lo w w' ∧ KeepG w w' := by
  have hll := hkk.len
  obtain ⟨d', hap, hd'⟩ := Dsk.dsN_app hn (frm (k : Int) l) (by rw [frm_length]; omega)
  rw [frs_snoc, recsAt_snoc]
  refine (add_ok w lo LB B [102] d d' _ h hg (by have := hn.works; omega) goodf k hk a n c l hkk hnn hap (by rw [recsAt_length]; exact hil) (by rw [lenOf_recs]; omega)).mono ?_
  rintro e w' ⟨rfl, h1, h2, h3, h4⟩
  rw [lenOf_recs] at h2
  exact ⟨d', rfl, h1, hd', by rw [Nat.zero_add]; exact h2, h3, h4⟩
theorem add_p (w : World) (lo LB B : Nat) (d : Dsk.Dk) (room wk : Nat) (its : List (Nat × List UInt8)) (c0 : List UInt8) (L : List (List UInt8)) (h : IsDk w lo B d) (hn : Dsk.DsP d room [102] c0 L wk) (hc : c0 ++ L.flatten = frs its) (hw : wk ≤ 99999) (hg : LogIs w lo LB B [102] (recsAt 0 its)) (hil : its.length ≤ 1000000)
    (k : Nat) (hk : 1 ≤ k ∧ k ≤ 255) (a : Option Addr) (n c : Nat) (l : List UInt8) (hkk : Keeps w a n c l) (hnn : n ≤ 1048576) (hroom : (frs its).length + (9 + n) ≤ room) (hr24 : room ≤ 16777216) :
    Calls Tryz.prog 22 #[.pointer (some ⟨LB, 0, none⟩), .int .i64 (k : Int), .slice a n c] w fun e w' => ∃ d', e = .returned .nilIface ∧ IsDk w' lo B d' ∧ Dsk.DsP d' room [102] c0 (L ++ [frm (k : Int) l]) (wk + 1) ∧ LogIs w' lo LB B [102] (recsAt 0 (its ++ [(k, l)])) ∧ Below lo w w' ∧ KeepG w w' := by
  have hll := hkk.len
  obtain ⟨d', hap, hd'⟩ := Dsk.dsP_app hn (frm (k : Int) l) (by rw [hc, frm_length]; omega)
  rw [recsAt_snoc]
  refine (add_ok w lo LB B [102] d d' _ h hg (by have := hn.n.works; omega) goodf k hk a n c l hkk hnn hap (by rw [recsAt_length]; exact hil) (by rw [lenOf_recs]; omega)).mono ?_
  rintro e w' ⟨rfl, h1, h2, h3, h4⟩
  rw [lenOf_recs] at h2
  exact ⟨d', rfl, h1, hd', by rw [Nat.zero_add]; exact h2, h3, h4⟩
theorem keeps_lit (w : World) (l : List UInt8) (fr : Nat × Nat := (0, 0)) : Keeps (w.alloc (.cells (bv l).toArray 5 fr)) (some ⟨w.heap.size, 0, none⟩) l.length l.length l :=
  ⟨rds_lit w _ l _, fun _ k o e => by simp only [Option.some.injEq, Addr.mk.injEq] at e; obtain ⟨rfl, _⟩ := e; exact ⟨_, _, heap_alloc_new w _⟩, Nat.le_refl _, fun h => by cases h⟩
theorem new1000 (w : World) : Calls Tryz.prog 7 #[.int .i64 1000] w fun e w' => ∃ B, e = .returned (.pointer (some ⟨B, 0, none⟩)) ∧ IsDk w' w.heap.size B (Dsk.newD 1000) ∧ Below w.heap.size w w' := by
  have := new_any w 1000 (by omega)
  rw [show ((1000 : Nat) : Int) = 1000 from rfl] at this
  exact this
set_option maxHeartbeats 4000000 in
set_option maxRecDepth 100000 in
theorem known7 (w : World) : Calls Tryz.prog 8 #[] w fun e w' => e = .returned (.bool true) ∧ Below w.heap.size w w' := by
  have kc := fun (w : World) (C : Array Value) (n c : Nat) => Lib.run_convert_bytes_const (P := Tryz.prog) w 38 5 C n c Tryz.underlying38 Tryz.underlying5
  go_enter Tryz.func8, Tryz.ntmps8
  go_wp2_with fail
  refine (new1000 w).mono ?_
  rintro e w1 ⟨B, rfl, h1, hb1⟩
  have ho1 := open_n w1 w.heap.size B _ 1000 0 [] h1 (Dsk.dsN_new 1000 [102]) (by omega) 0 [] (by simp) (Nat.le_refl _) rfl
  rw [show ((0 : Nat) : Int) = 0 from rfl] at ho1
  clear h1
  go_wp2_with fail
  refine ho1.mono ?_
  rintro e w2 ⟨LB, d2, rfl, h2, n2, g2, hb2, _⟩
  have b2 := hb1.trans hb2
  clear hb1 hb2 ho1
  have hal : ∀ fr, Below w2.heap.size w2 (w2.alloc (.cells (bv [97]).toArray 5 fr)) := fun fr => (Below.refl _ _).alloc (Nat.le_refl _) _
  have ha1 := fun fr => add_n _ w.heap.size LB B d2 1000 _ [] (h2.below (hal fr)) n2 (by omega) (g2.below (hal fr)) (by simp) 1 (by omega) _ 1 1 [97] (keeps_lit w2 [97] fr) (by omega) (by simp [frs]) (by omega)
  simp only [show ((1 : Nat) : Int) = 1 from rfl] at ha1
  have bal := fun fr => b2.trans ((hal fr).mono b2.size)
  clear h2 n2 g2 hal b2
  go_wp2_with fail
  refine (ha1 _).mono ?_
  rintro e w3 ⟨d3, rfl, h3, n3, g3, hb3, _⟩
  have b3 := (bal _).trans hb3
  have hl3 := length_any w3 _ LB B _ _ g3 (by simp [recsAt])
  rw [lenOf_recs, show (frs ([] ++ [(1, [97])])).length = 10 by simp [frs, frm_length], show ((10 : Nat) : Int) = 10 from rfl] at hl3
  clear ha1 bal hb3
  go_wp2_with fail
  refine hl3.mono ?_
  rintro e w' ⟨rfl, rfl⟩
  clear hl3
  have hal : ∀ fr, Below w'.heap.size w' (w'.alloc (.cells (bv [98]).toArray 5 fr)) := fun fr => (Below.refl _ _).alloc (Nat.le_refl _) _
  have ha2 := fun fr => add_n _ w.heap.size LB B d3 1000 _ _ (h3.below (hal fr)) n3 (by omega) (g3.below (hal fr)) (by simp) 2 (by omega) _ 1 1 [98] (keeps_lit w' [98] fr) (by omega) (by simp [frs, frm_length]) (by omega)
  simp only [show ((2 : Nat) : Int) = 2 from rfl] at ha2
  have bal := fun fr => b3.trans ((hal fr).mono b3.size)
  clear h3 n3 g3 hal b3
  go_wp2_with fail
  refine (ha2 _).mono ?_
  rintro e w4 ⟨d4, rfl, h4, n4, g4, hb4, _⟩
  have b4 := (bal _).trans hb4
  have hc4 := count_any w4 _ LB B _ _ g4
  rw [recsAt_length, show (([] ++ [(1, [97])] ++ [(2, [98])] : List (Nat × List UInt8)).length : Int) = 2 from rfl] at hc4
  clear ha2 bal hb4 g4
  go_wp2_with fail
  refine hc4.mono ?_
  rintro e w' ⟨rfl, rfl⟩
  clear hc4
  have ho5 := open_n w' w.heap.size B d4 1000 _ _ h4 n4 (by omega) 10 [(1, [97])] (fun p hp => by simp only [List.mem_singleton] at hp; subst hp; exact ⟨⟨by decide, by decide⟩, by decide⟩) (by simp [frs, frm_length]) (by
    rw [frs_snoc, List.nil_append, List.take_append_of_le_length (by simp [frs, frm_length]), List.take_of_length_le (by simp [frs, frm_length])])
  rw [show ((10 : Nat) : Int) = 10 from rfl] at ho5
  clear h4 n4 kc
  go_wp2_with fail
  refine ho5.mono ?_
  rintro e w6 ⟨LB6, d6, rfl, h6, n6, g6, hb6, _⟩
  have b6 := b4.trans hb6
  have hc6 := count_any w6 _ LB6 B _ _ g6
  rw [recsAt_length, show (([(1, [97])] : List (Nat × List UInt8)).length : Int) = 1 from rfl] at hc6
  clear ho5 hb6 h6 n6 g6 b4
  go_wp2_with fail
  refine hc6.mono ?_
  rintro e w' ⟨rfl, rfl⟩
  clear hc6
  go_wp2
  go_ret
  exact ⟨rfl, b6⟩
end Go.Proofs.YtkalpkmnelgieaaGreatDoor
