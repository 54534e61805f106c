/- The reference's Less, Begins, IsPrefix, SameHashes, Put, Sort: what they answer. -/
import Derived.Test.YthampbiabkfmoaaGreatDoorRxGet
import Derived.Test.YthampbiabkfmoaaGreatDoorRxPlain
namespace Go
namespace Tap
open Go.RowKit
set_option linter.unusedVariables false
theorem RdA.take {α : Type} {C : α → Array Value} {sz : Nat} {w : World} {a : Option Addr} {n : Nat} {l : List α} (h : RdA C sz w a n l) {k : Nat} (hk : k ≤ n) : RdA C sz w a k (l.take k) := by
  refine ⟨by rw [List.length_take, h.1]; omega, fun h0 => ?_⟩
  obtain ⟨b, o, e, hb, hc⟩ := h.2 (by omega)
  refine ⟨b, o, e, hb, fun j x hx => ?_⟩
  rw [List.getElem?_take] at hx
  split at hx
  · exact hc j x hx
  · cases hx
theorem RdA.drop {α : Type} {C : α → Array Value} {sz : Nat} {w : World} {a : Option Addr} {n c : Nat} {l : List α} (h : RdA C sz w a n l) {k : Nat} (hk : k ≤ n) (hnc : n ≤ c) : RdA C sz w (if c = k then a else a.map (·.add (k * sz))) (n - k) (l.drop k) := by
  refine ⟨by rw [List.length_drop, h.1], fun h0 => ?_⟩
  obtain ⟨b, o, e, hb, hc⟩ := h.2 (by omega)
  rw [if_neg (by omega), e]
  refine ⟨b, o + k * sz, by simp [Addr.add_lit], hb, fun j x hx => ?_⟩
  rw [List.getElem?_drop] at hx
  have := hc (k + j) x hx
  rw [Nat.add_mul] at this
  rw [Nat.add_assoc]; exact this
end Tap
end Go
namespace Go.Proofs.YthampbiabkfmoaaGreatDoor
open Go.RowKit Go.Tap
set_option linter.unusedVariables false
set_option linter.unusedSimpArgs false
abbrev RdH (w : World) (a : Option Addr) (n : Nat) (l : List (List UInt8)) : Prop := RdA hashC 32 w a n l
theorem flatH_get (l : List (List UInt8)) (h : ∀ x ∈ l, x.length = 32) (i : Nat) (v : Value) (hv : (flatC hashC l)[i]? = some v) : ∃ x, l[i / 32]? = some x ∧ (hashC x)[i % 32]? = some v := by
  induction l generalizing i with
  | nil => simp [flatC] at hv
  | cons x r ih =>
    have hx := hashC_size x (h x (List.mem_cons_self ..))
    simp only [flatC, List.map_cons, List.flatten_cons] at hv ih
    by_cases hi : i < 32
    · rw [List.getElem?_append_left (by rw [Array.length_toList, hx]; exact hi)] at hv
      rw [Nat.div_eq_of_lt hi, Nat.mod_eq_of_lt hi]
      exact ⟨x, rfl, by simpa using hv⟩
    · rw [List.getElem?_append_right (by rw [Array.length_toList, hx]; omega), Array.length_toList, hx] at hv
      obtain ⟨y, h1, h2⟩ := ih (fun y hy => h y (List.mem_cons_of_mem _ hy)) (i - 32) hv
      rw [show i / 32 = (i - 32) / 32 + 1 by omega, show i % 32 = (i - 32) % 32 by omega]
      exact ⟨y, by simpa using h1, h2⟩
theorem flatH_one (l : List (List UInt8)) : ∀ v ∈ flatC hashC l, v.oneCell' = true := by
  intro v hv
  simp only [flatC, List.mem_flatten, List.mem_map] at hv
  obtain ⟨L, ⟨x, _, rfl⟩, hm⟩ := hv
  exact hashC_one' x v hm
theorem flatC_app {α : Type} (C : α → Array Value) (l m : List α) : flatC C (l ++ m) = flatC C l ++ flatC C m := by simp [flatC]
/-- 'append(s, x...)' of hashes that are read. -/
theorem wpL_appHs (w : World) {ops : Array Oper} {rest : List Oper} {o : Oper} {a : Act} {Q : Exit → Act → World → Prop} (hgd : o.guard = none) (s x : Operand)
    (ho : o.op = .call { callee := .builtin .append, args := #[s, x], argTypes := #[35, 35] })
    (base : Nat) (v : Value) (xs : List (List UInt8)) (hs : a.eval s = v) (hown : OwnH w base v xs)
    (ao : Option Addr) (m c : Nat) (hx : a.eval x = .slice ao m c) (hnone : ao = none → c = 0) (l : List (List UInt8)) (hr : RdH w ao m l) (h32 : ∀ x ∈ l, x.length = 32)
    (hb : xs.length + m ≤ 1000000) (hbase : base ≤ w.heap.size)
    (h : ∀ v' w', OwnH w' base v' (xs ++ l) → w.grownBy w' v.ownBlock → wpList Tryz.prog ops Q rest (a.put o.dst v') w') : wpList Tryz.prog ops Q (o :: rest) a w := by
  obtain ⟨i, hi, hz, hsize, hby⟩ := info_parts in_hash
  have hl := hr.1
  cases ao with
  | none =>
    obtain rfl := hnone rfl
    have hm : m = 0 := by
      rcases Nat.eq_zero_or_pos m with h0 | h0
      · exact h0
      · obtain ⟨_, _, e, _⟩ := hr.2 h0; cases e
    subst hm
    have : l = [] := List.eq_nil_of_length_eq_zero hl
    subst this
    refine wpList_append_own_none hgd s x 35 ho base 42 i 32 Tryz.underlying35 hi v xs.length (flatC hashC xs) hs hown hx ?_
    exact h v w (by simpa using hown) (World.grownBy.refl _ _)
  | some ad =>
    refine wpList_append_own w hgd s x 35 ho base 42 i (.agg (hashC Wi.z32)) 32 32 Tryz.underlying35 hi hz hsize hby (hashC_size _ rfl) (by decide) v xs.length (flatC hashC xs) hs hown ad m c (flatC hashC l) hx (by rw [flatC_length (sz := 32) (fun x hx => hashC_size x (h32 x hx)), hl]) ?_ (flatH_one l) (by unfold maxLen; omega) (by omega) hbase ?_
    · intro j u hu
      obtain ⟨y, hy, hv⟩ := flatH_get l h32 j u hu
      obtain ⟨b, o', e1, hbl, hc⟩ := hr.2 (by have := (List.getElem?_eq_some_iff.1 hy).1; omega)
      simp at e1; subst e1
      rw [Addr.add_lit]
      have := hc (j / 32) y hy (j % 32) u hv
      rw [show o' + j = o' + j / 32 * 32 + j % 32 by omega]
      exact this
    · intro v' w' h1 h2 _
      refine h v' w' ?_ h2
      show w'.ownsRow base _ _ v' (xs ++ l).length (flatC hashC (xs ++ l))
      rw [flatC_app, List.length_append, hl]; exact h1
set_option maxHeartbeats 1000000 in
set_option maxRecDepth 100000 in
theorem less_any (w : World) (a b : List UInt8) (ha : a.length = 32) (hb : b.length = 32) : Calls Tryz.prog 75 #[.agg (hashC a), .agg (hashC b)] w fun e w' => e = .returned (.bool (Rx.lessB a b)) ∧ Below w.heap.size w w' := by
  obtain ⟨C, hC⟩ : ∃ C, C = hashC a := ⟨_, rfl⟩
  obtain ⟨D, hD⟩ : ∃ D, D = hashC b := ⟨_, rfl⟩
  obtain ⟨W1, hW1⟩ : ∃ W1, W1 = (w.alloc (.cells C 42)).alloc (.cells D 42) := ⟨_, rfl⟩
  have b1 : Below w.heap.size w W1 := by rw [hW1]; exact ((Below.refl _ _).alloc (Nat.le_refl _) _).alloc (by simp) _
  have B1 := Lib.hid b1
  have CA : Hid (∀ k x, a[k]? = some x → ∀ q, (W1.drewN q).cell? ⟨w.heap.size, k, none⟩ = some (.int .u8 (x.toNat : Int))) := Lib.hid (fun k x hx q => by
    have : W1.heap[w.heap.size]? = some (.cells C 42 (0, 0)) := by rw [hW1]; exact heap_alloc2_old _ _ _
    exact blk_cell (w := W1) (i := k) this (by rw [hC]; simp [hashC, bv_getElem?, hx]))
  have CB : Hid (∀ k x, b[k]? = some x → ∀ q, (W1.drewN q).cell? ⟨w.heap.size + 1, k, none⟩ = some (.int .u8 (x.toNat : Int))) := Lib.hid (fun k x hx q => by
    have : W1.heap[w.heap.size + 1]? = some (.cells D 42 (0, 0)) := by rw [hW1]; exact heap_alloc2_new _ _ _
    exact blk_cell (w := W1) (i := k) this (by rw [hD]; simp [hashC, bv_getElem?, hx]))
  rw [← hC, ← hD]
  obtain ⟨r, hr⟩ : ∃ r, r = Rx.lessB a b := ⟨_, rfl⟩
  rw [← hr]
  have HR := Lib.hid hr
  have HA := Lib.hid ha
  have HB := Lib.hid hb
  clear hC hD b1 hr ha hb
  go_enter Tryz.func75, Tryz.ntmps75
  go_upto_region 1 with (fail)
  rw [← hW1]
  clear hW1
  go_wp2
  go_loopw [5] (fun kv wr => ∃ k q : Nat, k ≤ 32 ∧ kv = .int .i64 (k : Int) ∧ wr = W1.drewN q ∧ Hid (a.take k = b.take k)) (fun kv _ => 32 - (intOf kv).toNat)
  case atStart => exact ⟨0, 0, Nat.zero_le _, rfl, rfl, Lib.hid (by rw [List.take_zero, List.take_zero])⟩
  case round =>
    obtain ⟨k, q, hk, rfl, rfl, HE⟩ := hrel
    by_cases hlt : k < 32
    · have d0 : decide ((k : Int) < 32) = true := decide_eq_true (by omega)
      have i0 : (0 : Int) ≤ (k : Int) := by omega
      have i1 : (k : Int) < 32 := by omega
      have hw := wrapi' ((k : Int) + 1) (by omega)
      have hx : a[k]? = some (a[k]'(by have := HA.out; omega)) := List.getElem?_eq_getElem _
      generalize a[k]'(by have := HA.out; omega) = x at hx
      have hy : b[k]? = some (b[k]'(by have := HB.out; omega)) := List.getElem?_eq_getElem _
      generalize b[k]'(by have := HB.out; omega) = y at hy
      have ca := CA.out k x hx q
      have cb := CB.out k y hy q
      have ca2 : Hid (∀ q, (W1.drewN q).cell? ⟨w.heap.size, k, none⟩ = some (.int .u8 (x.toNat : Int))) := Lib.hid (CA.out k x hx)
      have cb2 : Hid (∀ q, (W1.drewN q).cell? ⟨w.heap.size + 1, k, none⟩ = some (.int .u8 (y.toNat : Int))) := Lib.hid (CB.out k y hy)
      generalize hwq : W1.drewN q = wq at ca cb ⊢
      have HXY := Lib.hid (And.intro hx hy)
      clear hx hy
      by_cases hxy : x = y
      · subst hxy
        have q0 : ((x.toNat : Int) == (x.toNat : Int)) = true := by simp
        go_wp2_with fail
        go_quiet (fail)
        go_wp2
        go_roundw
        case rel =>
          exact ⟨k + 1, _, by omega, by go_num, by rw [← hwq, World.drewN_drewN], Lib.hid (by rw [List.take_add_one, List.take_add_one, HE.out, HXY.out.1, HXY.out.2])⟩
        case measure => simp [intOf]; omega
      · have q0 : ((x.toNat : Int) == (y.toNat : Int)) = false := by simp; intro h; exact hxy (UInt8.toNat_inj.1 (by omega))
        have HF : Hid (r = decide ((x.toNat : Int) < (y.toNat : Int))) := Lib.hid (by rw [HR.out, Rx.lessB_at a b k x y HE.out HXY.out.1 HXY.out.2 hxy]; rw [decide_eq_decide]; omega)
        have BQ : Hid (Below w.heap.size w wq) := Lib.hid (by rw [← hwq]; exact bel_drewN B1.out q)
        clear hxy
        go_wp2_with fail
        go_quiet (fail)
        go_wp2_with fail
        go_quiet (fail)
        go_wp2
        go_ret
        refine ⟨ret_bool (by rw [HF.out]; first | done | rfl | (rw [decide_eq_decide]; omega)), ?_⟩
        first | exact bel_drewN (bel_drewN BQ.out _) _ | exact bel_drewN BQ.out _
    · obtain rfl : k = 32 := by omega
      have HF : Hid (r = false) := Lib.hid (by
        have : a = b := by have h := HE.out; rwa [List.take_of_length_le (by rw [HA.out]; exact Nat.le_refl _), List.take_of_length_le (by rw [HB.out]; exact Nat.le_refl _)] at h
        rw [HR.out, this, Rx.lessB_same])
      go_wp2
      go_ret
      exact ⟨ret_bool (by rw [HF.out]), bel_drewN B1.out _⟩
set_option maxHeartbeats 1000000 in
set_option maxRecDepth 100000 in
theorem refBegins_any (w : World) (h s : List UInt8) (hl : h.length = 32) (hs : s.length ≤ 140737488351232) : Calls Tryz.prog 33 #[.agg (hashC h), .string (str s)] w fun e w' => e = .returned (.bool (Wi.beg h s)) ∧ Below w.heap.size w w' := by
  have hln : (Wi.hexT h).length = 64 := by rw [Wi.hexT_len, hl]
  obtain ⟨C, hC⟩ : ∃ C, C = hashC h := ⟨_, rfl⟩
  have SC : Hid (C.size = 32) := Lib.hid (by rw [hC]; exact hashC_size h hl)
  obtain ⟨W1, hW1⟩ : ∃ W1, W1 = w.alloc (.cells C 42) := ⟨_, rfl⟩
  have b1 : Below w.heap.size w W1 := by rw [hW1]; exact (Below.refl _ _).alloc (Nat.le_refl _) _
  have PT : Hid (Part W1 w.heap.size 0 C) := Lib.hid (Part.of_blk (by rw [hW1]; exact heap_alloc_new _ _))
  have ht := text_any W1 h hl
  rw [← hC] at ht ⊢
  obtain ⟨X, hX⟩ : ∃ X, X = Wi.hexT h := ⟨_, rfl⟩
  rw [← hX] at ht hln
  have B1 := Lib.hid b1
  have z1 := str_size s
  have HX := Lib.hid hX
  have HLN := Lib.hid hln
  clear hC b1 hX hl
  go_enter Tryz.func33, Tryz.ntmps33
  go_upto_region 1 with (fail)
  rw [← hW1]
  clear hW1
  go_wp2_with (refine wpL_load ?hw 42 (.tmp 2) rfl w.heap.size 0 rfl C _ PT.out Tryz.underlying42 rfl (by rw [SC.out]; exact sz_hash) ?_; case hw => kernel_rfl)
  refine ht.mono ?_
  clear ht
  rintro e w2 ⟨rfl, b2⟩
  have B2 := Lib.hid (B1.out.trans (b2.mono B1.out.size))
  clear b2 hln
  by_cases h64 : s.length ≤ 64
  · have d0 : decide ((s.length : Int) ≤ 64) = true := decide_eq_true (by omega)
    have hsl := sl_to X s.length (by rw [HLN.out]; exact h64)
    obtain ⟨q, hq⟩ : ∃ q, q = X.take s.length := ⟨_, rfl⟩
    rw [← hq] at hsl
    obtain ⟨b, hb⟩ : ∃ b, b = decide (q = s) := ⟨_, rfl⟩
    have e1 : (q == s) = b := by rw [hb]; by_cases h : q = s <;> simp [h]
    have e2 : ((str q).toList == (str s).toList) = b := by rw [str_toList, str_toList, e1]
    have HB : Hid (Wi.beg h s = b) := Lib.hid (by rw [Wi.beg, decide_eq_true h64, Bool.true_and, hb, hq, HX.out])
    clear hq hb h64
    go_wp2
    go_ret
    exact ⟨ret_bool (by rw [HB.out]), B2.out⟩
  · have d0 : decide ((s.length : Int) ≤ 64) = false := decide_eq_false (by omega)
    have HB : Hid (Wi.beg h s = false) := Lib.hid (by rw [Wi.beg, decide_eq_false h64, Bool.false_and])
    clear h64
    go_wp2
    go_ret
    exact ⟨ret_bool (by rw [HB.out]), B2.out⟩
set_option maxHeartbeats 1000000 in
set_option maxRecDepth 100000 in
theorem sameHashes_yes (w : World) (a : Option Addr) (n c : Nat) (l : List (List UInt8)) (hr : RdH w a n l) (ho : ∀ i ∈ l, i.length = 32) (a2 : Option Addr) (d : Nat) (hr2 : RdH w a2 n l) (hn : n ≤ 1000000) :
    Calls Tryz.prog 30 #[.slice a n c, .slice a2 n d] w fun e w' => e = .returned (.bool true) ∧ Below w.heap.size w w' := by
  have HL := Lib.hid hr.1
  have HR := Lib.hid hr
  have HR2 := Lib.hid hr2
  have HO := Lib.hid ho
  have q0 : ((n : Int) == (n : Int)) = true := by simp
  clear hr hr2 ho
  go_enter Tryz.func30, Tryz.ntmps30
  go_wp2
  go_loopw [5] (fun kv wr => ∃ k q : Nat, k ≤ n ∧ kv = .int .i64 (k : Int) ∧ wr = w.drewN q) (fun kv _ => n - (intOf kv).toNat)
  case atStart => exact ⟨0, 0, Nat.zero_le _, rfl, rfl⟩
  case round =>
    obtain ⟨k, q, hk, rfl, rfl⟩ := hrel
    by_cases hlt : k < n
    · have d0 : decide ((k : Int) < (n : Int)) = true := decide_eq_true (by omega)
      have d0' : decide (k < n) = true := decide_eq_true hlt
      have d1 : (k : Int) < (n : Int) := by omega
      have d2 : (0 : Int) ≤ (k : Int) := by omega
      have hx : l[k]? = some (l[k]'(by have := HL.out; omega)) := List.getElem?_eq_getElem _
      generalize l[k]'(by have := HL.out; omega) = x at hx
      obtain ⟨b, o, rfl, hc⟩ := HR.out.2 (by omega)
      obtain ⟨b2, o2, rfl, hc2⟩ := HR2.out.2 (by omega)
      have HX := Lib.hid (HO.out x (List.mem_of_getElem? hx))
      have g1 : Hid (Part (w.drewN q) b (o + k * 32) (hashC x)) := Lib.hid ((hc.2 k x hx).keep rfl)
      have g2 : Hid (Part (w.drewN q) b2 (o2 + k * 32) (hashC x)) := Lib.hid ((hc2.2 k x hx).keep rfl)
      have hw := wrapi' ((k : Int) + 1) (by omega)
      generalize hwq : w.drewN q = wq at g1 g2 ⊢
      have Q0 : Hid (∀ w, (binOp .neq 42 (.agg (hashC x)) (.agg (hashC x))).run Tryz.prog w = .ok (.bool false) w) := Lib.hid (fun w => by rw [cmp_hash_ne x x HX.out HX.out, decide_eq_true rfl]; rfl)
      clear hc hc2 hx
      go_wp2_with fail
      refine wp_region_quiet_lit (by kernel_rfl) (by kernel_rfl) ?_
      repeat (go_big_quiet_step (fail))
      refine wpQuiet_load (by kernel_rfl) 42 (.tmp 19) rfl b (o + k * 32) rfl (hashC x) _ g1.out Tryz.underlying42 rfl (by rw [hashC_size _ HX.out]; exact sz_hash) ?_
      simp only [Act.put, List.setIfInBounds_toArray, List.set_cons_zero, List.set_cons_succ]
      repeat (go_big_quiet_step (fail))
      refine wpQuiet_load (by kernel_rfl) 42 (.tmp 23) rfl b2 (o2 + k * 32) rfl (hashC x) _ g2.out Tryz.underlying42 rfl (by rw [hashC_size _ HX.out]; exact sz_hash) ?_
      simp only [Act.put, List.setIfInBounds_toArray, List.set_cons_zero, List.set_cons_succ]
      refine wpQuiet_cmp (by kernel_rfl) .neq 42 42 (.tmp 20) (.tmp 24) rfl (hashC x) (hashC x) rfl rfl gd_hash false Q0.out ?_
      refine wpQuiet_nil ?_
      intro _ hw'
      obtain ⟨nq, hw2⟩ := hw'
      subst hw2
      go_wp2
      go_roundw
      case rel => exact ⟨k + 1, q + nq, by omega, by go_num, by rw [← hwq, World.drewN_drewN]⟩
      case measure => simp [intOf]; omega
    · obtain rfl : k = n := by omega
      have d0 : decide ((k : Int) < (k : Int)) = false := decide_eq_false (by omega)
      go_wp2
      go_ret
      exact ⟨rfl, ⟨rfl, rfl, rfl, Nat.le_refl _, fun _ _ => rfl⟩⟩
end Go.Proofs.YthampbiabkfmoaaGreatDoor
/- The reference's IsPrefix, Put, Sort: what they answer. -/
namespace Go.Proofs.YthampbiabkfmoaaGreatDoor
open Go.RowKit Go.Tap
set_option linter.unusedVariables false
set_option linter.unusedSimpArgs false
set_option maxHeartbeats 1000000 in
theorem refDigit_any (w : World) (c : UInt8) : Calls Tryz.prog 52 #[.int .u8 (c.toNat : Int)] w fun e w' => e = .returned (.int .i64 (Wi.digN c)) ∧ w = w' := by
  have hc := c.toNat_lt
  unfold Wi.digN
  by_cases h1 : 48 ≤ c.toNat ∧ c.toNat ≤ 57
  · rw [if_pos h1]
    have a1 : (48 : Int) ≤ (c.toNat : Int) := by omega
    have a2 : (c.toNat : Int) ≤ 57 := by omega
    have w2 : ((c.toNat : Int) - 48) % 256 = (c.toNat : Int) - 48 := by omega
    clear h1
    go_enter Tryz.func52, Tryz.ntmps52
    go_wp2
    go_ret
    exact ⟨by first | rfl | (congr 1), rfl⟩
  · rw [if_neg h1]
    by_cases h2 : 97 ≤ c.toNat ∧ c.toNat ≤ 102
    · rw [if_pos h2]
      have a0 : ¬ (c.toNat : Int) ≤ 57 := by omega
      have a00 : (48 : Int) ≤ (c.toNat : Int) := by omega
      have a1 : (97 : Int) ≤ (c.toNat : Int) := by omega
      have a2 : (c.toNat : Int) ≤ 102 := by omega
      have w2 : ((c.toNat : Int) - 97) % 256 = (c.toNat : Int) - 97 := by omega
      have w3 : IntKind.i64.wrap ((c.toNat : Int) - 97 + 10) = (c.toNat : Int) - 87 := by rw [wrapi' _ (by omega)]; omega
      clear h1 h2
      go_enter Tryz.func52, Tryz.ntmps52
      go_wp2
      all_goals go_ret
      all_goals exact ⟨rfl, rfl⟩
    · rw [if_neg h2]
      have H1 := Lib.hid (And.intro h1 h2)
      clear h1 h2
      go_enter Tryz.func52, Tryz.ntmps52
      go_wp2
      all_goals first | (exfalso; have := H1.out; omega) | (go_ret; exact ⟨rfl, rfl⟩)
set_option maxHeartbeats 1000000 in
set_option maxRecDepth 100000 in
theorem refIsPrefix_any (w : World) (l : List UInt8) (hl : l.length ≤ 140737488351232) : Calls Tryz.prog 34 #[.string (str l)] w fun e w' => e = .returned (.bool (Wi.isPre l)) ∧ w = w' := by
  obtain ⟨r, hr⟩ : ∃ r, r = Wi.isPre l := ⟨_, rfl⟩
  rw [← hr]
  have HR := Lib.hid hr
  have HL := Lib.hid hl
  have z1 := str_size l
  clear hr hl
  go_enter Tryz.func34, Tryz.ntmps34
  go_wp2
  go_loop [3] (fun kv => ∃ k : Nat, k ≤ l.length ∧ kv = .int .i64 (k : Int) ∧ Hid ((l.take k).all Wi.dig = true)) (fun kv => l.length - (intOf kv).toNat)
  case atStart => exact ⟨0, Nat.zero_le _, rfl, Lib.hid rfl⟩
  case round =>
    obtain ⟨k, hk, rfl, HE⟩ := hrel
    by_cases hlt : k < l.length
    · have d0 : decide ((k : Int) < (l.length : Int)) = true := decide_eq_true (by omega)
      have d0' : decide (k < l.length) = true := decide_eq_true hlt
      have i0 : (0 : Int) ≤ (k : Int) := by omega
      have i1 : (k : Int) < (l.length : Int) := by omega
      have hx : l[k]? = some (l[k]'hlt) := List.getElem?_eq_getElem _
      generalize l[k]'hlt = x at hx
      have hg : ∀ p, (str l)[k]'p = x := fun p => by
        have := (List.getElem?_eq_some_iff.1 hx).2
        rw [← this]; rfl
      have hw := wrapi' ((k : Int) + 1) (by have := HL.out; omega)
      have hdg := Wi.digN_neg x
      have HX := Lib.hid hx
      have HG := Lib.hid hg
      clear hx hg
      go_wp2_with fail
      rw [HG.out]
      refine (refDigit_any _ x).mono ?_
      rintro e w' ⟨rfl, rfl⟩
      cases hd : Wi.dig x
      · rw [hd, Bool.not_false] at hdg
        have HD := Lib.hid hd
        clear hd
        go_wp2
        go_ret
        refine ⟨?_, rfl⟩
        rw [HR.out]
        have : Wi.isPre l = false := by
          unfold Wi.isPre
          have : l.all Wi.dig = false := by
            rw [List.all_eq_false]
            exact ⟨x, List.mem_of_getElem? HX.out, by rw [HD.out]; decide⟩
          rw [this]; rfl
        rw [this]; first | done | rfl
      · rw [hd, Bool.not_true] at hdg
        have HD := Lib.hid hd
        clear hd
        go_wp2
        go_round
        case rel => exact ⟨k + 1, by omega, by go_num, Lib.hid (by rw [List.take_add_one, HX.out, Option.toList_some, List.all_append, HE.out]; simp [HD.out])⟩
        case measure => simp [intOf]; omega
    · obtain rfl : k = l.length := by omega
      have d0 : decide ((l.length : Int) < (l.length : Int)) = false := decide_eq_false (by omega)
      have hal : l.all Wi.dig = true := by have := HE.out; rwa [List.take_length] at this
      have HF : Hid (r = (decide ((1 : Int) ≤ (l.length : Int)) && decide ((l.length : Int) ≤ 64))) := Lib.hid (by
        rw [HR.out, Wi.isPre, hal, Bool.true_and]
        congr 1
        · rw [decide_eq_decide]; cases l with
          | nil => simp
          | cons y r => simp only [List.length_cons]; constructor
                        · intro _; omega
                        · intro _ e; cases e
        · rw [decide_eq_decide]; omega)
      clear hal HE hlt hk
      go_wp2
      all_goals go_ret
      all_goals (refine ⟨ret_bool ?_, rfl⟩; rw [HF.out]; try simp [*]; try (intros; omega))
theorem own_emptyH (w : World) : OwnH (w.alloc (.cells #[] 42)) w.heap.size (.slice (some ⟨w.heap.size, 0, none⟩) 0 0) [] :=
  ⟨rfl, .inr ⟨w.heap.size, 0, #[], rfl, Nat.le_refl _, heap_alloc_new w _, Nat.le_refl _, Nat.zero_le _, rfl, rfl⟩⟩
/-- A slice of hashes: what can be said of it. -/
def SlH (w : World) (lo : Nat) (v : Value) (l : List (List UInt8)) : Prop := ∃ a c, v = .slice a l.length c ∧ RdH w a l.length l ∧ l.length ≤ c ∧ (a = none → c = 0)
theorem SlH.of_own {w : World} {base : Nat} {v : Value} {l : List (List UInt8)} (h : OwnH w base v l) (h32 : ∀ x ∈ l, x.length = 32) : SlH w 0 v l := by
  obtain ⟨a, c, rfl, h1, _, h2, _⟩ := ownsRow_slice h
  exact ⟨a, c, rfl, RdA.of_own h rfl (fun x hx => hashC_size x (h32 x hx)), h1, h2⟩
theorem SlH.below {w w' : World} {lo : Nat} {v : Value} {l : List (List UInt8)} (h : SlH w lo v l) (hb : Below w.heap.size w w') : SlH w' lo v l := by
  obtain ⟨a, c, e, h1, h2, h3⟩ := h
  exact ⟨a, c, e, h1.below hb, h2, h3⟩
set_option maxHeartbeats 4000000 in
set_option maxRecDepth 100000 in
theorem refPut_any (w : World) (a : Option Addr) (n c : Nat) (l : List (List UInt8)) (hr : RdH w a n l) (hnc : n ≤ c) (hz : a = none → c = 0) (h32 : ∀ x ∈ l, x.length = 32) (hn : n ≤ 100000) (h : List UInt8) (hl : h.length = 32) :
    Calls Tryz.prog 49 #[.slice a n c, .agg (hashC h)] w fun e w' => ∃ v, e = .returned v ∧ SlH w' 0 v (Rx.insH h l) ∧ Below w.heap.size w w' := by
  have hln := hr.1
  obtain ⟨C, hC⟩ : ∃ C, C = hashC h := ⟨_, rfl⟩
  have SC : Hid (C.size = 32) := Lib.hid (by rw [hC]; exact hashC_size h hl)
  obtain ⟨W1, hW1⟩ : ∃ W1, W1 = w.alloc (.cells C 42) := ⟨_, rfl⟩
  have b1 : Below w.heap.size w W1 := by rw [hW1]; exact (Below.refl _ _).alloc (Nat.le_refl _) _
  have BX : Hid (W1.heap[w.heap.size]? = some (.cells C 42 (0, 0))) := Lib.hid (by rw [hW1]; exact heap_alloc_new _ _)
  have R1 := Lib.hid (hr.below b1)
  have B1 := Lib.hid b1
  have HL := Lib.hid hl
  have H32 := Lib.hid h32
  have HNC := Lib.hid hnc
  have HZ := Lib.hid hz
  have HN := Lib.hid hn
  have HLN := Lib.hid hln
  have HC := Lib.hid hC
  rw [← hC]
  clear hC b1 hr hl h32 hnc hz hln
  go_enter Tryz.func49, Tryz.ntmps49
  go_upto_region 1 with (fail)
  rw [← hW1]
  clear hW1
  go_wp2
  go_loopw [5] (fun kv wr => ∃ k : Nat, k ≤ n ∧ kv = .int .i64 (k : Int) ∧ Hid (∀ x ∈ l.take k, Rx.lessB x h = true) ∧ Hid (Below W1.heap.size W1 wr)) (fun kv _ => n - (intOf kv).toNat)
  case atStart => exact ⟨0, Nat.zero_le _, rfl, Lib.hid (fun x hx => by rw [List.take_zero] at hx; cases hx), Lib.hid (Below.refl _ _)⟩
  case round =>
    obtain ⟨k, hk, rfl, HLT, BR⟩ := hrel
    have PC : Hid (∀ w', Below wr.heap.size wr w' → Part w' w.heap.size 0 C) := Lib.hid (fun w' hb => by
      have h1 := (BR.out.block _ (blk_lt BX.out)).trans BX.out
      exact Part.of_blk ((hb.block _ (blk_lt h1)).trans h1))
    have RR : Hid (RdH wr a n l) := Lib.hid (R1.out.below BR.out)
    by_cases hlt : k < n
    · have d0 : decide ((k : Int) < (n : Int)) = true := decide_eq_true (by omega)
      have d0' : decide (k < n) = true := decide_eq_true hlt
      have i0 : (0 : Int) ≤ (k : Int) := by omega
      have i1 : (k : Int) < (n : Int) := by omega
      have hw := wrapi' ((k : Int) + 1) (by omega)
      have hx : l[k]? = some (l[k]'(by have := HLN.out; omega)) := List.getElem?_eq_getElem _
      generalize l[k]'(by have := HLN.out; omega) = x at hx
      obtain ⟨b, o, rfl, hbl, hp⟩ := RR.out.at hx
      have HX : Hid (x.length = 32) := Lib.hid (H32.out x (List.mem_of_getElem? hx))
      have PX : Hid (∀ w', Below wr.heap.size wr w' → Part w' b (o + k * 32) (hashC x)) := Lib.hid (fun w' hb => hp.keep (hb.block b hbl))
      have hls := less_any wr.drew x h HX.out HL.out
      rw [← HC.out] at hls
      obtain ⟨lb, hlb⟩ : ∃ lb, lb = Rx.lessB x h := ⟨_, rfl⟩
      rw [← hlb] at hls
      have HLB := Lib.hid hlb
      have HLS := Lib.hid hls
      have HXX := Lib.hid hx
      have HBL := Lib.hid hbl
      clear hlb hls hx hp hbl
      go_upto_region 2 with (fail)
      refine wp_region_held_drew (S := fun w' => Below wr.heap.size wr w') (by kernel_rfl) (bel_drw wr) (fun hS0 => ?_)
      refine takeK (i := 0) (.int .i64 (k : Int)) (some 7) rfl (by kernel_rfl) (by kernel_rfl) (by kernel_rfl) (by kernel_rfl) (fun _ _ _ h => h) (by kernel_rfl) (fun w' _ => by go_simp) hS0 ?_
      simp only [Act.put, List.setIfInBounds_toArray, List.set_cons_zero, List.set_cons_succ]
      refine takeK (i := 1) (.slice (some ⟨b, o, none⟩) n c) (some 8) rfl (by kernel_rfl) (by kernel_rfl) (by kernel_rfl) (by kernel_rfl) (fun _ _ _ h => h) (by kernel_rfl) (fun w' _ => by go_simp) hS0 ?_
      simp only [Act.put, List.setIfInBounds_toArray, List.set_cons_zero, List.set_cons_succ]
      refine takeK (i := 2) (.int .i64 (n : Int)) (some 9) rfl (by kernel_rfl) (by kernel_rfl) (by kernel_rfl) (by kernel_rfl) (fun _ _ _ h => h) (by kernel_rfl) (fun w' _ => by go_simp) hS0 ?_
      simp only [Act.put, List.setIfInBounds_toArray, List.set_cons_zero, List.set_cons_succ]
      refine takeK (i := 3) (.bool true) (some 10) rfl (by kernel_rfl) (by kernel_rfl) (by kernel_rfl) (by kernel_rfl) (fun _ _ _ h => h) (by kernel_rfl) (fun w' _ => by go_simp) hS0 ?_
      simp only [Act.put, List.setIfInBounds_toArray, List.set_cons_zero, List.set_cons_succ]
      refine takeK (i := 4) (.bool true) (some 11) rfl (by kernel_rfl) (by kernel_rfl) (by kernel_rfl) (by kernel_rfl) (fun _ _ _ h => h) (by kernel_rfl) (fun w' _ => by go_simp) hS0 ?_
      simp only [Act.put, List.setIfInBounds_toArray, List.set_cons_zero, List.set_cons_succ]
      refine takeK (i := 5) (.slice (some ⟨b, o, none⟩) n c) (some 12) rfl (by kernel_rfl) (by kernel_rfl) (by kernel_rfl) (by kernel_rfl) (fun _ _ _ h => h) (by kernel_rfl) (fun w' _ => by go_simp) hS0 ?_
      simp only [Act.put, List.setIfInBounds_toArray, List.set_cons_zero, List.set_cons_succ]
      refine takeK (i := 6) (.int .i64 (k : Int)) (some 13) rfl (by kernel_rfl) (by kernel_rfl) (by kernel_rfl) (by kernel_rfl) (fun _ _ _ h => h) (by kernel_rfl) (fun w' _ => by go_simp) hS0 ?_
      simp only [Act.put, List.setIfInBounds_toArray, List.set_cons_zero, List.set_cons_succ]
      refine takeK (i := 7) (.pointer (some ⟨b, o + k * 32, none⟩)) (some 14) rfl (by kernel_rfl) (by kernel_rfl) (by kernel_rfl) (by kernel_rfl) (fun _ _ _ h => h) (by kernel_rfl) (fun w' _ => by go_simp) hS0 ?_
      simp only [Act.put, List.setIfInBounds_toArray, List.set_cons_zero, List.set_cons_succ]
      refine takeK (i := 8) (.agg (hashC x)) (some 15) rfl (by kernel_rfl) (by kernel_rfl) (by kernel_rfl) (by kernel_rfl) (fun _ _ _ h => h) (by kernel_rfl) (fun w' h' => ex_load 42 (.tmp 14) rfl b (o + k * 32) (by kernel_rfl) (hashC x) _ (PX.out w' h') Tryz.underlying42 rfl (by rw [hashC_size _ HX.out]; exact sz_hash)) hS0 ?_
      simp only [Act.put, List.setIfInBounds_toArray, List.set_cons_zero, List.set_cons_succ]
      refine takeK (i := 9) (.agg C) (some 16) rfl (by kernel_rfl) (by kernel_rfl) (by kernel_rfl) (by kernel_rfl) (fun _ _ _ h => h) (by kernel_rfl) (fun w' h' => ex_load 42 (.tmp 3) rfl w.heap.size 0 (by kernel_rfl) C _ (PC.out w' h') Tryz.underlying42 rfl (by rw [SC.out]; exact sz_hash)) hS0 ?_
      simp only [Act.put, List.setIfInBounds_toArray, List.set_cons_zero, List.set_cons_succ]
      refine callK (i := 10) 75 #[.agg (hashC x), .agg C] (some 17) rfl (by kernel_rfl) (by kernel_rfl) (by kernel_rfl) (by kernel_rfl) HLS.out ?_
      clear HLS
      rintro e w2 ⟨rfl, b2⟩
      have B2 : Below wr.heap.size wr w2 := hS0.trans b2
      have B2H := Lib.hid B2
      refine ⟨_, rfl, B2, fun hS1 => ?_⟩
      clear B2 b2 hS0
      simp only [Act.put, List.setIfInBounds_toArray, List.set_cons_zero, List.set_cons_succ]
      refine takeK (i := 11) (.bool lb) (some 18) rfl (by kernel_rfl) (by kernel_rfl) (by kernel_rfl) (by kernel_rfl) (fun _ _ _ h => h) (by kernel_rfl) (fun w' _ => by go_simp) hS1 ?_
      simp only [Act.put, List.setIfInBounds_toArray, List.set_cons_zero, List.set_cons_succ]
      refine wpAnyH_done (by kernel_rfl) ?_ _
      clear hS1
      have BR2 := Lib.hid (BR.out.trans (B2H.out.mono BR.out.size))
      cases lb
      · have P2X : Hid (Part w2 b (o + k * 32) (hashC x)) := Lib.hid (PX.out w2 B2H.out)
        have P2C : Hid (Part w2 w.heap.size 0 C) := Lib.hid (PC.out w2 B2H.out)
        obtain ⟨AA, hAA⟩ : ∃ AA : Option Addr, AA = some ⟨b, o, none⟩ := ⟨_, rfl⟩
        have R2 : Hid (RdH w2 AA n l) := Lib.hid (by rw [hAA]; exact RR.out.below B2H.out)
        have BW2 : Hid (Below w.heap.size w w2) := Lib.hid (B1.out.trans (BR2.out.mono B1.out.size))
        obtain ⟨eqb, heq⟩ : ∃ eqb, eqb = decide (x = h) := ⟨_, rfl⟩
        have Q0 : Hid (∀ w, (binOp .eql 42 (.agg (hashC x)) (.agg C)).run Tryz.prog w = .ok (.bool eqb) w) := Lib.hid (fun w => by rw [HC.out, cmp_hash x h HX.out HL.out, heq])
        have HE := Lib.hid heq
        have HAA := Lib.hid hAA
        clear heq hAA
        go_upto_region 4 with (fail)
        refine wp_region_quiet_lit (by kernel_rfl) (by kernel_rfl) ?_
        repeat (go_big_quiet_step (fail))
        refine wpQuiet_load (by kernel_rfl) 42 (.tmp 28) rfl b (o + k * 32) rfl (hashC x) _ P2X.out Tryz.underlying42 rfl (by rw [hashC_size _ HX.out]; exact sz_hash) ?_
        simp only [Act.put, List.setIfInBounds_toArray, List.set_cons_zero, List.set_cons_succ]
        refine wpQuiet_load (by kernel_rfl) 42 (.tmp 3) rfl w.heap.size 0 rfl C _ P2C.out Tryz.underlying42 rfl (by rw [SC.out]; exact sz_hash) ?_
        simp only [Act.put, List.setIfInBounds_toArray, List.set_cons_zero, List.set_cons_succ]
        refine wpQuiet_cmp (by kernel_rfl) .eql 42 42 (.tmp 29) (.tmp 30) rfl (hashC x) C rfl rfl gd_hash eqb Q0.out ?_
        simp only [Act.put, List.setIfInBounds_toArray, List.set_cons_zero, List.set_cons_succ]
        repeat (go_big_quiet_step (fail))
        refine wpQuiet_nil ?_
        intro _ hw'
        obtain ⟨nq, hw2⟩ := hw'
        subst hw2
        have BQ1 : Hid (Below W1.heap.size W1 (w2.drewN nq)) := Lib.hid (bel_drewN BR2.out nq)
        have BQW : Hid (Below w.heap.size w (w2.drewN nq)) := Lib.hid (bel_drewN BW2.out nq)
        have RQ2 : Hid (RdH (w2.drewN nq) AA n l) := Lib.hid (R2.out.keep (fun _ _ _ _ => rfl) (Nat.le_refl _))
        have hdk : l.drop k = x :: l.drop (k + 1) := by
          have := (List.getElem?_eq_some_iff.1 HXX.out)
          rw [List.drop_eq_getElem_cons this.1, this.2]
        have HDK := Lib.hid hdk
        clear hdk d0 d0' i0 i1 hw
        rw [← show AA = _ from HAA.out]
        rw [← show AA = _ from HAA.out] at HZ
        cases eqb
        · have hne : x ≠ h := of_decide_eq_false HE.out.symm
          have HNE := Lib.hid hne
          clear hne
          go_upto_region 6 with (fail)
          have E0 := Lib.hid (own_emptyH (w2.drewN nq))
          have BE : Hid (Below w.heap.size w ((w2.drewN nq).alloc (.cells #[] 42))) := Lib.hid (BQW.out.alloc BQW.out.size _)
          have RE : Hid (RdH ((w2.drewN nq).alloc (.cells #[] 42)) AA n l) := Lib.hid (RQ2.out.below ((Below.refl _ _).alloc (Nat.le_refl _) _))
          have BXE : Hid (((w2.drewN nq).alloc (.cells #[] 42)).heap[w.heap.size]? = some (.cells C 42 (0, 0))) := Lib.hid (by
            have h1 : (w2.drewN nq).heap[w.heap.size]? = some (.cells C 42 (0, 0)) := (BQ1.out.block _ (blk_lt BX.out)).trans BX.out
            exact (((Below.refl _ _).alloc (Nat.le_refl _) _ : Below (w2.drewN nq).heap.size (w2.drewN nq) _).block _ (blk_lt h1)).trans h1)
          have WLE : Hid ((w2.drewN nq).heap.size ≤ ((w2.drewN nq).alloc (.cells #[] 42)).heap.size ∧ w.heap.size ≤ (w2.drewN nq).heap.size) := Lib.hid ⟨by simp, BQW.out.size⟩
          have kc : (k : Int) ≤ (c : Int) := by have := HNC.out; omega
          have kc' : k ≤ c := by have := HNC.out; omega
          have kn : (k : Int) ≤ (n : Int) := by omega
          have k0 : (0 : Int) ≤ (k : Int) := by omega
          go_wp2_with (at_builtin; refine wpL_appHs _ rfl (.tmp 34) (.tmp 37) rfl (w2.drewN nq).heap.size _ [] (by rfl) E0.out AA k c (by rfl) HZ.out (l.take k) (RE.out.take hk) (fun y hy => H32.out y (List.mem_of_mem_take hy)) (by have := HN.out; simp; omega) WLE.out.1 ?_)
          intro v1 w7 O7 G7
          have SG : Hid (TStay (fun j => (w2.drewN nq).heap.size ≤ j) ((w2.drewN nq).alloc (.cells #[] 42)) w7) := Lib.hid ((TStay.refl _ _).grown G7 (fun j hj => .inl (E0.out.lt j hj).1))
          have OWNW : Hid (w.heap.size < (w2.drewN nq).heap.size) := Lib.hid (by have h1 : (w2.drewN nq).heap[w.heap.size]? = some (.cells C 42 (0, 0)) := (BQ1.out.block _ (blk_lt BX.out)).trans BX.out; exact blk_lt h1)
          have BX7 : Hid (w7.heap[w.heap.size]? = some (.cells C 42 (0, 0))) := Lib.hid ((SG.out.block _ (blk_lt BXE.out) (by have := OWNW.out; omega)).trans BXE.out)
          have B7 : Hid (Below w.heap.size w w7) := Lib.hid (Below.trans_stay BE.out SG.out (Nat.le_refl _) (fun j hj e => by have := WLE.out.2; omega))
          have RQ : Hid (Below (w2.drewN nq).heap.size (w2.drewN nq) w7) := Lib.hid (Below.trans_stay ((Below.refl _ _).alloc (Nat.le_refl _) _ : Below (w2.drewN nq).heap.size (w2.drewN nq) _) SG.out (Nat.le_refl _) (fun j hj e => by omega))
          obtain ⟨a1, c1, rfl, _⟩ := ownsRow_slice O7
          obtain ⟨n1, hn1⟩ : ∃ n1, n1 = (l.take k).length := ⟨_, rfl⟩
          try rw [← hn1]
          have HN1 : Hid (n1 = (l.take k).length) := Lib.hid hn1
          have O7n : Hid (OwnH w7 (w2.drewN nq).heap.size (.slice a1 n1 c1) (l.take k)) := Lib.hid (by rw [HN1.out]; exact O7)
          clear O7 G7 E0 BE BXE hn1
          have bA : Below w7.heap.size w7 (w7.alloc (.cells C 42)) := (Below.refl _ _).alloc (Nat.le_refl _) _
          have OA := Lib.hid (ownsRow_stay O7n.out (TStay.of_below bA (fun _ => False)) (fun _ _ h => h))
          have PC7 : Hid (Part w7 w.heap.size 0 C) := Lib.hid (Part.of_blk BX7.out)
          have SA : Hid ((w2.drewN nq).heap.size ≤ (w7.alloc (.cells C 42)).heap.size) := Lib.hid (Nat.le_trans RQ.out.size bA.size)
          have LT : Hid ((l.take k).length ≤ 1000000) := Lib.hid (by rw [List.length_take]; have := HN.out; omega)
          have TA : Hid ((w7.alloc (.cells C 42)).heap[w7.heap.size]? = some (.cells (hashC h) 42 (0, 0))) := Lib.hid (by rw [← HC.out]; exact heap_alloc_new _ _)
          have BA7 := Lib.hid (B7.out.trans (bA.mono B7.out.size))
          have RQA := Lib.hid (RQ.out.trans (bA.mono RQ.out.size))
          clear bA
          go_wp2_with (first | (refine wpL_load ?hw 42 (.tmp 3) rfl w.heap.size 0 rfl C _ PC7.out Tryz.underlying42 rfl (by rw [SC.out]; exact sz_hash) ?_; case hw => kernel_rfl) | (refine wpL_rowOne rfl 35 42 (.tmp 40) rfl 41 rfl Tryz.underlying35 C (by rfl) (.agg (hashC Wi.z32)) 32 zi_hash (by decide) SC.out ?_) | (at_builtin; refine wpL_appH _ rfl (.tmp 39) (.tmp 41) rfl (w2.drewN nq).heap.size (.slice a1 n1 c1) (l.take k) (by rfl) OA.out w7.heap.size h HL.out (by rfl) TA.out LT.out SA.out ?_))
          intro v2 w8 O8 G8
          have B8 : Hid (Below w.heap.size w w8) := Lib.hid (Below.trans_stay BA7.out ((TStay.refl (fun j => (w2.drewN nq).heap.size ≤ j) _).grown G8 (fun j hj => .inl (OA.out.lt j hj).1)) (Nat.le_refl _) (fun j hj e => by have := WLE.out.2; omega))
          have RQ8 : Hid (Below (w2.drewN nq).heap.size (w2.drewN nq) w8) := Lib.hid (Below.trans_stay RQA.out ((TStay.refl (fun j => (w2.drewN nq).heap.size ≤ j) _).grown G8 (fun j hj => .inl (OA.out.lt j hj).1)) (Nat.le_refl _) (fun j hj e => by omega))
          obtain ⟨a2, c2, rfl, _⟩ := ownsRow_slice O8
          obtain ⟨n2, hn2⟩ : ∃ n2, n2 = (l.take k ++ [h]).length := ⟨_, rfl⟩
          rw [← hn2]
          have HN2 := Lib.hid hn2
          have O8n : Hid (OwnH w8 (w2.drewN nq).heap.size (.slice a2 n2 c2) (l.take k ++ [h])) := Lib.hid (by rw [hn2]; exact O8)
          have R8 : Hid (RdH w8 AA n l) := Lib.hid (RQ2.out.below RQ8.out)
          have RD : Hid (RdH w8 (if c = k then AA else AA.map (·.add (k * 32))) (n - k) (l.drop k)) := Lib.hid (R8.out.drop hk HNC.out)
          have LS : Hid ((l.take k ++ [h]).length + (n - k) ≤ 1000000) := Lib.hid (by rw [List.length_append, List.length_take]; have := HN.out; simp; omega)
          have SB8 : Hid ((w2.drewN nq).heap.size ≤ w8.heap.size) := Lib.hid RQ8.out.size
          have FINL : Hid (Rx.insH h l = (l.take k ++ [h]) ++ l.drop k) := Lib.hid (by rw [Rx.insH_skip h k l HLT.out, List.append_assoc]; congr 1; rw [HDK.out, Rx.insH, if_neg (by rw [← HLB.out]; decide), if_neg HNE.out]; rfl)
          have F32 : Hid (∀ y ∈ Rx.insH h l, y.length = 32) := Lib.hid (fun y hy => by
            rcases (Rx.mem_insH h y l).1 hy with rfl | hy
            · exact HL.out
            · exact H32.out y hy)
          clear O8 G8 hn2 RQ B7 TA
          have hnk : ((n - k : Nat) : Int) = (n : Int) - (k : Int) := by omega
          have hck : ((c - k : Nat) : Int) = (c : Int) - (k : Int) := by omega
          by_cases hckk : c = k
          · have e0 : (c = k) = True := by simp [hckk]
            have RD2 : Hid (RdH w8 AA (n - k) (l.drop k)) := Lib.hid (by have := RD.out; rwa [if_pos hckk] at this)
            have NO2 : Hid (AA = none → c - k = 0) := Lib.hid (fun e => by have := HZ.out e; omega)
            clear hckk
            go_wp2_with (at_builtin; refine wpL_appHs _ rfl (.tmp 43) (.tmp 46) rfl (w2.drewN nq).heap.size (.slice a2 n2 c2) (l.take k ++ [h]) (by rfl) O8n.out AA (n - k) (c - k) (by rfl) NO2.out (l.drop k) RD2.out (fun y hy => H32.out y (List.mem_of_mem_drop hy)) LS.out SB8.out ?_)
            intro v3 w9 O9 G9
            have B9 : Hid (Below w.heap.size w w9) := Lib.hid (Below.trans_stay B8.out ((TStay.refl (fun j => (w2.drewN nq).heap.size ≤ j) _).grown G9 (fun j hj => .inl (O8n.out.lt j hj).1)) (Nat.le_refl _) (fun j hj e => by have := WLE.out.2; omega))
            have O9n : Hid (OwnH w9 (w2.drewN nq).heap.size v3 (Rx.insH h l)) := Lib.hid (by rw [FINL.out, List.append_assoc]; exact O9)
            clear O9 G9
            go_wp2
            go_ret
            exact ⟨v3, rfl, SlH.of_own O9n.out F32.out, B9.out⟩
          · have e0 : (c = k) = False := by simp [hckk]
            have RD2 : Hid (RdH w8 (AA.map (·.add (k * 32))) (n - k) (l.drop k)) := Lib.hid (by have := RD.out; rwa [if_neg hckk] at this)
            have NO2 : Hid (AA.map (·.add (k * 32)) = none → c - k = 0) := Lib.hid (fun e => by
              have : AA = none := by cases hA : AA with
                | none => rfl
                | some z => rw [hA] at e; cases e
              have := HZ.out this; omega)
            clear hckk
            go_wp2_with (at_builtin; refine wpL_appHs _ rfl (.tmp 43) (.tmp 46) rfl (w2.drewN nq).heap.size (.slice a2 n2 c2) (l.take k ++ [h]) (by rfl) O8n.out (AA.map (·.add (k * 32))) (n - k) (c - k) (by rfl) NO2.out (l.drop k) RD2.out (fun y hy => H32.out y (List.mem_of_mem_drop hy)) LS.out SB8.out ?_)
            intro v3 w9 O9 G9
            have B9 : Hid (Below w.heap.size w w9) := Lib.hid (Below.trans_stay B8.out ((TStay.refl (fun j => (w2.drewN nq).heap.size ≤ j) _).grown G9 (fun j hj => .inl (O8n.out.lt j hj).1)) (Nat.le_refl _) (fun j hj e => by have := WLE.out.2; omega))
            have O9n : Hid (OwnH w9 (w2.drewN nq).heap.size v3 (Rx.insH h l)) := Lib.hid (by rw [FINL.out, List.append_assoc]; exact O9)
            clear O9 G9
            go_wp2
            go_ret
            exact ⟨v3, rfl, SlH.of_own O9n.out F32.out, B9.out⟩
        · have hxh : x = h := of_decide_eq_true HE.out.symm
          have HF : Hid (Rx.insH h l = l) := Lib.hid (by
            rw [Rx.insH_skip h k l HLT.out, HDK.out, Rx.insH, if_neg (by rw [← HLB.out]; decide), if_pos hxh, ← HDK.out, List.take_append_drop])
          clear hxh
          go_wp2
          go_ret
          exact ⟨.slice AA n c, rfl, ⟨AA, c, by rw [HF.out, HLN.out], by rw [HF.out, HLN.out]; exact RQ2.out, by rw [HF.out, HLN.out]; exact HNC.out, HZ.out⟩, BQW.out⟩
      · go_wp2
        go_roundw
        case rel =>
          refine ⟨k + 1, by omega, by go_num, Lib.hid (fun y hy => ?_), BR2⟩
          rw [List.take_add_one, HXX.out, Option.toList_some, List.mem_append, List.mem_singleton] at hy
          rcases hy with hy | rfl
          · exact HLT.out y hy
          · exact HLB.out.symm
        case measure => simp [intOf]; omega
    · have hkn : k = n := by omega
      have d0 : decide ((k : Int) < (n : Int)) = false := decide_eq_false (by omega)
      have d0' : decide (k < n) = false := decide_eq_false hlt
      have HKN := Lib.hid hkn
      have HDK : Hid (l.drop k = []) := Lib.hid (List.drop_of_length_le (by rw [HLN.out, hkn]; exact Nat.le_refl _))
      clear hkn
      go_upto_region 2 with (fail)
      go_quiet (fail)
      go_upto_region 4 with (fail)
      obtain ⟨wy, hwy⟩ : ∃ wy, wy = wr.drewN nq := ⟨_, rfl⟩
      rw [← hwy]
      have BY : Hid (Below wr.heap.size wr wy) := Lib.hid (by rw [hwy]; exact bel_drewN (Below.refl _ _) _)
      clear hwy
      go_quiet (fail)
      obtain ⟨wz, hwz⟩ : ∃ wz, wz = wy.drewN nq := ⟨_, rfl⟩
      rw [← hwz]
      have bz : Below wr.heap.size wr wz := by rw [hwz]; exact bel_drewN BY.out _
      have BQ1 : Hid (Below W1.heap.size W1 wz) := Lib.hid (BR.out.trans (bz.mono BR.out.size))
      have BQW : Hid (Below w.heap.size w wz) := Lib.hid (B1.out.trans (BQ1.out.mono B1.out.size))
      obtain ⟨AA, hAA⟩ : ∃ AA : Option Addr, AA = a := ⟨_, rfl⟩
      rw [← hAA] at RR HZ ⊢
      have RQ2 : Hid (RdH wz AA n l) := Lib.hid (RR.out.below bz)
      clear hwz bz d0 d0' hAA R1
      go_upto_region 6 with (fail)
      have E0 := Lib.hid (own_emptyH (wz))
      have BE : Hid (Below w.heap.size w ((wz).alloc (.cells #[] 42))) := Lib.hid (BQW.out.alloc BQW.out.size _)
      have RE : Hid (RdH ((wz).alloc (.cells #[] 42)) AA n l) := Lib.hid (RQ2.out.below ((Below.refl _ _).alloc (Nat.le_refl _) _))
      have BXE : Hid (((wz).alloc (.cells #[] 42)).heap[w.heap.size]? = some (.cells C 42 (0, 0))) := Lib.hid (by
        have h1 : (wz).heap[w.heap.size]? = some (.cells C 42 (0, 0)) := (BQ1.out.block _ (blk_lt BX.out)).trans BX.out
        exact (((Below.refl _ _).alloc (Nat.le_refl _) _ : Below (wz).heap.size (wz) _).block _ (blk_lt h1)).trans h1)
      have WLE : Hid ((wz).heap.size ≤ ((wz).alloc (.cells #[] 42)).heap.size ∧ w.heap.size ≤ (wz).heap.size) := Lib.hid ⟨by simp, BQW.out.size⟩
      have kc : (k : Int) ≤ (c : Int) := by have := HNC.out; omega
      have kc' : k ≤ c := by have := HNC.out; omega
      have kn : (k : Int) ≤ (n : Int) := by omega
      have k0 : (0 : Int) ≤ (k : Int) := by omega
      go_wp2_with (at_builtin; refine wpL_appHs _ rfl (.tmp 34) (.tmp 37) rfl (wz).heap.size _ [] (by rfl) E0.out AA k c (by rfl) HZ.out (l.take k) (RE.out.take hk) (fun y hy => H32.out y (List.mem_of_mem_take hy)) (by have := HN.out; simp; omega) WLE.out.1 ?_)
      intro v1 w7 O7 G7
      have SG : Hid (TStay (fun j => (wz).heap.size ≤ j) ((wz).alloc (.cells #[] 42)) w7) := Lib.hid ((TStay.refl _ _).grown G7 (fun j hj => .inl (E0.out.lt j hj).1))
      have OWNW : Hid (w.heap.size < (wz).heap.size) := Lib.hid (by have h1 : (wz).heap[w.heap.size]? = some (.cells C 42 (0, 0)) := (BQ1.out.block _ (blk_lt BX.out)).trans BX.out; exact blk_lt h1)
      have BX7 : Hid (w7.heap[w.heap.size]? = some (.cells C 42 (0, 0))) := Lib.hid ((SG.out.block _ (blk_lt BXE.out) (by have := OWNW.out; omega)).trans BXE.out)
      have B7 : Hid (Below w.heap.size w w7) := Lib.hid (Below.trans_stay BE.out SG.out (Nat.le_refl _) (fun j hj e => by have := WLE.out.2; omega))
      have RQ : Hid (Below (wz).heap.size (wz) w7) := Lib.hid (Below.trans_stay ((Below.refl _ _).alloc (Nat.le_refl _) _ : Below (wz).heap.size (wz) _) SG.out (Nat.le_refl _) (fun j hj e => by omega))
      obtain ⟨a1, c1, rfl, _⟩ := ownsRow_slice O7
      obtain ⟨n1, hn1⟩ : ∃ n1, n1 = (l.take k).length := ⟨_, rfl⟩
      try rw [← hn1]
      have HN1 : Hid (n1 = (l.take k).length) := Lib.hid hn1
      have O7n : Hid (OwnH w7 (wz).heap.size (.slice a1 n1 c1) (l.take k)) := Lib.hid (by rw [HN1.out]; exact O7)
      clear O7 G7 E0 BE BXE hn1
      have bA : Below w7.heap.size w7 (w7.alloc (.cells C 42)) := (Below.refl _ _).alloc (Nat.le_refl _) _
      have OA := Lib.hid (ownsRow_stay O7n.out (TStay.of_below bA (fun _ => False)) (fun _ _ h => h))
      have PC7 : Hid (Part w7 w.heap.size 0 C) := Lib.hid (Part.of_blk BX7.out)
      have SA : Hid ((wz).heap.size ≤ (w7.alloc (.cells C 42)).heap.size) := Lib.hid (Nat.le_trans RQ.out.size bA.size)
      have LT : Hid ((l.take k).length ≤ 1000000) := Lib.hid (by rw [List.length_take]; have := HN.out; omega)
      have TA : Hid ((w7.alloc (.cells C 42)).heap[w7.heap.size]? = some (.cells (hashC h) 42 (0, 0))) := Lib.hid (by rw [← HC.out]; exact heap_alloc_new _ _)
      have BA7 := Lib.hid (B7.out.trans (bA.mono B7.out.size))
      have RQA := Lib.hid (RQ.out.trans (bA.mono RQ.out.size))
      clear bA
      go_wp2_with (first | (refine wpL_load ?hw 42 (.tmp 3) rfl w.heap.size 0 rfl C _ PC7.out Tryz.underlying42 rfl (by rw [SC.out]; exact sz_hash) ?_; case hw => kernel_rfl) | (refine wpL_rowOne rfl 35 42 (.tmp 40) rfl 41 rfl Tryz.underlying35 C (by rfl) (.agg (hashC Wi.z32)) 32 zi_hash (by decide) SC.out ?_) | (at_builtin; refine wpL_appH _ rfl (.tmp 39) (.tmp 41) rfl (wz).heap.size (.slice a1 n1 c1) (l.take k) (by rfl) OA.out w7.heap.size h HL.out (by rfl) TA.out LT.out SA.out ?_))
      intro v2 w8 O8 G8
      have B8 : Hid (Below w.heap.size w w8) := Lib.hid (Below.trans_stay BA7.out ((TStay.refl (fun j => (wz).heap.size ≤ j) _).grown G8 (fun j hj => .inl (OA.out.lt j hj).1)) (Nat.le_refl _) (fun j hj e => by have := WLE.out.2; omega))
      have RQ8 : Hid (Below (wz).heap.size (wz) w8) := Lib.hid (Below.trans_stay RQA.out ((TStay.refl (fun j => (wz).heap.size ≤ j) _).grown G8 (fun j hj => .inl (OA.out.lt j hj).1)) (Nat.le_refl _) (fun j hj e => by omega))
      obtain ⟨a2, c2, rfl, _⟩ := ownsRow_slice O8
      obtain ⟨n2, hn2⟩ : ∃ n2, n2 = (l.take k ++ [h]).length := ⟨_, rfl⟩
      rw [← hn2]
      have HN2 := Lib.hid hn2
      have O8n : Hid (OwnH w8 (wz).heap.size (.slice a2 n2 c2) (l.take k ++ [h])) := Lib.hid (by rw [hn2]; exact O8)
      have R8 : Hid (RdH w8 AA n l) := Lib.hid (RQ2.out.below RQ8.out)
      have RD : Hid (RdH w8 (if c = k then AA else AA.map (·.add (k * 32))) (n - k) (l.drop k)) := Lib.hid (R8.out.drop hk HNC.out)
      have LS : Hid ((l.take k ++ [h]).length + (n - k) ≤ 1000000) := Lib.hid (by rw [List.length_append, List.length_take]; have := HN.out; simp; omega)
      have SB8 : Hid ((wz).heap.size ≤ w8.heap.size) := Lib.hid RQ8.out.size
      have FINL : Hid (Rx.insH h l = (l.take k ++ [h]) ++ l.drop k) := Lib.hid (by rw [Rx.insH_skip h k l HLT.out, List.append_assoc]; congr 1; rw [HDK.out]; rfl)
      have F32 : Hid (∀ y ∈ Rx.insH h l, y.length = 32) := Lib.hid (fun y hy => by
        rcases (Rx.mem_insH h y l).1 hy with rfl | hy
        · exact HL.out
        · exact H32.out y hy)
      clear O8 G8 hn2 RQ B7 TA
      have hnk : ((n - k : Nat) : Int) = (n : Int) - (k : Int) := by omega
      have hck : ((c - k : Nat) : Int) = (c : Int) - (k : Int) := by omega
      by_cases hckk : c = k
      · have e0 : (c = k) = True := by simp [hckk]
        have RD2 : Hid (RdH w8 AA (n - k) (l.drop k)) := Lib.hid (by have := RD.out; rwa [if_pos hckk] at this)
        have NO2 : Hid (AA = none → c - k = 0) := Lib.hid (fun e => by have := HZ.out e; omega)
        clear hckk
        go_wp2_with (at_builtin; refine wpL_appHs _ rfl (.tmp 43) (.tmp 46) rfl (wz).heap.size (.slice a2 n2 c2) (l.take k ++ [h]) (by rfl) O8n.out AA (n - k) (c - k) (by rfl) NO2.out (l.drop k) RD2.out (fun y hy => H32.out y (List.mem_of_mem_drop hy)) LS.out SB8.out ?_)
        intro v3 w9 O9 G9
        have B9 : Hid (Below w.heap.size w w9) := Lib.hid (Below.trans_stay B8.out ((TStay.refl (fun j => (wz).heap.size ≤ j) _).grown G9 (fun j hj => .inl (O8n.out.lt j hj).1)) (Nat.le_refl _) (fun j hj e => by have := WLE.out.2; omega))
        have O9n : Hid (OwnH w9 (wz).heap.size v3 (Rx.insH h l)) := Lib.hid (by rw [FINL.out, List.append_assoc]; exact O9)
        clear O9 G9
        go_wp2
        go_ret
        exact ⟨v3, rfl, SlH.of_own O9n.out F32.out, B9.out⟩
      · have e0 : (c = k) = False := by simp [hckk]
        have RD2 : Hid (RdH w8 (AA.map (·.add (k * 32))) (n - k) (l.drop k)) := Lib.hid (by have := RD.out; rwa [if_neg hckk] at this)
        have NO2 : Hid (AA.map (·.add (k * 32)) = none → c - k = 0) := Lib.hid (fun e => by
          have : AA = none := by cases hA : AA with
            | none => rfl
            | some z => rw [hA] at e; cases e
          have := HZ.out this; omega)
        clear hckk
        go_wp2_with (at_builtin; refine wpL_appHs _ rfl (.tmp 43) (.tmp 46) rfl (wz).heap.size (.slice a2 n2 c2) (l.take k ++ [h]) (by rfl) O8n.out (AA.map (·.add (k * 32))) (n - k) (c - k) (by rfl) NO2.out (l.drop k) RD2.out (fun y hy => H32.out y (List.mem_of_mem_drop hy)) LS.out SB8.out ?_)
        intro v3 w9 O9 G9
        have B9 : Hid (Below w.heap.size w w9) := Lib.hid (Below.trans_stay B8.out ((TStay.refl (fun j => (wz).heap.size ≤ j) _).grown G9 (fun j hj => .inl (O8n.out.lt j hj).1)) (Nat.le_refl _) (fun j hj e => by have := WLE.out.2; omega))
        have O9n : Hid (OwnH w9 (wz).heap.size v3 (Rx.insH h l)) := Lib.hid (by rw [FINL.out, List.append_assoc]; exact O9)
        clear O9 G9
        go_wp2
        go_ret
        exact ⟨v3, rfl, SlH.of_own O9n.out F32.out, B9.out⟩
theorem sortLoop_len (l : List (List UInt8)) (k : Nat) : (Rx.sortH (l.take k)).length ≤ k := by
  have h := Rx.sortH_len (l.take k) (l.take k).length _ rfl (Nat.le_refl _)
  rw [List.length_take] at h
  omega
set_option maxHeartbeats 1000000 in
set_option maxRecDepth 100000 in
theorem refSort_any (w : World) (a : Option Addr) (n c : Nat) (l : List (List UInt8)) (hr : RdH w a n l) (h32 : ∀ x ∈ l, x.length = 32) (hn : n ≤ 100000) :
    Calls Tryz.prog 29 #[.slice a n c] w fun e w' => ∃ v, e = .returned v ∧ SlH w' 0 v (Rx.sortH l) ∧ Below w.heap.size w w' := by
  have HLN := Lib.hid hr.1
  have HR := Lib.hid hr
  have H32 := Lib.hid h32
  have HN := Lib.hid hn
  clear hr h32
  go_enter Tryz.func29, Tryz.ntmps29
  go_wp2
  go_loopw [3, 4] (fun ov kv wr => ∃ k : Nat, k ≤ n ∧ kv = .int .i64 (k : Int) ∧ Hid (SlH wr 0 ov (Rx.sortH (l.take k))) ∧ Hid (Below w.heap.size w wr)) (fun _ kv _ => n - (intOf kv).toNat)
  case atStart => exact ⟨0, Nat.zero_le _, rfl, Lib.hid ⟨none, 0, rfl, RdA.nil _ _, Nat.le_refl _, fun _ => rfl⟩, Lib.hid (Below.refl _ _)⟩
  case round =>
    obtain ⟨k, hk, rfl, HS, BR⟩ := hrel
    by_cases hlt : k < n
    · have d0 : decide ((k : Int) < (n : Int)) = true := decide_eq_true (by omega)
      have d0' : decide (k < n) = true := decide_eq_true hlt
      have i0 : (0 : Int) ≤ (k : Int) := by omega
      have i1 : (k : Int) < (n : Int) := by omega
      have hw := wrapi' ((k : Int) + 1) (by omega)
      have hx : l[k]? = some (l[k]'(by have := HLN.out; omega)) := List.getElem?_eq_getElem _
      generalize l[k]'(by have := HLN.out; omega) = x at hx
      obtain ⟨b, o, rfl, hbl, hp⟩ := (HR.out.below BR.out).at hx
      have HX : Hid (x.length = 32) := Lib.hid (H32.out x (List.mem_of_getElem? hx))
      have HP := Lib.hid hp
      obtain ⟨oa, oc, hov, s1, s2, s3⟩ := HS.out
      subst hov
      have hmem : ∀ y ∈ Rx.sortH (l.take k), y.length = 32 := fun y hy => by
        have := (Rx.sortH_spec _ (l.take k) rfl (fun z hz => H32.out z (List.mem_of_mem_take hz))).2 y
        exact H32.out y (List.mem_of_mem_take (this.1 hy))
      have hpt := refPut_any wr oa _ oc _ s1 s2 s3 hmem (by have := sortLoop_len l k; omega) x HX.out
      have HSX : Hid (Rx.sortH (l.take (k + 1)) = Rx.insH x (Rx.sortH (l.take k))) := Lib.hid (by rw [List.take_add_one, hx, Option.toList_some, Rx.sortH_snoc])
      rw [← show _ = _ from HSX.out] at hpt
      clear hx hbl hp s1 s2 s3 hmem HS
      go_wp2_with (refine wpL_load ?hw 42 (.tmp 14) rfl b (o + k * 32) rfl (hashC x) _ HP.out Tryz.underlying42 rfl (by rw [hashC_size _ HX.out]; exact sz_hash) ?_; case hw => kernel_rfl)
      refine hpt.mono ?_
      clear hpt
      rintro e w5 ⟨v5, rfl, s5, b5⟩
      have S5 := Lib.hid s5
      have B5 := Lib.hid (BR.out.trans (b5.mono BR.out.size))
      clear s5 b5
      go_wp2
      go_roundw
      case rel => exact ⟨k + 1, by omega, by go_num, S5, B5⟩
      case measure => simp [intOf]; omega
    · obtain rfl : k = n := by omega
      have d0 : decide ((k : Int) < (k : Int)) = false := decide_eq_false (by omega)
      have HF : Hid (l.take k = l) := Lib.hid (List.take_of_length_le (by rw [HLN.out]; exact Nat.le_refl _))
      rw [HF.out] at HS
      go_wp2
      go_ret
      exact ⟨_, rfl, HS.out, BR.out⟩
end Go.Proofs.YthampbiabkfmoaaGreatDoor
