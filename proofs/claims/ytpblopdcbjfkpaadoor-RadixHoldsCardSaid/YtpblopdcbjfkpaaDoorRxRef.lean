/- The reference's Less, Begins, IsPrefix, SameHashes, Put, Sort: what they answer. -/
import Derived.Test.YtpblopdcbjfkpaaDoorRxAll
import Derived.Test.YtpblopdcbjfkpaaDoorRxOrd
namespace Go
namespace Tap
open Go.RowKit
set_option linter.unusedVariables false
theorem RdA.take {α : Type} {C : α → Array Value} {sz : Nat} {w : World} {a : Option Addr} {n : Nat} {l : List α} (h : RdA C sz w a n l) {k : Nat} (hk : k ≤ n) : RdA C sz w a k (l.take k) := by
  refine ⟨by rw [List.length_take, h.1]; omega, fun h0 => ?_⟩
  obtain ⟨b, o, e, hb, hc⟩ := h.2 (by omega)
  refine ⟨b, o, e, hb, fun j x hx => ?_⟩
  rw [List.getElem?_take] at hx
  split at hx
  · exact hc j x hx
  · cases hx
theorem RdA.drop {α : Type} {C : α → Array Value} {sz : Nat} {w : World} {a : Option Addr} {n c : Nat} {l : List α} (h : RdA C sz w a n l) {k : Nat} (hk : k ≤ n) (hnc : n ≤ c) : RdA C sz w (if c = k then a else a.map (·.add (k * sz))) (n - k) (l.drop k) := by
  refine ⟨by rw [List.length_drop, h.1], fun h0 => ?_⟩
  obtain ⟨b, o, e, hb, hc⟩ := h.2 (by omega)
  rw [if_neg (by omega), e]
  refine ⟨b, o + k * sz, by simp [Addr.add_lit], hb, fun j x hx => ?_⟩
  rw [List.getElem?_drop] at hx
  have := hc (k + j) x hx
  rw [Nat.add_mul] at this
  rw [Nat.add_assoc]; exact this
end Tap
end Go
namespace Go.Proofs.YtpblopdcbjfkpaaDoor
open Go.RowKit Go.Tap
set_option linter.unusedVariables false
set_option linter.unusedSimpArgs false
abbrev RdH (w : World) (a : Option Addr) (n : Nat) (l : List (List UInt8)) : Prop := RdA hashC 32 w a n l
theorem flatH_get (l : List (List UInt8)) (h : ∀ x ∈ l, x.length = 32) (i : Nat) (v : Value) (hv : (flatC hashC l)[i]? = some v) : ∃ x, l[i / 32]? = some x ∧ (hashC x)[i % 32]? = some v := by
  induction l generalizing i with
  | nil => simp [flatC] at hv
  | cons x r ih =>
    have hx := hashC_size x (h x (List.mem_cons_self ..))
    simp only [flatC, List.map_cons, List.flatten_cons] at hv ih
    by_cases hi : i < 32
    · rw [List.getElem?_append_left (by rw [Array.length_toList, hx]; exact hi)] at hv
      rw [Nat.div_eq_of_lt hi, Nat.mod_eq_of_lt hi]
      exact ⟨x, rfl, by simpa using hv⟩
    · rw [List.getElem?_append_right (by rw [Array.length_toList, hx]; omega), Array.length_toList, hx] at hv
      obtain ⟨y, h1, h2⟩ := ih (fun y hy => h y (List.mem_cons_of_mem _ hy)) (i - 32) hv
      rw [show i / 32 = (i - 32) / 32 + 1 by omega, show i % 32 = (i - 32) % 32 by omega]
      exact ⟨y, by simpa using h1, h2⟩
theorem flatH_one (l : List (List UInt8)) : ∀ v ∈ flatC hashC l, v.oneCell' = true := by
  intro v hv
  simp only [flatC, List.mem_flatten, List.mem_map] at hv
  obtain ⟨L, ⟨x, _, rfl⟩, hm⟩ := hv
  exact hashC_one' x v hm
theorem flatC_app {α : Type} (C : α → Array Value) (l m : List α) : flatC C (l ++ m) = flatC C l ++ flatC C m := by simp [flatC]
/-- 'append(s, x...)' of hashes that are read. -/
theorem wpL_appHs (w : World) {ops : Array Oper} {rest : List Oper} {o : Oper} {a : Act} {Q : Exit → Act → World → Prop} (hgd : o.guard = none) (s x : Operand)
    (ho : o.op = .call { callee := .builtin .append, args := #[s, x], argTypes := #[28, 28] })
    (base : Nat) (v : Value) (xs : List (List UInt8)) (hs : a.eval s = v) (hown : OwnH w base v xs)
    (ao : Option Addr) (m c : Nat) (hx : a.eval x = .slice ao m c) (hnone : ao = none → c = 0) (l : List (List UInt8)) (hr : RdH w ao m l) (h32 : ∀ x ∈ l, x.length = 32)
    (hb : xs.length + m ≤ 1000000) (hbase : base ≤ w.heap.size)
    (h : ∀ v' w', OwnH w' base v' (xs ++ l) → w.grownBy w' v.ownBlock → wpList Tryd.prog ops Q rest (a.put o.dst v') w') : wpList Tryd.prog ops Q (o :: rest) a w := by
  obtain ⟨i, hi, hz, hsize, hby⟩ := info_parts in_hash
  have hl := hr.1
  cases ao with
  | none =>
    obtain rfl := hnone rfl
    have hm : m = 0 := by
      rcases Nat.eq_zero_or_pos m with h0 | h0
      · exact h0
      · obtain ⟨_, _, e, _⟩ := hr.2 h0; cases e
    subst hm
    have : l = [] := List.eq_nil_of_length_eq_zero hl
    subst this
    refine wpList_append_own_none hgd s x 28 ho base 33 i 32 Tryd.underlying28 hi v xs.length (flatC hashC xs) hs hown hx ?_
    exact h v w (by simpa using hown) (World.grownBy.refl _ _)
  | some ad =>
    refine wpList_append_own w hgd s x 28 ho base 33 i (.agg (hashC Wi.z32)) 32 32 Tryd.underlying28 hi hz hsize hby (hashC_size _ rfl) (by decide) v xs.length (flatC hashC xs) hs hown ad m c (flatC hashC l) hx (by rw [flatC_length (sz := 32) (fun x hx => hashC_size x (h32 x hx)), hl]) ?_ (flatH_one l) (by unfold maxLen; omega) (by omega) hbase ?_
    · intro j u hu
      obtain ⟨y, hy, hv⟩ := flatH_get l h32 j u hu
      obtain ⟨b, o', e1, hbl, hc⟩ := hr.2 (by have := (List.getElem?_eq_some_iff.1 hy).1; omega)
      simp at e1; subst e1
      rw [Addr.add_lit]
      have := hc (j / 32) y hy (j % 32) u hv
      rw [show o' + j = o' + j / 32 * 32 + j % 32 by omega]
      exact this
    · intro v' w' h1 h2 _
      refine h v' w' ?_ h2
      show w'.ownsRow base _ _ v' (xs ++ l).length (flatC hashC (xs ++ l))
      rw [flatC_app, List.length_append, hl]; exact h1
set_option maxHeartbeats 1000000 in
set_option maxRecDepth 100000 in
theorem less_any (w : World) (a b : List UInt8) (ha : a.length = 32) (hb : b.length = 32) : Calls Tryd.prog 117 #[.agg (hashC a), .agg (hashC b)] w fun e w' => e = .returned (.bool (Rx.lessB a b)) ∧ Below w.heap.size w w' := by
  obtain ⟨C, hC⟩ : ∃ C, C = hashC a := ⟨_, rfl⟩
  obtain ⟨D, hD⟩ : ∃ D, D = hashC b := ⟨_, rfl⟩
  obtain ⟨W1, hW1⟩ : ∃ W1, W1 = (w.alloc (.cells C 33)).alloc (.cells D 33) := ⟨_, rfl⟩
  have b1 : Below w.heap.size w W1 := by rw [hW1]; exact ((Below.refl _ _).alloc (Nat.le_refl _) _).alloc (by simp) _
  have B1 := Lib.hid b1
  have CA : Hid (∀ k x, a[k]? = some x → ∀ q, (W1.drewN q).cell? ⟨w.heap.size, k, none⟩ = some (.int .u8 (x.toNat : Int))) := Lib.hid (fun k x hx q => by
    have : W1.heap[w.heap.size]? = some (.cells C 33 (0, 0)) := by rw [hW1]; exact heap_alloc2_old _ _ _
    exact blk_cell (w := W1) (i := k) this (by rw [hC]; simp [hashC, bv_getElem?, hx]))
  have CB : Hid (∀ k x, b[k]? = some x → ∀ q, (W1.drewN q).cell? ⟨w.heap.size + 1, k, none⟩ = some (.int .u8 (x.toNat : Int))) := Lib.hid (fun k x hx q => by
    have : W1.heap[w.heap.size + 1]? = some (.cells D 33 (0, 0)) := by rw [hW1]; exact heap_alloc2_new _ _ _
    exact blk_cell (w := W1) (i := k) this (by rw [hD]; simp [hashC, bv_getElem?, hx]))
  rw [← hC, ← hD]
  obtain ⟨r, hr⟩ : ∃ r, r = Rx.lessB a b := ⟨_, rfl⟩
  rw [← hr]
  have HR := Lib.hid hr
  have HA := Lib.hid ha
  have HB := Lib.hid hb
  clear hC hD b1 hr ha hb
  go_enter Tryd.func117, Tryd.ntmps117
  go_upto_region 1 with (fail)
  rw [← hW1]
  clear hW1
  go_wp2
  go_loopw [5] (fun kv wr => ∃ k q : Nat, k ≤ 32 ∧ kv = .int .i64 (k : Int) ∧ wr = W1.drewN q ∧ Hid (a.take k = b.take k)) (fun kv _ => 32 - (intOf kv).toNat)
  case atStart => exact ⟨0, 0, Nat.zero_le _, rfl, rfl, Lib.hid (by rw [List.take_zero, List.take_zero])⟩
  case round =>
    obtain ⟨k, q, hk, rfl, rfl, HE⟩ := hrel
    by_cases hlt : k < 32
    · have d0 : decide ((k : Int) < 32) = true := decide_eq_true (by omega)
      have i0 : (0 : Int) ≤ (k : Int) := by omega
      have i1 : (k : Int) < 32 := by omega
      have hw := wrapi' ((k : Int) + 1) (by omega)
      have hx : a[k]? = some (a[k]'(by have := HA.out; omega)) := List.getElem?_eq_getElem _
      generalize a[k]'(by have := HA.out; omega) = x at hx
      have hy : b[k]? = some (b[k]'(by have := HB.out; omega)) := List.getElem?_eq_getElem _
      generalize b[k]'(by have := HB.out; omega) = y at hy
      have ca := CA.out k x hx q
      have cb := CB.out k y hy q
      have ca2 : Hid (∀ q, (W1.drewN q).cell? ⟨w.heap.size, k, none⟩ = some (.int .u8 (x.toNat : Int))) := Lib.hid (CA.out k x hx)
      have cb2 : Hid (∀ q, (W1.drewN q).cell? ⟨w.heap.size + 1, k, none⟩ = some (.int .u8 (y.toNat : Int))) := Lib.hid (CB.out k y hy)
      generalize hwq : W1.drewN q = wq at ca cb ⊢
      have HXY := Lib.hid (And.intro hx hy)
      clear hx hy
      by_cases hxy : x = y
      · subst hxy
        have q0 : ((x.toNat : Int) == (x.toNat : Int)) = true := by simp
        go_wp2_with fail
        go_quiet (fail)
        go_wp2
        go_roundw
        case rel =>
          exact ⟨k + 1, _, by omega, by go_num, by rw [← hwq, World.drewN_drewN], Lib.hid (by rw [List.take_add_one, List.take_add_one, HE.out, HXY.out.1, HXY.out.2])⟩
        case measure => simp [intOf]; omega
      · have q0 : ((x.toNat : Int) == (y.toNat : Int)) = false := by simp; intro h; exact hxy (UInt8.toNat_inj.1 (by omega))
        have HF : Hid (r = decide ((x.toNat : Int) < (y.toNat : Int))) := Lib.hid (by rw [HR.out, Rx.lessB_at a b k x y HE.out HXY.out.1 HXY.out.2 hxy]; rw [decide_eq_decide]; omega)
        have BQ : Hid (Below w.heap.size w wq) := Lib.hid (by rw [← hwq]; exact bel_drewN B1.out q)
        clear hxy
        go_wp2_with fail
        go_quiet (fail)
        go_wp2_with fail
        go_quiet (fail)
        go_wp2
        go_ret
        refine ⟨ret_bool (by rw [HF.out]; first | done | rfl | (rw [decide_eq_decide]; omega)), ?_⟩
        first | exact bel_drewN (bel_drewN BQ.out _) _ | exact bel_drewN BQ.out _
    · obtain rfl : k = 32 := by omega
      have HF : Hid (r = false) := Lib.hid (by
        have : a = b := by have h := HE.out; rwa [List.take_of_length_le (by rw [HA.out]; exact Nat.le_refl _), List.take_of_length_le (by rw [HB.out]; exact Nat.le_refl _)] at h
        rw [HR.out, this, Rx.lessB_same])
      go_wp2
      go_ret
      exact ⟨ret_bool (by rw [HF.out]), bel_drewN B1.out _⟩
set_option maxHeartbeats 1000000 in
set_option maxRecDepth 100000 in
theorem refBegins_any (w : World) (h s : List UInt8) (hl : h.length = 32) (hs : s.length ≤ 140737488351232) : Calls Tryd.prog 42 #[.agg (hashC h), .string (str s)] w fun e w' => e = .returned (.bool (Wi.beg h s)) ∧ Below w.heap.size w w' := by
  have hln : (Wi.hexT h).length = 64 := by rw [Wi.hexT_len, hl]
  obtain ⟨C, hC⟩ : ∃ C, C = hashC h := ⟨_, rfl⟩
  have SC : Hid (C.size = 32) := Lib.hid (by rw [hC]; exact hashC_size h hl)
  obtain ⟨W1, hW1⟩ : ∃ W1, W1 = w.alloc (.cells C 33) := ⟨_, rfl⟩
  have b1 : Below w.heap.size w W1 := by rw [hW1]; exact (Below.refl _ _).alloc (Nat.le_refl _) _
  have PT : Hid (Part W1 w.heap.size 0 C) := Lib.hid (Part.of_blk (by rw [hW1]; exact heap_alloc_new _ _))
  have ht := text_any W1 h hl
  rw [← hC] at ht ⊢
  obtain ⟨X, hX⟩ : ∃ X, X = Wi.hexT h := ⟨_, rfl⟩
  rw [← hX] at ht hln
  have B1 := Lib.hid b1
  have z1 := str_size s
  have HX := Lib.hid hX
  have HLN := Lib.hid hln
  clear hC b1 hX hl
  go_enter Tryd.func42, Tryd.ntmps42
  go_upto_region 1 with (fail)
  rw [← hW1]
  clear hW1
  go_wp2_with (refine wpL_load ?hw 33 (.tmp 2) rfl w.heap.size 0 rfl C _ PT.out Tryd.underlying33 rfl (by rw [SC.out]; exact sz_hash) ?_; case hw => kernel_rfl)
  refine ht.mono ?_
  clear ht
  rintro e w2 ⟨rfl, b2⟩
  have B2 := Lib.hid (B1.out.trans (b2.mono B1.out.size))
  clear b2 hln
  by_cases h64 : s.length ≤ 64
  · have d0 : decide ((s.length : Int) ≤ 64) = true := decide_eq_true (by omega)
    have hsl := sl_to X s.length (by rw [HLN.out]; exact h64)
    obtain ⟨q, hq⟩ : ∃ q, q = X.take s.length := ⟨_, rfl⟩
    rw [← hq] at hsl
    obtain ⟨b, hb⟩ : ∃ b, b = decide (q = s) := ⟨_, rfl⟩
    have e1 : (q == s) = b := by rw [hb]; by_cases h : q = s <;> simp [h]
    have e2 : ((str q).toList == (str s).toList) = b := by rw [str_toList, str_toList, e1]
    have HB : Hid (Wi.beg h s = b) := Lib.hid (by rw [Wi.beg, decide_eq_true h64, Bool.true_and, hb, hq, HX.out])
    clear hq hb h64
    go_wp2
    go_ret
    exact ⟨ret_bool (by rw [HB.out]), B2.out⟩
  · have d0 : decide ((s.length : Int) ≤ 64) = false := decide_eq_false (by omega)
    have HB : Hid (Wi.beg h s = false) := Lib.hid (by rw [Wi.beg, decide_eq_false h64, Bool.false_and])
    clear h64
    go_wp2
    go_ret
    exact ⟨ret_bool (by rw [HB.out]), B2.out⟩
set_option maxHeartbeats 1000000 in
set_option maxRecDepth 100000 in
theorem sameHashes_yes (w : World) (a : Option Addr) (n c : Nat) (l : List (List UInt8)) (hr : RdH w a n l) (ho : ∀ i ∈ l, i.length = 32) (a2 : Option Addr) (d : Nat) (hr2 : RdH w a2 n l) (hn : n ≤ 1000000) :
    Calls Tryd.prog 40 #[.slice a n c, .slice a2 n d] w fun e w' => e = .returned (.bool true) ∧ Below w.heap.size w w' := by
  have HL := Lib.hid hr.1
  have HR := Lib.hid hr
  have HR2 := Lib.hid hr2
  have HO := Lib.hid ho
  have q0 : ((n : Int) == (n : Int)) = true := by simp
  clear hr hr2 ho
  go_enter Tryd.func40, Tryd.ntmps40
  go_wp2
  go_loopw [5] (fun kv wr => ∃ k q : Nat, k ≤ n ∧ kv = .int .i64 (k : Int) ∧ wr = w.drewN q) (fun kv _ => n - (intOf kv).toNat)
  case atStart => exact ⟨0, 0, Nat.zero_le _, rfl, rfl⟩
  case round =>
    obtain ⟨k, q, hk, rfl, rfl⟩ := hrel
    by_cases hlt : k < n
    · have d0 : decide ((k : Int) < (n : Int)) = true := decide_eq_true (by omega)
      have d0' : decide (k < n) = true := decide_eq_true hlt
      have d1 : (k : Int) < (n : Int) := by omega
      have d2 : (0 : Int) ≤ (k : Int) := by omega
      have hx : l[k]? = some (l[k]'(by have := HL.out; omega)) := List.getElem?_eq_getElem _
      generalize l[k]'(by have := HL.out; omega) = x at hx
      obtain ⟨b, o, rfl, hc⟩ := HR.out.2 (by omega)
      obtain ⟨b2, o2, rfl, hc2⟩ := HR2.out.2 (by omega)
      have HX := Lib.hid (HO.out x (List.mem_of_getElem? hx))
      have g1 : Hid (Part (w.drewN q) b (o + k * 32) (hashC x)) := Lib.hid ((hc.2 k x hx).keep rfl)
      have g2 : Hid (Part (w.drewN q) b2 (o2 + k * 32) (hashC x)) := Lib.hid ((hc2.2 k x hx).keep rfl)
      have hw := wrapi' ((k : Int) + 1) (by omega)
      generalize hwq : w.drewN q = wq at g1 g2 ⊢
      have Q0 : Hid (∀ w, (binOp .neq 33 (.agg (hashC x)) (.agg (hashC x))).run Tryd.prog w = .ok (.bool false) w) := Lib.hid (fun w => by rw [cmp_hash_ne x x HX.out HX.out, decide_eq_true rfl]; rfl)
      clear hc hc2 hx
      go_wp2_with fail
      refine wp_region_quiet_lit (by kernel_rfl) (by kernel_rfl) ?_
      repeat (go_big_quiet_step (fail))
      refine wpQuiet_load (by kernel_rfl) 33 (.tmp 19) rfl b (o + k * 32) rfl (hashC x) _ g1.out Tryd.underlying33 rfl (by rw [hashC_size _ HX.out]; exact sz_hash) ?_
      simp only [Act.put, List.setIfInBounds_toArray, List.set_cons_zero, List.set_cons_succ]
      repeat (go_big_quiet_step (fail))
      refine wpQuiet_load (by kernel_rfl) 33 (.tmp 23) rfl b2 (o2 + k * 32) rfl (hashC x) _ g2.out Tryd.underlying33 rfl (by rw [hashC_size _ HX.out]; exact sz_hash) ?_
      simp only [Act.put, List.setIfInBounds_toArray, List.set_cons_zero, List.set_cons_succ]
      refine wpQuiet_cmp (by kernel_rfl) .neq 33 33 (.tmp 20) (.tmp 24) rfl (hashC x) (hashC x) rfl rfl gd_hash false Q0.out ?_
      refine wpQuiet_nil ?_
      intro _ hw'
      obtain ⟨nq, hw2⟩ := hw'
      subst hw2
      go_wp2
      go_roundw
      case rel => exact ⟨k + 1, q + nq, by omega, by go_num, by rw [← hwq, World.drewN_drewN]⟩
      case measure => simp [intOf]; omega
    · obtain rfl : k = n := by omega
      have d0 : decide ((k : Int) < (k : Int)) = false := decide_eq_false (by omega)
      go_wp2
      go_ret
      exact ⟨rfl, ⟨rfl, rfl, rfl, Nat.le_refl _, fun _ _ => rfl⟩⟩
end Go.Proofs.YtpblopdcbjfkpaaDoor
