/- The reference's Less, Begins, IsPrefix, SameHashes, Put, Sort: what they answer. -/
import Derived.Test.YthampbiabkfmoaaDoorRxGet
import Derived.Test.YthampbiabkfmoaaDoorRxPlain
namespace Go
namespace Tap
open Go.RowKit
set_option linter.unusedVariables false
theorem RdA.take {α : Type} {C : α → Array Value} {sz : Nat} {w : World} {a : Option Addr} {n : Nat} {l : List α} (h : RdA C sz w a n l) {k : Nat} (hk : k ≤ n) : RdA C sz w a k (l.take k) := by
  refine ⟨by rw [List.length_take, h.1]; omega, fun h0 => ?_⟩
  obtain ⟨b, o, e, hb, hc⟩ := h.2 (by omega)
  refine ⟨b, o, e, hb, fun j x hx => ?_⟩
  rw [List.getElem?_take] at hx
  split at hx
  · exact hc j x hx
  · cases hx
theorem RdA.drop {α : Type} {C : α → Array Value} {sz : Nat} {w : World} {a : Option Addr} {n c : Nat} {l : List α} (h : RdA C sz w a n l) {k : Nat} (hk : k ≤ n) (hnc : n ≤ c) : RdA C sz w (if c = k then a else a.map (·.add (k * sz))) (n - k) (l.drop k) := by
  refine ⟨by rw [List.length_drop, h.1], fun h0 => ?_⟩
  obtain ⟨b, o, e, hb, hc⟩ := h.2 (by omega)
  rw [if_neg (by omega), e]
  refine ⟨b, o + k * sz, by simp [Addr.add_lit], hb, fun j x hx => ?_⟩
  rw [List.getElem?_drop] at hx
  have := hc (k + j) x hx
  rw [Nat.add_mul] at this
  rw [Nat.add_assoc]; exact this
end Tap
end Go
namespace Go.Proofs.YthampbiabkfmoaaDoor
open Go.RowKit Go.Tap
set_option linter.unusedVariables false
set_option linter.unusedSimpArgs false
abbrev RdH (w : World) (a : Option Addr) (n : Nat) (l : List (List UInt8)) : Prop := RdA hashC 32 w a n l
theorem flatH_get (l : List (List UInt8)) (h : ∀ x ∈ l, x.length = 32) (i : Nat) (v : Value) (hv : (flatC hashC l)[i]? = some v) : ∃ x, l[i / 32]? = some x ∧ (hashC x)[i % 32]? = some v := by
  induction l generalizing i with
  | nil => simp [flatC] at hv
  | cons x r ih =>
    have hx := hashC_size x (h x (List.mem_cons_self ..))
    simp only [flatC, List.map_cons, List.flatten_cons] at hv ih
    by_cases hi : i < 32
    · rw [List.getElem?_append_left (by rw [Array.length_toList, hx]; exact hi)] at hv
      rw [Nat.div_eq_of_lt hi, Nat.mod_eq_of_lt hi]
      exact ⟨x, rfl, by simpa using hv⟩
    · rw [List.getElem?_append_right (by rw [Array.length_toList, hx]; omega), Array.length_toList, hx] at hv
      obtain ⟨y, h1, h2⟩ := ih (fun y hy => h y (List.mem_cons_of_mem _ hy)) (i - 32) hv
      rw [show i / 32 = (i - 32) / 32 + 1 by omega, show i % 32 = (i - 32) % 32 by omega]
      exact ⟨y, by simpa using h1, h2⟩
theorem flatH_one (l : List (List UInt8)) : ∀ v ∈ flatC hashC l, v.oneCell' = true := by
  intro v hv
  simp only [flatC, List.mem_flatten, List.mem_map] at hv
  obtain ⟨L, ⟨x, _, rfl⟩, hm⟩ := hv
  exact hashC_one' x v hm
theorem flatC_app {α : Type} (C : α → Array Value) (l m : List α) : flatC C (l ++ m) = flatC C l ++ flatC C m := by simp [flatC]
/-- 'append(s, x...)' of hashes that are read. -/
theorem wpL_appHs (w : World) {ops : Array Oper} {rest : List Oper} {o : Oper} {a : Act} {Q : Exit → Act → World → Prop} (hgd : o.guard = none) (s x : Operand)
    (ho : o.op = .call { callee := .builtin .append, args := #[s, x], argTypes := #[71, 71] })
    (base : Nat) (v : Value) (xs : List (List UInt8)) (hs : a.eval s = v) (hown : OwnH w base v xs)
    (ao : Option Addr) (m c : Nat) (hx : a.eval x = .slice ao m c) (hnone : ao = none → c = 0) (l : List (List UInt8)) (hr : RdH w ao m l) (h32 : ∀ x ∈ l, x.length = 32)
    (hb : xs.length + m ≤ 1000000) (hbase : base ≤ w.heap.size)
    (h : ∀ v' w', OwnH w' base v' (xs ++ l) → w.grownBy w' v.ownBlock → wpList Tryd.prog ops Q rest (a.put o.dst v') w') : wpList Tryd.prog ops Q (o :: rest) a w := by
  obtain ⟨i, hi, hz, hsize, hby⟩ := info_parts in_hash
  have hl := hr.1
  cases ao with
  | none =>
    obtain rfl := hnone rfl
    have hm : m = 0 := by
      rcases Nat.eq_zero_or_pos m with h0 | h0
      · exact h0
      · obtain ⟨_, _, e, _⟩ := hr.2 h0; cases e
    subst hm
    have : l = [] := List.eq_nil_of_length_eq_zero hl
    subst this
    refine wpList_append_own_none hgd s x 71 ho base 40 i 32 Tryd.underlying71 hi v xs.length (flatC hashC xs) hs hown hx ?_
    exact h v w (by simpa using hown) (World.grownBy.refl _ _)
  | some ad =>
    refine wpList_append_own w hgd s x 71 ho base 40 i (.agg (hashC Wi.z32)) 32 32 Tryd.underlying71 hi hz hsize hby (hashC_size _ rfl) (by decide) v xs.length (flatC hashC xs) hs hown ad m c (flatC hashC l) hx (by rw [flatC_length (sz := 32) (fun x hx => hashC_size x (h32 x hx)), hl]) ?_ (flatH_one l) (by unfold maxLen; omega) (by omega) hbase ?_
    · intro j u hu
      obtain ⟨y, hy, hv⟩ := flatH_get l h32 j u hu
      obtain ⟨b, o', e1, hbl, hc⟩ := hr.2 (by have := (List.getElem?_eq_some_iff.1 hy).1; omega)
      simp at e1; subst e1
      rw [Addr.add_lit]
      have := hc (j / 32) y hy (j % 32) u hv
      rw [show o' + j = o' + j / 32 * 32 + j % 32 by omega]
      exact this
    · intro v' w' h1 h2 _
      refine h v' w' ?_ h2
      show w'.ownsRow base _ _ v' (xs ++ l).length (flatC hashC (xs ++ l))
      rw [flatC_app, List.length_append, hl]; exact h1
end Go.Proofs.YthampbiabkfmoaaDoor
/- The reference's IsPrefix, Put, Sort: what they answer. -/
namespace Go.Proofs.YthampbiabkfmoaaDoor
open Go.RowKit Go.Tap
set_option linter.unusedVariables false
set_option linter.unusedSimpArgs false
set_option maxHeartbeats 1000000 in
theorem refDigit_any (w : World) (c : UInt8) : Calls Tryd.prog 116 #[.int .u8 (c.toNat : Int)] w fun e w' => e = .returned (.int .i64 (Wi.digN c)) ∧ w = w' := by
  have hc := c.toNat_lt
  unfold Wi.digN
  by_cases h1 : 48 ≤ c.toNat ∧ c.toNat ≤ 57
  · rw [if_pos h1]
    have a1 : (48 : Int) ≤ (c.toNat : Int) := by omega
    have a2 : (c.toNat : Int) ≤ 57 := by omega
    have w2 : ((c.toNat : Int) - 48) % 256 = (c.toNat : Int) - 48 := by omega
    clear h1
    go_enter Tryd.func116, Tryd.ntmps116
    go_wp2
    go_ret
    exact ⟨by first | rfl | (congr 1), rfl⟩
  · rw [if_neg h1]
    by_cases h2 : 97 ≤ c.toNat ∧ c.toNat ≤ 102
    · rw [if_pos h2]
      have a0 : ¬ (c.toNat : Int) ≤ 57 := by omega
      have a00 : (48 : Int) ≤ (c.toNat : Int) := by omega
      have a1 : (97 : Int) ≤ (c.toNat : Int) := by omega
      have a2 : (c.toNat : Int) ≤ 102 := by omega
      have w2 : ((c.toNat : Int) - 97) % 256 = (c.toNat : Int) - 97 := by omega
      have w3 : IntKind.i64.wrap ((c.toNat : Int) - 97 + 10) = (c.toNat : Int) - 87 := by rw [wrapi' _ (by omega)]; omega
      clear h1 h2
      go_enter Tryd.func116, Tryd.ntmps116
      go_wp2
      all_goals go_ret
      all_goals exact ⟨rfl, rfl⟩
    · rw [if_neg h2]
      have H1 := Lib.hid (And.intro h1 h2)
      clear h1 h2
      go_enter Tryd.func116, Tryd.ntmps116
      go_wp2
      all_goals first | (exfalso; have := H1.out; omega) | (go_ret; exact ⟨rfl, rfl⟩)
set_option maxHeartbeats 1000000 in
set_option maxRecDepth 100000 in
theorem refIsPrefix_any (w : World) (l : List UInt8) (hl : l.length ≤ 140737488351232) : Calls Tryd.prog 102 #[.string (str l)] w fun e w' => e = .returned (.bool (Wi.isPre l)) ∧ w = w' := by
  obtain ⟨r, hr⟩ : ∃ r, r = Wi.isPre l := ⟨_, rfl⟩
  rw [← hr]
  have HR := Lib.hid hr
  have HL := Lib.hid hl
  have z1 := str_size l
  clear hr hl
  go_enter Tryd.func102, Tryd.ntmps102
  go_wp2
  go_loop [3] (fun kv => ∃ k : Nat, k ≤ l.length ∧ kv = .int .i64 (k : Int) ∧ Hid ((l.take k).all Wi.dig = true)) (fun kv => l.length - (intOf kv).toNat)
  case atStart => exact ⟨0, Nat.zero_le _, rfl, Lib.hid rfl⟩
  case round =>
    obtain ⟨k, hk, rfl, HE⟩ := hrel
    by_cases hlt : k < l.length
    · have d0 : decide ((k : Int) < (l.length : Int)) = true := decide_eq_true (by omega)
      have d0' : decide (k < l.length) = true := decide_eq_true hlt
      have i0 : (0 : Int) ≤ (k : Int) := by omega
      have i1 : (k : Int) < (l.length : Int) := by omega
      have hx : l[k]? = some (l[k]'hlt) := List.getElem?_eq_getElem _
      generalize l[k]'hlt = x at hx
      have hg : ∀ p, (str l)[k]'p = x := fun p => by
        have := (List.getElem?_eq_some_iff.1 hx).2
        rw [← this]; rfl
      have hw := wrapi' ((k : Int) + 1) (by have := HL.out; omega)
      have hdg := Wi.digN_neg x
      have HX := Lib.hid hx
      have HG := Lib.hid hg
      clear hx hg
      go_wp2_with fail
      rw [HG.out]
      refine (refDigit_any _ x).mono ?_
      rintro e w' ⟨rfl, rfl⟩
      cases hd : Wi.dig x
      · rw [hd, Bool.not_false] at hdg
        have HD := Lib.hid hd
        clear hd
        go_wp2
        go_ret
        refine ⟨?_, rfl⟩
        rw [HR.out]
        have : Wi.isPre l = false := by
          unfold Wi.isPre
          have : l.all Wi.dig = false := by
            rw [List.all_eq_false]
            exact ⟨x, List.mem_of_getElem? HX.out, by rw [HD.out]; decide⟩
          rw [this]; rfl
        rw [this]; first | done | rfl
      · rw [hd, Bool.not_true] at hdg
        have HD := Lib.hid hd
        clear hd
        go_wp2
        go_round
        case rel => exact ⟨k + 1, by omega, by go_num, Lib.hid (by rw [List.take_add_one, HX.out, Option.toList_some, List.all_append, HE.out]; simp [HD.out])⟩
        case measure => simp [intOf]; omega
    · obtain rfl : k = l.length := by omega
      have d0 : decide ((l.length : Int) < (l.length : Int)) = false := decide_eq_false (by omega)
      have hal : l.all Wi.dig = true := by have := HE.out; rwa [List.take_length] at this
      have HF : Hid (r = (decide ((1 : Int) ≤ (l.length : Int)) && decide ((l.length : Int) ≤ 64))) := Lib.hid (by
        rw [HR.out, Wi.isPre, hal, Bool.true_and]
        congr 1
        · rw [decide_eq_decide]; cases l with
          | nil => simp
          | cons y r => simp only [List.length_cons]; constructor
                        · intro _; omega
                        · intro _ e; cases e
        · rw [decide_eq_decide]; omega)
      clear hal HE hlt hk
      go_wp2
      all_goals go_ret
      all_goals (refine ⟨ret_bool ?_, rfl⟩; rw [HF.out]; try simp [*]; try (intros; omega))
theorem own_emptyH (w : World) : OwnH (w.alloc (.cells #[] 40)) w.heap.size (.slice (some ⟨w.heap.size, 0, none⟩) 0 0) [] :=
  ⟨rfl, .inr ⟨w.heap.size, 0, #[], rfl, Nat.le_refl _, heap_alloc_new w _, Nat.le_refl _, Nat.zero_le _, rfl, rfl⟩⟩
/-- A slice of hashes: what can be said of it. -/
def SlH (w : World) (lo : Nat) (v : Value) (l : List (List UInt8)) : Prop := ∃ a c, v = .slice a l.length c ∧ RdH w a l.length l ∧ l.length ≤ c ∧ (a = none → c = 0)
theorem SlH.of_own {w : World} {base : Nat} {v : Value} {l : List (List UInt8)} (h : OwnH w base v l) (h32 : ∀ x ∈ l, x.length = 32) : SlH w 0 v l := by
  obtain ⟨a, c, rfl, h1, _, h2, _⟩ := ownsRow_slice h
  exact ⟨a, c, rfl, RdA.of_own h rfl (fun x hx => hashC_size x (h32 x hx)), h1, h2⟩
theorem SlH.below {w w' : World} {lo : Nat} {v : Value} {l : List (List UInt8)} (h : SlH w lo v l) (hb : Below w.heap.size w w') : SlH w' lo v l := by
  obtain ⟨a, c, e, h1, h2, h3⟩ := h
  exact ⟨a, c, e, h1.below hb, h2, h3⟩
theorem sortLoop_len (l : List (List UInt8)) (k : Nat) : (Rx.sortH (l.take k)).length ≤ k := by
  have h := Rx.sortH_len (l.take k) (l.take k).length _ rfl (Nat.le_refl _)
  rw [List.length_take] at h
  omega
end Go.Proofs.YthampbiabkfmoaaDoor
