/- (*node).list: what it answers. -/
import Derived.Test.YtpblopdcbjfkpaaDoorRxGet
namespace Go.Proofs.YtpblopdcbjfkpaaDoor
open Go.RowKit Go.Tap
set_option linter.unusedVariables false
set_option linter.unusedSimpArgs false
theorem in_hash : (Tryd.prog.info? 33).map (fun i => (i.zero, i.size, i.bytes)) = some (some (.agg (hashC Wi.z32)), 32, 32) := by kernel_rfl
abbrev OwnH (w : World) (base : Nat) (v : Value) (l : List (List UInt8)) : Prop := w.ownsRow base 33 32 v l.length (flatC hashC l)
theorem hashC_one' (h : List UInt8) : ∀ v ∈ (hashC h).toList, v.oneCell' = true := by
  intro v hv
  exact bv_one h v (by simpa [hashC] using hv)
theorem wpL_appH (w : World) {ops : Array Oper} {rest : List Oper} {o : Oper} {a : Act} {Q : Exit → Act → World → Prop} (hgd : o.guard = none) (s x : Operand)
    (ho : o.op = .call { callee := .builtin .append, args := #[s, x], argTypes := #[28, 28] })
    (base : Nat) (v : Value) (l : List (List UInt8)) (hs : a.eval s = v) (hown : OwnH w base v l) (B : Nat) (i : List UInt8) (hi : i.length = 32) (hx : a.eval x = .slice (some ⟨B, 0, none⟩) 1 1) (hb : w.heap[B]? = some (.cells (hashC i) 33 (0, 0)))
    (hl : l.length ≤ 1000000) (hbase : base ≤ w.heap.size)
    (h : ∀ v' w', OwnH w' base v' (l ++ [i]) → w.grownBy w' v.ownBlock → wpList Tryd.prog ops Q rest (a.put o.dst v') w') : wpList Tryd.prog ops Q (o :: rest) a w := by
  obtain ⟨i0, hi0, hz0, hz1, hz2⟩ := info_parts in_hash
  refine wpList_append_one w hgd s x 28 ho base 33 i0 _ 32 32 Tryd.underlying28 hi0 hz0 hz1 hz2 (by decide) (by omega) v l.length (flatC hashC l) hs hown B 1 (hashC i) 33 hx hb (by rw [Array.length_toList, hashC_size i hi]) (hashC_one' i) (by omega) (by omega) hbase ?_
  intro v' w' h1 h2
  refine h v' w' ?_ h2
  have : OwnH w' base v' (l ++ [i]) := by
    show w'.ownsRow base _ _ v' (l ++ [i]).length (flatC hashC (l ++ [i]))
    rw [flatC_snoc, List.length_append]; exact h1
  exact this
def ListOK (t : Rx.T) : Prop := ∀ (w : World) (p : List Nat) (base : Nat) (v : Value) (l : List (List UInt8)) (s : List UInt8) (m : Nat), At w t → Rx.ok t p → (∀ x, Rx.mem t x → x < base) → OwnH w base v l → base ≤ w.heap.size → l.length ≤ 1000000 → m ≤ 1000000 → s.length ≤ 1000 →
  Calls Tryd.prog 76 #[ptrV t.ptr, v, .string (str s), .int .i64 (m : Int)] w fun e w' => ∃ v', e = .returned v' ∧ OwnH w' base v' (Rx.lst (fun h => Wi.beg h s) t m l) ∧ Below base w w'
set_option maxHeartbeats 1000000 in
set_option maxRecDepth 100000 in
theorem list_nil : ListOK .nil := by
  intro w p base v l s m _ _ _ hown _ _ _ _
  have HO := Lib.hid hown
  show Calls Tryd.prog 76 #[.pointer none, v, .string (str s), .int .i64 (m : Int)] w _
  clear hown
  go_enter Tryd.func76, Tryd.ntmps76
  go_wp2
  go_ret
  exact ⟨v, rfl, HO.out, Below.refl _ _⟩
theorem idx_kids (kids : Nat → Value) (k : Nat) (hk : k < 16) (w : World) : (Instr.index 158 (.agg (kidL kids).toArray) (.int .i64 (k : Int))).run Tryd.prog w = .ok (kids k) w :=
  run_idx 158 94 16 _ k _ Tryd.underlying158 hk (by simp [kidL, hk]) Tryd.isAgg94 Tryd.sizeOf94 w
theorem sz_kids (kids : Nat → Value) : (Tryd.prog.info? 158).map (·.size) = some (kidL kids).toArray.size := by
  have : (kidL kids).toArray.size = 16 := by simp [kidL_length]
  exact (show (Tryd.prog.info? 158).map (·.size) = some 16 by kernel_rfl).trans (by rw [this])
theorem nodeC_kids {kids : Nat → Value} {leaf : Bool} {h : List UInt8} {n s : Int} : (nodeC kids leaf h n s).extract 0 (0 + 16) = (kidL kids).toArray := by
  apply Array.ext'
  simp only [nodeC, nodeL, List.extract_toArray, List.extract_eq_take_drop]
  rw [List.drop_zero, List.take_left' (by rw [kidL_length])]
set_option maxHeartbeats 4000000 in
set_option maxRecDepth 100000 in
theorem list_node (b : Nat) (lf : Bool) (hh : List UInt8) (n sv : Int) (K : Nat → Rx.T) (R : List (List UInt8)) (IH : ∀ i, i < 16 → ListOK (K i)) (w : World) (p : List Nat) (base : Nat) (v : Value) (l : List (List UInt8)) (s : List UInt8) (m : Nat)
    (hA : w.heap[b]? = some (.cells (nodeC (kidV K) lf hh n sv) 160 (0, 0))) (hAk : ∀ i, i < 16 → At w (K i) ∧ Rx.ok (K i) (p ++ [i]) ∧ ∀ x, Rx.mem (K i) x → x < base) (hb : b < base) (hl : hh.length = 32) (hown : OwnH w base v l) (hbs : base ≤ w.heap.size) (hln : l.length ≤ 1000000) (hm : m ≤ 1000000) (hs : s.length ≤ 1000)
    (hR : R = if m ≤ l.length then l else if (lf && Wi.beg hh s) = true then l ++ [hh] else Rx.lstK (fun h => Wi.beg h s) K m l 16) :
    Calls Tryd.prog 76 #[.pointer (some ⟨b, 0, none⟩), v, .string (str s), .int .i64 (m : Int)] w fun e w' => ∃ v', e = .returned v' ∧ OwnH w' base v' R ∧ Below base w w' := by
  obtain ⟨a, c, rfl, hlc, _⟩ := ownsRow_slice hown
  have HO := Lib.hid hown
  have HA := Lib.hid hA
  have HK := Lib.hid hAk
  have HB := Lib.hid hb
  have HL := Lib.hid hl
  have HBS := Lib.hid hbs
  have HLN := Lib.hid hln
  have HMM := Lib.hid hm
  have HS := Lib.hid hs
  have HR := Lib.hid hR
  have HIH := Lib.hid IH
  clear hown hA hAk hb hl hbs hR IH hs hlc
  by_cases hml : m ≤ l.length
  · have d0 : decide ((m : Int) ≤ (l.length : Int)) = true := decide_eq_true (by omega)
    have d0' : decide (m ≤ l.length) = true := decide_eq_true hml
    have HRR : Hid (R = l) := Lib.hid (by rw [HR.out, if_pos hml])
    clear hml hln hm
    go_enter Tryd.func76, Tryd.ntmps76
    go_wp2
    go_ret
    exact ⟨_, rfl, by rw [HRR.out]; exact HO.out, Below.refl _ _⟩
  · have d0 : decide ((m : Int) ≤ (l.length : Int)) = false := decide_eq_false (by omega)
    have d0' : decide (m ≤ l.length) = false := decide_eq_false hml
    have HRR : Hid (R = if (lf && Wi.beg hh s) = true then l ++ [hh] else Rx.lstK (fun h => Wi.beg h s) K m l 16) := Lib.hid (by rw [HR.out, if_neg hml])
    have HML := Lib.hid hml
    clear hml hln hm HR
    obtain ⟨t, ht⟩ : ∃ t, t = (lf && Wi.beg hh s) := ⟨_, rfl⟩
    have c16 : w.cell? ⟨b, 16, none⟩ = some (.bool lf) := blk_cell (i := 16) HA.out nodeC_leaf
    have P17 : Hid (Part w b 17 (hashC hh)) := Lib.hid (part_of HA.out (nodeC_hash HL.out))
    have HT := Lib.hid ht
    rw [← ht] at HRR
    clear ht
    go_enter Tryd.func76, Tryd.ntmps76
    go_upto_region 3 with (fail)
    go_cut [21] from 22 to 33 (fun v21 wx => v21 = .bool t ∧ Hid (Below w.heap.size w wx))
    case first =>
      cases lf
      · have ht2 : t = false := by rw [HT.out]; rfl
        subst ht2
        go_wp2
        go_meet
        exact ⟨rfl, Lib.hid (Below.refl _ _)⟩
      · have hbg := begins_any w hh s HL.out (by have := HS.out; omega)
        rw [show Wi.beg hh s = t by rw [HT.out]; rfl] at hbg
        go_wp2_with (refine wpL_load ?hw 33 (.tmp 29) rfl b 17 rfl (hashC hh) _ P17.out Tryd.underlying33 rfl (by rw [hashC_size _ HL.out]; exact sz_hash) ?_; case hw => kernel_rfl)
        refine hbg.mono ?_
        clear hbg
        rintro e w2 ⟨rfl, b2⟩
        have B2 := Lib.hid b2
        clear b2
        go_wp2
        go_meet
        exact ⟨rfl, B2⟩
    case rest =>
      obtain ⟨rfl, BC⟩ := hcut
      have AC : Hid (wc.heap[b]? = some (.cells (nodeC (kidV K) lf hh n sv) 160 (0, 0))) := Lib.hid ((BC.out.block _ (blk_lt HA.out)).trans HA.out)
      have OC : Hid (OwnH wc base (.slice a l.length c) l) := Lib.hid (ownsRow_stay HO.out (TStay.of_below BC.out (fun _ => False)) (fun _ _ h => h))
      have BB : Hid (Below base w wc) := Lib.hid (BC.out.mono HBS.out)
      have SB : Hid (base ≤ wc.heap.size) := Lib.hid (Nat.le_trans HBS.out BC.out.size)
      clear c16 P17
      cases t
      · have PK : Hid (Part wc b 0 (kidL (kidV K)).toArray) := Lib.hid (part_of AC.out nodeC_kids)
        obtain ⟨KV, hKV⟩ : ∃ KV, KV = (kidL (kidV K)).toArray := ⟨_, rfl⟩
        have HKV := Lib.hid hKV
        have IX : Hid (∀ k : Nat, k < 16 → ∀ w, (Instr.index 158 (.agg KV) (.int .i64 (k : Int))).run Tryd.prog w = .ok (ptrV (K k).ptr) w) := Lib.hid (fun k hk w => by rw [hKV]; exact idx_kids (kidV K) k hk w)
        have SK : Hid ((Tryd.prog.info? 158).map (·.size) = some KV.size) := Lib.hid (by rw [hKV]; exact sz_kids _)
        rw [← hKV] at PK
        clear hKV
        go_upto_region 6 with (refine wpL_load ?hw 158 (.tmp 43) rfl b 0 rfl KV _ PK.out Tryd.underlying158 rfl SK.out ?_; case hw => kernel_rfl)
        go_loopw [1, 45] (fun ov kv wr => ∃ k : Nat, k ≤ 16 ∧ kv = .int .i64 (k : Int) ∧ Hid (OwnH wr base ov (Rx.lstK (fun h => Wi.beg h s) K m l k)) ∧ Hid (Below base w wr)) (fun _ kv _ => 16 - (intOf kv).toNat)
        case atStart => exact ⟨0, Nat.zero_le _, rfl, OC, BB⟩
        case round =>
          obtain ⟨k, hk, rfl, HOW, BR⟩ := hrel
          clear OC BB SB BC AC PK
          by_cases hlt : k < 16
          · have d1 : decide ((k : Int) < 16) = true := decide_eq_true (by omega)
            have i0 : (0 : Int) ≤ (k : Int) := by omega
            have i1 : (k : Int) < 16 := by omega
            have hix := IX.out k hlt
            have hw := wrapi' ((k : Int) + 1) (by omega)
            have hc := HIH.out k hlt wr (p ++ [k]) base u1 _ s m ((HK.out k hlt).1.keep (fun x hx => BR.out.block x ((HK.out k hlt).2.2 x hx))) (HK.out k hlt).2.1 (HK.out k hlt).2.2 HOW.out (Nat.le_trans HBS.out BR.out.size) (Rx.lstK_len _ K m 1000000 l HMM.out HLN.out k) HMM.out HS.out
            rw [← Rx.lstK_succ] at hc
            clear d0 d0'
            go_wp2_with fail
            refine hc.mono ?_
            clear hc hix
            rintro e w5 ⟨v5, rfl, o5, b5⟩
            have O5 := Lib.hid o5
            have B5 := Lib.hid (BR.out.trans b5)
            clear o5 b5
            go_wp2
            go_roundw
            case rel => exact ⟨k + 1, by omega, by go_num, O5, B5⟩
            case measure => simp [intOf]; omega
          · obtain rfl : k = 16 := by omega
            have HF : Hid (R = Rx.lstK (fun h => Wi.beg h s) K m l 16) := Lib.hid (by rw [HRR.out]; rfl)
            go_wp2
            go_ret
            exact ⟨_, rfl, by rw [HF.out]; exact HOW.out, BR.out⟩
      · have HF : Hid (R = l ++ [hh]) := Lib.hid (by rw [HRR.out]; rfl)
        have P17 : Hid (Part wc b 17 (hashC hh)) := Lib.hid (part_of AC.out (nodeC_hash HL.out))
        have bA : Below wc.heap.size wc (wc.alloc (.cells (hashC hh) 33)) := (Below.refl _ _).alloc (Nat.le_refl _) _
        have OA := Lib.hid (ownsRow_stay OC.out (TStay.of_below bA (fun _ => False)) (fun _ _ h => h))
        have SA : Hid (base ≤ (wc.alloc (.cells (hashC hh) 33)).heap.size) := Lib.hid (Nat.le_trans SB.out bA.size)
        have BA := Lib.hid (BB.out.trans (bA.mono SB.out))
        clear bA
        go_wp2_with (first | (refine wpL_load ?hw 33 (.tmp 37) rfl b 17 rfl (hashC hh) _ P17.out Tryd.underlying33 rfl (by rw [hashC_size _ HL.out]; exact sz_hash) ?_; case hw => kernel_rfl) | (refine wpL_rowOne rfl 28 33 (.tmp 38) rfl 39 rfl Tryd.underlying28 (hashC hh) (by rfl) (.agg (hashC Wi.z32)) 32 zi_hash (by decide) (hashC_size _ HL.out) ?_) | (at_builtin; refine wpL_appH _ rfl (.tmp 34) (.tmp 39) rfl base (.slice a l.length c) l (by rfl) OA.out wc.heap.size hh HL.out (by rfl) (heap_alloc_new _ _) HLN.out SA.out ?_))
        intro v' w8 O8 G8
        have O8' := Lib.hid O8
        have B8 := Lib.hid (Below.trans_stay BA.out ((TStay.refl (fun j => base ≤ j) _).grown G8 (fun j hj => .inl (OA.out.lt j hj).1)) HBS.out (fun j hj e => by omega))
        clear O8 G8
        go_wp2
        go_ret
        exact ⟨_, rfl, by rw [HF.out]; exact O8'.out, B8.out⟩
theorem list_all : ∀ t : Rx.T, ListOK t
  | .nil => list_nil
  | .leaf b h n sv => by
    intro w p base v l s m hA hok hmem hown hbs hln hm hs
    refine list_node b true h n sv Rx.noKids _ (fun i _ => list_nil) w p base v l s m hA (fun i _ => ⟨trivial, trivial, fun x hx => hx.elim⟩) (hmem b rfl) hok.1 hown hbs hln hm hs ?_
    rw [Rx.lstK_no]
    rfl
  | .inner b kids sv => by
    intro w p base v l s m hA hok hmem hown hbs hln hm hs
    exact list_node b false Wi.z32 0 sv kids _ (fun i _ => list_all (kids i)) w p base v l s m hA.1 (fun i hi => ⟨hA.2 i hi, hok.2 i hi, fun x hx => hmem x (.inr ⟨i, hi, hx⟩)⟩) (hmem b (.inl rfl)) z32_len hown hbs hln hm hs rfl
end Go.Proofs.YtpblopdcbjfkpaaDoor
