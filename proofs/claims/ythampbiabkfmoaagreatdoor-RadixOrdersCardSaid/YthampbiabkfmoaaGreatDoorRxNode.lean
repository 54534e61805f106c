/- radix's nodes as values; a tree in memory; digit: what it answers. -/
import Derived.Test.YthampbiabkfmoaaGreatDoorRxBld
import Derived.Test.YthampbiabkfmoaaGreatDoorRxTap
import Derived.Test.YthampbiabkfmoaaGreatDoorRxPlain
import Derived.Test.YthampbiabkfmoaaGreatDoorWiMay
import Derived.LaidEqlPtr
namespace Go.Proofs.YthampbiabkfmoaaGreatDoor
open Go.RowKit Go.Tap
set_option linter.unusedVariables false
set_option linter.unusedSimpArgs false
def kidL (kids : Nat → Value) : List Value := (List.range 16).map kids
theorem kidL_length (kids : Nat → Value) : (kidL kids).length = 16 := by simp [kidL]
def nodeL (kids : Nat → Value) (leaf : Bool) (h : List UInt8) (n s : Int) : List Value := kidL kids ++ ([.bool leaf] ++ (bv h ++ ([.int .i64 n] ++ [.int .i64 s])))
def nodeC (kids : Nat → Value) (leaf : Bool) (h : List UInt8) (n s : Int) : Array Value := (nodeL kids leaf h n s).toArray
section
variable {kids : Nat → Value} {leaf : Bool} {h : List UInt8} {n s : Int}
theorem nodeC_size (hl : h.length = 32) : (nodeC kids leaf h n s).size = 51 := by simp [nodeC, nodeL, kidL_length, bv_length, hl]
theorem nodeC_kid {j : Nat} (hj : j < 16) : (nodeC kids leaf h n s)[j]? = some (kids j) := by
  simp only [nodeC, nodeL, List.getElem?_toArray]
  rw [List.getElem?_append_left (by rw [kidL_length]; exact hj)]
  simp [kidL, hj]
theorem nodeC_leaf : (nodeC kids leaf h n s)[16]? = some (.bool leaf) := by
  simp only [nodeC, nodeL, List.getElem?_toArray]
  rw [List.getElem?_append_right (by rw [kidL_length]; exact Nat.le_refl _), kidL_length]
  rfl
theorem nodeC_n (hl : h.length = 32) : (nodeC kids leaf h n s)[49]? = some (.int .i64 n) := by
  simp only [nodeC, nodeL, List.getElem?_toArray]
  rw [List.getElem?_append_right (by rw [kidL_length]; omega), kidL_length, List.getElem?_append_right (by simp), List.getElem?_append_right (by simp [bv_length, hl])]
  simp [bv_length, hl]
theorem nodeC_s (hl : h.length = 32) : (nodeC kids leaf h n s)[50]? = some (.int .i64 s) := by
  simp only [nodeC, nodeL, List.getElem?_toArray]
  rw [List.getElem?_append_right (by rw [kidL_length]; omega), kidL_length, List.getElem?_append_right (by simp), List.getElem?_append_right (by simp [bv_length, hl])]
  simp [bv_length, hl]
theorem nodeC_hash (hl : h.length = 32) : (nodeC kids leaf h n s).extract 17 (17 + 32) = hashC h := by
  apply Array.ext'
  simp only [nodeC, nodeL, hashC, List.extract_toArray, List.extract_eq_take_drop]
  rw [← List.append_assoc, List.drop_left' (by simp [kidL_length]), List.take_left' (by rw [bv_length, hl])]
theorem nodeC_one (q : Nat → Option Addr) : ∀ v ∈ (nodeC (fun i => .pointer (q i)) leaf h n s).toList, v.oneCell' = true := by
  intro v hv
  simp only [nodeC, nodeL, kidL, List.mem_append, List.mem_map, List.mem_singleton] at hv
  rcases hv with ⟨i, _, rfl⟩ | rfl | hv | rfl | rfl
  · rfl
  · rfl
  · exact bv_one _ v hv
  · rfl
  · rfl
theorem kidL_set (k : Nat) (v : Value) : (kidL kids).set k v = kidL (fun j => if j = k then v else kids j) := by
  apply List.ext_getElem?
  intro j
  rw [List.getElem?_set]
  by_cases hj : j < 16
  · by_cases e : k = j
    · subst e; simp [kidL, hj]
    · rw [if_neg e]; simp [kidL, hj, Ne.symm e]
  · have h1 : (kidL kids).length = 16 := kidL_length _
    have h2 : (kidL (fun j => if j = k then v else kids j)).length = 16 := kidL_length _
    rw [List.getElem?_eq_none (by omega : (kidL (fun j => if j = k then v else kids j)).length ≤ j)]
    split
    · rw [if_neg (by omega)]
    · rw [List.getElem?_eq_none (by omega)]
theorem nodeC_setKid {k : Nat} (hk : k < 16) (v : Value) : (nodeC kids leaf h n s).setIfInBounds k v = nodeC (fun j => if j = k then v else kids j) leaf h n s := by
  apply Array.ext'
  rw [Array.toList_setIfInBounds]
  simp only [nodeC, nodeL]
  rw [List.set_append_left _ _ (by rw [kidL_length]; exact hk), kidL_set]
theorem nodeC_setS (hl : h.length = 32) (z : Int) : (nodeC kids leaf h n s).setIfInBounds 50 (.int .i64 z) = nodeC kids leaf h n z := by
  apply Array.ext'
  rw [Array.toList_setIfInBounds]
  simp only [nodeC, nodeL]
  rw [List.set_append_right _ _ (by rw [kidL_length]; omega), kidL_length, List.set_append_right _ _ (by simp), List.set_append_right _ _ (by simp [bv_length, hl])]
  simp [bv_length, hl]
end
theorem splice_mid {α : Type} (A B B' C : List α) (o : Nat) (ho : A.length = o) (h : B'.length = B.length) : splice (A ++ (B ++ C)) o B' = A ++ (B' ++ C) := by
  have e : A ++ (B ++ C) = (A ++ B) ++ C := by rw [List.append_assoc]
  have e2 : List.drop (o + B'.length) (A ++ (B ++ C)) = C := by rw [e]; exact List.drop_left' (by rw [List.length_append, ho, h])
  unfold splice
  rw [e2, List.take_left' ho]
def ptrV (o : Option Nat) : Value := .pointer (o.map fun b => ⟨b, 0, none⟩)
def nilK : Nat → Value := fun _ => .pointer none
theorem zi_node : (Tryz.prog.info? 85).map (fun i => (i.zero, i.size)) = some (some (.agg (nodeC nilK false Wi.z32 0 0)), 51) := by kernel_rfl
theorem sz_node : (Tryz.prog.info? 85).map (·.size) = some 51 := by kernel_rfl
theorem bu_node (parts : List (Nat × Value)) : Tryz.prog.built 85 parts = Instr.fill (#[(0, 16), (16, 1), (17, 32), (49, 1), (50, 1)][·]?) (nodeC nilK false Wi.z32 0 0) parts :=
  built_struct (z := .agg (nodeC nilK false Wi.z32 0 0)) (places := [(0, 16), (16, 1), (17, 32), (49, 1), (50, 1)]) (by kernel_rfl) (by kernel_rfl) (by kernel_rfl) parts
theorem bt_node0 : Tryz.prog.built 85 [] = some (nodeC nilK false Wi.z32 0 0) := bu_node []
theorem bt_leaf (h : List UInt8) (n : Int) (hl : h.length = 32) : Tryz.prog.built 85 [(1, .bool true), (2, .agg (hashC h)), (3, .int .i64 n)] = some (nodeC nilK true h n 0) := by
  have e1 : (splice (nodeC nilK false Wi.z32 0 0).toList 16 [Value.bool true]).toArray = nodeC nilK true Wi.z32 0 0 := by
    simp only [nodeC, nodeL]; rw [splice_mid (kidL nilK) [Value.bool false] [Value.bool true] _ 16 (kidL_length _) rfl]
  have e2 : (splice (nodeC nilK true Wi.z32 0 0).toList 17 (hashC h).toList).toArray = nodeC nilK true h 0 0 := by
    simp only [nodeC, nodeL, hashC]
    rw [← List.append_assoc (kidL nilK), splice_mid (kidL nilK ++ [Value.bool true]) (bv Wi.z32) (bv h) _ 17 (by simp [kidL_length]) (by rw [bv_length, bv_length, hl]; rfl), List.append_assoc]
  have e3 : (splice (nodeC nilK true h 0 0).toList 49 [Value.int .i64 n]).toArray = nodeC nilK true h n 0 := by
    simp only [nodeC, nodeL]
    rw [← List.append_assoc (kidL nilK), ← List.append_assoc (kidL nilK ++ [Value.bool true]), splice_mid (kidL nilK ++ [Value.bool true] ++ bv h) [Value.int .i64 0] [Value.int .i64 n] _ 49 (by simp [kidL_length, bv_length, hl]) rfl]
    simp
  rw [bu_node, fill_cons (off := 16) (size := 1) rfl rfl (by rw [nodeC_size z32_len]; omega), show (Value.bool true).cells.toList = [Value.bool true] from rfl, e1,
    fill_cons (v := .agg (hashC h)) (off := 17) (size := 32) rfl (hashC_size h hl) (by rw [nodeC_size z32_len]; omega), show (Value.agg (hashC h)).cells = hashC h from rfl, e2,
    fill_cons (off := 49) (size := 1) rfl rfl (by rw [nodeC_size hl]; omega), show (Value.int IntKind.i64 n).cells.toList = [Value.int .i64 n] from rfl, e3]
  rfl
/-- A tree in memory. -/
def kidV (kids : Nat → Rx.T) : Nat → Value := fun i => ptrV (kids i).ptr
def At (w : World) : Rx.T → Prop
  | .nil => True
  | .leaf b h n s => w.heap[b]? = some (.cells (nodeC nilK true h n s) 85 (0, 0))
  | .inner b kids s => w.heap[b]? = some (.cells (nodeC (kidV kids) false Wi.z32 0 s) 85 (0, 0)) ∧ ∀ i, i < 16 → At w (kids i)
theorem At.lt {w : World} : ∀ {t : Rx.T}, At w t → ∀ x, Rx.mem t x → x < w.heap.size
  | .nil, _, x, hx => hx.elim
  | .leaf b h n s, ha, x, hx => by obtain rfl := hx; exact blk_lt ha
  | .inner b kids s, ha, x, hx => by
    rcases hx with rfl | ⟨i, hi, hx⟩
    · exact blk_lt ha.1
    · exact At.lt (ha.2 i hi) x hx
theorem At.keep {w w' : World} : ∀ {t : Rx.T}, At w t → (∀ x, Rx.mem t x → w'.heap[x]? = w.heap[x]?) → At w' t
  | .nil, _, _ => trivial
  | .leaf b h n s, ha, hk => (hk b rfl).trans ha
  | .inner b kids s, ha, hk => ⟨(hk b (.inl rfl)).trans ha.1, fun i hi => At.keep (ha.2 i hi) (fun x hx => hk x (.inr ⟨i, hi, hx⟩))⟩
theorem At.below {w w' : World} {t : Rx.T} (h : At w t) (hb : Below w.heap.size w w') : At w' t := h.keep fun x hx => hb.block x (h.lt x hx)
theorem At.stay {S : Nat → Prop} {w w' : World} {t : Rx.T} (h : At w t) (hs : TStay S w w') (hd : ∀ x, Rx.mem t x → ¬ S x) : At w' t := h.keep fun x hx => hs.block x (h.lt x hx) (hd x hx)
theorem ptr_mem {t : Rx.T} {b : Nat} (h : t.ptr = some b) : Rx.mem t b := by
  cases t with
  | nil => cases h
  | leaf b' _ _ _ => simp [Rx.T.ptr] at h; subst h; rfl
  | inner b' _ _ => simp [Rx.T.ptr] at h; subst h; exact .inl rfl
theorem At.ty {w : World} : ∀ {t : Rx.T}, At w t → ∀ x, Rx.mem t x → ∃ cs, w.heap[x]? = some (.cells cs 85 (0, 0))
  | .nil, _, x, hx => hx.elim
  | .leaf b h n s, ha, x, hx => by obtain rfl := hx; exact ⟨_, ha⟩
  | .inner b kids s, ha, x, hx => by
    rcases hx with rfl | ⟨i, hi, hx⟩
    · exact ⟨_, ha.1⟩
    · exact At.ty (ha.2 i hi) x hx
theorem At.saved {w : World} {t : Rx.T} {p : List Nat} {b : Nat} (h : At w t) (ho : Rx.ok t p) (hb : t.ptr = some b) : w.cell? ⟨b, 50, none⟩ = some (.int .i64 t.saved) := by
  cases t with
  | nil => cases hb
  | leaf b' hx nx sx => simp [Rx.T.ptr] at hb; subst hb; exact blk_cell (i := 50) h (nodeC_s ho.1)
  | inner b' kids s => simp [Rx.T.ptr] at hb; subst hb; exact blk_cell (i := 50) h.1 (nodeC_s z32_len)
theorem neq_node {w : World} {b : Nat} {q : Option Nat} (hb : ∃ cs, w.heap[b]? = some (.cells cs 85 (0, 0))) (hq : ∀ c, q = some c → ∃ cs, w.heap[c]? = some (.cells cs 85 (0, 0))) :
    (binOp .neq 57 (.pointer (some ⟨b, 0, none⟩)) (ptrV q)).run Tryz.prog w = .ok (.bool (decide (some b ≠ q))) w := by
  obtain ⟨j, hj, hs⟩ := Option.map_eq_some_iff.1 sz_node
  cases q with
  | none =>
    have h : ∀ d : Nat, (Op.equalIn (d + 1) 57 (.pointer (some ⟨b, 0, none⟩)) (.pointer none)).run Tryz.prog w = .ok false w := fun d => by
      simp [Op.equalIn, run_underlying Tryz.underlying57]
    simp only [binOp]
    simp [Op.equal, Op.maxDepth, ptrV, h 9999]
  | some c =>
    obtain ⟨ca, ha⟩ := hb
    obtain ⟨cb, hc⟩ := hq c rfl
    by_cases e : b = c
    · subst e
      have := Lib.run_neq_ptr_same w (⟨b, 0, none⟩ : Addr) Tryz.underlying57 hj
      simp only [ptrV, Option.map_some]
      rw [this]; simp
    · have h : ∀ d : Nat, (Op.equalIn (d + 1) 57 (.pointer (some ⟨b, 0, none⟩)) (.pointer (some ⟨c, 0, none⟩))).run Tryz.prog w = .ok false w := fun d => by
        simp [Op.equalIn, run_underlying Tryz.underlying57, sizeOf, typeInfo, hj, hs, run_sameAddr_other w (a := ⟨b, 0, none⟩) (b := ⟨c, 0, none⟩) (by simp [e]) ha hc]
      simp only [binOp]
      simp [Op.equal, Op.maxDepth, ptrV, h 9999, e]
theorem cmp_hash_ne {w : World} (a b : List UInt8) (ha : a.length = 32) (hb : b.length = 32) : (binOp .neq 42 (.agg (hashC a)) (.agg (hashC b))).run Tryz.prog w = .ok (.bool (!decide (a = b))) w := by
  rw [run_neq_struct, show (10000 : Nat) = 9998 + 2 from rfl, eq_hash a b ha hb]; rfl
theorem tdiv2 (k : Nat) : ((k : Int)).tdiv 2 = ((k / 2 : Nat) : Int) := by rw [Int.tdiv_eq_ediv_of_nonneg (by omega)]; omega
theorem tmod2 (k : Nat) : ((k : Int)).tmod 2 = ((k % 2 : Nat) : Int) := by rw [Int.tmod_eq_emod_of_nonneg (by omega)]; omega
set_option maxHeartbeats 1000000 in
set_option maxRecDepth 100000 in
theorem rdigit_any (w : World) (h : List UInt8) (k : Nat) (hl : h.length = 32) (hk : k < 64) : Calls Tryz.prog 42 #[.agg (hashC h), .int .i64 (k : Int)] w fun e w' => e = .returned (.int .i64 (Rx.dig h k : Int)) ∧ Below w.heap.size w w' := by
  obtain ⟨C, hC⟩ : ∃ C, C = hashC h := ⟨_, rfl⟩
  have hx : h[k / 2]? = some (h[k / 2]'(by omega)) := List.getElem?_eq_getElem _
  generalize h[k / 2]'(by omega) = x at hx
  have hcx : C[k / 2]? = some (.int .u8 (x.toNat : Int)) := by rw [hC]; simp [hashC, bv_getElem?, hx]
  obtain ⟨W1, hW1⟩ : ∃ W1, W1 = w.alloc (.cells C 42) := ⟨_, rfl⟩
  have b1 : Below w.heap.size w W1 := by rw [hW1]; exact (Below.refl _ _).alloc (Nat.le_refl _) _
  have hcell : W1.cell? ⟨w.heap.size, k / 2, none⟩ = some (.int .u8 (x.toNat : Int)) := by rw [hW1, cell_new]; exact hcx
  have B1 := Lib.hid b1
  have hd : Rx.dig h k = if k % 2 = 0 then x.toNat / 16 else x.toNat % 16 := by
    unfold Rx.dig
    rw [List.getD_eq_getElem?_getD, hx]; rfl
  rw [← hC]
  have e1 := tdiv2 k
  have e2 := tmod2 k
  obtain ⟨j, hj⟩ : ∃ j, j = k / 2 := ⟨_, rfl⟩
  rw [← hj] at hcell e1
  have hx256 := x.toNat_lt
  have i0 : (0 : Int) ≤ (j : Int) := by omega
  have i1 : (j : Int) < 32 := by omega
  have ew : IntKind.i64.wrap ((j : Int)) = (j : Int) := wrapi' _ (by omega)
  by_cases hp : k % 2 = 0
  · rw [hd, if_pos hp]
    rw [hp] at e2
    clear hd hp hC hx hcx b1 hj
    go_enter Tryz.func42, Tryz.ntmps42
    go_upto_region 1 with (fail)
    rw [← hW1]
    clear hW1
    go_wp2
    go_ret
    exact ⟨ret_int (by omega), B1.out⟩
  · rw [hd, if_neg hp]
    have hp1 : k % 2 = 1 := by omega
    rw [hp1] at e2
    clear hd hp hp1 hC hx hcx b1 hj
    go_enter Tryz.func42, Tryz.ntmps42
    go_upto_region 1 with (fail)
    rw [← hW1]
    clear hW1
    go_wp2
    go_ret
    exact ⟨ret_int (by omega), B1.out⟩
end Go.Proofs.YthampbiabkfmoaaGreatDoor
