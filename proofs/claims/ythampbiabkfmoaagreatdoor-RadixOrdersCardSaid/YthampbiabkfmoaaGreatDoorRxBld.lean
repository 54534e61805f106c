/- strings.Builder at this program: copyCheck, WriteByte, String; hex.Text; HasPrefix; hex.Begins. -/
import Derived.Shelf.Strings.Builder1
import Derived.Test.YthampbiabkfmoaaGreatDoorWiText
import Derived.Test.YthampbiabkfmoaaGreatDoorIdx
namespace Go.Proofs.YthampbiabkfmoaaGreatDoor
open Go.Shelf Go.RowKit Go.Tap
set_option linter.unusedVariables false
set_option linter.unusedSimpArgs false
def bldRen : Go.Shelf.Ren := ⟨fun | 169 => 87 | n => n, fun | 70 => 177 | 9 => 9 | 0 => 0 | 72 => 179 | 37 => 66 | 127 => 183 | 3 => 3 | 5 => 5 | n => n, fun | n => n⟩
theorem bldLays : Go.Proofs.Lays.n169 Tryz.prog bldRen := {
  mixed := by kernel_rfl
  f169 := Tryz.func87.trans (congrArg some (by kernel_rfl))
  t0 := Tryz.underlying0
  a0 := Tryz.isAgg0
  z0 := Tryz.sizeOf0
  v0 := Tryz.zeroValue0
  t3 := Tryz.underlying3
  a3 := Tryz.isAgg3
  z3 := Tryz.sizeOf3
  v3 := Tryz.zeroValue3
  t9 := Tryz.underlying9
  a9 := Tryz.isAgg9
  z9 := Tryz.sizeOf9
  v9 := Tryz.zeroValue9
  t37 := Tryz.underlying66
  a37 := Tryz.isAgg66
  z37 := Tryz.sizeOf66
  v37 := Tryz.zeroValue66
  t70 := Tryz.underlying177
  a70 := Tryz.isAgg177
  z70 := Tryz.sizeOf177
  v70 := Tryz.zeroValue177
  t72 := Tryz.underlying179
  a72 := Tryz.isAgg179
  z72 := Tryz.sizeOf179
  v72 := Tryz.zeroValue179
  t127 := Tryz.underlying183
  a127 := Tryz.isAgg183
  z127 := Tryz.sizeOf183
  v127 := Tryz.zeroValue183 }
theorem bldExtra : Builder.Extra Tryz.prog bldRen := {
  sizeBuilder := by kernel_rfl
  liesBuilder := by kernel_rfl
  t5 := Tryz.underlying5
  a5 := Tryz.isAgg5
  z5 := Tryz.sizeOf5
  v5 := Tryz.zeroValue5
  infoByte := by kernel_rfl
  cellsByte := by kernel_rfl
  sizeByte := by kernel_rfl
  neB5 := by decide }
theorem bld_string (B b : Nat) (l : List UInt8) (w : World) (h : Lib.IsBuilder 179 5 B b (Lib.byteCells l) w) (h0 : l ≠ []) :
    Calls Tryz.prog 87 #[.pointer (some ⟨b, 0, none⟩)] w fun e w' => e = .returned (.string ⟨l.toArray⟩) ∧ Below B w w' := Any.Builder_String bldLays bldExtra B b l w h h0
theorem bld_info : (Tryz.prog.info? 179).map (·.size) = some 2 := by kernel_rfl
theorem bld_lies : liesAt Tryz.prog Tryz.prog.depth 179 (2 / Tryz.prog.cellsOf 179) 0 179 1 = true := by kernel_rfl
set_option maxHeartbeats 1000000 in
set_option maxRecDepth 100000 in
theorem bld_used (b : Nat) (w : World) (h0 : w.cell? ⟨b, 0, none⟩ = some (.pointer (some ⟨b, 0, none⟩))) :
    Calls Tryz.prog 90 #[.pointer (some ⟨b, 0, none⟩)] w fun e w' => e = .returned (.tuple #[]) ∧ w' = w := by
  obtain ⟨j, hj, _⟩ := Option.map_eq_some_iff.1 bld_info
  go_enter Tryz.func90, Tryz.ntmps90
  go_wp2
  rw [Lib.run_neq_ptr_same w _ Tryz.underlying177 hj]
  go_wp2
  go_end0
  exact ⟨rfl, rfl⟩
set_option maxHeartbeats 1000000 in
set_option maxRecDepth 100000 in
theorem bld_fresh (b : Nat) (w : World) (h0 : w.cell? ⟨b, 0, none⟩ = some (.pointer none)) (hsh : w.shape? b = some (179, 2)) (hfz : w.frozen? ⟨b, 0, none⟩ = false) :
    Calls Tryz.prog 90 #[.pointer (some ⟨b, 0, none⟩)] w fun e w' => e = .returned (.tuple #[]) ∧ w' = w.setCell ⟨b, 0, none⟩ (.pointer (some ⟨b, 0, none⟩)) := by
  obtain ⟨j, hj, hjs⟩ := Option.map_eq_some_iff.1 bld_info
  go_enter Tryz.func90, Tryz.ntmps90
  go_wp2
  rw [Lib.run_to_unsafe w ⟨b, 0, none⟩ Tryz.underlying177 Tryz.underlying132 hj (by rw [hjs]; decide) hsh (Nat.zero_lt_succ 1)]
  simp only [Result.andThen]
  rw [Oper.upon_value]
  go_wp2
  rw [run_callFunc_extern Tryz.func91 (by kernel_rfl) (by kernel_rfl) (by kernel_rfl) (e := Extern.AbiNoEscape.same) (by kernel_rfl)]
  rw [Lib.run_noEscape]
  simp only [Result.andThen]
  rw [Oper.upon_value]
  go_wp2
  rw [Lib.run_from_unsafe w ⟨b, 0, none⟩ Tryz.underlying132 Tryz.underlying177 hj hsh bld_lies]
  simp only [Result.andThen]
  rw [Oper.upon_value]
  go_wp2
  go_end0
  exact ⟨rfl, rfl⟩
theorem bld_check (B b : Nat) (bs : List Value) (w : World) (h : Lib.IsBuilder 179 5 B b bs w) :
    Calls Tryz.prog 90 #[.pointer (some ⟨b, 0, none⟩)] w fun e w' => e = .returned (.tuple #[]) ∧ (Lib.BuilderAt 179 5 B b (.pointer (some ⟨b, 0, none⟩)) bs w' ∧ Below B w w') := by
  rcases h with h | h
  · refine (bld_fresh b w h.cell0 h.shape h.frozen0).mono ?_
    rintro e w' ⟨rfl, rfl⟩
    exact ⟨rfl, h.used _, (Below.refl B w).setCell (p := ⟨b, 0, none⟩) h.1 _⟩
  · refine (bld_used b w h.cell0).mono ?_
    rintro e w' ⟨rfl, rfl⟩
    exact ⟨rfl, h, Below.refl B _⟩
set_option maxHeartbeats 2000000 in
set_option maxRecDepth 100000 in
theorem bld_byte (B b : Nat) (bs : List Value) (c : Int) (w : World) (h : Lib.IsBuilder 179 5 B b bs w) (hlen : bs.length + 1 ≤ 140737488355328) (hBw : B ≤ w.heap.size) :
    Calls Tryz.prog 86 #[.pointer (some ⟨b, 0, none⟩), .int .u8 c] w fun e w' => e = .returned .nilIface ∧ (Lib.BuilderAt 179 5 B b (.pointer (some ⟨b, 0, none⟩)) (bs ++ [.int .u8 c]) w' ∧ Below B w w') := by
  obtain ⟨i0, hi, hz0, hz1, hz2⟩ := info_parts Tryz.infoB
  have hck := bld_check B b bs w h
  go_enter Tryz.func86, Tryz.ntmps86
  go_wp2_with fail
  refine hck.mono ?_
  clear hck
  rintro e w1 ⟨rfl, h1, hb1⟩
  obtain ⟨hB, v, hbk, hown, hne⟩ := h1
  have c0 : w1.cell? ⟨b, 0, none⟩ = some (.pointer (some ⟨b, 0, none⟩)) := by rw [Lib.cell_of_heap hbk]; rfl
  have c1 : w1.cell? ⟨b, 1, none⟩ = some v := by rw [Lib.cell_of_heap hbk]; rfl
  go_wp2_with (at_builtin; refine wpList_append_own _ rfl _ _ 66 rfl B 5 i0 (.int .u8 0) 1 1 Tryz.underlying66 hi hz0 hz1 hz2 rfl (by decide) _ _ _ rfl (hown.alloc _) ⟨w1.heap.size, 0, none⟩ 1 1 [.int .u8 c] rfl rfl ?c1 ?c2 ?c3 ?c4 ?c5 ?_)
  case c1 =>
    intro j u hj
    match j, hj with
    | 0, hj => simp at hj; subst hj; simp [Addr.add]
  case c2 => intro u hu; simp at hu; subst hu; rfl
  case c3 => unfold maxLen; omega
  case c4 => omega
  case c5 => have := hb1.size; simp; omega
  intro v' w2 hown' hgrow _
  have hlt : b < w1.heap.size := by
    rcases Nat.lt_or_ge b w1.heap.size with h' | h'
    · exact h'
    · simp [Array.getElem?_eq_none h'] at hbk
  have hb2 : w2.heap[b]? = some (.cells #[.pointer (some ⟨b, 0, none⟩), v] 179 (0, 0)) := by
    rw [hgrow.block b (by simp; omega) (fun e => hne e.symm), Lib.alloc_old w1 _ b hlt]
    exact hbk
  have d0 : w2.cell? ⟨b, 0, none⟩ = some (.pointer (some ⟨b, 0, none⟩)) := by rw [Lib.cell_of_heap hb2]; rfl
  have d1 : w2.cell? ⟨b, 1, none⟩ = some v := by rw [Lib.cell_of_heap hb2]; rfl
  have f1 : w2.frozen? ⟨b, 1, none⟩ = false := Lib.frozen_of_heap hb2 1
  obtain ⟨g, cap, rfl⟩ : ∃ g cap, v' = .slice (some ⟨g, 0, none⟩) (bs.length + 1) cap := by
    rcases hown'.2 with ⟨_, h0⟩ | ⟨g, cap, cur, hv, _⟩
    · omega
    · exact ⟨g, cap, hv⟩
  go_wp2
  go_ret
  refine ⟨rfl, ?_, ?_⟩
  · exact Lib.BuilderAt.put (T := 179) (e := 5) hB hb2 (bs' := bs ++ [.int .u8 c]) (by simpa using hown') (by decide)
  · exact ((hb1.alloc (by have := hb1.size; omega) _).grown hgrow (by have := hb1.size; simp; omega) (fun k hk => (hown.lt k hk).1)).setCell (p := ⟨b, 1, none⟩) hB _
end Go.Proofs.YthampbiabkfmoaaGreatDoor
/- hex.Text, hex.Begins: what they answer. -/
namespace Go.Proofs.YthampbiabkfmoaaGreatDoor
open Go.Shelf Go.RowKit Go.Tap
set_option linter.unusedVariables false
set_option linter.unusedSimpArgs false
theorem idx_hash (C : Array Value) (k : Nat) (v : Value) (hk : k < 32) (hv : C[k]? = some v) (w : World) : (Instr.index 42 (.agg C) (.int .i64 (k : Int))).run Tryz.prog w = .ok v w :=
  run_idx 42 5 32 C k v Tryz.underlying42 hk hv Tryz.isAgg5 Tryz.sizeOf5 w
theorem dig_at (n : Nat) (hn : n < 16) (p : n < ({ data := #[48, 49, 50, 51, 52, 53, 54, 55, 56, 57, 97, 98, 99, 100, 101, 102] } : ByteArray).size) : ({ data := #[48, 49, 50, 51, 52, 53, 54, 55, 56, 57, 97, 98, 99, 100, 101, 102] } : ByteArray)[n]'p = Wi.hexc n := by
  revert p
  have : n = 0 ∨ n = 1 ∨ n = 2 ∨ n = 3 ∨ n = 4 ∨ n = 5 ∨ n = 6 ∨ n = 7 ∨ n = 8 ∨ n = 9 ∨ n = 10 ∨ n = 11 ∨ n = 12 ∨ n = 13 ∨ n = 14 ∨ n = 15 := by omega
  rcases this with rfl | rfl | rfl | rfl | rfl | rfl | rfl | rfl | rfl | rfl | rfl | rfl | rfl | rfl | rfl | rfl <;> intro _ <;> rfl
theorem bytes_bv (l : List UInt8) : Lib.byteCells l = bv l := rfl
set_option maxHeartbeats 2000000 in
set_option maxRecDepth 100000 in
theorem hexText_any (w : World) (h : List UInt8) (hl : h.length = 32) : Calls Tryz.prog 74 #[.agg (hashC h)] w fun e w' => e = .returned (.string (str (Wi.hexT h))) ∧ Below w.heap.size w w' := by
  obtain ⟨C, hC⟩ : ∃ C, C = hashC h := ⟨_, rfl⟩
  rw [← hC]
  have HC := Lib.hid hC
  have HL := Lib.hid hl
  have SC : Hid (C.size = 32) := Lib.hid (by rw [hC]; exact hashC_size h hl)
  obtain ⟨W1, hW1⟩ : ∃ W1, W1 = (w.alloc (.cells C 42)).alloc (.cells #[.pointer none, .slice none 0 0] 179) := ⟨_, rfl⟩
  have b1 : Below w.heap.size w W1 := by rw [hW1]; exact ((Below.refl _ _).alloc (Nat.le_refl _) _).alloc (by simp) _
  have PT : Hid (Part W1 w.heap.size 0 C) := Lib.hid (Part.of_blk (by rw [hW1]; exact heap_alloc2_old _ _ _))
  have TB : W1.heap[w.heap.size + 1]? = some (.cells #[.pointer none, .slice none 0 0] 179 (0, 0)) := by rw [hW1]; exact heap_alloc2_new _ _ _
  have IB : Hid (Lib.IsBuilder 179 5 w.heap.size (w.heap.size + 1) (bv []) W1) := Lib.hid (.inl ⟨by omega, _, TB, World.ownsRow_nil _ _ _ _, by simp [Value.ownBlock]⟩)
  have B1 := Lib.hid b1
  clear hC hl b1 TB
  go_enter Tryz.func74, Tryz.ntmps74
  go_upto_region 2 with (fail)
  rw [← hW1]
  clear hW1
  go_wp2_with (refine wpL_load ?hw 42 (.tmp 1) rfl w.heap.size 0 rfl C _ PT.out Tryz.underlying42 rfl (by rw [SC.out]; exact sz_hash) ?_; case hw => kernel_rfl)
  go_loopw [7] (fun kv wr => ∃ k : Nat, k ≤ 32 ∧ kv = .int .i64 (k : Int) ∧ Hid (Lib.IsBuilder 179 5 w.heap.size (w.heap.size + 1) (bv (Wi.hexT (h.take k))) wr) ∧ Hid (Below w.heap.size w wr)) (fun kv _ => 32 - (intOf kv).toNat)
  case atStart => exact ⟨0, Nat.zero_le _, rfl, IB, B1⟩
  case round =>
    obtain ⟨k, hk, rfl, HB, BR⟩ := hrel
    clear IB
    by_cases hlt : k < 32
    · have d0 : decide ((k : Int) < 32) = true := decide_eq_true (by omega)
      have i0 : (0 : Int) ≤ (k : Int) := by omega
      have i1 : (k : Int) < 32 := by omega
      have hw := wrapi' ((k : Int) + 1) (by omega)
      have hx : h[k]? = some (h[k]'(by have := HL.out; omega)) := List.getElem?_eq_getElem _
      generalize h[k]'(by have := HL.out; omega) = x at hx
      have hcx : C[k]? = some (.int .u8 (x.toNat : Int)) := by rw [HC.out]; simp [hashC, bv_getElem?, hx]
      have hix := idx_hash C k _ hlt hcx
      obtain ⟨a, ha⟩ : ∃ a, a = x.toNat / 16 := ⟨_, rfl⟩
      obtain ⟨b, hb⟩ : ∃ b, b = x.toNat % 16 := ⟨_, rfl⟩
      have hx256 := x.toNat_lt
      have ha16 : a < 16 := by omega
      have hb16 : b < 16 := by omega
      have s0 : (0 : Int) ≤ (x.toNat : Int) / 16 := by omega
      have s1 : (x.toNat : Int) / 16 < 16 := by omega
      have HX := Lib.hid hx
      have HAB := Lib.hid (And.intro ha hb)
      have L1 : Hid ((bv (Wi.hexT (h.take k))).length + 1 ≤ 140737488355328) := Lib.hid (by rw [bv_length, Wi.hexT_len, List.length_take]; omega)
      have L2 : Hid ((bv (Wi.hexT (h.take k)) ++ [Value.int .u8 ((Wi.hexc a).toNat : Int)]).length + 1 ≤ 140737488355328) := Lib.hid (by rw [List.length_append, bv_length, Wi.hexT_len, List.length_take]; simp; omega)
      have w1' := bld_byte w.heap.size (w.heap.size + 1) _ ((Wi.hexc a).toNat : Int) wr HB.out L1.out BR.out.size
      have A0 := Lib.hid (show x.toNat / 16 < 16 by omega)
      clear hx ha hb hcx
      go_upto_region 5 with (fail)
      go_wp2_with fail
      rw [dig_at (x.toNat / 16) A0.out, ← show a = _ from HAB.out.1]
      refine w1'.mono ?_
      clear w1'
      rintro e w2 ⟨rfl, bl2, b2⟩
      have BR2 := Lib.hid (BR.out.trans b2)
      have w2' := bld_byte w.heap.size (w.heap.size + 1) _ ((Wi.hexc b).toNat : Int) w2 (.inr bl2) L2.out BR2.out.size
      clear bl2 b2
      go_wp2_with fail
      rw [dig_at (x.toNat % 16) (by omega), ← show b = _ from HAB.out.2]
      refine w2'.mono ?_
      clear w2'
      rintro e w3 ⟨rfl, bl3, b3⟩
      have BR3 := Lib.hid (BR2.out.trans b3)
      have HS : Hid (Wi.hexT (h.take (k + 1)) = Wi.hexT (h.take k) ++ [Wi.hexc a] ++ [Wi.hexc b]) := Lib.hid (by rw [List.take_add_one, HX.out, Option.toList_some, Wi.hexT_snoc, List.append_assoc, HAB.out.1, HAB.out.2]; rfl)
      have HB3 : Hid (Lib.IsBuilder 179 5 w.heap.size (w.heap.size + 1) (bv (Wi.hexT (h.take (k + 1)))) w3) := Lib.hid (by
        rw [HS.out, ← bv_append, ← bv_append]
        exact .inr bl3)
      clear bl3 b3
      go_wp2
      go_roundw
      case rel => exact ⟨k + 1, by omega, by go_num, HB3, BR3⟩
      case measure => simp [intOf]; omega
    · obtain rfl : k = 32 := by omega
      have htk : h.take 32 = h := List.take_of_length_le (by have := HL.out; omega)
      have hst := bld_string w.heap.size (w.heap.size + 1) (Wi.hexT h) wr (by have := HB.out; rw [htk] at this; exact this) (by intro e; have h1 := Wi.hexT_len h; rw [e, HL.out] at h1; simp at h1)
      clear htk
      go_wp2_with fail
      refine hst.mono ?_
      clear hst
      rintro e w2 ⟨rfl, b2⟩
      have B2 := Lib.hid (BR.out.trans b2)
      clear b2
      go_wp2
      go_ret
      exact ⟨rfl, B2.out⟩
theorem sl_to (l : List UInt8) (k : Nat) (h : k ≤ l.length) (w : World) : (Instr.sliceAt 9 (.string (str l)) none (some (.int .i64 (k : Int))) none).run Tryz.prog w = .ok (.string (str (l.take k))) w := by
  have hs : (str l).size = l.length := by simp [str, ByteArray.size]
  have he : (str l).extract 0 k = str (l.take k) := by
    apply ByteArray.ext
    simp [str]
  simp [go_sem]
  rw [if_pos (by omega), he]
def Wi.beg (h s : List UInt8) : Bool := decide (s.length ≤ 64) && decide ((Wi.hexT h).take s.length = s)
theorem str_size (l : List UInt8) : (str l).size = l.length := by simp [str, ByteArray.size]
set_option maxHeartbeats 1000000 in
set_option maxRecDepth 100000 in
theorem slPrefix_any (w : World) (l p : List UInt8) (hl : l.length ≤ 140737488351232) (hp : p.length ≤ 140737488351232) : Calls Tryz.prog 89 #[.string (str l), .string (str p)] w fun e w' => e = .returned (.bool (decide (p.length ≤ l.length) && decide (l.take p.length = p))) ∧ w = w' := by
  have z1 := str_size l
  have z2 := str_size p
  by_cases h : p.length ≤ l.length
  · have d0 : decide ((p.length : Int) ≤ (l.length : Int)) = true := decide_eq_true (by omega)
    have d0' : decide (p.length ≤ l.length) = true := decide_eq_true h
    have hs := sl_to l p.length h
    obtain ⟨q, hq⟩ : ∃ q, q = l.take p.length := ⟨_, rfl⟩
    rw [← hq] at hs ⊢
    obtain ⟨b, hb⟩ : ∃ b, b = decide (q = p) := ⟨_, rfl⟩
    have e1 : (q == p) = b := by rw [hb]; by_cases h : q = p <;> simp [h]
    have e2 : ((str q).toList == (str p).toList) = b := by rw [str_toList, str_toList, e1]
    rw [← hb, d0']
    clear hq hb h
    go_enter Tryz.func89, Tryz.ntmps89
    go_wp2
    go_ret
    exact ⟨ret_bool (by simp), rfl⟩
  · have d0 : decide ((p.length : Int) ≤ (l.length : Int)) = false := decide_eq_false (by omega)
    have d0' : decide (p.length ≤ l.length) = false := decide_eq_false h
    have hn : ¬ (p.length : Int) ≤ (l.length : Int) := by omega
    rw [d0', Bool.false_and]
    go_enter Tryz.func89, Tryz.ntmps89
    go_wp2
    go_ret
    exact ⟨rfl, rfl⟩
set_option maxHeartbeats 1000000 in
set_option maxRecDepth 100000 in
theorem hasPrefix_any (w : World) (l p : List UInt8) (hl : l.length ≤ 140737488351232) (hp : p.length ≤ 140737488351232) : Calls Tryz.prog 85 #[.string (str l), .string (str p)] w fun e w' => e = .returned (.bool (decide (p.length ≤ l.length) && decide (l.take p.length = p))) ∧ w = w' := by
  have h := slPrefix_any w l p hl hp
  generalize (decide (p.length ≤ l.length) && decide (l.take p.length = p)) = b at h ⊢
  go_enter Tryz.func85, Tryz.ntmps85
  go_wp2_with fail
  refine h.mono ?_
  clear h
  rintro e w' ⟨rfl, rfl⟩
  go_wp2
  go_ret
  exact ⟨rfl, rfl⟩
set_option maxHeartbeats 1000000 in
set_option maxRecDepth 100000 in
theorem begins_any (w : World) (h s : List UInt8) (hl : h.length = 32) (hs : s.length ≤ 140737488351232) : Calls Tryz.prog 73 #[.agg (hashC h), .string (str s)] w fun e w' => e = .returned (.bool (Wi.beg h s)) ∧ Below w.heap.size w w' := by
  have hln : (Wi.hexT h).length = 64 := by rw [Wi.hexT_len, hl]
  obtain ⟨C, hC⟩ : ∃ C, C = hashC h := ⟨_, rfl⟩
  have SC : Hid (C.size = 32) := Lib.hid (by rw [hC]; exact hashC_size h hl)
  obtain ⟨W1, hW1⟩ : ∃ W1, W1 = w.alloc (.cells C 42) := ⟨_, rfl⟩
  have b1 : Below w.heap.size w W1 := by rw [hW1]; exact (Below.refl _ _).alloc (Nat.le_refl _) _
  have PT : Hid (Part W1 w.heap.size 0 C) := Lib.hid (Part.of_blk (by rw [hW1]; exact heap_alloc_new _ _))
  have ht := hexText_any W1 h hl
  have hp := fun X => hasPrefix_any X (Wi.hexT h) s (by omega) hs
  rw [← hC] at ht ⊢
  have HP := Lib.hid hp
  have B1 := Lib.hid b1
  have HB : Hid (Wi.beg h s = (decide (s.length ≤ (Wi.hexT h).length) && decide ((Wi.hexT h).take s.length = s))) := Lib.hid (by rw [Wi.beg, hln])
  clear hC b1 hp hln hl hs
  go_enter Tryz.func73, Tryz.ntmps73
  go_upto_region 1 with (fail)
  rw [← hW1]
  clear hW1
  go_wp2_with (refine wpL_load ?hw 42 (.tmp 2) rfl w.heap.size 0 rfl C _ PT.out Tryz.underlying42 rfl (by rw [SC.out]; exact sz_hash) ?_; case hw => kernel_rfl)
  refine ht.mono ?_
  clear ht
  rintro e w2 ⟨rfl, b2⟩
  have B2 := Lib.hid (B1.out.trans (b2.mono B1.out.size))
  have hp := HP.out w2
  rw [← show Wi.beg h s = _ from HB.out] at hp
  clear b2
  go_wp2_with fail
  refine hp.mono ?_
  clear hp
  rintro e w3 ⟨rfl, rfl⟩
  go_wp2
  go_ret
  exact ⟨rfl, B2.out⟩
end Go.Proofs.YthampbiabkfmoaaGreatDoor
