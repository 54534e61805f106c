/- slices.Sorted(maps.Keys(m)) at this program: the shelf's contracts, laid. -/
import Derived.Shelf.SlIter.Nil
import Derived.Shelf.SortM.Plain
import Derived.Shelf.SortM.SortNone
import Derived.Test.YtgkbgponednfjaaDoorProg
namespace Go.Proofs
open Go.RowKit Go.Maps Go.Sort Go.Shelf

-- maps.Keys[taproot/disk.files,string,[]byte] (function 108; its iterator 139) · slices.Sorted[string] (107) · slices.Sort[[]string,string] (138) · the map's type 155, the keys' 9
def Tryd.keys108_ren : Go.Shelf.Ren := ⟨fun | 7 => 108 | 10 => 139 | n => n, fun | 23 => 155 | 26 => 9 | 3 => 25 | 28 => 189 | 0 => 0 | 27 => 188 | 33 => 184 | 4 => 4 | n => n, fun | n => n⟩
theorem Tryd.keys108 : Go.Proofs.SlLaysZ.n7 Tryd.prog Tryd.keys108_ren where
  mixed := by kernel_rfl
  f7 := ⟨"maps.Keys[taproot/disk.files,string,[]byte]", by decide, Tryd.func108.trans (congrArg some (by kernel_rfl))⟩
  f10 := ⟨"maps.Keys[taproot/disk.files,string,[]byte]$1", by decide, Tryd.func139.trans (congrArg some (by kernel_rfl))⟩
  t0 := Tryd.underlying0
  a0 := Tryd.isAgg0
  z0 := Tryd.sizeOf0
  v0 := Tryd.zeroValue0
  t4 := Tryd.underlying4
  a4 := Tryd.isAgg4
  z4 := Tryd.sizeOf4
  v4 := Tryd.zeroValue4
  t23 := Tryd.underlying155
  a23 := Tryd.isAgg155
  z23 := Tryd.sizeOf155
  v23 := Tryd.zeroValue155
  t26 := Tryd.underlying9
  a26 := Tryd.isAgg9
  z26 := Tryd.sizeOf9
  v26 := Tryd.zeroValue9
  t27 := Tryd.underlying188
  a27 := Tryd.isAgg188
  z27 := Tryd.sizeOf188
  v27 := Tryd.zeroValue188
  t28 := Tryd.underlying189
  a28 := Tryd.isAgg189
  z28 := Tryd.sizeOf189
  v28 := Tryd.zeroValue189
  t33 := Tryd.underlying184
  a33 := Tryd.isAgg184
  z33 := Tryd.sizeOf184
  v33 := Tryd.zeroValue184

def Tryd.sorted107_ren : Go.Shelf.Ren := ⟨fun | 6 => 107 | 8 => 137 | 9 => 138 | 11 => 147 | 13 => 149 | 12 => 148 | 23 => 161 | 24 => 162 | 14 => 152 | 15 => 153 | 16 => 154 | 17 => 155 | 18 => 156 | 19 => 157 | 20 => 158 | 21 => 159 | 22 => 160 | 25 => 163 | 26 => 164 | 27 => 165 | 28 => 166 | 29 => 167 | 30 => 168 | 31 => 169 | n => n, fun | 26 => 9 | 28 => 189 | 24 => 109 | 0 => 0 | 3 => 3 | 37 => 145 | 48 => 194 | 50 => 144 | 4 => 4 | 40 => 244 | 39 => 243 | 45 => 168 | 5 => 5 | 9 => 9 | 51 => 252 | 55 => 256 | 57 => 258 | 58 => 259 | 33 => 184 | n => n, fun | n => n⟩
theorem Tryd.sorted107 : Go.Proofs.SlLaysZ.n6 Tryd.prog Tryd.sorted107_ren where
  mixed := by kernel_rfl
  f6 := ⟨"slices.Sorted[string]", by decide, Tryd.func107.trans (congrArg some (by kernel_rfl))⟩
  f8 := ⟨"slices.Collect[string]", by decide, Tryd.func137.trans (congrArg some (by kernel_rfl))⟩
  f11 := ⟨"slices.AppendSeq[[]string,string]", by decide, Tryd.func147.trans (congrArg some (by kernel_rfl))⟩
  t0 := Tryd.underlying0
  a0 := Tryd.isAgg0
  z0 := Tryd.sizeOf0
  v0 := Tryd.zeroValue0
  t24 := Tryd.underlying109
  a24 := Tryd.isAgg109
  z24 := Tryd.sizeOf109
  v24 := Tryd.zeroValue109
  t26 := Tryd.underlying9
  a26 := Tryd.isAgg9
  z26 := Tryd.sizeOf9
  v26 := Tryd.zeroValue9
  t28 := Tryd.underlying189
  a28 := Tryd.isAgg189
  z28 := Tryd.sizeOf189
  v28 := Tryd.zeroValue189
  i26 := by kernel_rfl

def Tryd.sort138_ren : Go.Shelf.Ren := ⟨fun | 6 => 138 | 8 => 149 | 9 => 148 | 19 => 161 | 20 => 162 | 21 => 152 | 22 => 153 | 23 => 154 | 24 => 155 | 25 => 156 | 26 => 157 | 27 => 158 | 28 => 159 | 29 => 160 | 36 => 163 | 31 => 164 | 32 => 165 | 37 => 166 | 38 => 167 | 39 => 168 | 41 => 169 | n => n, fun | 27 => 109 | 29 => 9 | 3 => 3 | 32 => 145 | 26 => 109 | 0 => 0 | 44 => 194 | 46 => 144 | 4 => 4 | 36 => 244 | 35 => 243 | 41 => 168 | 5 => 5 | 9 => 9 | 53 => 252 | 57 => 256 | 63 => 258 | 64 => 259 | n => n, fun | n => n⟩
theorem Tryd.sort138 : Go.Proofs.SlLaysM.n6 Tryd.prog Tryd.sort138_ren where
  mixed := by kernel_rfl
  f6 := ⟨"slices.Sort[[]string,string]", by decide, Tryd.func138.trans (congrArg some (by kernel_rfl))⟩
  f8 := Tryd.func149.trans (congrArg some (by kernel_rfl))
  f9 := ⟨"slices.pdqsortOrdered[string]", by decide, Tryd.func148.trans (congrArg some (by kernel_rfl))⟩
  f19 := Tryd.func161.trans (congrArg some (by kernel_rfl))
  f20 := Tryd.func162.trans (congrArg some (by kernel_rfl))
  f21 := ⟨"slices.insertionSortOrdered[string]", by decide, Tryd.func152.trans (congrArg some (by kernel_rfl))⟩
  f22 := ⟨"slices.heapSortOrdered[string]", by decide, Tryd.func153.trans (congrArg some (by kernel_rfl))⟩
  f23 := ⟨"slices.breakPatternsOrdered[string]", by decide, Tryd.func154.trans (congrArg some (by kernel_rfl))⟩
  f24 := ⟨"slices.choosePivotOrdered[string]", by decide, Tryd.func155.trans (congrArg some (by kernel_rfl))⟩
  f25 := ⟨"slices.reverseRangeOrdered[string]", by decide, Tryd.func156.trans (congrArg some (by kernel_rfl))⟩
  f26 := ⟨"slices.partialInsertionSortOrdered[string]", by decide, Tryd.func157.trans (congrArg some (by kernel_rfl))⟩
  f27 := ⟨"cmp.Less[string]", by decide, Tryd.func158.trans (congrArg some (by kernel_rfl))⟩
  f28 := ⟨"slices.partitionEqualOrdered[string]", by decide, Tryd.func159.trans (congrArg some (by kernel_rfl))⟩
  f29 := ⟨"slices.partitionOrdered[string]", by decide, Tryd.func160.trans (congrArg some (by kernel_rfl))⟩
  f31 := Tryd.func164.trans (congrArg some (by kernel_rfl))
  f32 := Tryd.func165.trans (congrArg some (by kernel_rfl))
  f36 := ⟨"slices.siftDownOrdered[string]", by decide, Tryd.func163.trans (congrArg some (by kernel_rfl))⟩
  f37 := ⟨"slices.medianAdjacentOrdered[string]", by decide, Tryd.func166.trans (congrArg some (by kernel_rfl))⟩
  f38 := ⟨"slices.medianOrdered[string]", by decide, Tryd.func167.trans (congrArg some (by kernel_rfl))⟩
  f39 := ⟨"cmp.isNaN[string]", by decide, Tryd.func168.trans (congrArg some (by kernel_rfl))⟩
  f41 := ⟨"slices.order2Ordered[string]", by decide, Tryd.func169.trans (congrArg some (by kernel_rfl))⟩
  t0 := Tryd.underlying0
  a0 := Tryd.isAgg0
  z0 := Tryd.sizeOf0
  v0 := Tryd.zeroValue0
  t3 := Tryd.underlying3
  a3 := Tryd.isAgg3
  z3 := Tryd.sizeOf3
  v3 := Tryd.zeroValue3
  t4 := Tryd.underlying4
  a4 := Tryd.isAgg4
  z4 := Tryd.sizeOf4
  v4 := Tryd.zeroValue4
  t5 := Tryd.underlying5
  a5 := Tryd.isAgg5
  z5 := Tryd.sizeOf5
  v5 := Tryd.zeroValue5
  t9 := Tryd.underlying9
  a9 := Tryd.isAgg9
  z9 := Tryd.sizeOf9
  v9 := Tryd.zeroValue9
  t26 := Tryd.underlying109
  a26 := Tryd.isAgg109
  z26 := Tryd.sizeOf109
  v26 := Tryd.zeroValue109
  t27 := Tryd.underlying109
  a27 := Tryd.isAgg109
  z27 := Tryd.sizeOf109
  v27 := Tryd.zeroValue109
  t29 := Tryd.underlying9
  a29 := Tryd.isAgg9
  z29 := Tryd.sizeOf9
  v29 := Tryd.zeroValue9
  t32 := Tryd.underlying145
  a32 := Tryd.isAgg145
  z32 := Tryd.sizeOf145
  v32 := Tryd.zeroValue145
  t35 := Tryd.underlying243
  a35 := Tryd.isAgg243
  z35 := Tryd.sizeOf243
  v35 := Tryd.zeroValue243
  t36 := Tryd.underlying244
  a36 := Tryd.isAgg244
  z36 := Tryd.sizeOf244
  v36 := Tryd.zeroValue244
  t41 := Tryd.underlying168
  a41 := Tryd.isAgg168
  z41 := Tryd.sizeOf168
  v41 := Tryd.zeroValue168
  t44 := Tryd.underlying194
  a44 := Tryd.isAgg194
  z44 := Tryd.sizeOf194
  v44 := Tryd.zeroValue194
  t46 := Tryd.underlying144
  a46 := Tryd.isAgg144
  z46 := Tryd.sizeOf144
  v46 := Tryd.zeroValue144
  t53 := Tryd.underlying252
  a53 := Tryd.isAgg252
  z53 := Tryd.sizeOf252
  v53 := Tryd.zeroValue252
  t57 := Tryd.underlying256
  a57 := Tryd.isAgg256
  z57 := Tryd.sizeOf256
  v57 := Tryd.zeroValue256
  t63 := Tryd.underlying258
  a63 := Tryd.isAgg258
  z63 := Tryd.sizeOf258
  v63 := Tryd.zeroValue258
  t64 := Tryd.underlying259
  a64 := Tryd.isAgg259
  z64 := Tryd.sizeOf259
  v64 := Tryd.zeroValue259


/-- slices.Sort's two contracts at this dump, at the fence that asks nothing. -/
theorem Tryd.sorts107 (m : Nat) : AnyZ.SortsIn Tryd.prog Tryd.sorted107_ren Fence.wide m :=
  ⟨fun blk off cap ss W hH hblk hsz => callsIn_wide.2 (AnyM.slices_Sort_string Tryd.sort138 blk off cap ss W hH hblk hsz),
   fun p cap W => callsIn_wide.2 (AnyM.slices_Sort_string_none Tryd.sort138 p cap W)⟩

/-- **maps.Keys[taproot/disk.files,string,[]byte], at whatever map, the nil one too:** a function value over ONE NEW BLOCK, which holds the map. -/
theorem Tryd.maps_Keys_108 (mb : Option Nat) (W : World) : CallsIn Fence.wide 5 Tryd.prog 108 #[.map mb] W fun e w' => e = .returned (.func (.func 139) #[] #[.pointer (some ⟨W.heap.size, 0, none⟩)]) ∧ w' = W.alloc (.cells #[.map mb] 155) :=
  AnyZ.keys_in Tryd.keys108 Fence.wide 5 trivial rfl mb W

set_option maxHeartbeats 1000000 in
/-- **slices.Sorted[string] AT WHAT maps.Keys[taproot/disk.files,string,[]byte] HANDED BACK FOR A MAP THAT IS NOT nil** ('w': the world AHEAD of maps.Keys' call): A NEW SLICE THAT HOLDS THE MAP's KEYS, SORTED; nil just where it has none; nothing that lay before has turned. -/
theorem Tryd.slices_Sorted_keys_107_108 {H : Type} (b nn : Nat) (D0 : DataW H) (R : Value → Option (DataW H × List MemPlace)) (w : World) (hown : w.ownsMap Tryd.prog 9 R b nn D0) (hmax : Maps.size D0 ≤ maxLen) (hbytes : Maps.size D0 * 16 ≤ 140737488355328) :
    CallsIn Fence.wide 5 Tryd.prog 107 #[.func (.func 139) #[] #[.pointer (some ⟨w.heap.size, 0, none⟩)]] (w.alloc (.cells #[.map (some b)] 155)) fun e w' => ∃ (v : Value) (ss : List (List UInt8)), e = .returned v ∧ ss.Perm (strKeys D0) ∧
      w'.ownsRow (w.alloc (.cells #[.map (some b)] 155)).heap.size 9 1 v ss.length ((ss.mergeSort (fun x y => decide (x ≤ y))).map encStr) ∧ (v = .slice none 0 0 ↔ ss = []) ∧ Below (w.alloc (.cells #[.map (some b)] 155)).heap.size (w.alloc (.cells #[.map (some b)] 155)) w' := by
  have hbl := hown.lt
  have hseq : SeqGives Fence.wide 2 Tryd.prog 139 #[.pointer (some ⟨w.heap.size, 0, none⟩)] encStr (fun ss => ss.Perm (strKeys D0)) (Maps.size D0) (w.alloc (.cells #[.map (some b)] 155)) :=
    AnyZ.keys_gives (ρ := Tryd.keys108_ren) { Tryd.keys108 with } Fence.wide _ trivial rfl (by omega) w.heap.size b nn D0 _ (by simp) (by simp) (by
      obtain ⟨es, clock, hb, Ft, hs, hD⟩ := hown
      exact ⟨es, clock, (Below.heap_alloc _ _ b hbl).trans hb, Ft, hs, hD⟩)
  exact AnyZ.sorted_in Tryd.sorted107 Fence.wide 5 trivial trivial trivial trivial rfl (by omega) (Tryd.sorts107 _) (enters_of Tryd.func138 (by kernel_rfl) rfl) 139 #[.pointer (some ⟨w.heap.size, 0, none⟩)] trivial (enters_of Tryd.func139 (by kernel_rfl) rfl) _ _ hmax hbytes _ hseq

set_option maxHeartbeats 1000000 in
/-- **.. AND FOR THE nil MAP: nil.** -/
theorem Tryd.slices_Sorted_keys_nil_107_108 (w : World) :
    CallsIn Fence.wide 5 Tryd.prog 107 #[.func (.func 139) #[] #[.pointer (some ⟨w.heap.size, 0, none⟩)]] (w.alloc (.cells #[.map none] 155)) fun e w' => ∃ (v : Value) (ss : List (List UInt8)), e = .returned v ∧ ss = [] ∧
      w'.ownsRow (w.alloc (.cells #[.map none] 155)).heap.size 9 1 v ss.length ((ss.mergeSort (fun x y => decide (x ≤ y))).map encStr) ∧ (v = .slice none 0 0 ↔ ss = []) ∧ Below (w.alloc (.cells #[.map none] 155)).heap.size (w.alloc (.cells #[.map none] 155)) w' := by
  have hseq : SeqGives Fence.wide 2 Tryd.prog 139 #[.pointer (some ⟨w.heap.size, 0, none⟩)] encStr (fun ss : List (List UInt8) => ss = []) 0 (w.alloc (.cells #[.map none] 155)) :=
    AnyZ.keys_gives_nil (ρ := Tryd.keys108_ren) { Tryd.keys108 with } Fence.wide _ trivial rfl w.heap.size _ (by simp) (by simp)
  exact AnyZ.sorted_in Tryd.sorted107 Fence.wide 5 trivial trivial trivial trivial rfl (by omega) (Tryd.sorts107 _) (enters_of Tryd.func138 (by kernel_rfl) rfl) 139 #[.pointer (some ⟨w.heap.size, 0, none⟩)] trivial (enters_of Tryd.func139 (by kernel_rfl) rfl) _ 0 (Nat.zero_le _) (by omega) _ hseq

-- THE CALLER's WALK over 'slices.Sorted(maps.Keys(m))' (inside '(callsIn_wide (n := 6)).1'; 'have hfK : Fence.wide.fn 108 := trivial', 'have hfS : Fence.wide.fn 107 := trivial' ahead): THE TWO ARMS TO PASTE:
--   gi_wp2_with (first
--     | (gi_at_call 108; refine (Tryd.maps_Keys_108 _ _).mono ?_; rintro e w' ⟨rfl, rfl⟩)
--     | (gi_at_call 107; refine (Tryd.slices_Sorted_keys_107_108 b nn D0 R w hown hmax hbytes).mono ?_; rintro e w' ⟨v, ss, rfl, hS, hrow, hnil, hb⟩))


end Go.Proofs
