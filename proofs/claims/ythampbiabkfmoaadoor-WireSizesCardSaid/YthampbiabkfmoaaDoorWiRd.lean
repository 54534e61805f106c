/- A Reader as a state; wire.hash. -/
import Derived.Test.YthampbiabkfmoaaDoorWiWr
import Derived.Test.YthampbiabkfmoaaDoorWiHash
import Derived.Test.YthampbiabkfmoaaDoorReadQ
import Derived.Test.YthampbiabkfmoaaDoorReadVar
import Derived.Deep.RegionHeld3
namespace Go.Proofs.YthampbiabkfmoaaDoor
open Go.RowKit Go.Tap
set_option linter.unusedVariables false
set_option linter.unusedSimpArgs false
/-- A reader (type T) with these bytes left, which lie in block D. -/
structure Rd (T : TypeId) (w : World) (B D : Nat) (l : List UInt8) (lk : Bool) : Prop where
  is : ∃ a c, IsQ D T w B a c lk l
  dlt : D < w.heap.size
theorem Rd.lt {T : TypeId} {w : World} {B D : Nat} {l : List UInt8} {lk : Bool} (h : Rd T w B D l lk) : B < w.heap.size := by
  obtain ⟨⟨a, c, h⟩, _⟩ := h; exact h.lt
theorem Rd.stay {T : TypeId} {S : Nat → Prop} {w w' : World} {B D : Nat} {l : List UInt8} {lk : Bool} (h : Rd T w B D l lk) (ht : TStay S w w') (hB : ¬ S B) (hD : ¬ S D) : Rd T w' B D l lk := by
  have hlt := h.lt
  obtain ⟨⟨a, c, h⟩, hd⟩ := h
  refine ⟨⟨a, c, ⟨⟨(ht.block B hlt hB).trans h.blk, h.rds.keep (fun h0 b o e => ?_), h.le, h.nnil, h.cap⟩, h.dat⟩⟩, by have := ht.size; omega⟩
  have := h.dat _ e
  simp only at this
  subst this
  exact ht.block _ hd hD
theorem Rd.below {T : TypeId} {w w' : World} {B D : Nat} {l : List UInt8} {lk : Bool} (h : Rd T w B D l lk) (hb : Below w.heap.size w w') : Rd T w' B D l lk :=
  h.stay (TStay.of_below hb (fun _ => False)) (fun h => h) (fun h => h)
/-- Behind a reading call. -/
structure RdAft (T : TypeId) (w : World) (B D : Nat) (v : Value) (q : List UInt8 × Bool) (e : Ending) (w' : World) : Prop where
  e : e = .returned v
  rd : Rd T w' B D q.1 q.2
  st : TStay (fun k => k = B) w w'
theorem rd_step {T : TypeId} {w : World} {B D f : Nat} {l : List UInt8} {lk : Bool} {args : Array Value} {v : Value} {q : List UInt8 × Bool} (h : Rd T w B D l lk) (hc : ∀ a c, IsQ D T w B a c lk l → Calls Tryd.prog f args w (QAft D T w B v q)) : Calls Tryd.prog f args w (RdAft T w B D v q) := by
  obtain ⟨⟨a, c, h1⟩, hd⟩ := h
  refine (hc a c h1).mono ?_
  rintro e w' ⟨rfl, a', c', k1, k2⟩
  exact ⟨rfl, ⟨⟨a', c', k1⟩, by have := k2.size; omega⟩, k2⟩
theorem rd_u8 {w : World} {B D : Nat} {l : List UInt8} {lk : Bool} (h : Rd 198 w B D l lk) : Calls Tryd.prog 60 #[.pointer (some ⟨B, 0, none⟩)] w (RdAft 198 w B D (.int .i64 (Oct.i64 (Oct.rdU 1 l lk).1)) (Oct.rdU 1 l lk).2) :=
  rd_step h fun a c hq => q_rU8_any D w B a c lk l hq
theorem rd_u32 {w : World} {B D : Nat} {l : List UInt8} {lk : Bool} (h : Rd 198 w B D l lk) : Calls Tryd.prog 75 #[.pointer (some ⟨B, 0, none⟩)] w (RdAft 198 w B D (.int .i64 (Oct.i64 (Oct.rdU 4 l lk).1)) (Oct.rdU 4 l lk).2) :=
  rd_step h fun a c hq => q_rU32_any D w B a c lk l hq
theorem rd_var {w : World} {B D : Nat} {l : List UInt8} {lk : Bool} (h : Rd 198 w B D l lk) : Calls Tryd.prog 62 #[.pointer (some ⟨B, 0, none⟩)] w (RdAft 198 w B D (.int .i64 (Oct.rdVar l lk).1) (Oct.rdVar l lk).2) :=
  rd_step h fun a c hq => q_rVar_any' D w B a c lk l hq
/-- Behind Raw. -/
structure RdRaw (T : TypeId) (w : World) (B D : Nat) (q : List UInt8 × List UInt8 × Bool) (e : Ending) (w' : World) : Prop where
  e : ∃ x c, e = .returned (.slice x q.1.length c) ∧ w'.ownsRow w.heap.size 5 1 (.slice x q.1.length c) q.1.length (bv q.1)
  rd : Rd T w' B D q.2.1 q.2.2
  st : TStay (fun k => k = B) w w'
theorem rd_raw {w : World} {B D : Nat} {l : List UInt8} {lk : Bool} (h : Rd 198 w B D l lk) (n : Int) (hn : n ≤ 9223372036854775807) : Calls Tryd.prog 77 #[.pointer (some ⟨B, 0, none⟩), .int .i64 n] w (RdRaw 198 w B D (Oct.rdRaw n l lk)) := by
  obtain ⟨⟨a, c, h1⟩, hd⟩ := h
  refine (q_qRaw_any D w B a c lk l h1 n hn).mono ?_
  rintro e w' ⟨x, c', rfl, k0, a2, c2, k1, k2⟩
  exact ⟨⟨x, c', rfl, k0⟩, ⟨⟨a2, c2, k1⟩, by have := k2.size; omega⟩, k2⟩
theorem lack_same {w : World} {B D : Nat} {l : List UInt8} {lk : Bool} (h : Rd 198 w B D l lk) : Calls Tryd.prog 76 #[.pointer (some ⟨B, 0, none⟩)] w fun e w' => e = .returned (.bool lk) ∧ w = w' := by
  obtain ⟨⟨a, c, h1⟩, hd⟩ := h
  exact lack_any w B a c lk l h1.r
theorem raw_len (l : List UInt8) (lk : Bool) : (Oct.rdRaw 32 l lk).1 = [] ∨ (Oct.rdRaw 32 l lk).1.length = 32 := by
  unfold Oct.rdRaw
  split
  · exact .inl rfl
  · rename_i h; right; simp at h ⊢; omega
theorem hash_splice (x : List UInt8) (h : x = [] ∨ x.length = 32) : (splice (hashC Wi.z32).toList 0 (bv x)).toArray = hashC (if x = [] then Wi.z32 else x) := by
  rcases h with rfl | h
  · rfl
  · have hx : x ≠ [] := by rintro rfl; simp at h
    rw [if_neg hx]
    apply Array.ext'
    simp only [splice, List.take_zero, List.nil_append, bv_length, h]
    rw [List.drop_of_length_le (by simp [hashC, bv_length, Wi.z32])]
    simp [hashC]
theorem step_copy_hash {ops : Array Oper} {o : Oper} {a : Act} {Y : World} {K : Act → World → Prop} {Q : Exit → Act → World → Prop} {E : Prop} (hgd : o.guard = none) (d s : Operand)
    (ho : o.op = .call { callee := .builtin .copy, args := #[d, s], argTypes := #[25, 25] }) (g : Nat) (x : Option Addr) (c : Nat) (q : List UInt8) (hd : a.eval d = .slice (some ⟨g, 0, none⟩) 32 32) (hs : a.eval s = .slice x q.length c)
    (hg : Y.heap[g]? = some (.cells (hashC Wi.z32) 40 (0, 0))) (hq : q = [] ∨ q.length = 32) (hr : Rds Y x q.length q)
    (h : ∀ w', w'.heap[g]? = some (.cells (hashC (if q = [] then Wi.z32 else q)) 40 (0, 0)) → Below g Y w' → K (a.put o.dst (goInt q.length)) w') :
    if Region.wanted o (yielded ops a.tmps) = true then Oper.wp Tryd.prog o a Y K Q else E := by
  refine step_copy_splice hgd d s 25 25 ho 5 Tryd.underlying25 sz_u8 (some ⟨g, 0, none⟩) x 32 32 q.length c hd hs g 0 (hashC Wi.z32).toList 40 (by rw [Array.toArray_toList]; exact hg) (bv q) ?_ ?_ ?_ (bv_one _) g Y (Below.refl _ _) (Nat.le_refl _) ?_
  · rw [bv_length]
    rcases hq with rfl | h
    · rfl
    · rw [h]; rfl
  · intro h0
    obtain ⟨b, o, e, hc⟩ := hr.2 (by rwa [bv_length] at h0)
    refine ⟨rfl, _, e, fun j v hj => ?_⟩
    rw [bv_getElem?] at hj
    obtain ⟨y, hy, rfl⟩ := Option.map_eq_some_iff.1 hj
    rw [Addr.add_lit]; exact hc j y hy
  · rw [bv_length]; show 0 + q.length ≤ 32; rcases hq with rfl | h <;> simp_all
  · intro w' h1 h2
    rw [bv_length]
    refine h w' ?_ h2
    have := h1.out
    rwa [hash_splice q hq] at this
theorem rdHash_len (l : List UInt8) (lk : Bool) : (Wi.rdHash l lk).1.length = 32 := by
  unfold Wi.rdHash
  rcases raw_len l lk with h | h
  · simp only [h, if_true]; rfl
  · have hx : (Oct.rdRaw 32 l lk).1 ≠ [] := by intro e; rw [e] at h; simp at h
    simp only [if_neg hx]; exact h
set_option maxHeartbeats 2000000 in
set_option maxRecDepth 100000 in
theorem wireHash_any {w : World} {B D : Nat} {l : List UInt8} {lk : Bool} (h : Rd 198 w B D l lk) :
    Calls Tryd.prog 61 #[.pointer (some ⟨B, 0, none⟩)] w (RdAft 198 w B D (.agg (hashC (Wi.rdHash l lk).1)) (Wi.rdHash l lk).2) := by
  obtain ⟨G, hG⟩ : ∃ G, G = (Wi.rdHash l lk).1 := ⟨_, rfl⟩
  rw [← hG]
  have HG := Lib.hid hG
  have hBw := h.lt
  have hDw := h.dlt
  obtain ⟨Z, hZ⟩ : ∃ Z, Z = hashC Wi.z32 := ⟨_, rfl⟩
  have HZ := Lib.hid hZ
  have hZs : Z.size = 32 := by rw [hZ]; rfl
  obtain ⟨W, hW⟩ : ∃ W, W = (w.alloc (.cells Z 40)).alloc (.cells Z 40) := ⟨_, rfl⟩
  have bW : Below w.heap.size w W := by rw [hW]; exact ((Below.refl _ _).alloc (Nat.le_refl _) _).alloc (by simp) _
  have hWs : W.heap.size = w.heap.size + 2 := by rw [hW]; simp
  have T0 : Hid (W.heap[w.heap.size]? = some (.cells Z 40 (0, 0))) := Lib.hid (by rw [hW]; exact heap_alloc2_old _ _ _)
  have T1 : Hid (W.heap[w.heap.size + 1]? = some (.cells Z 40 (0, 0))) := Lib.hid (by rw [hW]; exact heap_alloc2_new _ _ _)
  have hraw : Calls Tryd.prog 77 #[.pointer (some ⟨B, 0, none⟩), .int .i64 32] W.drew (RdRaw 198 W.drew B D (Oct.rdRaw 32 l lk)) := rd_raw (w := W.drew) ((h.below bW).below ⟨rfl, rfl, rfl, Nat.le_refl _, fun _ _ => rfl⟩) 32 (by omega)
  have HRAW := Lib.hid hraw
  have HBW := Lib.hid bW
  have HWS := Lib.hid hWs
  have HB := Lib.hid hBw
  have HD := Lib.hid hDw
  have hsl := slice_arr
  have HW := Lib.hid hW
  clear hG hZ hW bW hWs hraw hBw hDw h
  go_enter Tryd.func61, Tryd.ntmps61
  go_upto_region 2 with (fail)
  rw [show (#[.int .u8 0, .int .u8 0, .int .u8 0, .int .u8 0, .int .u8 0, .int .u8 0, .int .u8 0, .int .u8 0, .int .u8 0, .int .u8 0, .int .u8 0, .int .u8 0, .int .u8 0, .int .u8 0, .int .u8 0, .int .u8 0, .int .u8 0, .int .u8 0, .int .u8 0, .int .u8 0, .int .u8 0, .int .u8 0, .int .u8 0, .int .u8 0, .int .u8 0, .int .u8 0, .int .u8 0, .int .u8 0, .int .u8 0, .int .u8 0, .int .u8 0, .int .u8 0] : Array Value) = Z from HZ.out.symm]
  rw [← HW.out]
  obtain ⟨q, hq⟩ : ∃ q, q = Oct.rdRaw 32 l lk := ⟨_, rfl⟩
  rw [← hq] at HRAW
  have HQ := Lib.hid hq
  have HQL : Hid (q.1 = [] ∨ q.1.length = 32) := Lib.hid (by rw [hq]; exact raw_len l lk)
  have HZl : Hid (Z.toList.length = 32) := Lib.hid (by rw [Array.length_toList]; exact hZs)
  clear hq hZs
  go_region_held3 (fun w' => True) (trivial) (first | (go_at_call 77; refine HRAW.out.mono ?_; rintro e Y ⟨⟨x, c, rfl, OY⟩, RY, SY⟩; replace OY := Lib.hid OY; replace RY := Lib.hid RY; replace SY := Lib.hid SY) | (refine step_copy_hash (by rfl) (.tmp 4) (.tmp 6) (by rfl) (w.heap.size + 1) x c q.1 (by rfl) (by rfl) ((SY.out.block (w.heap.size + 1) (by show _ < W.heap.size; rw [HWS.out]; omega) (by have := HB.out; show ¬ (w.heap.size + 1 = B); omega)).trans (by rw [← HZ.out]; exact T1.out)) HQL.out (Rds.of_own OY.out rfl) ?_; intro w4 T4 B4; replace B4 := Lib.hid B4; replace T4 := Lib.hid T4))
  have HGE : Hid (hashC (if q.1 = [] then Wi.z32 else q.1) = hashC G) := Lib.hid (by rw [HG.out, HQ.out]; rfl)
  rw [HGE.out] at T4
  have SA : Hid (TStay (fun k => k = B) w Y) := Lib.hid ((TStay.of_below HBW.out (fun k => k = B)).trans (show TStay (fun k => k = B) W Y from ⟨SY.out.os, SY.out.tape, SY.out.output, SY.out.size, SY.out.block⟩) (fun _ _ h => h))
  have SZ : Hid (w.heap.size + 2 ≤ Y.heap.size) := Lib.hid (by have := SY.out.size; rw [← HWS.out]; exact this)
  have S4 : Hid (TStay (fun k => k = B) w w4) := Lib.hid (SA.out.trans (show TStay (fun k => w.heap.size + 1 ≤ k) Y w4 from ⟨B4.out.os, B4.out.tape, B4.out.output, B4.out.size, fun k _ hn => B4.out.block k (by omega)⟩) (fun i hi h => by exfalso; omega))
  have TY : Hid (w4.heap[w.heap.size]? = some (.cells Z 40 (0, 0))) := Lib.hid ((B4.out.block _ (by omega)).trans ((SY.out.block w.heap.size (by show _ < W.heap.size; rw [HWS.out]; omega) (by have := HB.out; omega)).trans T0.out))
  have R4 : Hid (Rd 198 w4 B D (Wi.rdHash l lk).2.1 (Wi.rdHash l lk).2.2) := Lib.hid (by
    have := RY.out.stay (show TStay (fun k => w.heap.size + 1 ≤ k) Y w4 from ⟨B4.out.os, B4.out.tape, B4.out.output, B4.out.size, fun k _ hn => B4.out.block k (by omega)⟩) (by have := HB.out; omega) (by have := HD.out; omega)
    rw [HQ.out] at this; exact this)
  have HGL : Hid (G.length = 32) := Lib.hid (by rw [HG.out]; exact rdHash_len l lk)
  have P4 : Hid (Part w4 (w.heap.size + 1) 0 (hashC G)) := Lib.hid (Part.of_blk T4.out)
  clear HRAW SY RY B4 OY T0 T1 T4 HQ HG HW
  go_wp2_with (first | (refine wpL_load ?hw 40 (.tmp 3) rfl (w.heap.size + 1) 0 rfl (hashC G) _ P4.out Tryd.underlying40 rfl (by rw [hashC_size _ HGL.out]; exact sz_hash) ?_; case hw => kernel_rfl) | (refine wpL_store ?hw 40 (.tmp 2) (.tmp 8) rfl w.heap.size 0 rfl (hashC G) rfl Z 40 TY.out (by rw [hashC_size _ HGL.out, HZ.out]; decide) (by intro v hv; exact bv_one _ v (by simpa [hashC] using hv)) (by rw [hashC_size _ HGL.out]; exact sz_hash) ?_; case hw => kernel_rfl))
  have hsp : (splice Z.toList 0 (hashC G).toList).toArray = hashC G := by
    rw [splice_all _ _ (by rw [HZl.out, Array.length_toList, hashC_size _ HGL.out])]
  rw [hsp]
  have hT : (w4.setRow w.heap.size (hashC G)).heap[w.heap.size]? = some (.cells (hashC G) 40 (0, 0)) := setRow_heap _ _ _ _ _ _ TY.out
  have hS : TStay (fun k => k = w.heap.size) w4 (w4.setRow w.heap.size (hashC G)) := ⟨rfl, rfl, rfl, by simp [World.setRow], fun k _ hn => setRow_other _ _ _ _ hn⟩
  refine bodyPost_ret (results_cell_row rfl _ _ w.heap.size 40 (hashC G) (0, 0) _ rfl hT Tryd.underlying40 rfl (by rw [hashC_size _ HGL.out]; exact sz_hash)) rfl ⟨rfl, ?_, ?_⟩
  · exact R4.out.stay hS (by have := HB.out; omega) (by have := HD.out; omega)
  · exact S4.out.trans hS (fun i hi h => by exfalso; omega)
end Go.Proofs.YthampbiabkfmoaaDoor
