/- The reference's Reader as a state: U8, U32, Var, Raw, Hash. -/
import Derived.Test.YthampbiabkfmoaaDoorWiRd
namespace Go.Proofs.YthampbiabkfmoaaDoor
open Go.RowKit Go.Tap
set_option linter.unusedVariables false
set_option linter.unusedSimpArgs false
set_option maxHeartbeats 1000000 in
theorem q_sGet_any (D : Nat) (w : World) (B : Nat) (a : Option Addr) (c : Nat) (lack : Bool) (l : List UInt8) (h : IsQ D 98 w B a c lack l) (n : Nat) (hn : n ≤ 8) :
    Calls Tryd.prog 101 #[.pointer (some ⟨B, 0, none⟩), .int .i64 (n : Int)] w (QAft D 98 w B (.int .u64 ((Oct.rdU n l lack).1 : Nat)) (Oct.rdU n l lack).2) := by
  rw [Oct.rdU_raw]
  have hlen := rdRaw_len n l lack
  have hraw := Lib.hid (q_sRaw_any D w B a c lack l h n (by omega))
  generalize Oct.rdRaw n l lack = q at hlen hraw ⊢
  obtain ⟨x1, l1, lack1⟩ := q
  simp only at hlen ⊢
  go_enter Tryd.func101, Tryd.ntmps101
  go_wp2_with fail
  refine hraw.out.mono ?_
  rintro e w1 ⟨x, cx, rfl, hown, a', c', hR, hS⟩
  simp only at hown hR ⊢
  have hrd := Rds.of_own hown rfl
  have hres : Hid (QAft D 98 w B (.int .u64 (Oct.val x1 : Nat)) (l1, lack1) (.returned (.int .u64 (Oct.val x1 : Nat))) w1) := ⟨rfl, a', c', hR, hS⟩
  clear hown hR hS
  go_wp2
  go_loop [6, 7] (fun v i => ∃ k : Nat, k ≤ x1.length ∧ i = .int .i64 k ∧ v = .int .u64 (Oct.val (x1.take k) : Nat)) (fun _ i => x1.length - (intOf i).toNat)
  case atStart => exact ⟨0, Nat.zero_le _, rfl, rfl⟩
  case round =>
    obtain ⟨k, hk, rfl, rfl⟩ := hrel
    by_cases hlt : k < x1.length
    · obtain ⟨b, o, ha, hc⟩ := hrd.2 (by omega)
      have hx : x1[k]? = some (x1[k]'hlt) := List.getElem?_eq_getElem _
      have hcell := hc k _ hx
      generalize (x1[k]'hlt) = y at hx hcell
      have hv := Oct.val_lt (x1.take k)
      rw [List.length_take, Nat.min_eq_left (Nat.le_of_lt hlt)] at hv
      have hp := pow256 k (by omega)
      have HX := Lib.hid (val_take x1 k y hx)
      generalize Oct.val (x1.take k) = V at hv HX
      have hsh := shl_add V y (by omega)
      have hxl := y.toNat_lt
      clear hx hc hrd hv hp
      subst ha
      go_wp2
      go_round
      case rel => exact ⟨k + 1, by omega, by go_num, by rw [HX.out]; exact congrArg (Value.int .u64) (by omega)⟩
      case measure => first | (simp [intOf]; done) | (simp [intOf]; omega)
    · have e : x1.take k = x1 := List.take_of_length_le (by omega)
      rw [e]
      clear e
      go_wp2
      go_ret
      exact hres.out

theorem q_sU8_any (D : Nat) (w : World) (B : Nat) (a : Option Addr) (c : Nat) (lack : Bool) (l : List UInt8) (h : IsQ D 98 w B a c lack l) :
    Calls Tryd.prog 66 #[.pointer (some ⟨B, 0, none⟩)] w (QAft D 98 w B (.int .i64 (Oct.i64 (Oct.rdU 1 l lack).1)) (Oct.rdU 1 l lack).2) := by
  have hb := i64_shows (Oct.rdU 1 l lack).1 (Nat.lt_of_lt_of_le (Oct.rdU_lt 1 l lack) (by decide))
  have hget := Lib.hid (q_sGet_any D w B a c lack l h 1 (by omega))
  generalize Oct.rdU 1 l lack = q at hb hget ⊢
  obtain ⟨v, q⟩ := q
  simp only at hb ⊢
  generalize Oct.i64 v = z at hb ⊢
  go_enter Tryd.func66, Tryd.ntmps66
  go_wp2_with fail
  refine hget.out.mono ?_
  rintro e w1 ⟨rfl, a', c', hR, hS⟩
  have hres : Hid (QAft D 98 w B (.int .i64 z) q (.returned (.int .i64 z)) w1) := ⟨rfl, a', c', hR, hS⟩
  clear hR hS
  go_wp2
  go_ret
  exact hres.out

theorem q_sU32_any (D : Nat) (w : World) (B : Nat) (a : Option Addr) (c : Nat) (lack : Bool) (l : List UInt8) (h : IsQ D 98 w B a c lack l) :
    Calls Tryd.prog 67 #[.pointer (some ⟨B, 0, none⟩)] w (QAft D 98 w B (.int .i64 (Oct.i64 (Oct.rdU 4 l lack).1)) (Oct.rdU 4 l lack).2) := by
  have hb := i64_shows (Oct.rdU 4 l lack).1 (Nat.lt_of_lt_of_le (Oct.rdU_lt 4 l lack) (by decide))
  have hget := Lib.hid (q_sGet_any D w B a c lack l h 4 (by omega))
  generalize Oct.rdU 4 l lack = q at hb hget ⊢
  obtain ⟨v, q⟩ := q
  simp only at hb ⊢
  generalize Oct.i64 v = z at hb ⊢
  go_enter Tryd.func67, Tryd.ntmps67
  go_wp2_with fail
  refine hget.out.mono ?_
  rintro e w1 ⟨rfl, a', c', hR, hS⟩
  have hres : Hid (QAft D 98 w B (.int .i64 z) q (.returned (.int .i64 z)) w1) := ⟨rfl, a', c', hR, hS⟩
  clear hR hS
  go_wp2
  go_ret
  exact hres.out

theorem sd_u8 {w : World} {B D : Nat} {l : List UInt8} {lk : Bool} (h : Rd 98 w B D l lk) : Calls Tryd.prog 66 #[.pointer (some ⟨B, 0, none⟩)] w (RdAft 98 w B D (.int .i64 (Oct.i64 (Oct.rdU 1 l lk).1)) (Oct.rdU 1 l lk).2) :=
  rd_step h fun a c hq => q_sU8_any D w B a c lk l hq
theorem sd_u32 {w : World} {B D : Nat} {l : List UInt8} {lk : Bool} (h : Rd 98 w B D l lk) : Calls Tryd.prog 67 #[.pointer (some ⟨B, 0, none⟩)] w (RdAft 98 w B D (.int .i64 (Oct.i64 (Oct.rdU 4 l lk).1)) (Oct.rdU 4 l lk).2) :=
  rd_step h fun a c hq => q_sU32_any D w B a c lk l hq
theorem sd_var {w : World} {B D : Nat} {l : List UInt8} {lk : Bool} (h : Rd 98 w B D l lk) : Calls Tryd.prog 69 #[.pointer (some ⟨B, 0, none⟩)] w (RdAft 98 w B D (.int .i64 (Oct.rdVar l lk).1) (Oct.rdVar l lk).2) :=
  rd_step h fun a c hq => q_sVar_any D w B a c lk l hq
theorem sd_raw {w : World} {B D : Nat} {l : List UInt8} {lk : Bool} (h : Rd 98 w B D l lk) (n : Int) (hn : n ≤ 9223372036854775807) : Calls Tryd.prog 70 #[.pointer (some ⟨B, 0, none⟩), .int .i64 n] w (RdRaw 98 w B D (Oct.rdRaw n l lk)) := by
  obtain ⟨⟨a, c, h1⟩, hd⟩ := h
  refine (q_sRaw_any D w B a c lk l h1 n hn).mono ?_
  rintro e w' ⟨x, c', rfl, k0, a2, c2, k1, k2⟩
  exact ⟨⟨x, c', rfl, k0⟩, ⟨⟨a2, c2, k1⟩, by have := k2.size; omega⟩, k2⟩
/-- Lack, as it lies in the reader. -/
theorem rd_lack {T : TypeId} {w : World} {B D : Nat} {l : List UInt8} {lk : Bool} (h : Rd T w B D l lk) : w.cell? ⟨B, 1, none⟩ = some (.bool lk) := by
  obtain ⟨⟨a, c, h1⟩, hd⟩ := h
  exact blk_cell (i := 1) h1.blk rfl
set_option maxHeartbeats 2000000 in
set_option maxRecDepth 100000 in
theorem refHash_any {w : World} {B D : Nat} {l : List UInt8} {lk : Bool} (h : Rd 98 w B D l lk) :
    Calls Tryd.prog 68 #[.pointer (some ⟨B, 0, none⟩)] w (RdAft 98 w B D (.agg (hashC (Wi.rdHash l lk).1)) (Wi.rdHash l lk).2) := by
  obtain ⟨G, hG⟩ : ∃ G, G = (Wi.rdHash l lk).1 := ⟨_, rfl⟩
  rw [← hG]
  have HG := Lib.hid hG
  have hBw := h.lt
  have hDw := h.dlt
  obtain ⟨Z, hZ⟩ : ∃ Z, Z = hashC Wi.z32 := ⟨_, rfl⟩
  have HZ := Lib.hid hZ
  have hZs : Z.size = 32 := by rw [hZ]; rfl
  obtain ⟨W, hW⟩ : ∃ W, W = (w.alloc (.cells Z 40)).alloc (.cells Z 40) := ⟨_, rfl⟩
  have bW : Below w.heap.size w W := by rw [hW]; exact ((Below.refl _ _).alloc (Nat.le_refl _) _).alloc (by simp) _
  have hWs : W.heap.size = w.heap.size + 2 := by rw [hW]; simp
  have T0 : Hid (W.heap[w.heap.size]? = some (.cells Z 40 (0, 0))) := Lib.hid (by rw [hW]; exact heap_alloc2_old _ _ _)
  have T1 : Hid (W.heap[w.heap.size + 1]? = some (.cells Z 40 (0, 0))) := Lib.hid (by rw [hW]; exact heap_alloc2_new _ _ _)
  have hraw : Calls Tryd.prog 70 #[.pointer (some ⟨B, 0, none⟩), .int .i64 32] W.drew (RdRaw 98 W.drew B D (Oct.rdRaw 32 l lk)) := sd_raw (w := W.drew) ((h.below bW).below ⟨rfl, rfl, rfl, Nat.le_refl _, fun _ _ => rfl⟩) 32 (by omega)
  have HRAW := Lib.hid hraw
  have HBW := Lib.hid bW
  have HWS := Lib.hid hWs
  have HB := Lib.hid hBw
  have HD := Lib.hid hDw
  have hsl := slice_arr
  have HW := Lib.hid hW
  clear hG hZ hW bW hWs hraw hBw hDw h
  go_enter Tryd.func68, Tryd.ntmps68
  go_upto_region 2 with (fail)
  rw [show (#[.int .u8 0, .int .u8 0, .int .u8 0, .int .u8 0, .int .u8 0, .int .u8 0, .int .u8 0, .int .u8 0, .int .u8 0, .int .u8 0, .int .u8 0, .int .u8 0, .int .u8 0, .int .u8 0, .int .u8 0, .int .u8 0, .int .u8 0, .int .u8 0, .int .u8 0, .int .u8 0, .int .u8 0, .int .u8 0, .int .u8 0, .int .u8 0, .int .u8 0, .int .u8 0, .int .u8 0, .int .u8 0, .int .u8 0, .int .u8 0, .int .u8 0, .int .u8 0] : Array Value) = Z from HZ.out.symm]
  rw [← HW.out]
  obtain ⟨q, hq⟩ : ∃ q, q = Oct.rdRaw 32 l lk := ⟨_, rfl⟩
  rw [← hq] at HRAW
  have HQ := Lib.hid hq
  have HQL : Hid (q.1 = [] ∨ q.1.length = 32) := Lib.hid (by rw [hq]; exact raw_len l lk)
  have HZl : Hid (Z.toList.length = 32) := Lib.hid (by rw [Array.length_toList]; exact hZs)
  clear hq hZs
  go_region_held3 (fun w' => True) (trivial) (first | (go_at_call 70; refine HRAW.out.mono ?_; rintro e Y ⟨⟨x, c, rfl, OY⟩, RY, SY⟩; replace OY := Lib.hid OY; replace RY := Lib.hid RY; replace SY := Lib.hid SY) | (refine step_copy_hash (by rfl) (.tmp 4) (.tmp 6) (by rfl) (w.heap.size + 1) x c q.1 (by rfl) (by rfl) ((SY.out.block (w.heap.size + 1) (by show _ < W.heap.size; rw [HWS.out]; omega) (by have := HB.out; show ¬ (w.heap.size + 1 = B); omega)).trans (by rw [← HZ.out]; exact T1.out)) HQL.out (Rds.of_own OY.out rfl) ?_; intro w4 T4 B4; replace B4 := Lib.hid B4; replace T4 := Lib.hid T4))
  have HGE : Hid (hashC (if q.1 = [] then Wi.z32 else q.1) = hashC G) := Lib.hid (by rw [HG.out, HQ.out]; rfl)
  rw [HGE.out] at T4
  have SA : Hid (TStay (fun k => k = B) w Y) := Lib.hid ((TStay.of_below HBW.out (fun k => k = B)).trans (show TStay (fun k => k = B) W Y from ⟨SY.out.os, SY.out.tape, SY.out.output, SY.out.size, SY.out.block⟩) (fun _ _ h => h))
  have SZ : Hid (w.heap.size + 2 ≤ Y.heap.size) := Lib.hid (by have := SY.out.size; rw [← HWS.out]; exact this)
  have S4 : Hid (TStay (fun k => k = B) w w4) := Lib.hid (SA.out.trans (show TStay (fun k => w.heap.size + 1 ≤ k) Y w4 from ⟨B4.out.os, B4.out.tape, B4.out.output, B4.out.size, fun k _ hn => B4.out.block k (by omega)⟩) (fun i hi h => by exfalso; omega))
  have TY : Hid (w4.heap[w.heap.size]? = some (.cells Z 40 (0, 0))) := Lib.hid ((B4.out.block _ (by omega)).trans ((SY.out.block w.heap.size (by show _ < W.heap.size; rw [HWS.out]; omega) (by have := HB.out; omega)).trans T0.out))
  have R4 : Hid (Rd 98 w4 B D (Wi.rdHash l lk).2.1 (Wi.rdHash l lk).2.2) := Lib.hid (by
    have := RY.out.stay (show TStay (fun k => w.heap.size + 1 ≤ k) Y w4 from ⟨B4.out.os, B4.out.tape, B4.out.output, B4.out.size, fun k _ hn => B4.out.block k (by omega)⟩) (by have := HB.out; omega) (by have := HD.out; omega)
    rw [HQ.out] at this; exact this)
  have HGL : Hid (G.length = 32) := Lib.hid (by rw [HG.out]; exact rdHash_len l lk)
  have P4 : Hid (Part w4 (w.heap.size + 1) 0 (hashC G)) := Lib.hid (Part.of_blk T4.out)
  clear HRAW SY RY B4 OY T0 T1 T4 HQ HG HW
  go_wp2_with (first | (refine wpL_load ?hw 40 (.tmp 3) rfl (w.heap.size + 1) 0 rfl (hashC G) _ P4.out Tryd.underlying40 rfl (by rw [hashC_size _ HGL.out]; exact sz_hash) ?_; case hw => kernel_rfl) | (refine wpL_store ?hw 40 (.tmp 2) (.tmp 8) rfl w.heap.size 0 rfl (hashC G) rfl Z 40 TY.out (by rw [hashC_size _ HGL.out, HZ.out]; decide) (by intro v hv; exact bv_one _ v (by simpa [hashC] using hv)) (by rw [hashC_size _ HGL.out]; exact sz_hash) ?_; case hw => kernel_rfl))
  have hsp : (splice Z.toList 0 (hashC G).toList).toArray = hashC G := by
    rw [splice_all _ _ (by rw [HZl.out, Array.length_toList, hashC_size _ HGL.out])]
  rw [hsp]
  have hT : (w4.setRow w.heap.size (hashC G)).heap[w.heap.size]? = some (.cells (hashC G) 40 (0, 0)) := setRow_heap _ _ _ _ _ _ TY.out
  have hS : TStay (fun k => k = w.heap.size) w4 (w4.setRow w.heap.size (hashC G)) := ⟨rfl, rfl, rfl, by simp [World.setRow], fun k _ hn => setRow_other _ _ _ _ hn⟩
  refine bodyPost_ret (results_cell_row rfl _ _ w.heap.size 40 (hashC G) (0, 0) _ rfl hT Tryd.underlying40 rfl (by rw [hashC_size _ HGL.out]; exact sz_hash)) rfl ⟨rfl, ?_, ?_⟩
  · exact R4.out.stay hS (by have := HB.out; omega) (by have := HD.out; omega)
  · exact S4.out.trans hS (fun i hi h => by exfalso; omega)
end Go.Proofs.YthampbiabkfmoaaDoor
