/- A work done on a disk's files. -/
import Derived.Test.YtkalpkmnelgieaaGreatDoorDskDo
import Derived.Deep.Cut
import Derived.Deep.CutRange
import Derived.Deep.CutBlock
namespace Go.Proofs.YtkalpkmnelgieaaGreatDoor
open Go.RowKit Go.Tap Go.Maps
set_option linter.unusedVariables false
attribute [local go_sem ↓] Go.wp_at_zero Go.wp_at_succ

namespace Dsk
/-- A work that pends. -/
structure Wk where
  kind : Nat
  name : Name
  dst : Name
  b : List UInt8
  n : Nat
def do1 (fs : Files) (x : Wk) : Option Files :=
  match x.kind with
  | 0 => some (put fs x.name (val fs x.name ++ x.b))
  | 1 => if x.n ≤ (val fs x.name).length then some (put fs x.name ((val fs x.name).take x.n)) else none
  | 2 => some (put (del fs x.name) x.dst (val fs x.name))
  | _ => some (del fs x.name)
end Dsk
theorem doS {w' : World} {T : Nat} {v0 v1 v2 v3 v4 : Value} (h1 : w'.heap[T]? = some (.cells #[v0, v1, v2, v3, v4] 110 (0, 0))) :
    w'.cell? ⟨T, 1, none⟩ = some v1 ∧ w'.cell? ⟨T, 3, none⟩ = some v3 ∧ w'.cell? ⟨T, 4, none⟩ = some v4 :=
  ⟨blk_cell (i := 1) h1 rfl, blk_cell (i := 3) h1 rfl, blk_cell (i := 4) h1 rfl⟩
set_option maxHeartbeats 4000000 in
set_option maxRecDepth 100000 in
theorem do_add (w : World) (b : Nat) (fs : Dsk.Files) (h : FsIs w b fs) (s dst : Dsk.Name) (hs : s.length ≤ 1048576) (ad : Option Addr) (n c : Nat) (x : List UInt8) (hk : Keeps w ad n c x) (m : Int)
    (hl : fs.length ≤ 1048575) (hz : (Dsk.val fs s).length + x.length ≤ 1099511627776) :
    Calls Tryz.prog 45 #[.map (some b), .agg #[.int .i64 0, .string (str s), .string (str dst), .slice ad n c, .int .i64 m]] w fun e w' =>
      e = .returned (.tuple #[]) ∧ FsIs w' b (Dsk.put fs s (Dsk.val fs s ++ x)) ∧ TStay (fun k => k = b) w w' := by
  obtain ⟨i0, hi, hz0, hz1, hz2'⟩ := info_parts Tryz.infoB
  obtain ⟨a0, n0, c0, k0, hlook⟩ := h.look s hs
  have hb := h.lt
  have hn0 : n0 + n ≤ 1099511627776 := by have := k0.len; have := hk.len; omega
  have HL := Lib.hid hlook
  have H := Lib.hid h
  have HK := Lib.hid hk
  have K0 := Lib.hid k0
  have HZ := Lib.hid hz
  clear hlook h hk k0 hz
  obtain ⟨W1, hW1⟩ : ∃ W1, W1 = w.alloc (.cells #[.int .i64 0, .string (str s), .string (str dst), .slice ad n c, .int .i64 m] 110) := ⟨_, rfl⟩
  have hT1 : W1.heap[w.heap.size]? = some (.cells #[.int .i64 0, .string (str s), .string (str dst), .slice ad n c, .int .i64 m] 110 (0, 0)) := by rw [hW1]; exact heap_alloc_new _ _
  have hb1 : W1.heap[b]? = w.heap[b]? := by rw [hW1]; exact (MapKept.heap_alloc w _).2 b hb
  have hs1 : W1.heap.size = w.heap.size + 1 := by rw [hW1]; simp
  have hu1 : KeepU w W1 := by rw [hW1]; exact KeepU.alloc w _
  have ht1 : TStay (fun k => k = b) w W1 := by rw [hW1]; exact (TStay.refl _ w).alloc _ _
  have hlk := (HL.out W1.drew hb1).1
  have hbOut : ∀ w2 w3 : World, Below W1.drew.heap.size W1.drew w2 → ∀ a' c', w2.ownsRow W1.drew.heap.size 5 1 (.slice a' n0 c') n0 (bv (Dsk.val fs s)) → w2.grownBy w3 (Value.slice a' n0 c').ownBlock → w3.heap[b]? = w.heap[b]? := fun w2 w3 hb2 a' c' ho hg => by
    have h3 : W1.drew.heap.size = w.heap.size + 1 := hs1
    have h4 := hb2.size
    exact (hg.block b (by omega) (fun e => by have h1 := (ho.lt _ e.symm).1; omega)).trans ((hb2.block b (by omega)).trans hb1)
  have hkOut : ∀ w2 w3 : World, Below W1.drew.heap.size W1.drew w2 → ∀ a' c', w2.ownsRow W1.drew.heap.size 5 1 (.slice a' n0 c') n0 (bv (Dsk.val fs s)) → w2.grownBy w3 (Value.slice a' n0 c').ownBlock → KeepU w w3 := fun w2 w3 hb2 a' c' ho hg k xs fr hk => by
    have h0 := blk_lt hk
    have h3 : W1.drew.heap.size = w.heap.size + 1 := hs1
    have h4 := hb2.size
    exact (hg.block k (by omega) (fun e => by have h1 := (ho.lt _ e.symm).1; omega)).trans ((hb2.block k (by omega)).trans (hu1 k xs fr hk))
  have hfsIn : ∀ w3 : World, w3.heap[b]? = w.heap[b]? → KeepU w w3 → FsIs w3 b fs := fun w3 h1 h2 => H.out.stay h1 h2
  have hlen3 : (Dsk.val fs s ++ x).length = n0 + n := by rw [List.length_append, K0.out.len, HK.out.len]
  have HT1 := Lib.hid hT1
  have hB1 := Lib.hid hb1
  have HS1 := Lib.hid hs1
  clear hT1 hb1 hs1
  go_enter Tryz.func45, Tryz.ntmps45
  go_wp2_with fail
  rw [← hW1]
  clear hW1
  go_region_held3 (fun w' => w'.cell? ⟨w.heap.size, 1, none⟩ = some (.string (str s)) ∧ w'.cell? ⟨w.heap.size, 3, none⟩ = some (.slice ad n c) ∧ w'.cell? ⟨w.heap.size, 4, none⟩ = some (.int .i64 m))
    (first | exact doS HT4.out | exact doS HT3.out | exact doS HT2.out | exact doS HT1.out)
    (first
      | (go_at_call 68; refine (clone_any _ a0 n0 c0 _ (K0.out.stay hu1).rds.drew K0.out.none (by omega)).mono ?_; rintro e w2 ⟨a', c', rfl, hown2, hb2⟩; have HT2 := Lib.hid ((hb2.block w.heap.size (by show _ < W1.heap.size; rw [HS1.out]; omega)).trans HT1.out))
      | (refine step_append_rds (by rfl) (.tmp 16) (.tmp 18) 38 (by rfl) W1.drew.heap.size 5 i0 Tryz.underlying38 hi hz0 hz1 hz2' _ n0 (Dsk.val fs s) (by rfl) hown2 ad n c (by rfl) HK.out.none x (((HK.out.stay hu1).stay (KeepU.drew _)).stay (KeepU.below hb2 (Nat.le_refl _))).rds (by omega) hb2.size ?_; intro a3 c3 w3 hown3 hg3; have hb3 := hbOut w2 w3 hb2 a' c' hown2 hg3; have hku3 := hkOut w2 w3 hb2 a' c' hown2 hg3; have HT3 := Lib.hid ((hg3.block w.heap.size (by have := blk_lt HT2.out; omega) (fun e => by have h1 := (hown2.lt _ e.symm).1; have h2 := HS1.out; have h3 : W1.drew.heap.size = W1.heap.size := rfl; omega)).trans HT2.out); obtain ⟨w4, hrun4, hfs4, ht4⟩ := (hfsIn w3 hb3 hku3).store s hs (Keeps.of_own (by rw [hlen3]; exact hown3) hlen3) (by omega); have HT4 := Lib.hid ((ht4.grown.block w.heap.size (by have := blk_lt HT3.out; omega) (fun e => by simp at e; omega)).trans HT3.out)))
  go_end0
  refine ⟨rfl, hfs4, ?_⟩
  have t2 : TStay (fun k => k = b) w w2 := (ht1.drew _).trans (TStay.of_below hb2 (fun k => k = b)) (fun _ _ h => h)
  have t3 : TStay (fun k => k = b) w w3 := t2.grown hg3 (fun k hk => .inr (by have h1 := (hown2.lt _ hk).1; have h2 := HS1.out; have h3 : W1.drew.heap.size = W1.heap.size := rfl; omega))
  exact t3.grown ht4.grown (fun k hk => .inl (by simp at hk; exact hk.symm))

set_option maxHeartbeats 4000000 in
set_option maxRecDepth 100000 in
theorem do_cut (w : World) (b : Nat) (fs : Dsk.Files) (h : FsIs w b fs) (s dst : Dsk.Name) (hs : s.length ≤ 1048576) (bv' : Value) (m : Nat) (hm : m ≤ (Dsk.val fs s).length)
    (hl : fs.length ≤ 1048575) (hz : (Dsk.val fs s).length ≤ 1099511627776) :
    Calls Tryz.prog 45 #[.map (some b), .agg #[.int .i64 1, .string (str s), .string (str dst), bv', .int .i64 (m : Int)]] w fun e w' =>
      e = .returned (.tuple #[]) ∧ FsIs w' b (Dsk.put fs s ((Dsk.val fs s).take m)) ∧ TStay (fun k => k = b) w w' := by
  obtain ⟨a0, n0, c0, k0, hlook⟩ := h.look s hs
  have hb := h.lt
  have hn0 : n0 ≤ 1099511627776 := by have := k0.len; omega
  have hmn : m ≤ n0 := by have := k0.len; omega
  have hnc := k0.le
  have hm0 : (0 : Int) ≤ (m : Int) := by omega
  have hm1 : (m : Int) ≤ (c0 : Int) := by omega
  have hm2 : m ≤ c0 := by omega
  have HL := Lib.hid hlook
  have H := Lib.hid h
  have K0 := Lib.hid k0
  clear hlook h k0 hz hm
  obtain ⟨W1, hW1⟩ : ∃ W1, W1 = w.alloc (.cells #[.int .i64 1, .string (str s), .string (str dst), bv', .int .i64 (m : Int)] 110) := ⟨_, rfl⟩
  have hT1 : W1.heap[w.heap.size]? = some (.cells #[.int .i64 1, .string (str s), .string (str dst), bv', .int .i64 (m : Int)] 110 (0, 0)) := by rw [hW1]; exact heap_alloc_new _ _
  have hb1 : W1.heap[b]? = w.heap[b]? := by rw [hW1]; exact (MapKept.heap_alloc w _).2 b hb
  have hs1 : W1.heap.size = w.heap.size + 1 := by rw [hW1]; simp
  have hu1 : KeepU w W1 := by rw [hW1]; exact KeepU.alloc w _
  have ht1 : TStay (fun k => k = b) w W1 := by rw [hW1]; exact (TStay.refl _ w).alloc _ _
  have hlk := (HL.out W1.drew hb1).1
  have hbOut : ∀ w2 : World, Below W1.drew.heap.size W1.drew w2 → w2.heap[b]? = w.heap[b]? ∧ KeepU w w2 := fun w2 hb2 => by
    have h3 : W1.drew.heap.size = w.heap.size + 1 := hs1
    exact ⟨(hb2.block b (by omega)).trans hb1, fun k xs fr hk => (hb2.block k (by have := blk_lt hk; omega)).trans (hu1 k xs fr hk)⟩
  have hfsIn : ∀ w3 : World, w3.heap[b]? = w.heap[b]? ∧ KeepU w w3 → FsIs w3 b fs := fun w3 h1 => H.out.stay h1.1 h1.2
  have hlen3 : ((Dsk.val fs s).take m).length = m := by rw [List.length_take, K0.out.len]; omega
  have HT1 := Lib.hid hT1
  have hrd : Rds W1.drew a0 m ((Dsk.val fs s).take m) := ((K0.out.stay hu1).rds.take hmn).drew
  have hnn := K0.out.none
  clear hT1 hb1 hs1
  have key : a0 = none → m = 0 ∧ n0 = 0 ∧ c0 = 0 := fun e => by have := hnn e; omega
  cases a0 with
  | none =>
    obtain ⟨rfl, rfl, rfl⟩ := key rfl
    rw [show ((0 : Nat) : Int) = 0 from rfl] at hW1 HT1
    go_enter Tryz.func45, Tryz.ntmps45
    go_wp2_with fail
    rw [← hW1]
    clear hW1
    go_region_held3 (fun w' => w'.cell? ⟨w.heap.size, 1, none⟩ = some (.string (str s)) ∧ w'.cell? ⟨w.heap.size, 3, none⟩ = some bv' ∧ w'.cell? ⟨w.heap.size, 4, none⟩ = some (.int .i64 0))
      (first | exact doS HT3.out | exact doS HT2.out | exact doS HT1.out)
      ((go_at_call 68; refine (clone_any _ none 0 0 _ hrd (fun _ => rfl) (by omega)).mono ?_; rintro e w2 ⟨a', c', rfl, hown2, hb2⟩; have HT2 := Lib.hid ((hb2.block w.heap.size (blk_lt HT1.out)).trans HT1.out); obtain ⟨w4, hrun4, hfs4, ht4⟩ := (hfsIn w2 (hbOut w2 hb2)).store s hs (Keeps.of_own (by rw [hlen3]; exact hown2) hlen3) (by omega); have HT3 := Lib.hid ((ht4.grown.block w.heap.size (by have := blk_lt HT2.out; omega) (fun e => by simp at e; omega)).trans HT2.out)))
    go_end0
    refine ⟨rfl, hfs4, ?_⟩
    have t2 : TStay (fun k => k = b) w w2 := (ht1.drew _).trans (TStay.of_below hb2 (fun k => k = b)) (fun _ _ h => h)
    exact t2.grown ht4.grown (fun k hk => .inl (by simp at hk; exact hk.symm))
  | some a0 =>
    clear key
    go_enter Tryz.func45, Tryz.ntmps45
    go_wp2_with fail
    rw [← hW1]
    clear hW1
    go_region_held3 (fun w' => w'.cell? ⟨w.heap.size, 1, none⟩ = some (.string (str s)) ∧ w'.cell? ⟨w.heap.size, 3, none⟩ = some bv' ∧ w'.cell? ⟨w.heap.size, 4, none⟩ = some (.int .i64 (m : Int)))
      (first | exact doS HT3.out | exact doS HT2.out | exact doS HT1.out)
      ((go_at_call 68; refine (clone_any _ (some a0) m c0 _ hrd hnn (by omega)).mono ?_; rintro e w2 ⟨a', c', rfl, hown2, hb2⟩; have HT2 := Lib.hid ((hb2.block w.heap.size (blk_lt HT1.out)).trans HT1.out); obtain ⟨w4, hrun4, hfs4, ht4⟩ := (hfsIn w2 (hbOut w2 hb2)).store s hs (Keeps.of_own (by rw [hlen3]; exact hown2) hlen3) (by omega); have HT3 := Lib.hid ((ht4.grown.block w.heap.size (by have := blk_lt HT2.out; omega) (fun e => by simp at e; omega)).trans HT2.out)))
    go_end0
    refine ⟨rfl, hfs4, ?_⟩
    have t2 : TStay (fun k => k = b) w w2 := (ht1.drew _).trans (TStay.of_below hb2 (fun k => k = b)) (fun _ _ h => h)
    exact t2.grown ht4.grown (fun k hk => .inl (by simp at hk; exact hk.symm))

set_option maxHeartbeats 4000000 in
set_option maxRecDepth 100000 in
theorem do_ren (w : World) (b : Nat) (fs : Dsk.Files) (h : FsIs w b fs) (s dst : Dsk.Name) (hs : s.length ≤ 1048576) (ht : dst.length ≤ 1048576) (bv' : Value) (m : Int) (hl : fs.length ≤ 1048575) :
    Calls Tryz.prog 45 #[.map (some b), .agg #[.int .i64 2, .string (str s), .string (str dst), bv', .int .i64 m]] w fun e w' =>
      e = .returned (.tuple #[]) ∧ FsIs w' b (Dsk.put (Dsk.del fs s) dst (Dsk.val fs s)) ∧ TStay (fun k => k = b) w w' := by
  obtain ⟨a0, n0, c0, k0, hlook⟩ := h.look s hs
  have hb := h.lt
  obtain ⟨W1, hW1⟩ : ∃ W1, W1 = w.alloc (.cells #[.int .i64 2, .string (str s), .string (str dst), bv', .int .i64 m] 110) := ⟨_, rfl⟩
  have hT1 : W1.heap[w.heap.size]? = some (.cells #[.int .i64 2, .string (str s), .string (str dst), bv', .int .i64 m] 110 (0, 0)) := by rw [hW1]; exact heap_alloc_new _ _
  have hb1 : W1.heap[b]? = w.heap[b]? := by rw [hW1]; exact (MapKept.heap_alloc w _).2 b hb
  have hu1 : KeepU w W1 := by rw [hW1]; exact KeepU.alloc w _
  have ht1 : TStay (fun k => k = b) w W1 := by rw [hW1]; exact (TStay.refl _ w).alloc _ _
  have hlk := (hlook W1 hb1).1
  have h1 : FsIs W1 b fs := h.stay hb1 hu1
  have k1 := k0.stay hu1
  have hlt := blk_lt hT1
  have H1 := Lib.hid h1
  have HT1 := Lib.hid hT1
  have K1 := Lib.hid k1
  have hl2 : (Dsk.del fs s).length ≤ 1048576 := by have := Dsk.len_del fs s; omega
  have c1 : W1.cell? ⟨w.heap.size, 1, none⟩ = some (.string (str s)) := blk_cell (i := 1) hT1 rfl
  clear hlook h k0 hT1 hb1 hu1 h1 k1
  go_enter Tryz.func45, Tryz.ntmps45
  go_upto_region 7 with (fail)
  rw [← hW1]
  clear hW1
  go_wp2_with (first
    | (at_delete; refine wpList_fs_del rfl (.tmp 39) (.tmp 41) rfl b fs rfl H1.out s hs rfl ?_; intro w2 hfs2 hm2; have hT2 := (hm2.grown.block w.heap.size hlt (fun e => by simp at e; omega)).trans HT1.out; have c2 : w2.cell? ⟨w.heap.size, 2, none⟩ = some (.string (str dst)) := blk_cell (i := 2) hT2 rfl; have k2 := K1.out.stay (H1.out.ku hm2))
    | (at_mapUpdate; refine wpList_fs_put rfl (.tmp 42) (.tmp 44) (.tmp 45) rfl b (Dsk.del fs s) rfl hfs2 dst ht rfl a0 n0 c0 _ rfl k2 hl2 ?_; intro w3 hfs3 hm3))
  go_end0
  exact ⟨rfl, hfs3, (ht1.grown hm2.grown (fun k hk => .inl (by simp at hk; exact hk.symm))).grown hm3.grown (fun k hk => .inl (by simp at hk; exact hk.symm))⟩

set_option maxHeartbeats 4000000 in
set_option maxRecDepth 100000 in
theorem do_rem (w : World) (b : Nat) (fs : Dsk.Files) (h : FsIs w b fs) (s dst : Dsk.Name) (hs : s.length ≤ 1048576) (bv' : Value) (m : Int) :
    Calls Tryz.prog 45 #[.map (some b), .agg #[.int .i64 3, .string (str s), .string (str dst), bv', .int .i64 m]] w fun e w' =>
      e = .returned (.tuple #[]) ∧ FsIs w' b (Dsk.del fs s) ∧ TStay (fun k => k = b) w w' := by
  have hb := h.lt
  obtain ⟨W1, hW1⟩ : ∃ W1, W1 = w.alloc (.cells #[.int .i64 3, .string (str s), .string (str dst), bv', .int .i64 m] 110) := ⟨_, rfl⟩
  have hT1 : W1.heap[w.heap.size]? = some (.cells #[.int .i64 3, .string (str s), .string (str dst), bv', .int .i64 m] 110 (0, 0)) := by rw [hW1]; exact heap_alloc_new _ _
  have hb1 : W1.heap[b]? = w.heap[b]? := by rw [hW1]; exact (MapKept.heap_alloc w _).2 b hb
  have hu1 : KeepU w W1 := by rw [hW1]; exact KeepU.alloc w _
  have ht1 : TStay (fun k => k = b) w W1 := by rw [hW1]; exact (TStay.refl _ w).alloc _ _
  have h1 : FsIs W1 b fs := h.stay hb1 hu1
  have H1 := Lib.hid h1
  have c1 : W1.cell? ⟨w.heap.size, 1, none⟩ = some (.string (str s)) := blk_cell (i := 1) hT1 rfl
  clear h hT1 hb1 hu1 h1
  go_enter Tryz.func45, Tryz.ntmps45
  go_upto_region 11 with (fail)
  rw [← hW1]
  clear hW1
  go_wp2_with (at_delete; refine wpList_fs_del rfl (.tmp 48) (.tmp 50) rfl b fs rfl H1.out s hs rfl ?_; intro w2 hfs2 hm2)
  go_end0
  exact ⟨rfl, hfs2, ht1.grown hm2.grown (fun k hk => .inl (by simp at hk; exact hk.symm))⟩
end Go.Proofs.YtkalpkmnelgieaaGreatDoor
