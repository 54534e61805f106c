/- taproothand.maker: what next does. -/
import Derived.Test.YtcbddbclgepcmaaDoorHand
import Derived.Test.YtcbddbclgepcmaaDoorOpen
import Derived.Test.YtcbddbclgepcmaaDoorConv
import Derived.Deep.QuietTactic
import Derived.BigQuiet
import Derived.Test.YtcbddbclgepcmaaDoorIdx
import Derived.Deep.Cut
import Derived.Deep.WholeRow
namespace Go.Proofs.YtcbddbclgepcmaaDoor
open Go.RowKit Go.Tap
set_option linter.unusedVariables false

theorem tdiv_range (x d : Int) (hd : 0 < d) (h0 : -9223372036854775808 ≤ x) (h1 : x ≤ 9223372036854775807) : -9223372036854775808 ≤ x.tdiv d ∧ x.tdiv d ≤ 9223372036854775807 := by
  have key : ∀ y : Int, 0 ≤ y → 0 ≤ y.tdiv d ∧ y.tdiv d ≤ y := fun y hy => by
    rw [Int.tdiv_eq_ediv_of_nonneg hy]
    exact ⟨Int.ediv_nonneg hy (by omega), Int.ediv_le_self _ hy⟩
  rcases Int.lt_or_le x 0 with hx | hx
  · have := key (-x) (by omega)
    rw [Int.neg_tdiv] at this
    omega
  · have := key x hx
    omega
theorem wrapi (n : Int) (h : -9223372036854775808 ≤ n ∧ n ≤ 9223372036854775807) : IntKind.i64.wrap n = n := by
  simp [IntKind.wrap, IntKind.bits, IntKind.signed]; omega
/-- A maker: its numbers, which are only read, and how many it took. -/
structure MkS (w : World) (B : Nat) (a : Option Addr) (n c : Nat) (zs : List Int) (at_ : Nat) : Prop where
  blk : w.heap[B]? = some (.cells #[.slice a n c, .int .i64 (at_ : Int)] 92 (0, 0))
  len : zs.length = n
  small : n ≤ 140737488351232
  cells : 0 < n → ∃ b o, a = some ⟨b, o, none⟩ ∧ b ≠ B ∧ ∀ i x, zs[i]? = some x → w.cell? ⟨b, o + i, none⟩ = some (.int .i64 x) ∧ -9223372036854775808 ≤ x ∧ x ≤ 9223372036854775807
theorem MkS.lt {w : World} {B : Nat} {a : Option Addr} {n c : Nat} {zs : List Int} {at_ : Nat} (h : MkS w B a n c zs at_) : B < w.heap.size := lt_of_block h.blk
theorem MkS.move {w w' : World} {B : Nat} {a : Option Addr} {n c : Nat} {zs : List Int} {at_ at' : Nat} (h : MkS w B a n c zs at_) (ht : TStay (fun k => k = B) w w')
    (hb : w'.heap[B]? = some (.cells #[.slice a n c, .int .i64 (at' : Int)] 92 (0, 0))) : MkS w' B a n c zs at' := by
  refine ⟨hb, h.len, h.small, fun hn => ?_⟩
  obtain ⟨b, o, e, hne, hx⟩ := h.cells hn
  exact ⟨b, o, e, hne, fun i x hi => ⟨(World.cell?_of_block (w := w) (ht.block b (block_lt_of_cell (hx i x hi).1) hne)).trans (hx i x hi).1, (hx i x hi).2⟩⟩
theorem MkS.below {w w' : World} {B : Nat} {a : Option Addr} {n c : Nat} {zs : List Int} {at_ : Nat} (h : MkS w B a n c zs at_) (hb : Below w.heap.size w w') : MkS w' B a n c zs at_ :=
  h.move (TStay.of_below hb _) ((hb.block B h.lt).trans h.blk)
theorem MkS.alloc {w : World} {B : Nat} {a : Option Addr} {n c : Nat} {zs : List Int} {at_ : Nat} (h : MkS w B a n c zs at_) (o : Obj) : MkS (w.alloc o) B a n c zs at_ := h.below ((Below.refl _ _).alloc (Nat.le_refl _) _)
theorem MkS.drew {w : World} {B : Nat} {a : Option Addr} {n c : Nat} {zs : List Int} {at_ : Nat} (h : MkS w B a n c zs at_) : MkS w.drew B a n c zs at_ := ⟨h.blk, h.len, h.small, h.cells⟩
/-- What next leaves. -/
def Nxt (w : World) (B : Nat) (a : Option Addr) (n c : Nat) (zs : List Int) (at_ : Nat) (m : Nat) (e : Ending) (w' : World) : Prop :=
  ∃ (r at' : Nat), r < m ∧ e = .returned (.int .i64 (r : Int)) ∧ at_ ≤ at' ∧ at' ≤ at_ + 1 ∧ MkS w' B a n c zs at' ∧ TStay (fun k => k = B) w w'
theorem pick_q (w : World) (q : Nat) (n m : Int) (h0 : -9223372036854775808 ≤ n) (h1 : n ≤ 9223372036854775807) (hm : 0 < m) (hm1 : m ≤ 9223372036854775807) :
    Calls Tryd.prog 14 #[.int .i64 n, .int .i64 m] (w.drewN q) fun e w' => e = .returned (.int .i64 (n % m)) ∧ w' = w.drewN q :=
  (pick_any _ n m h0 h1 hm hm1).mono fun _ _ ⟨h1, h2⟩ => ⟨h1, h2.symm⟩
set_option maxHeartbeats 1000000 in
theorem next_any (w : World) (B : Nat) (a : Option Addr) (n c : Nat) (zs : List Int) (at_ : Nat) (h : MkS w B a n c zs at_) (ha : at_ ≤ 2000) (m : Nat) (hm : 0 < m) (hm2 : m ≤ 1000) :
    Calls Tryd.prog 70 #[.pointer (some ⟨B, 0, none⟩), .int .i64 (m : Int)] w (Nxt w B a n c zs at_ m) := by
  have hc0 : w.cell? ⟨B, 0, none⟩ = some (.slice a n c) := blk_cell h.blk rfl
  have hc1 : w.cell? ⟨B, 1, none⟩ = some (.int .i64 (at_ : Int)) := blk_cell h.blk rfl
  rcases Nat.eq_zero_or_pos n with h0 | h0
  · have H := Lib.hid h
    have e0 : ((n : Int) == 0) = true := by simp [h0]
    have e1 : (n == 0) = true := by simp [h0]
    clear h h0
    go_enter Tryd.func70, Tryd.ntmps70
    go_wp2
    go_ret
    exact ⟨0, at_, hm, rfl, Nat.le_refl _, by omega, H.out, TStay.refl _ _⟩
  · obtain ⟨b, o, rfl, hbB, hx⟩ := h.cells h0
    have e0 : ((n : Int) == 0) = false := by simp; omega
    have e1 : (n == 0) = false := by simp; omega
    have hmn : (at_ + 1) % n < n := Nat.mod_lt _ h0
    have hsm := h.small
    have hln := h.len
    obtain ⟨x, hxs⟩ : ∃ x, zs[(at_ + 1) % n]? = some x := ⟨_, List.getElem?_eq_getElem (by omega)⟩
    obtain ⟨hcx, hx0, hx1⟩ := hx _ x hxs
    have hlt := h.lt
    have hw1 := heap_setCell_same w B 1 _ _ (.int .i64 ((at_ : Int) + 1)) h.blk
    have c0 : (w.setCell ⟨B, 1, none⟩ (.int .i64 ((at_ : Int) + 1))).cell? ⟨B, 0, none⟩ = some (.slice (some ⟨b, o, none⟩) n c) := blk_cell hw1 rfl
    have c1 : (w.setCell ⟨B, 1, none⟩ (.int .i64 ((at_ : Int) + 1))).cell? ⟨B, 1, none⟩ = some (.int .i64 ((at_ : Int) + 1)) := blk_cell hw1 rfl
    have c2 : (w.setCell ⟨B, 1, none⟩ (.int .i64 ((at_ : Int) + 1))).cell? ⟨b, o + (at_ + 1) % n, none⟩ = some (.int .i64 x) := (World.cell?_of_block (w := w) (heap_setCell_other _ _ _ _ hbB)).trans hcx
    have ht : TStay (fun k => k = B) w (w.setCell ⟨B, 1, none⟩ (.int .i64 ((at_ : Int) + 1))) := (TStay.refl (fun k => k = B) w).setCell (p := ⟨B, 1, none⟩) (.inl rfl) _
    have HM := Lib.hid (h.move (at' := at_ + 1) ht (by rw [hw1]; simp))
    have HT := Lib.hid ht
    have tm : ((at_ : Int) + 1).tmod (n : Int) = (((at_ + 1) % n : Nat) : Int) := by rw [Int.tmod_eq_emod_of_nonneg (by omega)]; norm_cast
    have td : ((at_ : Int) + 1).tdiv (n : Int) = (((at_ + 1) / n : Nat) : Int) := by rw [Int.tdiv_eq_ediv_of_nonneg (by omega)]; norm_cast
    have hd : (at_ + 1) / n ≤ at_ + 1 := Nat.div_le_self _ _
    generalize (at_ + 1) / n = d at td hd
    generalize (at_ + 1) % n = j at tm hmn c2 hcx hxs
    have e2 : ((1 : Int) + (d : Int) == 0) = false := by simp; omega
    have hy0 := tdiv_range x (1 + (d : Int)) (by omega) hx0 hx1
    have HY := Lib.hid hy0
    have u1 : IntKind.i64.wrap (d : Int) = d := wrapi _ (by omega)
    have u2 : IntKind.i64.wrap (1 + (d : Int)) = 1 + (d : Int) := wrapi _ (by omega)
    have u3 : IntKind.i64.wrap (x.tdiv (1 + (d : Int))) = x.tdiv (1 + (d : Int)) := wrapi _ hy0
    have e3 : (n = 0) = False := by simp; omega
    have e4 : ((1 : Int) + (d : Int) = 0) = False := by simp; omega
    have hfz : w.frozen? ⟨B, 1, none⟩ = false := blk_free h.blk 1
    clear hx hxs hcx hx0 hx1 h hw1 ht hlt hy0
    go_enter Tryd.func70, Tryd.ntmps70
    go_wp2_with fail
    go_quiet (first | (go_at_call 14; exact Calls.quiet_of_same (pick_q _ _ _ _ HY.out.1 HY.out.2 (by omega) (by omega))))
    obtain ⟨r, hr⟩ : ∃ r : Nat, x.tdiv (1 + (d : Int)) % (m : Int) = (r : Int) := Int.eq_ofNat_of_zero_le (Int.emod_nonneg _ (by omega))
    have hrm : r < m := by have := Int.emod_lt_of_pos (x.tdiv (1 + (d : Int))) (show (0 : Int) < (m : Int) by omega); omega
    rw [hr]
    go_wp2
    go_ret
    exact ⟨r, at_ + 1, hrm, rfl, by omega, Nat.le_refl _, ⟨HM.out.blk, HM.out.len, HM.out.small, HM.out.cells⟩, ⟨HT.out.os, HT.out.tape, HT.out.output, HT.out.size, HT.out.block⟩⟩
/-- An array of 32 bytes, by value. -/
def Bytes32 (cs : Array Value) : Prop := cs.size = 32 ∧ ∀ v ∈ cs, ∃ x : Nat, x ≤ 255 ∧ v = .int .u8 (x : Int)
set_option maxHeartbeats 1000000 in
set_option maxRecDepth 100000 in
theorem hash_any (w : World) (n : Int) (h0 : -9223372036854775808 ≤ n) (h1 : n ≤ 9223372036854775807) :
    Calls Tryd.prog 53 #[.int .i64 n] w fun e w' => (∃ cs, Bytes32 cs ∧ e = .returned (.agg cs)) ∧ Below w.heap.size w w' := by
  go_enter Tryd.func53, Tryd.ntmps53
  go_wp2_with fail
  refine (pick_any _ n 60 h0 h1 (by omega) (by omega)).mono ?_
  obtain ⟨r, hr⟩ : ∃ r : Nat, n % 60 = (r : Int) := Int.eq_ofNat_of_zero_le (Int.emod_nonneg _ (by omega))
  have hr2 : r < 60 := by have := Int.emod_lt_of_pos n (show (0 : Int) < 60 by omega); omega
  rw [hr]
  rintro e w' ⟨rfl, rfl⟩
  clear hr h0 h1
  have hq : (r : Int) % 6 = ((r % 6 : Nat) : Int) := by omega
  have hq6 : r % 6 < 6 := Nat.mod_lt _ (by omega)
  generalize r % 6 = q at hq hq6
  obtain ⟨x, hx, hv⟩ : ∃ x : Nat, x ≤ 255 ∧ (#[.int .u8 171, .int .u8 171, .int .u8 160, .int .u8 18, .int .u8 254, .int .u8 171] : Array Value)[q]? = some (.int .u8 (x : Int)) := by
    rcases (show q = 0 ∨ q = 1 ∨ q = 2 ∨ q = 3 ∨ q = 4 ∨ q = 5 by omega) with rfl | rfl | rfl | rfl | rfl | rfl
    · exact ⟨171, by omega, rfl⟩
    · exact ⟨171, by omega, rfl⟩
    · exact ⟨160, by omega, rfl⟩
    · exact ⟨18, by omega, rfl⟩
    · exact ⟨254, by omega, rfl⟩
    · exact ⟨171, by omega, rfl⟩
  have hix : ∀ w, (Instr.index 149 (.agg #[.int .u8 171, .int .u8 171, .int .u8 160, .int .u8 18, .int .u8 254, .int .u8 171]) (.int .i64 (q : Int))).run Tryd.prog w = .ok (.int .u8 (x : Int)) w :=
    run_idx _ 5 6 _ q _ Tryd.underlying149 hq6 hv (by intro w; simp [go_sem]) (by intro w; simp [go_sem])
  clear hv
  have hcs : Bytes32 #[.int .u8 (x : Int), .int .u8 ((r : Int) / 6 * 16), .int .u8 ((r : Int) * 7 % 256), .int .u8 0, .int .u8 0, .int .u8 0, .int .u8 0, .int .u8 0, .int .u8 0, .int .u8 0, .int .u8 0, .int .u8 0, .int .u8 0, .int .u8 0, .int .u8 0, .int .u8 0, .int .u8 0, .int .u8 0, .int .u8 0, .int .u8 0, .int .u8 0, .int .u8 0, .int .u8 0, .int .u8 0, .int .u8 0, .int .u8 0, .int .u8 0, .int .u8 0, .int .u8 0, .int .u8 0, .int .u8 0, .int .u8 (r : Int)] := by
    refine ⟨rfl, fun v hv => ?_⟩
    have hz : v = .int .u8 (x : Int) ∨ v = .int .u8 ((r : Int) / 6 * 16) ∨ v = .int .u8 ((r : Int) * 7 % 256) ∨ v = .int .u8 0 ∨ v = .int .u8 (r : Int) := by
      simp only [List.mem_toArray, List.mem_cons, List.not_mem_nil, or_false] at hv
      rcases hv with h | h | h | h | h | h | h | h | h | h | h | h | h | h | h | h | h | h | h | h | h | h | h | h | h | h | h | h | h | h | h | h <;> simp [h]
    rcases hz with rfl | rfl | rfl | rfl | rfl
    · exact ⟨x, hx, rfl⟩
    · exact ⟨r / 6 * 16, by omega, by simp⟩
    · exact ⟨r * 7 % 256, by omega, by simp⟩
    · exact ⟨0, by omega, rfl⟩
    · exact ⟨r, by omega, rfl⟩
  go_upto_region 7 with (fail)
  have hz : (#[.int .u8 0, .int .u8 0, .int .u8 0, .int .u8 0, .int .u8 0, .int .u8 0, .int .u8 0, .int .u8 0, .int .u8 0, .int .u8 0, .int .u8 0, .int .u8 0, .int .u8 0, .int .u8 0, .int .u8 0, .int .u8 0, .int .u8 0, .int .u8 0, .int .u8 0, .int .u8 0, .int .u8 0, .int .u8 0, .int .u8 0, .int .u8 0, .int .u8 0, .int .u8 0, .int .u8 0, .int .u8 0, .int .u8 0, .int .u8 0, .int .u8 0, .int .u8 0] : Array Value).size = 32 := rfl
  generalize (#[.int .u8 0, .int .u8 0, .int .u8 0, .int .u8 0, .int .u8 0, .int .u8 0, .int .u8 0, .int .u8 0, .int .u8 0, .int .u8 0, .int .u8 0, .int .u8 0, .int .u8 0, .int .u8 0, .int .u8 0, .int .u8 0, .int .u8 0, .int .u8 0, .int .u8 0, .int .u8 0, .int .u8 0, .int .u8 0, .int .u8 0, .int .u8 0, .int .u8 0, .int .u8 0, .int .u8 0, .int .u8 0, .int .u8 0, .int .u8 0, .int .u8 0, .int .u8 0] : Array Value) = z at hz ⊢
  generalize (#[.int .u8 (x : Int), .int .u8 ((r : Int) / 6 * 16), .int .u8 ((r : Int) * 7 % 256), .int .u8 0, .int .u8 0, .int .u8 0, .int .u8 0, .int .u8 0, .int .u8 0, .int .u8 0, .int .u8 0, .int .u8 0, .int .u8 0, .int .u8 0, .int .u8 0, .int .u8 0, .int .u8 0, .int .u8 0, .int .u8 0, .int .u8 0, .int .u8 0, .int .u8 0, .int .u8 0, .int .u8 0, .int .u8 0, .int .u8 0, .int .u8 0, .int .u8 0, .int .u8 0, .int .u8 0, .int .u8 0, .int .u8 (r : Int)] : Array Value) = cs at hcs ⊢
  refine wp_region_lit ?_
  refine wpList_load_row rfl 62 (.tmp 3) rfl (w.heap.size + 1) rfl 62 cs (0, 0) _ (by have := heap_alloc_new (w.alloc (.cells z 62)) (.cells cs 62); rwa [World.size_alloc] at this) Tryd.underlying62 rfl (by rw [hcs.1]; kernel_rfl) ?_
  have hst : ((w.alloc (.cells z 62)).alloc (.cells cs 62)).heap[w.heap.size]? = some (.cells z 62 (0, 0)) := (Below.heap_alloc _ _ _ (by simp)).trans (heap_alloc_new _ _)
  have hall : cs.all (·.oneCell') = true := by
    rw [Array.all_eq_true_iff_forall_mem]
    intro v hv
    obtain ⟨x, _, rfl⟩ := hcs.2 v hv
    rfl
  refine wpList_store_row rfl 62 (.tmp 2) (.tmp 23) rfl w.heap.size cs rfl rfl 62 z hst (by rw [hcs.1]; kernel_rfl) (by rw [hz, hcs.1]) hall ?_
  have hB : Below w.heap.size w (((w.alloc (.cells z 62)).alloc (.cells cs 62)).setRow w.heap.size cs) := by
    have h1 : Below w.heap.size w ((w.alloc (.cells z 62)).alloc (.cells cs 62)) := ((Below.refl _ _).alloc (Nat.le_refl _) _).alloc (by simp) _
    exact ⟨h1.os, h1.tape, h1.output, by simp [World.setRow]; omega, fun k hk => (setRow_other _ _ _ _ (by omega)).trans (h1.block k hk)⟩
  have hst2 : (((w.alloc (.cells z 62)).alloc (.cells cs 62)).setRow w.heap.size cs).heap[w.heap.size]? = some (.cells cs 62 (0, 0)) := setRow_heap _ _ _ _ _ _ hst
  generalize (((w.alloc (.cells z 62)).alloc (.cells cs 62)).setRow w.heap.size cs) = w2 at hB hst2 ⊢
  go_wp2
  refine bodyPost_ret (v := .agg cs) ?_ rfl ⟨⟨cs, hcs, rfl⟩, hB⟩
  exact results_cell_row rfl _ _ w.heap.size 62 cs (0, 0) _ rfl hst2 Tryd.underlying62 rfl (by rw [hcs.1]; kernel_rfl)
theorem sz_ext (d : ByteArray) (y : Nat) (h : y + 1 ≤ d.size) : (d.extract y (y + 1)).size = 1 := by rw [ByteArray.size_extract]; omega
/-- A string of the maker's. -/
def Made (w : World) (B : Nat) (a : Option Addr) (n c : Nat) (zs : List Int) (at_ : Nat) (S K : Nat) (e : Ending) (w' : World) : Prop :=
  ∃ (s : ByteArray) (at' : Nat), s.size ≤ S ∧ e = .returned (.string s) ∧ at_ ≤ at' ∧ at' ≤ at_ + K ∧ MkS w' B a n c zs at' ∧ TStay (fun k => k = B) w w'
set_option maxHeartbeats 2000000 in
set_option maxRecDepth 100000 in
theorem name_any (w : World) (B : Nat) (a : Option Addr) (n c : Nat) (zs : List Int) (at_ : Nat) (h : MkS w B a n c zs at_) (ha : at_ ≤ 1000) :
    Calls Tryd.prog 71 #[.pointer (some ⟨B, 0, none⟩)] w (Made w B a n c zs at_ 64 2) := by
  go_enter Tryd.func71, Tryd.ntmps71
  go_wp2_with fail
  refine (next_any w B a n c zs at_ h (by omega) 60 (by omega) (by omega)).mono ?_
  rintro e w1 ⟨r, at1, hr, rfl, ha1, ha2, h1, t1⟩
  go_wp2_with fail
  refine (hash_any w1 (r : Int) (by omega) (by omega)).mono ?_
  rintro e w2 ⟨⟨cs, hcs, rfl⟩, hb2⟩
  have h2 := h1.below hb2
  have t2 : TStay (fun k => k = B) w w2 := t1.trans (TStay.of_below hb2 (fun k => k = B)) (fun _ _ h => h)
  have hall : cs.all (·.oneCell') = true := by
    rw [Array.all_eq_true_iff_forall_mem]
    intro v hv
    obtain ⟨x, _, rfl⟩ := hcs.2 v hv
    rfl
  have hsc := run_storeCells_new (P := Tryd.prog) w2 62 #[.int .u8 0, .int .u8 0, .int .u8 0, .int .u8 0, .int .u8 0, .int .u8 0, .int .u8 0, .int .u8 0, .int .u8 0, .int .u8 0, .int .u8 0, .int .u8 0, .int .u8 0, .int .u8 0, .int .u8 0, .int .u8 0, .int .u8 0, .int .u8 0, .int .u8 0, .int .u8 0, .int .u8 0, .int .u8 0, .int .u8 0, .int .u8 0, .int .u8 0, .int .u8 0, .int .u8 0, .int .u8 0, .int .u8 0, .int .u8 0, .int .u8 0, .int .u8 0] cs (by rw [hcs.1]; kernel_rfl) (by rw [hcs.1]; rfl) hall
  have hw3 := Lib.hid (heap_alloc_new w2 (.cells cs 62))
  have h3 := Lib.hid (h2.alloc (.cells cs 62))
  have t3 := Lib.hid (t2.alloc _ (.cells cs 62))
  have hcz : cs.size = 32 := hcs.1
  clear h h1 t1 hb2 h2 t2 hall
  go_wp2
  clear hsc
  generalize w2.alloc (.cells cs 62) = w3 at hw3 h3 t3 ⊢
  go_loopw [4, 6] (fun sv t wr => ∃ (i : Nat) (s : ByteArray), i ≤ 32 ∧ t = .int .i64 (i : Int) ∧ sv = .string s ∧ s.size = 2 * i ∧ ∃ q, wr = w3.drewN q) (fun _ t _ => 32 - (intOf t).toNat)
  case atStart => exact ⟨0, _, Nat.zero_le _, rfl, rfl, rfl, 0, rfl⟩
  case round =>
    obtain ⟨i, s, hi, rfl, rfl, hs, q, rfl⟩ := hrel
    by_cases hlt : i < 32
    · have d1 : decide ((i : Int) < 32) = true := decide_eq_true (by omega)
      obtain ⟨x, hx, hxi⟩ : ∃ x : Nat, x ≤ 255 ∧ cs[i]? = some (.int .u8 (x : Int)) := by
        obtain ⟨x, hx, he⟩ := hcs.2 (cs[i]'(by omega)) (Array.getElem_mem _)
        exact ⟨x, hx, by rw [← he]; exact Array.getElem?_eq_getElem _⟩
      have hcell : w3.cell? ⟨w2.heap.size, i, none⟩ = some (.int .u8 (x : Int)) := blk_cell (w := w3) hw3.out hxi
      have u1 : (x : Int).tdiv 16 = ((x / 16 : Nat) : Int) := by rw [Int.tdiv_eq_ediv_of_nonneg (by omega)]; norm_cast
      have u2 : (x : Int).tmod 16 = ((x % 16 : Nat) : Int) := by rw [Int.tmod_eq_emod_of_nonneg (by omega)]; norm_cast
      have p1 : x / 16 ≤ 15 := by omega
      have p2 : x % 16 ≤ 15 := by omega
      generalize x / 16 = y at u1 p1
      generalize x % 16 = z at u2 p2
      have v1 : IntKind.u8.wrap (y : Int) = y := wraps_u8 _ (by omega) (by omega)
      have v2 : IntKind.u8.wrap (z : Int) = z := wraps_u8 _ (by omega) (by omega)
      have v3 : IntKind.u8.wrap ((y : Int) + 1) = (y : Int) + 1 := wraps_u8 _ (by omega) (by omega)
      have v4 : IntKind.u8.wrap ((z : Int) + 1) = (z : Int) + 1 := wraps_u8 _ (by omega) (by omega)
      have n1 : (i : Int) < 32 := by omega
      have n2 : (y : Int) + 1 ≤ 16 := by omega
      have n3 : (z : Int) + 1 ≤ 16 := by omega
      have n4 : (y : Int) ≤ (y : Int) + 1 := by omega
      have n5 : (z : Int) ≤ (z : Int) + 1 := by omega
      have n6 : (0 : Int) ≤ (y : Int) + 1 := by omega
      have n7 : (0 : Int) ≤ (z : Int) + 1 := by omega
      go_wp2
      go_quiet (fail)
      go_wp2
      go_roundw
      case rel => exact ⟨i + 1, _, by omega, by go_num, rfl, by rw [ByteArray.size_append, ByteArray.size_append, sz_ext _ _ (by show y + 1 ≤ 16; omega), sz_ext _ _ (by show z + 1 ≤ 16; omega), hs]; omega, q + nq, rfl⟩
      case measure => first | (simp [intOf]; done) | (simp [intOf]; omega)
    · obtain rfl : i = 32 := by omega
      have h4 : MkS (w3.drewN q) B a n c zs at1 := ⟨h3.out.blk, h3.out.len, h3.out.small, h3.out.cells⟩
      have t4 : TStay (fun k => k = B) w (w3.drewN q) := ⟨t3.out.os, t3.out.tape, t3.out.output, t3.out.size, t3.out.block⟩
      have hsz : s.size = 64 := hs
      clear h3 t3 hw3 hs
      go_wp2_with fail
      refine (next_any _ B a n c zs at1 h4 (by omega) 12 (by omega) (by omega)).mono ?_
      rintro e w5 ⟨k, at2, hk, rfl, hb1, hb2, h5, t5⟩
      have t6 : TStay (fun k => k = B) w w5 := t4.trans t5 (fun _ _ h => h)
      have HM := Lib.hid h5
      have HT := Lib.hid t6
      clear h4 t4 h5 t5 t6
      rcases (show k = 0 ∨ k = 1 ∨ k = 2 ∨ k = 3 ∨ k = 4 ∨ k = 5 ∨ 6 ≤ k by omega) with rfl | rfl | rfl | rfl | rfl | rfl | hk6
      · go_wp2
        go_ret
        exact ⟨_, at2, by rw [ByteArray.size_extract]; omega, rfl, by omega, by omega, HM.out, HT.out⟩
      · go_wp2
        go_ret
        exact ⟨_, at2, by rw [ByteArray.size_extract]; omega, rfl, by omega, by omega, HM.out, HT.out⟩
      · go_wp2
        go_ret
        exact ⟨_, at2, by decide, rfl, by omega, by omega, HM.out, HT.out⟩
      · go_wp2
        go_ret
        exact ⟨_, at2, by rw [ByteArray.size_extract]; omega, rfl, by omega, by omega, HM.out, HT.out⟩
      · go_wp2
        go_ret
        exact ⟨_, at2, by rw [ByteArray.size_extract]; omega, rfl, by omega, by omega, HM.out, HT.out⟩
      · go_wp2
        go_ret
        exact ⟨_, at2, by rw [ByteArray.size_extract]; omega, rfl, by omega, by omega, HM.out, HT.out⟩
      · have k0 : ((k : Int) == 0) = false := by simp; omega
        have k1 : ((k : Int) == 1) = false := by simp; omega
        have k2 : ((k : Int) == 2) = false := by simp; omega
        have k3 : ((k : Int) == 3) = false := by simp; omega
        have k4 : ((k : Int) == 4) = false := by simp; omega
        have k5 : ((k : Int) == 5) = false := by simp; omega
        go_wp2
        go_ret
        exact ⟨_, at2, by omega, rfl, by omega, by omega, HM.out, HT.out⟩
end Go.Proofs.YtcbddbclgepcmaaDoor
