/- taproothand.Hash: of a small number. -/
import Derived.Test.YthampbiabkfmoaaGreatDoorWiVal
import Derived.Test.YthampbiabkfmoaaGreatDoorWiReq
import Derived.Test.YthampbiabkfmoaaGreatDoorHand
import Derived.Test.YthampbiabkfmoaaGreatDoorIdx
import Derived.Deep.Cut
import Derived.Deep.WholeRow
import Derived.Deep.QuietTactic
import Derived.BigQuiet
namespace Go.Proofs.YthampbiabkfmoaaGreatDoor
open Go.RowKit Go.Tap
set_option linter.unusedVariables false
set_option linter.unusedSimpArgs false
def Hs.tab : List Nat := [171, 171, 160, 18, 254, 171]
/-- The bytes of Hash(n), n below sixty. -/
def Hs.of (m : Nat) : List UInt8 := [UInt8.ofNat (Hs.tab.getD (m % 6) 0), UInt8.ofNat (m / 6 * 16), UInt8.ofNat (m * 7)] ++ List.replicate 28 0 ++ [UInt8.ofNat m]
theorem Hs.len (m : Nat) : (Hs.of m).length = 32 := rfl
set_option maxHeartbeats 1000000 in
set_option maxRecDepth 100000 in
theorem hash32_any (w : World) (n : Int) (h0 : -9223372036854775808 ≤ n) (h1 : n ≤ 9223372036854775807) :
    Calls Tryz.prog 25 #[.int .i64 n] w fun e w' => e = .returned (.agg (hashC (Hs.of (n % 60).toNat))) ∧ Below w.heap.size w w' := by
  obtain ⟨G, hG⟩ : ∃ G, G = hashC (Hs.of (n % 60).toNat) := ⟨_, rfl⟩
  rw [← hG]
  have HG := Lib.hid hG
  clear hG
  go_enter Tryz.func25, Tryz.ntmps25
  go_wp2_with fail
  refine (pick_any _ n 60 h0 h1 (by omega) (by omega)).mono ?_
  obtain ⟨r, hr⟩ : ∃ r : Nat, n % 60 = (r : Int) := Int.eq_ofNat_of_zero_le (Int.emod_nonneg _ (by omega))
  have hr2 : r < 60 := by have := Int.emod_lt_of_pos n (show (0 : Int) < 60 by omega); omega
  have HGR : Hid (G = hashC (Hs.of r)) := Lib.hid (by rw [HG.out, hr, Int.toNat_natCast])
  rw [hr]
  rintro e w' ⟨rfl, rfl⟩
  clear hr h0 h1 HG
  have hq : (r : Int) % 6 = ((r % 6 : Nat) : Int) := by omega
  have hq6 : r % 6 < 6 := Nat.mod_lt _ (by omega)
  have HTB : Hid (Hs.tab.getD (r % 6) 0 = Hs.tab.getD (r % 6) 0) := Lib.hid rfl
  obtain ⟨q, hqq⟩ : ∃ q, q = r % 6 := ⟨_, rfl⟩
  rw [← hqq] at hq hq6
  have HQ := Lib.hid hqq
  clear hqq
  obtain ⟨x, hx, hxt, hv⟩ : ∃ x : Nat, x ≤ 255 ∧ x = Hs.tab.getD q 0 ∧ (#[.int .u8 171, .int .u8 171, .int .u8 160, .int .u8 18, .int .u8 254, .int .u8 171] : Array Value)[q]? = some (.int .u8 (x : Int)) := by
    rcases (show q = 0 ∨ q = 1 ∨ q = 2 ∨ q = 3 ∨ q = 4 ∨ q = 5 by omega) with rfl | rfl | rfl | rfl | rfl | rfl
    · exact ⟨171, by omega, rfl, rfl⟩
    · exact ⟨171, by omega, rfl, rfl⟩
    · exact ⟨160, by omega, rfl, rfl⟩
    · exact ⟨18, by omega, rfl, rfl⟩
    · exact ⟨254, by omega, rfl, rfl⟩
    · exact ⟨171, by omega, rfl, rfl⟩
  have hix : ∀ w, (Instr.index 114 (.agg #[.int .u8 171, .int .u8 171, .int .u8 160, .int .u8 18, .int .u8 254, .int .u8 171]) (.int .i64 (q : Int))).run Tryz.prog w = .ok (.int .u8 (x : Int)) w :=
    run_idx _ 5 6 _ q _ Tryz.underlying114 hq6 hv (by intro w; simp [go_sem]) (by intro w; simp [go_sem])
  clear hv
  have hcs : #[.int .u8 (x : Int), .int .u8 ((r : Int) / 6 * 16), .int .u8 ((r : Int) * 7 % 256), .int .u8 0, .int .u8 0, .int .u8 0, .int .u8 0, .int .u8 0, .int .u8 0, .int .u8 0, .int .u8 0, .int .u8 0, .int .u8 0, .int .u8 0, .int .u8 0, .int .u8 0, .int .u8 0, .int .u8 0, .int .u8 0, .int .u8 0, .int .u8 0, .int .u8 0, .int .u8 0, .int .u8 0, .int .u8 0, .int .u8 0, .int .u8 0, .int .u8 0, .int .u8 0, .int .u8 0, .int .u8 0, .int .u8 (r : Int)] = G := by
    rw [HGR.out]
    have hxx : (x : Int) = ((UInt8.ofNat (Hs.tab.getD (r % 6) 0)).toNat : Int) := by rw [← HQ.out, ← hxt]; simp; omega
    have h2 : (r : Int) / 6 * 16 = ((UInt8.ofNat (r / 6 * 16)).toNat : Int) := by simp; omega
    have h3 : (r : Int) * 7 % 256 = ((UInt8.ofNat (r * 7)).toNat : Int) := by simp
    have h4 : (r : Int) = ((UInt8.ofNat r).toNat : Int) := by simp; omega
    rw [hxx, h2, h3]
    conv => lhs; rw [h4]
    rfl
  have hGs : G.size = 32 := by rw [← hcs]; rfl
  have hall : G.all (·.oneCell') = true := by rw [HGR.out]; exact hashC_one _
  clear hxt
  go_upto_region 7 with (fail)
  have hz : (#[.int .u8 0, .int .u8 0, .int .u8 0, .int .u8 0, .int .u8 0, .int .u8 0, .int .u8 0, .int .u8 0, .int .u8 0, .int .u8 0, .int .u8 0, .int .u8 0, .int .u8 0, .int .u8 0, .int .u8 0, .int .u8 0, .int .u8 0, .int .u8 0, .int .u8 0, .int .u8 0, .int .u8 0, .int .u8 0, .int .u8 0, .int .u8 0, .int .u8 0, .int .u8 0, .int .u8 0, .int .u8 0, .int .u8 0, .int .u8 0, .int .u8 0, .int .u8 0] : Array Value).size = 32 := rfl
  generalize (#[.int .u8 0, .int .u8 0, .int .u8 0, .int .u8 0, .int .u8 0, .int .u8 0, .int .u8 0, .int .u8 0, .int .u8 0, .int .u8 0, .int .u8 0, .int .u8 0, .int .u8 0, .int .u8 0, .int .u8 0, .int .u8 0, .int .u8 0, .int .u8 0, .int .u8 0, .int .u8 0, .int .u8 0, .int .u8 0, .int .u8 0, .int .u8 0, .int .u8 0, .int .u8 0, .int .u8 0, .int .u8 0, .int .u8 0, .int .u8 0, .int .u8 0, .int .u8 0] : Array Value) = z at hz ⊢
  try rw [hcs]
  clear hcs
  refine wp_region_lit ?_
  refine wpList_load_row rfl 42 (.tmp 3) rfl (w.heap.size + 1) rfl 42 G (0, 0) _ (by have := heap_alloc_new (w.alloc (.cells z 42)) (.cells G 42); rwa [World.size_alloc] at this) Tryz.underlying42 rfl (by rw [hGs]; kernel_rfl) ?_
  have hst : ((w.alloc (.cells z 42)).alloc (.cells G 42)).heap[w.heap.size]? = some (.cells z 42 (0, 0)) := (Below.heap_alloc _ _ _ (by simp)).trans (heap_alloc_new _ _)
  refine wpList_store_row rfl 42 (.tmp 2) (.tmp 23) rfl w.heap.size G rfl rfl 42 z hst (by rw [hGs]; kernel_rfl) (by rw [hz, hGs]) hall ?_
  have hB : Below w.heap.size w (((w.alloc (.cells z 42)).alloc (.cells G 42)).setRow w.heap.size G) := by
    have h1 : Below w.heap.size w ((w.alloc (.cells z 42)).alloc (.cells G 42)) := ((Below.refl _ _).alloc (Nat.le_refl _) _).alloc (by simp) _
    exact ⟨h1.os, h1.tape, h1.output, by simp [World.setRow]; omega, fun k hk => (setRow_other _ _ _ _ (by omega)).trans (h1.block k hk)⟩
  have hst2 : (((w.alloc (.cells z 42)).alloc (.cells G 42)).setRow w.heap.size G).heap[w.heap.size]? = some (.cells G 42 (0, 0)) := setRow_heap _ _ _ _ _ _ hst
  generalize (((w.alloc (.cells z 42)).alloc (.cells G 42)).setRow w.heap.size G) = w2 at hB hst2 ⊢
  go_wp2
  refine bodyPost_ret (v := .agg G) ?_ rfl ⟨rfl, hB⟩
  exact results_cell_row rfl _ _ w.heap.size 42 G (0, 0) _ rfl hst2 Tryz.underlying42 rfl (by rw [hGs]; kernel_rfl)
end Go.Proofs.YthampbiabkfmoaaGreatDoor
