/- The reference's turn. -/
import Derived.Test.YtkalpkmnelgieaaGreatDoorRfTurn
import Derived.Test.YtkalpkmnelgieaaGreatDoorDskCrash
import Derived.Deep.RegionHeld3
namespace Go.Proofs.YtkalpkmnelgieaaGreatDoor
open Go.RowKit Go.Tap Go.Maps
set_option linter.unusedVariables false
set_option linter.unusedSimpArgs false
attribute [local go_sem ↓] Go.wp_at_zero Go.wp_at_succ

theorem yl_undefT (f : Bool → Option Bool) (g : Option Value → Option Bool) : Go.yielded.match_1 (motive := fun _ => Option Bool) (some undef) f g = g (some undef) := rfl
attribute [local go_sem] yl_undefT
theorem Src.of_rds {w : World} {a : Option Addr} {n : Nat} {l : List UInt8} (h : Rds w a n l) : Src w a n 1 (bv l) :=
  ⟨by rw [bv_length, h.1]; omega, fun h0 => by
    obtain ⟨b, o, e, hc⟩ := h.2 h0
    refine ⟨b, o, e, fun j u hu => ?_⟩
    rw [bv_getElem?] at hu
    obtain ⟨y, hy, rfl⟩ := Option.map_eq_some_iff.1 hu
    exact hc j y hy⟩
theorem FOwn.base {w : World} {lo lo' : Nat} {v : Value} {l : Dsk.Files} (h : FOwn w lo v l) (hl : lo' ≤ lo) : FOwn w lo' v l := by
  obtain ⟨ps, h1, h2, h3⟩ := h
  exact ⟨ps, h1, h2, ownsRow_base h3 hl⟩
theorem Keeps.takeT {w : World} {a : Option Addr} {n c : Nat} {b : List UInt8} (h : Keeps w a n c b) {p : Nat} (hp : p ≤ n) : Keeps w a p c (b.take p) :=
  ⟨h.rds.take hp, fun h0 k o e => h.u8 (by omega) k o e, by have := h.le; omega, h.none⟩
/-- A work's cells, as the reference lays them. -/
def Wcells (x : Dsk.Wk) (a : Option Addr) (c : Nat) : List Value := [.int .i64 ((x.kind : Int) + 1), .string (str x.name), .string (str x.dst), .slice a x.b.length c, .int .i64 (x.n : Int)]
set_option maxHeartbeats 8000000 in
set_option maxRecDepth 100000 in
theorem rturn_any (w : World) (v0 : Value) (l : Dsk.Files) (h : FRow w v0 l) (x : Dsk.Wk) (a : Option Addr) (c : Nat) (hk : Keeps w a x.b.length c x.b) (hk3 : x.kind ≤ 3) (hn : l.length ≤ 1000000)
    (hcut : x.kind = 1 → x.n ≤ (Dsk.val l x.name).length) (hsz : (Dsk.val l x.name).length ≤ 1099511627776 ∧ x.b.length ≤ 1099511627776) :
    Calls Tryz.prog 48 #[v0, .agg (Wcells x a c).toArray] w (RowAft w (Ref.turn l x)) := by
  obtain ⟨iB, hb, hy0, hy1, hy2⟩ := info_parts Tryz.infoB
  obtain ⟨kd, nm, dst, xbb, xn⟩ := x
  simp only at hk hk3 hcut hsz
  obtain ⟨m, hm⟩ : ∃ m, m = xbb.length := ⟨_, rfl⟩
  show Calls _ _ #[v0, .agg #[.int .i64 ((kd : Int) + 1), .string (str nm), .string (str dst), .slice a xbb.length c, .int .i64 (xn : Int)]] _ _
  rw [← hm] at hk hsz ⊢
  obtain ⟨tb, htb⟩ : ∃ tb, tb = w.heap.size := ⟨_, rfl⟩
  obtain ⟨W1, hW1⟩ : ∃ W1, W1 = w.alloc (.cells #[.int .i64 ((kd : Int) + 1), .string (str nm), .string (str dst), .slice a m c, .int .i64 (xn : Int)] 115) := ⟨_, rfl⟩
  have hT1 : W1.heap[tb]? = some (.cells #[.int .i64 ((kd : Int) + 1), .string (str nm), .string (str dst), .slice a m c, .int .i64 (xn : Int)] 115 (0, 0)) := by rw [hW1, htb]; exact heap_alloc_new _ _
  have hB1 : Below w.heap.size w W1 := by rw [hW1]; exact (Below.refl _ _).alloc (Nat.le_refl _) _
  have hf1 := h.below hB1
  have k1 := hk.below hB1
  have hfd := find_any W1 v0 l hf1 nm (by omega)
  have hF : ∀ Y : World, Below W1.heap.size W1 Y → FRow Y v0 l := fun Y hY => hf1.below hY
  have hX : ∀ Y : World, Below W1.heap.size W1 Y → Keeps Y a m c xbb := fun Y hY => k1.below hY
  obtain ⟨vb, hvb⟩ : ∃ vb, vb = Dsk.val l nm := ⟨_, rfl⟩
  obtain ⟨n1, hn1⟩ : ∃ n1, n1 = vb.length := ⟨_, rfl⟩
  have c0 : W1.cell? ⟨tb, 0, none⟩ = some (.int .i64 ((kd : Int) + 1)) := blk_cell (i := 0) hT1 rfl
  have c1' : W1.cell? ⟨tb, 1, none⟩ = some (.string (str nm)) := blk_cell (i := 1) hT1 rfl
  have hza := hk.none
  have TB := Lib.hid hT1
  have B1 := Lib.hid hB1
  have HF := Lib.hid hF
  have KX := Lib.hid hX
  have HX := Lib.hid hm.symm
  have HW := Lib.hid hW1
  have HTB := Lib.hid htb
  rw [← hvb] at hsz
  rw [← hn1] at hsz
  clear h hk hT1 hB1 hf1 k1 hF hX hm hW1 htb
  unfold FindAft at hfd
  rw [← hvb, ← hn1] at hfd
  have HV := Lib.hid hn1.symm
  rw [← hvb, ← hn1] at hcut
  clear hn1
  rcases (show kd = 0 ∨ kd = 1 ∨ kd = 2 ∨ kd = 3 by omega) with rfl | rfl | rfl | rfl
  · rw [show ((((0 : Nat) : Int) + 1) : Int) = 1 from rfl] at c0 TB HW ⊢
    have ht : Ref.turn l ⟨0, nm, dst, xbb, xn⟩ = Ref.put l nm (vb ++ xbb) := by rw [hvb]; rfl
    rw [ht]
    clear ht hvb
    go_enter Tryz.func48, Tryz.ntmps48
    go_wp2_with fail
    rw [← HW.out, ← HTB.out]
    refine hfd.mono ?_
    clear hfd HW HTB
    rintro e w' ⟨a1, c1, rfl, kv, rfl⟩
    have hz1 := kv.none
    have hnc1 := kv.le
    have KV : Hid (∀ Y : World, Below W1.heap.size W1 Y → Keeps Y a1 n1 c1 vb) := Lib.hid (fun Y hY => kv.below hY)
    clear kv
    clear hcut
    go_upto_region 4 with (fail)
    refine wp_region_held_drew (S := (fun Y => Below W1.heap.size W1 Y)) (by kernel_rfl) ((Below.refl _ _).drew) (fun hHeld => ?_)
    refine wpAnyH_take (i := 0) (v := ?_) rfl (by kernel_rfl) (by kernel_rfl) (by kernel_rfl) (fun _ _ _ h => h) (Or.inl ⟨by kernel_rfl, ?_⟩) hHeld ?_
    rotate_left
    · (intro w hSw; clear hSw; go_simp; try (with_reducible rfl))
    (try simp only [Act.put, List.setIfInBounds_toArray, List.set_cons_zero, List.set_cons_succ])
    refine wpAnyH_take (i := 1) (v := ?_) rfl (by kernel_rfl) (by kernel_rfl) (by kernel_rfl) (fun _ _ _ h => h) (Or.inl ⟨by kernel_rfl, ?_⟩) hHeld ?_
    rotate_left
    · (intro w hSw; clear hSw; go_simp; try (with_reducible rfl))
    (try simp only [Act.put, List.setIfInBounds_toArray, List.set_cons_zero, List.set_cons_succ])
    refine wpAnyH_take (i := 2) (v := ?_) rfl (by kernel_rfl) (by kernel_rfl) (by kernel_rfl) (fun _ _ _ h => h) (Or.inl ⟨by kernel_rfl, ?_⟩) hHeld ?_
    rotate_left
    · (intro w hSw; have hT := (Below.block (show Below W1.heap.size W1 w from hSw) tb (blk_lt TB.out)).trans TB.out; have k1 := blk_cell (i := 1) hT rfl; clear hSw; go_simp; try (with_reducible rfl))
    (try simp only [Act.put, List.setIfInBounds_toArray, List.set_cons_zero, List.set_cons_succ])
    refine wpAnyH_take (i := 4) (v := ?_) rfl (by kernel_rfl) (by kernel_rfl) (by kernel_rfl) (fun _ _ _ h => h) (Or.inl ⟨by kernel_rfl, ?_⟩) hHeld ?_
    rotate_left
    · (intro w hSw; clear hSw; go_simp; try (with_reducible rfl))
    (try simp only [Act.put, List.setIfInBounds_toArray, List.set_cons_zero, List.set_cons_succ])
    refine wpAnyH_take (i := 6) (v := ?_) rfl (by kernel_rfl) (by kernel_rfl) (by kernel_rfl) (fun _ _ _ h => h) (Or.inl ⟨by kernel_rfl, ?_⟩) hHeld ?_
    rotate_left
    · (intro w hSw; clear hSw; go_simp; try (with_reducible rfl))
    (try simp only [Act.put, List.setIfInBounds_toArray, List.set_cons_zero, List.set_cons_succ])
    refine wpAnyH_take (i := 7) (v := ?_) rfl (by kernel_rfl) (by kernel_rfl) (by kernel_rfl) (fun _ _ _ h => h) (Or.inl ⟨by kernel_rfl, ?_⟩) hHeld ?_
    rotate_left
    · (intro w hSw; have hT := (Below.block (show Below W1.heap.size W1 w from hSw) tb (blk_lt TB.out)).trans TB.out; have k3 := blk_cell (i := 3) hT rfl; clear hSw; go_simp; try (with_reducible rfl))
    (try simp only [Act.put, List.setIfInBounds_toArray, List.set_cons_zero, List.set_cons_succ])
    refine wpAnyH_ready (rs := [3]) (by kernel_rfl) (by simp) ?_
    refine AllReadyH.cons rfl (fun K hK => ?_) AllReadyH.nil
    go_simp
    have hS2 : Below W1.heap.size W1 (W1.drew.alloc (.cells #[] 5)) := (show Below W1.heap.size W1 W1.drew from hHeld).alloc (Nat.le_refl _) _
    clear hHeld
    refine hK.out _ _ hS2 (fun hHeld => ?_)
    clear hK K hS2
    (try simp only [Act.put, List.setIfInBounds_toArray, List.set_cons_zero, List.set_cons_succ])
    refine wpAnyH_ready (rs := [5]) (by kernel_rfl) (by simp) ?_
    refine AllReadyH.cons rfl (fun K hK => ?_) AllReadyH.nil
    refine step_append_src (by rfl) (.tmp 21) (.tmp 22) 38 (by rfl) W1.heap.size 5 iB _ 1 1 Tryz.underlying38 hb hy0 hy1 hy2 (by rfl) (by omega) _ 0 [] (by rfl) (World.ownsRow_made W1.drew #[] 0 (Nat.le_refl _) (Nat.zero_le _) rfl) a1 n1 c1 (by rfl) hz1 (bv vb) (Src.of_rds (KV.out _ hHeld).rds) (bv_one _) (by omega) (by omega) (by simp) ?_
    intro a2 c2 w2 hown2 hg2
    rw [Nat.zero_add, List.nil_append] at hown2
    have hS2 : Below W1.heap.size W1 w2 := (show Below W1.heap.size W1 _ from hHeld).grown hg2 (by simp) (fun j hj => by simp [Value.ownBlock] at hj; omega)
    clear hHeld
    simp only [Nat.zero_add]
    refine hK.out _ _ hS2 (fun hHeld => ?_)
    clear hK K hS2
    (try simp only [Act.put, List.setIfInBounds_toArray, List.set_cons_zero, List.set_cons_succ])
    refine wpAnyH_ready (rs := [8]) (by kernel_rfl) (by simp) ?_
    refine AllReadyH.cons rfl (fun K hK => ?_) AllReadyH.nil
    refine step_append_src (by rfl) (.tmp 23) (.tmp 25) 38 (by rfl) W1.heap.size 5 iB _ 1 1 Tryz.underlying38 hb hy0 hy1 hy2 (by rfl) (by omega) _ n1 (bv vb) (by rfl) hown2 a m c (by rfl) hza (bv xbb) (Src.of_rds (KX.out _ hHeld).rds) (bv_one _) (by omega) (by omega) (show Below W1.heap.size W1 _ from hHeld).size ?_
    intro a4 c4 w4 hown4 hg4
    rw [bv_append] at hown4
    have hS2 : Below W1.heap.size W1 w4 := (show Below W1.heap.size W1 _ from hHeld).grown hg4 (show Below W1.heap.size W1 _ from hHeld).size (fun j hj => (hown2.lt j hj).1)
    clear hHeld hown2 hg2
    refine hK.out _ _ hS2 (fun hHeld => ?_)
    clear hK K hS2
    (try simp only [Act.put, List.setIfInBounds_toArray, List.set_cons_zero, List.set_cons_succ])
    refine wpAnyH_take (i := 9) (v := ?_) rfl (by kernel_rfl) (by kernel_rfl) (by kernel_rfl) (fun _ _ _ h => h) (Or.inl ⟨by kernel_rfl, ?_⟩) hHeld ?_
    rotate_left
    · (intro w hSw; clear hSw; go_simp; try (with_reducible rfl))
    (try simp only [Act.put, List.setIfInBounds_toArray, List.set_cons_zero, List.set_cons_succ])
    refine wpAnyH_ready (rs := [10]) (by kernel_rfl) (by simp) ?_
    refine AllReadyH.cons rfl (fun K hK => ?_) AllReadyH.nil
    go_simp
    go_wp2_with fail
    refine (rput_any w4 v0 l (HF.out _ hHeld) nm a4 (n1 + m) c4 (vb ++ xbb) (Keeps.of_own (by rw [List.length_append, HV.out, HX.out]; exact hown4) (by rw [List.length_append, HV.out, HX.out])) hn).mono ?_
    rintro e w5 ⟨v, rfl, hfo, hbo⟩
    have hfo' := hfo.base (Nat.le_trans B1.out.size (show Below W1.heap.size W1 _ from hHeld).size)
    clear hfo
    have hS2 : Below W1.heap.size W1 w5 := (show Below W1.heap.size W1 _ from hHeld).trans (hbo.mono (show Below W1.heap.size W1 _ from hHeld).size)
    go_wp2_with fail
    refine hK.out _ _ hS2 (fun hHeld => ?_)
    clear hK K hS2
    (try simp only [Act.put, List.setIfInBounds_toArray, List.set_cons_zero, List.set_cons_succ])
    refine wpAnyH_take (i := 11) (v := ?_) rfl (by kernel_rfl) (by kernel_rfl) (by kernel_rfl) (fun _ _ _ h => h) (Or.inl ⟨by kernel_rfl, ?_⟩) hHeld ?_
    rotate_left
    · (intro w hSw; clear hSw; go_simp; try (with_reducible rfl))
    (try simp only [Act.put, List.setIfInBounds_toArray, List.set_cons_zero, List.set_cons_succ])
    refine wpAnyH_done (by kernel_rfl) ?_ _
    simp only [Act.put, List.getElem_toArray, List.getElem_cons_zero, List.getElem_cons_succ, List.setIfInBounds_toArray, List.set_cons_zero, List.set_cons_succ]
    go_wp2
    go_ret
    exact ⟨_, rfl, hfo', B1.out.trans ((show Below W1.heap.size W1 _ from hHeld).mono B1.out.size)⟩
  · rw [show ((((1 : Nat) : Int) + 1) : Int) = 2 from rfl] at c0 TB HW ⊢
    have ht : Ref.turn l ⟨1, nm, dst, xbb, xn⟩ = Ref.put l nm (vb.take xn) := by rw [hvb]; rfl
    rw [ht]
    clear ht hvb
    go_enter Tryz.func48, Tryz.ntmps48
    go_wp2_with fail
    rw [← HW.out, ← HTB.out]
    refine hfd.mono ?_
    clear hfd HW HTB
    rintro e w' ⟨a1, c1, rfl, kv, rfl⟩
    have hz1 := kv.none
    have hnc1 := kv.le
    have KV : Hid (∀ Y : World, Below W1.heap.size W1 Y → Keeps Y a1 n1 c1 vb) := Lib.hid (fun Y hY => kv.below hY)
    clear kv
    have hcut : xn ≤ n1 := by simpa using hcut
    have s0 : (0 : Int) ≤ (xn : Int) := by omega
    have s1 : (xn : Int) ≤ (c1 : Int) := by omega
    have s2 : xn ≤ c1 := by omega
    go_upto_region 6 with (fail)
    refine wp_region_held_drew (S := (fun Y => Below W1.heap.size W1 Y)) (by kernel_rfl) ((Below.refl _ _).drew) (fun hHeld => ?_)
    refine wpAnyH_take (i := 0) (v := ?_) rfl (by kernel_rfl) (by kernel_rfl) (by kernel_rfl) (fun _ _ _ h => h) (Or.inl ⟨by kernel_rfl, ?_⟩) hHeld ?_
    rotate_left
    · (intro w hSw; clear hSw; go_simp; try (with_reducible rfl))
    (try simp only [Act.put, List.setIfInBounds_toArray, List.set_cons_zero, List.set_cons_succ])
    refine wpAnyH_take (i := 1) (v := ?_) rfl (by kernel_rfl) (by kernel_rfl) (by kernel_rfl) (fun _ _ _ h => h) (Or.inl ⟨by kernel_rfl, ?_⟩) hHeld ?_
    rotate_left
    · (intro w hSw; clear hSw; go_simp; try (with_reducible rfl))
    (try simp only [Act.put, List.setIfInBounds_toArray, List.set_cons_zero, List.set_cons_succ])
    refine wpAnyH_take (i := 2) (v := ?_) rfl (by kernel_rfl) (by kernel_rfl) (by kernel_rfl) (fun _ _ _ h => h) (Or.inl ⟨by kernel_rfl, ?_⟩) hHeld ?_
    rotate_left
    · (intro w hSw; have hT := (Below.block (show Below W1.heap.size W1 w from hSw) tb (blk_lt TB.out)).trans TB.out; have k1 := blk_cell (i := 1) hT rfl; clear hSw; go_simp; try (with_reducible rfl))
    (try simp only [Act.put, List.setIfInBounds_toArray, List.set_cons_zero, List.set_cons_succ])
    refine wpAnyH_take (i := 3) (v := ?_) rfl (by kernel_rfl) (by kernel_rfl) (by kernel_rfl) (fun _ _ _ h => h) (Or.inl ⟨by kernel_rfl, ?_⟩) hHeld ?_
    rotate_left
    · (intro w hSw; clear hSw; go_simp; try (with_reducible rfl))
    (try simp only [Act.put, List.setIfInBounds_toArray, List.set_cons_zero, List.set_cons_succ])
    refine wpAnyH_take (i := 4) (v := ?_) rfl (by kernel_rfl) (by kernel_rfl) (by kernel_rfl) (fun _ _ _ h => h) (Or.inl ⟨by kernel_rfl, ?_⟩) hHeld ?_
    rotate_left
    · (intro w hSw; clear hSw; go_simp; try (with_reducible rfl))
    (try simp only [Act.put, List.setIfInBounds_toArray, List.set_cons_zero, List.set_cons_succ])
    refine wpAnyH_take (i := 5) (v := ?_) rfl (by kernel_rfl) (by kernel_rfl) (by kernel_rfl) (fun _ _ _ h => h) (Or.inl ⟨by kernel_rfl, ?_⟩) hHeld ?_
    rotate_left
    · (intro w hSw; have hT := (Below.block (show Below W1.heap.size W1 w from hSw) tb (blk_lt TB.out)).trans TB.out; have k4 := blk_cell (i := 4) hT rfl; clear hSw; go_simp; try (with_reducible rfl))
    (try simp only [Act.put, List.setIfInBounds_toArray, List.set_cons_zero, List.set_cons_succ])
    refine wpAnyH_take (i := 6) (v := ?_) rfl (by kernel_rfl) (by kernel_rfl) (by kernel_rfl) (fun _ _ _ h => h) (Or.inl ⟨by kernel_rfl, ?_⟩) hHeld ?_
    rotate_left
    · (intro w hSw; clear hSw; go_simp; try (with_reducible rfl))
    (try simp only [Act.put, List.setIfInBounds_toArray, List.set_cons_zero, List.set_cons_succ])
    refine wpAnyH_take (i := 7) (v := ?_) rfl (by kernel_rfl) (by kernel_rfl) (by kernel_rfl) (fun _ _ _ h => h) (Or.inl ⟨by kernel_rfl, ?_⟩) hHeld ?_
    rotate_left
    · (intro w hSw; clear hSw; go_simp; try (with_reducible rfl))
    (try simp only [Act.put, List.setIfInBounds_toArray, List.set_cons_zero, List.set_cons_succ])
    refine wpAnyH_ready (rs := [8]) (by kernel_rfl) (by simp) ?_
    refine AllReadyH.cons rfl (fun K hK => ?_) AllReadyH.nil
    go_simp
    go_wp2_with fail
    refine (rput_any W1.drew v0 l (HF.out _ hHeld) nm a1 xn c1 (vb.take xn) ((KV.out _ hHeld).takeT hcut) hn).mono ?_
    rintro e w5 ⟨v, rfl, hfo, hbo⟩
    have hfo' := hfo.base (Nat.le_trans B1.out.size (show Below W1.heap.size W1 _ from hHeld).size)
    clear hfo
    have hS2 : Below W1.heap.size W1 w5 := (show Below W1.heap.size W1 _ from hHeld).trans (hbo.mono (show Below W1.heap.size W1 _ from hHeld).size)
    go_wp2_with fail
    refine hK.out _ _ hS2 (fun hHeld => ?_)
    clear hK K hS2
    (try simp only [Act.put, List.setIfInBounds_toArray, List.set_cons_zero, List.set_cons_succ])
    refine wpAnyH_take (i := 9) (v := ?_) rfl (by kernel_rfl) (by kernel_rfl) (by kernel_rfl) (fun _ _ _ h => h) (Or.inl ⟨by kernel_rfl, ?_⟩) hHeld ?_
    rotate_left
    · (intro w hSw; clear hSw; go_simp; try (with_reducible rfl))
    (try simp only [Act.put, List.setIfInBounds_toArray, List.set_cons_zero, List.set_cons_succ])
    refine wpAnyH_done (by kernel_rfl) ?_ _
    simp only [Act.put, List.getElem_toArray, List.getElem_cons_zero, List.getElem_cons_succ, List.setIfInBounds_toArray, List.set_cons_zero, List.set_cons_succ]
    go_wp2
    go_ret
    exact ⟨_, rfl, hfo', B1.out.trans ((show Below W1.heap.size W1 _ from hHeld).mono B1.out.size)⟩
  · rw [show ((((2 : Nat) : Int) + 1) : Int) = 3 from rfl] at c0 TB HW ⊢
    have ht : Ref.turn l ⟨2, nm, dst, xbb, xn⟩ = Ref.put (Dsk.del l nm) dst vb := by rw [hvb]; rfl
    rw [ht]
    clear ht hvb
    go_enter Tryz.func48, Tryz.ntmps48
    go_wp2_with fail
    rw [← HW.out, ← HTB.out]
    refine hfd.mono ?_
    clear hfd HW HTB
    rintro e w' ⟨a1, c1, rfl, kv, rfl⟩
    have hz1 := kv.none
    have hnc1 := kv.le
    have KV : Hid (∀ Y : World, Below W1.heap.size W1 Y → Keeps Y a1 n1 c1 vb) := Lib.hid (fun Y hY => kv.below hY)
    clear kv
    clear hcut
    go_upto_region 8 with (fail)
    refine wp_region_held_drew (S := (fun Y => Below W1.heap.size W1 Y)) (by kernel_rfl) ((Below.refl _ _).drew) (fun hHeld => ?_)
    refine wpAnyH_take (i := 0) (v := ?_) rfl (by kernel_rfl) (by kernel_rfl) (by kernel_rfl) (fun _ _ _ h => h) (Or.inl ⟨by kernel_rfl, ?_⟩) hHeld ?_
    rotate_left
    · (intro w hSw; clear hSw; go_simp; try (with_reducible rfl))
    (try simp only [Act.put, List.setIfInBounds_toArray, List.set_cons_zero, List.set_cons_succ])
    refine wpAnyH_take (i := 1) (v := ?_) rfl (by kernel_rfl) (by kernel_rfl) (by kernel_rfl) (fun _ _ _ h => h) (Or.inl ⟨by kernel_rfl, ?_⟩) hHeld ?_
    rotate_left
    · (intro w hSw; clear hSw; go_simp; try (with_reducible rfl))
    (try simp only [Act.put, List.setIfInBounds_toArray, List.set_cons_zero, List.set_cons_succ])
    refine wpAnyH_take (i := 2) (v := ?_) rfl (by kernel_rfl) (by kernel_rfl) (by kernel_rfl) (fun _ _ _ h => h) (Or.inl ⟨by kernel_rfl, ?_⟩) hHeld ?_
    rotate_left
    · (intro w hSw; have hT := (Below.block (show Below W1.heap.size W1 w from hSw) tb (blk_lt TB.out)).trans TB.out; have k1 := blk_cell (i := 1) hT rfl; clear hSw; go_simp; try (with_reducible rfl))
    (try simp only [Act.put, List.setIfInBounds_toArray, List.set_cons_zero, List.set_cons_succ])
    refine wpAnyH_take (i := 4) (v := ?_) rfl (by kernel_rfl) (by kernel_rfl) (by kernel_rfl) (fun _ _ _ h => h) (Or.inl ⟨by kernel_rfl, ?_⟩) hHeld ?_
    rotate_left
    · (intro w hSw; clear hSw; go_simp; try (with_reducible rfl))
    (try simp only [Act.put, List.setIfInBounds_toArray, List.set_cons_zero, List.set_cons_succ])
    refine wpAnyH_take (i := 5) (v := ?_) rfl (by kernel_rfl) (by kernel_rfl) (by kernel_rfl) (fun _ _ _ h => h) (Or.inl ⟨by kernel_rfl, ?_⟩) hHeld ?_
    rotate_left
    · (intro w hSw; have hT := (Below.block (show Below W1.heap.size W1 w from hSw) tb (blk_lt TB.out)).trans TB.out; have k2 := blk_cell (i := 2) hT rfl; clear hSw; go_simp; try (with_reducible rfl))
    (try simp only [Act.put, List.setIfInBounds_toArray, List.set_cons_zero, List.set_cons_succ])
    refine wpAnyH_take (i := 6) (v := ?_) rfl (by kernel_rfl) (by kernel_rfl) (by kernel_rfl) (fun _ _ _ h => h) (Or.inl ⟨by kernel_rfl, ?_⟩) hHeld ?_
    rotate_left
    · (intro w hSw; clear hSw; go_simp; try (with_reducible rfl))
    (try simp only [Act.put, List.setIfInBounds_toArray, List.set_cons_zero, List.set_cons_succ])
    refine wpAnyH_take (i := 7) (v := ?_) rfl (by kernel_rfl) (by kernel_rfl) (by kernel_rfl) (fun _ _ _ h => h) (Or.inl ⟨by kernel_rfl, ?_⟩) hHeld ?_
    rotate_left
    · (intro w hSw; clear hSw; go_simp; try (with_reducible rfl))
    (try simp only [Act.put, List.setIfInBounds_toArray, List.set_cons_zero, List.set_cons_succ])
    refine wpAnyH_ready (rs := [3]) (by kernel_rfl) (by simp) ?_
    refine AllReadyH.cons rfl (fun K hK => ?_) AllReadyH.nil
    go_simp
    go_wp2_with fail
    refine (drop_any _ v0 l (HF.out _ hHeld) nm hn).mono ?_
    rintro e w5 ⟨vd, rfl, hfd, hbd⟩
    have hS2 : Below W1.heap.size W1 w5 := (show Below W1.heap.size W1 _ from hHeld).trans (hbd.mono (show Below W1.heap.size W1 _ from hHeld).size)
    go_wp2_with fail
    clear hHeld
    refine hK.out _ _ hS2 (fun hHeld => ?_)
    clear hK K hS2
    (try simp only [Act.put, List.setIfInBounds_toArray, List.set_cons_zero, List.set_cons_succ])
    refine wpAnyH_ready (rs := [8]) (by kernel_rfl) (by simp) ?_
    refine AllReadyH.cons rfl (fun K hK => ?_) AllReadyH.nil
    go_simp
    go_wp2_with fail
    refine (rput_any w5 vd (Dsk.del l nm) hfd.row dst a1 n1 c1 vb (KV.out _ hHeld) (by have := Dsk.len_del l nm; omega)).mono ?_
    rintro e w6 ⟨v, rfl, hfo, hbo⟩
    have hfo' := hfo.base (Nat.le_trans B1.out.size (show Below W1.heap.size W1 _ from hHeld).size)
    clear hfo
    have hS2 : Below W1.heap.size W1 w6 := (show Below W1.heap.size W1 _ from hHeld).trans (hbo.mono (show Below W1.heap.size W1 _ from hHeld).size)
    go_wp2_with fail
    refine hK.out _ _ hS2 (fun hHeld => ?_)
    clear hK K hS2
    (try simp only [Act.put, List.setIfInBounds_toArray, List.set_cons_zero, List.set_cons_succ])
    refine wpAnyH_take (i := 9) (v := ?_) rfl (by kernel_rfl) (by kernel_rfl) (by kernel_rfl) (fun _ _ _ h => h) (Or.inl ⟨by kernel_rfl, ?_⟩) hHeld ?_
    rotate_left
    · (intro w hSw; clear hSw; go_simp; try (with_reducible rfl))
    (try simp only [Act.put, List.setIfInBounds_toArray, List.set_cons_zero, List.set_cons_succ])
    refine wpAnyH_done (by kernel_rfl) ?_ _
    simp only [Act.put, List.getElem_toArray, List.getElem_cons_zero, List.getElem_cons_succ, List.setIfInBounds_toArray, List.set_cons_zero, List.set_cons_succ]
    go_wp2
    go_ret
    exact ⟨_, rfl, hfo', B1.out.trans ((show Below W1.heap.size W1 _ from hHeld).mono B1.out.size)⟩
  · rw [show ((((3 : Nat) : Int) + 1) : Int) = 4 from rfl] at c0 TB HW ⊢
    have ht : Ref.turn l ⟨3, nm, dst, xbb, xn⟩ = Dsk.del l nm := rfl
    rw [ht]
    clear ht hvb
    go_enter Tryz.func48, Tryz.ntmps48
    go_wp2_with fail
    rw [← HW.out, ← HTB.out]
    refine hfd.mono ?_
    clear hfd HW HTB
    rintro e w' ⟨a1, c1, rfl, kv, rfl⟩
    have hz1 := kv.none
    have hnc1 := kv.le
    have KV : Hid (∀ Y : World, Below W1.heap.size W1 Y → Keeps Y a1 n1 c1 vb) := Lib.hid (fun Y hY => kv.below hY)
    clear kv
    clear hcut
    go_wp2_with fail
    refine (drop_any W1 v0 l (HF.out _ (Below.refl _ _)) nm hn).mono ?_
    rintro e w5 ⟨v, rfl, hfo, hbo⟩
    go_wp2
    go_ret
    exact ⟨_, rfl, hfo.base B1.out.size, B1.out.trans (hbo.mono B1.out.size)⟩
end Go.Proofs.YtkalpkmnelgieaaGreatDoor
