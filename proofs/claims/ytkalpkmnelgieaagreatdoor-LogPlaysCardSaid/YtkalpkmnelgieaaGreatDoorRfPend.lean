/- The reference's pend. -/
import Derived.Test.YtkalpkmnelgieaaGreatDoorRfSt
namespace Go.Proofs.YtkalpkmnelgieaaGreatDoor
open Go.RowKit Go.Tap Go.Maps
set_option linter.unusedVariables false
set_option linter.unusedSimpArgs false
attribute [local go_sem ↓] Go.wp_at_zero Go.wp_at_succ

theorem infoWork : (Tryz.prog.info? 115).map (fun i => (i.zero, i.size, i.bytes)) = some (some (.agg #[.int .i64 0, .string ⟨#[]⟩, .string ⟨#[]⟩, .slice none 0 0, .int .i64 0]), 5, 72) := by kernel_rfl
theorem src_new5 (w : World) (p q r s t : Value) (ty : TypeId) : Src (w.alloc (.cells #[p, q, r, s, t] ty)) (some ⟨w.heap.size, 0, none⟩) 1 5 [p, q, r, s, t] := by
  refine ⟨rfl, fun _ => ⟨w.heap.size, 0, rfl, fun j x hx => ?_⟩⟩
  have hT := heap_alloc_new w (.cells #[p, q, r, s, t] ty)
  match j, hx with
  | 0, hx => simp at hx; subst hx; exact blk_cell (i := 0) hT rfl
  | 1, hx => simp at hx; subst hx; exact blk_cell (i := 1) hT rfl
  | 2, hx => simp at hx; subst hx; exact blk_cell (i := 2) hT rfl
  | 3, hx => simp at hx; subst hx; exact blk_cell (i := 3) hT rfl
  | 4, hx => simp at hx; subst hx; exact blk_cell (i := 4) hT rfl
  | j + 5, hx => simp at hx
theorem own_cast {w : World} {b e size n n' m c k : Nat} {xs : List Value} (h : w.ownsRow b e size (.slice (some ⟨n, 0, none⟩) m c) k xs) (hn : n = n') : w.ownsRow b e size (.slice (some ⟨n', 0, none⟩) m c) k xs := by subst hn; exact h
theorem src_cast {w : World} {n n' m size : Nat} {cs : List Value} (h : Src w (some ⟨n, 0, none⟩) m size cs) (hn : n = n') : Src w (some ⟨n', 0, none⟩) m size cs := by subst hn; exact h
theorem src_at {W2 W : World} {k : Nat} (h : Below k W2 W) (p q r s t : Value) (ty : TypeId) : Src (W.alloc (.cells #[p, q, r, s, t] ty)) (some ⟨W.heap.size, 0, none⟩) 1 5 [p, q, r, s, t] := src_new5 W p q r s t ty
theorem Wcells_one (x : Dsk.Wk) (a : Option Addr) (c : Nat) : ∀ u ∈ Wcells x a c, u.oneCell' = true := by
  intro u hu
  simp [Wcells] at hu
  rcases hu with rfl | rfl | rfl | rfl | rfl <;> rfl
theorem wk_same (r : Ref.Rd) : r.wk.1.kept = r.kept ∧ r.wk.1.pend = r.pend ∧ r.wk.1.room = r.room := by
  unfold Ref.Rd.wk
  split <;> exact ⟨rfl, rfl, rfl⟩
theorem IsRv.pushed {w w' : World} {B : Nat} {kv pv pv' : Value} {r : Ref.Rd} {x : Dsk.Wk} (h : IsRv w B kv pv r) (ht : TStay (fun k => k = B) w w') (hb : w'.heap[B]? = some (.cells (Rcells r kv pv') 90 (0, 0))) (hp : PRow w' pv' (r.pend ++ [x])) : IsRv w' B kv pv' { r with pend := r.pend ++ [x] } :=
  ⟨hb, h.kept.keep (IsRv.keepB h.blk ht), hp⟩
set_option maxHeartbeats 16000000 in
set_option maxRecDepth 100000 in
theorem rpend_any (w : World) (B : Nat) (r : Ref.Rd) (h : IsRd w B r) (hf : -1 ≤ r.fuse ∧ r.fuse ≤ 9223372036854775807) (hwk : r.works ≤ 1000000) (x : Dsk.Wk) (a : Option Addr) (c : Nat) (hk : Keeps w a x.b.length c x.b) (hlen : r.pend.length ≤ 1000000) :
    Calls Tryz.prog 79 #[.pointer (some ⟨B, 0, none⟩), .agg (Wcells x a c).toArray] w (ROp w B (r.pnd x)) := by
  obtain ⟨iW, hw, hw0, hw1, hw2⟩ := info_parts infoWork
  obtain ⟨kv, pv, h⟩ := h
  obtain ⟨m, hm⟩ : ∃ m, m = x.b.length := ⟨_, rfl⟩
  show Calls _ _ #[_, .agg #[.int .i64 ((x.kind : Int) + 1), .string (str x.name), .string (str x.dst), .slice a x.b.length c, .int .i64 (x.n : Int)]] _ _
  have hlB := blk_lt h.blk
  obtain ⟨tb, htb⟩ : ∃ tb, tb = w.heap.size := ⟨_, rfl⟩
  obtain ⟨W1, hW1⟩ : ∃ W1, W1 = w.alloc (.cells #[.int .i64 ((x.kind : Int) + 1), .string (str x.name), .string (str x.dst), .slice a m c, .int .i64 (x.n : Int)] 115) := ⟨_, rfl⟩
  rw [← hm]
  have hT1 : W1.heap[tb]? = some (.cells #[.int .i64 ((x.kind : Int) + 1), .string (str x.name), .string (str x.dst), .slice a m c, .int .i64 (x.n : Int)] 115 (0, 0)) := by rw [hW1, htb]; exact heap_alloc_new _ _
  have hB1 : Below w.heap.size w W1 := by rw [hW1]; exact (Below.refl _ _).alloc (Nat.le_refl _) _
  have hwo := rworks_any W1 B kv pv r (h.below hB1) hf hwk
  have hne : tb ≠ B := by omega
  have HLB := Lib.hid hlB
  have HBL := Lib.hid h.blk
  have T1 := Lib.hid hT1
  have B1 := Lib.hid hB1
  have HTB := Lib.hid hne
  have HK := Lib.hid (hk.below hB1)
  have HW := Lib.hid hW1
  have HT := Lib.hid htb
  have HM := Lib.hid hm
  clear h hk hlB hT1 hB1 hne hW1 htb hm
  have hsame := wk_same r
  have hpnd : r.pnd x = if r.wk.2 = true then ({ r.wk.1 with pend := r.pend ++ [x] }, 0) else (r.wk.1, 7) := rfl
  obtain ⟨r1, hr1⟩ : ∃ r1, r1 = r.wk.1 := ⟨_, rfl⟩
  obtain ⟨b, hb⟩ : ∃ b, b = r.wk.2 := ⟨_, rfl⟩
  rw [← hr1] at hsame
  rw [← hr1, ← hb] at hwo hpnd
  have HS := Lib.hid hsame
  cases b with
  | false =>
    rw [if_neg (by simp)] at hpnd
    rw [hpnd]
    clear hr1 hb hsame hpnd
    go_enter Tryz.func79, Tryz.ntmps79
    go_wp2_with fail
    rw [← HW.out]
    refine hwo.mono ?_
    clear hwo
    rintro e w2 ⟨rfl, h2, t2⟩
    have t0 : TStay (fun k => k = B) w w2 := (TStay.of_below B1.out _).trans t2 (fun _ _ h => h)
    go_wp2
    go_ret
    exact ⟨rfl, ⟨_, _, h2⟩, t0⟩
  | true =>
    rw [if_pos rfl] at hpnd
    rw [hpnd, ← hsame.2.1]
    clear hr1 hb hsame hpnd
    go_enter Tryz.func79, Tryz.ntmps79
    go_wp2_with fail
    rw [← HW.out, ← HT.out]
    refine hwo.mono ?_
    clear hwo HW HT
    rintro e W2 ⟨rfl, h2, t2⟩
    obtain ⟨pa, pc, hpv, hpc, hpn⟩ := h2.pend.slice
    subst hpv
    obtain ⟨P, hP⟩ : ∃ P, P = r1.pend.length := ⟨_, rfl⟩
    rw [← hP] at hpc
    have hPle : P ≤ 1000000 := by rw [hP, HS.out.2.1]; exact hlen
    obtain ⟨ps, hp1, hp2, hp3⟩ := h2.pend
    rw [← hP] at hp3
    have hblk : W2.heap[B]? = some (.cells #[.int .i64 (r1.room : Int), kv, .slice pa P pc, .int .i64 r1.fuse, .bool r1.dead, .int .i64 (r1.works : Int)] 90 (0, 0)) := by rw [hP]; exact h2.blk
    have hT2 := (t2.block tb (blk_lt T1.out) HTB.out).trans T1.out
    have hk2 : Keeps W2 a m c x.b := by
      have := HK.out
      rw [← HM.out] at this
      refine this.stay (KeepU.tstay t2 (fun k xs fr e hx => ?_))
      subst e
      rw [B1.out.block k (by have := HLB.out; exact this), HBL.out] at hx
      simp only [Option.some.injEq, Obj.cells.injEq] at hx
      exact absurd hx.2.1 (by decide)
    have TB := Lib.hid hT2
    have HB := Lib.hid hblk
    have HPO := Lib.hid hp3
    have HP2 := Lib.hid hp2
    have HP1 := Lib.hid hp1
    have HPP := Lib.hid hP
    have H2 := Lib.hid h2
    have HK2 := Lib.hid hk2
    have T2 := Lib.hid t2
    clear hT2 hblk hp3 hp2 hp1 hP h2 hk2 t2
    go_upto_region 3 with (fail)
    have hwl : ([.int .i64 ((x.kind : Int) + 1), .string (str x.name), .string (str x.dst), .slice a m c, .int .i64 (x.n : Int)] : List Value) = Wcells x a c := by unfold Wcells; rw [HM.out]
    have hwl1 : ∀ u ∈ ([.int .i64 ((x.kind : Int) + 1), .string (str x.name), .string (str x.dst), .slice a m c, .int .i64 (x.n : Int)] : List Value), u.oneCell' = true := by rw [hwl]; exact Wcells_one x a c
    have WL := Lib.hid hwl
    have WL1 := Lib.hid hwl1
    clear hwl hwl1
    go_cut [4] from 8 to 19 (fun v4 wx => v4 = .int .i64 0 ∧ ∃ (a9 : Option Addr) (c9 : Nat) (w9 : World), Below W2.heap.size W2 w9 ∧ w9.ownsRow W2.heap.size 115 5 (.slice a9 (P + 1) c9) (P + 1) (ps.flatMap Wc ++ [.int .i64 ((x.kind : Int) + 1), .string (str x.name), .string (str x.dst), .slice a m c, .int .i64 (x.n : Int)]) ∧ wx = w9.setCell ⟨B, 2, none⟩ (.slice a9 (P + 1) c9))
    case first =>
      refine wp_region_held_drew (S := (fun Y => TStay (fun k => k = B) W2 Y)) (by kernel_rfl) ((TStay.refl _ W2).drew) (fun hHeld => ?_)
      refine wpAnyH_take (i := 0) (v := ?_) rfl (by kernel_rfl) (by kernel_rfl) (by kernel_rfl) (fun _ _ _ h => h) (Or.inl ⟨by kernel_rfl, ?_⟩) hHeld ?_
      rotate_left
      · (intro w hSw; clear hSw; go_simp; try (with_reducible rfl))
      (try simp only [Act.put, List.setIfInBounds_toArray, List.set_cons_zero, List.set_cons_succ])
      refine wpAnyH_take (i := 2) (v := ?_) rfl (by kernel_rfl) (by kernel_rfl) (by kernel_rfl) (fun _ _ _ h => h) (Or.inl ⟨by kernel_rfl, ?_⟩) hHeld ?_
      rotate_left
      · (intro w hSw; clear hSw; go_simp; try (with_reducible rfl))
      (try simp only [Act.put, List.setIfInBounds_toArray, List.set_cons_zero, List.set_cons_succ])
      refine wpAnyH_take (i := 3) (v := ?_) rfl (by kernel_rfl) (by kernel_rfl) (by kernel_rfl) (fun _ _ _ h => h) (Or.inl ⟨by kernel_rfl, ?_⟩) hHeld ?_
      rotate_left
      · (intro w hSw; clear hSw; go_simp; try (with_reducible rfl))
      (try simp only [Act.put, List.setIfInBounds_toArray, List.set_cons_zero, List.set_cons_succ])
      refine wpAnyH_take (i := 4) (v := ?_) rfl (by kernel_rfl) (by kernel_rfl) (by kernel_rfl) (fun _ _ _ h => h) (Or.inl ⟨by kernel_rfl, ?_⟩) hHeld ?_
      rotate_left
      · (intro w hSw; clear hSw; go_simp; try (with_reducible rfl))
      (try simp only [Act.put, List.setIfInBounds_toArray, List.set_cons_zero, List.set_cons_succ])
      refine wpAnyH_take (i := 7) (v := ?_) rfl (by kernel_rfl) (by kernel_rfl) (by kernel_rfl) (fun _ _ _ h => h) (Or.inl ⟨by kernel_rfl, ?_⟩) hHeld ?_
      rotate_left
      · (intro w hSw; have hT := (TStay.block (show TStay (fun k => k = B) W2 w from hSw) tb (blk_lt TB.out) HTB.out).trans TB.out; have q0 := blk_cell (i := 0) hT rfl; have q1 := blk_cell (i := 1) hT rfl; have q2 := blk_cell (i := 2) hT rfl; have q3 := blk_cell (i := 3) hT rfl; have q4 := blk_cell (i := 4) hT rfl; clear hT; clear hSw; go_simp; try (with_reducible rfl))
      (try simp only [Act.put, List.setIfInBounds_toArray, List.set_cons_zero, List.set_cons_succ])
      have hcur : Below W2.heap.size W2 W2.drew := (Below.refl _ _).drew
      refine wpAnyH_ready (rs := [1, 5, 8]) (by kernel_rfl) (by simp) ?_
      refine AllReadyH.cons rfl (fun K hK => ?_) ?_
      · have hc1 := hcur
        go_simp
        refine (fun (hcN : Below W2.heap.size W2 ?w1) => hK.out _ ?w1 (TStay.of_below hcN _) (fun hHeld => ?_)) ?hb1
        rotate_left
        · exact hcur.alloc hcur.size _
        clear hK K hcur
        have hcur := hcN
        clear hcN
        (try simp only [Act.put, List.setIfInBounds_toArray, List.set_cons_zero, List.set_cons_succ])
        refine wpAnyH_ready (rs := [5, 8]) (by kernel_rfl) (by simp) ?_
        refine AllReadyH.cons rfl (fun K hK => ?_) ?_
        · have c2 := blk_cell (i := 2) ((hcur.block B (blk_lt HB.out)).trans HB.out) rfl
          go_simp
          clear c2
          refine (fun (hcN : Below W2.heap.size W2 ?w2) => hK.out _ ?w2 (TStay.of_below hcN _) (fun hHeld => ?_)) ?hb2
          rotate_left
          · exact hcur
          clear hK K hcur
          have hcur := hcN
          clear hcN
          (try simp only [Act.put, List.setIfInBounds_toArray, List.set_cons_zero, List.set_cons_succ])
          refine wpAnyH_ready (rs := [6, 8]) (by kernel_rfl) (by simp) ?_
          refine AllReadyH.cons rfl (fun K hK => ?_) ?_
          · refine step_append_src (by rfl) (.tmp 9) (.tmp 13) 88 (by rfl) W2.heap.size 115 iW _ 5 72 Tryz.underlying88 hw hw0 hw1 hw2 (by rfl) (by omega) (.slice (some ⟨W2.heap.size, 0, none⟩) 0 0) 0 [] (by rfl) (own_cast (World.ownsRow_made _ #[] 0 hc1.size (Nat.zero_le _) rfl) (n' := W2.heap.size) (by simp)) pa P pc (by rfl) hpn (ps.flatMap Wc) ((Src.of_own HPO.out).below (by omega) hcur (Nat.le_refl _)) (Wc_one ps) (by omega) (by omega) hcur.size ?_
            intro a6 c6 w6 hown6 hg6
            rw [Nat.zero_add, List.nil_append] at hown6
            simp only [Nat.zero_add]
            refine (fun (hcN : Below W2.heap.size W2 ?w3) => hK.out _ ?w3 (TStay.of_below hcN _) (fun hHeld => ?_)) ?hb3
            rotate_left
            · exact hcur.grown hg6 hcur.size (fun j hj => by simp only [Value.ownBlock, Option.some.injEq] at hj; omega)
            clear hK K hcur
            have hcur := hcN
            clear hcN
            (try simp only [Act.put, List.setIfInBounds_toArray, List.set_cons_zero, List.set_cons_succ])
            refine wpAnyH_ready (rs := [8]) (by kernel_rfl) (by simp) ?_
            refine AllReadyH.cons rfl (fun K hK => ?_) ?_
            · have hc8 := hcur
              go_simp
              refine (fun (hcN : Below W2.heap.size W2 ?w4) => hK.out _ ?w4 (TStay.of_below hcN _) (fun hHeld => ?_)) ?hb4
              rotate_left
              · exact hcur.alloc hcur.size _
              clear hK K hcur
              have hcur := hcN
              clear hcN
              (try simp only [Act.put, List.setIfInBounds_toArray, List.set_cons_zero, List.set_cons_succ])
              refine wpAnyH_ready (rs := [9]) (by kernel_rfl) (by simp) ?_
              refine AllReadyH.cons rfl (fun K hK => ?_) ?_
              · refine step_append_src (by rfl) (.tmp 14) (.tmp 16) 88 (by rfl) W2.heap.size 115 iW _ 5 72 Tryz.underlying88 hw hw0 hw1 hw2 (by rfl) (by omega) (.slice a6 P c6) P (ps.flatMap Wc) (by rfl) (hown6.alloc _) (some ⟨w6.heap.size, 0, none⟩) 1 1 (by rfl) (by intro h; cases h) [.int .i64 ((x.kind : Int) + 1), .string (str x.name), .string (str x.dst), .slice a m c, .int .i64 (x.n : Int)] (src_cast (src_at hc8 _ _ _ _ _ _) (n' := w6.heap.size) (by simp)) WL1.out (by omega) (by omega) hcur.size ?_
                intro a9 c9 w9 hown9 hg9
                refine (fun (hcN : Below W2.heap.size W2 ?w5) => hK.out _ ?w5 (TStay.of_below hcN _) (fun hHeld => ?_)) ?hb5
                rotate_left
                · exact hcur.grown hg9 hcur.size (fun j hj => (hown6.lt j hj).1)
                clear hK K hcur
                have hcur := hcN
                clear hcN
                (try simp only [Act.put, List.setIfInBounds_toArray, List.set_cons_zero, List.set_cons_succ])
                have f2 := blk_free ((hcur.block B (blk_lt HB.out)).trans HB.out) 2
                have c22 := blk_cell (i := 2) ((hcur.block B (blk_lt HB.out)).trans HB.out) rfl
                refine wpAnyH_take (i := 10) (v := ?_) rfl (by kernel_rfl) (by kernel_rfl) (by kernel_rfl) (fun _ _ _ h => h) (Or.inl ⟨by kernel_rfl, ?_⟩) hHeld ?_
                rotate_left
                · (intro w hSw; clear hSw; go_simp; try (with_reducible rfl))
                (try simp only [Act.put, List.setIfInBounds_toArray, List.set_cons_zero, List.set_cons_succ])
                refine wpAnyH_take (i := 11) (v := ?_) rfl (by kernel_rfl) (by kernel_rfl) (by kernel_rfl) (fun _ _ _ h => h) (Or.inl ⟨by kernel_rfl, ?_⟩) hHeld ?_
                rotate_left
                · (intro w hSw; clear hSw; go_simp; try (with_reducible rfl))
                (try simp only [Act.put, List.setIfInBounds_toArray, List.set_cons_zero, List.set_cons_succ])
                refine wpAnyH_ready (rs := [12]) (by kernel_rfl) (by simp) ?_
                refine AllReadyH.cons rfl (fun K hK => ?_) AllReadyH.nil
                go_simp
                refine hK.out _ _ ((TStay.of_below hcur (fun k => k = B)).setCell (p := ⟨B, 2, none⟩) (.inl rfl) _) (fun hHeld => ?_)
                clear hK K
                (try simp only [Act.put, List.setIfInBounds_toArray, List.set_cons_zero, List.set_cons_succ])
                refine wpAnyH_done (by kernel_rfl) ?_ _
                (try simp only [Act.put, List.getElem_toArray, List.getElem_cons_zero, List.getElem_cons_succ, List.setIfInBounds_toArray, List.set_cons_zero, List.set_cons_succ])
                go_wp2_with fail
                go_meet
                exact ⟨rfl, a9, c9, w9, hcur, hown9, rfl⟩
              exact AllReadyH.nil
            exact AllReadyH.nil
          refine AllReadyH.cons rfl (fun K hK => ?_) ?_
          · have hc8 := hcur
            go_simp
            refine (fun (hcN : Below W2.heap.size W2 ?w6) => hK.out _ ?w6 (TStay.of_below hcN _) (fun hHeld => ?_)) ?hb6
            rotate_left
            · exact hcur.alloc hcur.size _
            clear hK K hcur
            have hcur := hcN
            clear hcN
            (try simp only [Act.put, List.setIfInBounds_toArray, List.set_cons_zero, List.set_cons_succ])
            refine wpAnyH_ready (rs := [6]) (by kernel_rfl) (by simp) ?_
            refine AllReadyH.cons rfl (fun K hK => ?_) ?_
            · refine step_append_src (by rfl) (.tmp 9) (.tmp 13) 88 (by rfl) W2.heap.size 115 iW _ 5 72 Tryz.underlying88 hw hw0 hw1 hw2 (by rfl) (by omega) (.slice (some ⟨W2.heap.size, 0, none⟩) 0 0) 0 [] (by rfl) ((own_cast (World.ownsRow_made _ #[] 0 hc1.size (Nat.zero_le _) rfl) (n' := W2.heap.size) (by simp)).alloc _) pa P pc (by rfl) hpn (ps.flatMap Wc) ((Src.of_own HPO.out).below (by omega) hcur (Nat.le_refl _)) (Wc_one ps) (by omega) (by omega) hcur.size ?_
              intro a6 c6 w6 hown6 hg6
              rw [Nat.zero_add, List.nil_append] at hown6
              simp only [Nat.zero_add]
              have hs6 : Src w6 (some ⟨W2.heap.size + 1, 0, none⟩) 1 5 [.int .i64 ((x.kind : Int) + 1), .string (str x.name), .string (str x.dst), .slice a m c, .int .i64 (x.n : Int)] := Src.keep (src_cast (src_at hc8 _ _ _ _ _ _) (n' := W2.heap.size + 1) (by simp)) (fun _ b o e => hg6.block b (by simp only [Option.some.injEq, Addr.mk.injEq] at e; obtain ⟨rfl, _⟩ := e; first | (simp; done) | (simp; omega) | omega) (by simp only [Option.some.injEq, Addr.mk.injEq] at e; obtain ⟨rfl, _⟩ := e; first | (simp [Value.ownBlock]; done) | (simp [Value.ownBlock]; omega)))
              refine (fun (hcN : Below W2.heap.size W2 ?w7) => hK.out _ ?w7 (TStay.of_below hcN _) (fun hHeld => ?_)) ?hb7
              rotate_left
              · exact hcur.grown hg6 hcur.size (fun j hj => by simp only [Value.ownBlock, Option.some.injEq] at hj; omega)
              clear hK K hcur
              have hcur := hcN
              clear hcN
              (try simp only [Act.put, List.setIfInBounds_toArray, List.set_cons_zero, List.set_cons_succ])
              refine wpAnyH_ready (rs := [9]) (by kernel_rfl) (by simp) ?_
              refine AllReadyH.cons rfl (fun K hK => ?_) ?_
              · refine step_append_src (by rfl) (.tmp 14) (.tmp 16) 88 (by rfl) W2.heap.size 115 iW _ 5 72 Tryz.underlying88 hw hw0 hw1 hw2 (by rfl) (by omega) (.slice a6 P c6) P (ps.flatMap Wc) (by rfl) hown6 (some ⟨W2.heap.size + 1, 0, none⟩) 1 1 (by rfl) (by intro h; cases h) [.int .i64 ((x.kind : Int) + 1), .string (str x.name), .string (str x.dst), .slice a m c, .int .i64 (x.n : Int)] hs6 WL1.out (by omega) (by omega) hcur.size ?_
                intro a9 c9 w9 hown9 hg9
                refine (fun (hcN : Below W2.heap.size W2 ?w8) => hK.out _ ?w8 (TStay.of_below hcN _) (fun hHeld => ?_)) ?hb8
                rotate_left
                · exact hcur.grown hg9 hcur.size (fun j hj => (hown6.lt j hj).1)
                clear hK K hcur
                have hcur := hcN
                clear hcN
                (try simp only [Act.put, List.setIfInBounds_toArray, List.set_cons_zero, List.set_cons_succ])
                have f2 := blk_free ((hcur.block B (blk_lt HB.out)).trans HB.out) 2
                have c22 := blk_cell (i := 2) ((hcur.block B (blk_lt HB.out)).trans HB.out) rfl
                refine wpAnyH_take (i := 10) (v := ?_) rfl (by kernel_rfl) (by kernel_rfl) (by kernel_rfl) (fun _ _ _ h => h) (Or.inl ⟨by kernel_rfl, ?_⟩) hHeld ?_
                rotate_left
                · (intro w hSw; clear hSw; go_simp; try (with_reducible rfl))
                (try simp only [Act.put, List.setIfInBounds_toArray, List.set_cons_zero, List.set_cons_succ])
                refine wpAnyH_take (i := 11) (v := ?_) rfl (by kernel_rfl) (by kernel_rfl) (by kernel_rfl) (fun _ _ _ h => h) (Or.inl ⟨by kernel_rfl, ?_⟩) hHeld ?_
                rotate_left
                · (intro w hSw; clear hSw; go_simp; try (with_reducible rfl))
                (try simp only [Act.put, List.setIfInBounds_toArray, List.set_cons_zero, List.set_cons_succ])
                refine wpAnyH_ready (rs := [12]) (by kernel_rfl) (by simp) ?_
                refine AllReadyH.cons rfl (fun K hK => ?_) AllReadyH.nil
                go_simp
                refine hK.out _ _ ((TStay.of_below hcur (fun k => k = B)).setCell (p := ⟨B, 2, none⟩) (.inl rfl) _) (fun hHeld => ?_)
                clear hK K
                (try simp only [Act.put, List.setIfInBounds_toArray, List.set_cons_zero, List.set_cons_succ])
                refine wpAnyH_done (by kernel_rfl) ?_ _
                (try simp only [Act.put, List.getElem_toArray, List.getElem_cons_zero, List.getElem_cons_succ, List.setIfInBounds_toArray, List.set_cons_zero, List.set_cons_succ])
                go_wp2_with fail
                go_meet
                exact ⟨rfl, a9, c9, w9, hcur, hown9, rfl⟩
              exact AllReadyH.nil
            exact AllReadyH.nil
          exact AllReadyH.nil
        refine AllReadyH.cons rfl (fun K hK => ?_) ?_
        · have hc8 := hcur
          go_simp
          refine (fun (hcN : Below W2.heap.size W2 ?w9) => hK.out _ ?w9 (TStay.of_below hcN _) (fun hHeld => ?_)) ?hb9
          rotate_left
          · exact hcur.alloc hcur.size _
          clear hK K hcur
          have hcur := hcN
          clear hcN
          (try simp only [Act.put, List.setIfInBounds_toArray, List.set_cons_zero, List.set_cons_succ])
          refine wpAnyH_ready (rs := [5]) (by kernel_rfl) (by simp) ?_
          refine AllReadyH.cons rfl (fun K hK => ?_) ?_
          · have c2 := blk_cell (i := 2) ((hcur.block B (blk_lt HB.out)).trans HB.out) rfl
            go_simp
            clear c2
            refine (fun (hcN : Below W2.heap.size W2 ?w10) => hK.out _ ?w10 (TStay.of_below hcN _) (fun hHeld => ?_)) ?hb10
            rotate_left
            · exact hcur
            clear hK K hcur
            have hcur := hcN
            clear hcN
            (try simp only [Act.put, List.setIfInBounds_toArray, List.set_cons_zero, List.set_cons_succ])
            refine wpAnyH_ready (rs := [6]) (by kernel_rfl) (by simp) ?_
            refine AllReadyH.cons rfl (fun K hK => ?_) ?_
            · refine step_append_src (by rfl) (.tmp 9) (.tmp 13) 88 (by rfl) W2.heap.size 115 iW _ 5 72 Tryz.underlying88 hw hw0 hw1 hw2 (by rfl) (by omega) (.slice (some ⟨W2.heap.size, 0, none⟩) 0 0) 0 [] (by rfl) ((own_cast (World.ownsRow_made _ #[] 0 hc1.size (Nat.zero_le _) rfl) (n' := W2.heap.size) (by simp)).alloc _) pa P pc (by rfl) hpn (ps.flatMap Wc) ((Src.of_own HPO.out).below (by omega) hcur (Nat.le_refl _)) (Wc_one ps) (by omega) (by omega) hcur.size ?_
              intro a6 c6 w6 hown6 hg6
              rw [Nat.zero_add, List.nil_append] at hown6
              simp only [Nat.zero_add]
              have hs6 : Src w6 (some ⟨W2.heap.size + 1, 0, none⟩) 1 5 [.int .i64 ((x.kind : Int) + 1), .string (str x.name), .string (str x.dst), .slice a m c, .int .i64 (x.n : Int)] := Src.keep (src_cast (src_at hc8 _ _ _ _ _ _) (n' := W2.heap.size + 1) (by simp)) (fun _ b o e => hg6.block b (by simp only [Option.some.injEq, Addr.mk.injEq] at e; obtain ⟨rfl, _⟩ := e; first | (simp; done) | (simp; omega) | omega) (by simp only [Option.some.injEq, Addr.mk.injEq] at e; obtain ⟨rfl, _⟩ := e; first | (simp [Value.ownBlock]; done) | (simp [Value.ownBlock]; omega)))
              refine (fun (hcN : Below W2.heap.size W2 ?w11) => hK.out _ ?w11 (TStay.of_below hcN _) (fun hHeld => ?_)) ?hb11
              rotate_left
              · exact hcur.grown hg6 hcur.size (fun j hj => by simp only [Value.ownBlock, Option.some.injEq] at hj; omega)
              clear hK K hcur
              have hcur := hcN
              clear hcN
              (try simp only [Act.put, List.setIfInBounds_toArray, List.set_cons_zero, List.set_cons_succ])
              refine wpAnyH_ready (rs := [9]) (by kernel_rfl) (by simp) ?_
              refine AllReadyH.cons rfl (fun K hK => ?_) ?_
              · refine step_append_src (by rfl) (.tmp 14) (.tmp 16) 88 (by rfl) W2.heap.size 115 iW _ 5 72 Tryz.underlying88 hw hw0 hw1 hw2 (by rfl) (by omega) (.slice a6 P c6) P (ps.flatMap Wc) (by rfl) hown6 (some ⟨W2.heap.size + 1, 0, none⟩) 1 1 (by rfl) (by intro h; cases h) [.int .i64 ((x.kind : Int) + 1), .string (str x.name), .string (str x.dst), .slice a m c, .int .i64 (x.n : Int)] hs6 WL1.out (by omega) (by omega) hcur.size ?_
                intro a9 c9 w9 hown9 hg9
                refine (fun (hcN : Below W2.heap.size W2 ?w12) => hK.out _ ?w12 (TStay.of_below hcN _) (fun hHeld => ?_)) ?hb12
                rotate_left
                · exact hcur.grown hg9 hcur.size (fun j hj => (hown6.lt j hj).1)
                clear hK K hcur
                have hcur := hcN
                clear hcN
                (try simp only [Act.put, List.setIfInBounds_toArray, List.set_cons_zero, List.set_cons_succ])
                have f2 := blk_free ((hcur.block B (blk_lt HB.out)).trans HB.out) 2
                have c22 := blk_cell (i := 2) ((hcur.block B (blk_lt HB.out)).trans HB.out) rfl
                refine wpAnyH_take (i := 10) (v := ?_) rfl (by kernel_rfl) (by kernel_rfl) (by kernel_rfl) (fun _ _ _ h => h) (Or.inl ⟨by kernel_rfl, ?_⟩) hHeld ?_
                rotate_left
                · (intro w hSw; clear hSw; go_simp; try (with_reducible rfl))
                (try simp only [Act.put, List.setIfInBounds_toArray, List.set_cons_zero, List.set_cons_succ])
                refine wpAnyH_take (i := 11) (v := ?_) rfl (by kernel_rfl) (by kernel_rfl) (by kernel_rfl) (fun _ _ _ h => h) (Or.inl ⟨by kernel_rfl, ?_⟩) hHeld ?_
                rotate_left
                · (intro w hSw; clear hSw; go_simp; try (with_reducible rfl))
                (try simp only [Act.put, List.setIfInBounds_toArray, List.set_cons_zero, List.set_cons_succ])
                refine wpAnyH_ready (rs := [12]) (by kernel_rfl) (by simp) ?_
                refine AllReadyH.cons rfl (fun K hK => ?_) AllReadyH.nil
                go_simp
                refine hK.out _ _ ((TStay.of_below hcur (fun k => k = B)).setCell (p := ⟨B, 2, none⟩) (.inl rfl) _) (fun hHeld => ?_)
                clear hK K
                (try simp only [Act.put, List.setIfInBounds_toArray, List.set_cons_zero, List.set_cons_succ])
                refine wpAnyH_done (by kernel_rfl) ?_ _
                (try simp only [Act.put, List.getElem_toArray, List.getElem_cons_zero, List.getElem_cons_succ, List.setIfInBounds_toArray, List.set_cons_zero, List.set_cons_succ])
                go_wp2_with fail
                go_meet
                exact ⟨rfl, a9, c9, w9, hcur, hown9, rfl⟩
              exact AllReadyH.nil
            exact AllReadyH.nil
          exact AllReadyH.nil
        exact AllReadyH.nil
      refine AllReadyH.cons rfl (fun K hK => ?_) ?_
      · have c2 := blk_cell (i := 2) ((hcur.block B (blk_lt HB.out)).trans HB.out) rfl
        go_simp
        clear c2
        refine (fun (hcN : Below W2.heap.size W2 ?w13) => hK.out _ ?w13 (TStay.of_below hcN _) (fun hHeld => ?_)) ?hb13
        rotate_left
        · exact hcur
        clear hK K hcur
        have hcur := hcN
        clear hcN
        (try simp only [Act.put, List.setIfInBounds_toArray, List.set_cons_zero, List.set_cons_succ])
        refine wpAnyH_ready (rs := [1, 8]) (by kernel_rfl) (by simp) ?_
        refine AllReadyH.cons rfl (fun K hK => ?_) ?_
        · have hc1 := hcur
          go_simp
          refine (fun (hcN : Below W2.heap.size W2 ?w14) => hK.out _ ?w14 (TStay.of_below hcN _) (fun hHeld => ?_)) ?hb14
          rotate_left
          · exact hcur.alloc hcur.size _
          clear hK K hcur
          have hcur := hcN
          clear hcN
          (try simp only [Act.put, List.setIfInBounds_toArray, List.set_cons_zero, List.set_cons_succ])
          refine wpAnyH_ready (rs := [6, 8]) (by kernel_rfl) (by simp) ?_
          refine AllReadyH.cons rfl (fun K hK => ?_) ?_
          · refine step_append_src (by rfl) (.tmp 9) (.tmp 13) 88 (by rfl) W2.heap.size 115 iW _ 5 72 Tryz.underlying88 hw hw0 hw1 hw2 (by rfl) (by omega) (.slice (some ⟨W2.heap.size, 0, none⟩) 0 0) 0 [] (by rfl) (own_cast (World.ownsRow_made _ #[] 0 hc1.size (Nat.zero_le _) rfl) (n' := W2.heap.size) (by simp)) pa P pc (by rfl) hpn (ps.flatMap Wc) ((Src.of_own HPO.out).below (by omega) hcur (Nat.le_refl _)) (Wc_one ps) (by omega) (by omega) hcur.size ?_
            intro a6 c6 w6 hown6 hg6
            rw [Nat.zero_add, List.nil_append] at hown6
            simp only [Nat.zero_add]
            refine (fun (hcN : Below W2.heap.size W2 ?w15) => hK.out _ ?w15 (TStay.of_below hcN _) (fun hHeld => ?_)) ?hb15
            rotate_left
            · exact hcur.grown hg6 hcur.size (fun j hj => by simp only [Value.ownBlock, Option.some.injEq] at hj; omega)
            clear hK K hcur
            have hcur := hcN
            clear hcN
            (try simp only [Act.put, List.setIfInBounds_toArray, List.set_cons_zero, List.set_cons_succ])
            refine wpAnyH_ready (rs := [8]) (by kernel_rfl) (by simp) ?_
            refine AllReadyH.cons rfl (fun K hK => ?_) ?_
            · have hc8 := hcur
              go_simp
              refine (fun (hcN : Below W2.heap.size W2 ?w16) => hK.out _ ?w16 (TStay.of_below hcN _) (fun hHeld => ?_)) ?hb16
              rotate_left
              · exact hcur.alloc hcur.size _
              clear hK K hcur
              have hcur := hcN
              clear hcN
              (try simp only [Act.put, List.setIfInBounds_toArray, List.set_cons_zero, List.set_cons_succ])
              refine wpAnyH_ready (rs := [9]) (by kernel_rfl) (by simp) ?_
              refine AllReadyH.cons rfl (fun K hK => ?_) ?_
              · refine step_append_src (by rfl) (.tmp 14) (.tmp 16) 88 (by rfl) W2.heap.size 115 iW _ 5 72 Tryz.underlying88 hw hw0 hw1 hw2 (by rfl) (by omega) (.slice a6 P c6) P (ps.flatMap Wc) (by rfl) (hown6.alloc _) (some ⟨w6.heap.size, 0, none⟩) 1 1 (by rfl) (by intro h; cases h) [.int .i64 ((x.kind : Int) + 1), .string (str x.name), .string (str x.dst), .slice a m c, .int .i64 (x.n : Int)] (src_cast (src_at hc8 _ _ _ _ _ _) (n' := w6.heap.size) (by simp)) WL1.out (by omega) (by omega) hcur.size ?_
                intro a9 c9 w9 hown9 hg9
                refine (fun (hcN : Below W2.heap.size W2 ?w17) => hK.out _ ?w17 (TStay.of_below hcN _) (fun hHeld => ?_)) ?hb17
                rotate_left
                · exact hcur.grown hg9 hcur.size (fun j hj => (hown6.lt j hj).1)
                clear hK K hcur
                have hcur := hcN
                clear hcN
                (try simp only [Act.put, List.setIfInBounds_toArray, List.set_cons_zero, List.set_cons_succ])
                have f2 := blk_free ((hcur.block B (blk_lt HB.out)).trans HB.out) 2
                have c22 := blk_cell (i := 2) ((hcur.block B (blk_lt HB.out)).trans HB.out) rfl
                refine wpAnyH_take (i := 10) (v := ?_) rfl (by kernel_rfl) (by kernel_rfl) (by kernel_rfl) (fun _ _ _ h => h) (Or.inl ⟨by kernel_rfl, ?_⟩) hHeld ?_
                rotate_left
                · (intro w hSw; clear hSw; go_simp; try (with_reducible rfl))
                (try simp only [Act.put, List.setIfInBounds_toArray, List.set_cons_zero, List.set_cons_succ])
                refine wpAnyH_take (i := 11) (v := ?_) rfl (by kernel_rfl) (by kernel_rfl) (by kernel_rfl) (fun _ _ _ h => h) (Or.inl ⟨by kernel_rfl, ?_⟩) hHeld ?_
                rotate_left
                · (intro w hSw; clear hSw; go_simp; try (with_reducible rfl))
                (try simp only [Act.put, List.setIfInBounds_toArray, List.set_cons_zero, List.set_cons_succ])
                refine wpAnyH_ready (rs := [12]) (by kernel_rfl) (by simp) ?_
                refine AllReadyH.cons rfl (fun K hK => ?_) AllReadyH.nil
                go_simp
                refine hK.out _ _ ((TStay.of_below hcur (fun k => k = B)).setCell (p := ⟨B, 2, none⟩) (.inl rfl) _) (fun hHeld => ?_)
                clear hK K
                (try simp only [Act.put, List.setIfInBounds_toArray, List.set_cons_zero, List.set_cons_succ])
                refine wpAnyH_done (by kernel_rfl) ?_ _
                (try simp only [Act.put, List.getElem_toArray, List.getElem_cons_zero, List.getElem_cons_succ, List.setIfInBounds_toArray, List.set_cons_zero, List.set_cons_succ])
                go_wp2_with fail
                go_meet
                exact ⟨rfl, a9, c9, w9, hcur, hown9, rfl⟩
              exact AllReadyH.nil
            exact AllReadyH.nil
          refine AllReadyH.cons rfl (fun K hK => ?_) ?_
          · have hc8 := hcur
            go_simp
            refine (fun (hcN : Below W2.heap.size W2 ?w18) => hK.out _ ?w18 (TStay.of_below hcN _) (fun hHeld => ?_)) ?hb18
            rotate_left
            · exact hcur.alloc hcur.size _
            clear hK K hcur
            have hcur := hcN
            clear hcN
            (try simp only [Act.put, List.setIfInBounds_toArray, List.set_cons_zero, List.set_cons_succ])
            refine wpAnyH_ready (rs := [6]) (by kernel_rfl) (by simp) ?_
            refine AllReadyH.cons rfl (fun K hK => ?_) ?_
            · refine step_append_src (by rfl) (.tmp 9) (.tmp 13) 88 (by rfl) W2.heap.size 115 iW _ 5 72 Tryz.underlying88 hw hw0 hw1 hw2 (by rfl) (by omega) (.slice (some ⟨W2.heap.size, 0, none⟩) 0 0) 0 [] (by rfl) ((own_cast (World.ownsRow_made _ #[] 0 hc1.size (Nat.zero_le _) rfl) (n' := W2.heap.size) (by simp)).alloc _) pa P pc (by rfl) hpn (ps.flatMap Wc) ((Src.of_own HPO.out).below (by omega) hcur (Nat.le_refl _)) (Wc_one ps) (by omega) (by omega) hcur.size ?_
              intro a6 c6 w6 hown6 hg6
              rw [Nat.zero_add, List.nil_append] at hown6
              simp only [Nat.zero_add]
              have hs6 : Src w6 (some ⟨W2.heap.size + 1, 0, none⟩) 1 5 [.int .i64 ((x.kind : Int) + 1), .string (str x.name), .string (str x.dst), .slice a m c, .int .i64 (x.n : Int)] := Src.keep (src_cast (src_at hc8 _ _ _ _ _ _) (n' := W2.heap.size + 1) (by simp)) (fun _ b o e => hg6.block b (by simp only [Option.some.injEq, Addr.mk.injEq] at e; obtain ⟨rfl, _⟩ := e; first | (simp; done) | (simp; omega) | omega) (by simp only [Option.some.injEq, Addr.mk.injEq] at e; obtain ⟨rfl, _⟩ := e; first | (simp [Value.ownBlock]; done) | (simp [Value.ownBlock]; omega)))
              refine (fun (hcN : Below W2.heap.size W2 ?w19) => hK.out _ ?w19 (TStay.of_below hcN _) (fun hHeld => ?_)) ?hb19
              rotate_left
              · exact hcur.grown hg6 hcur.size (fun j hj => by simp only [Value.ownBlock, Option.some.injEq] at hj; omega)
              clear hK K hcur
              have hcur := hcN
              clear hcN
              (try simp only [Act.put, List.setIfInBounds_toArray, List.set_cons_zero, List.set_cons_succ])
              refine wpAnyH_ready (rs := [9]) (by kernel_rfl) (by simp) ?_
              refine AllReadyH.cons rfl (fun K hK => ?_) ?_
              · refine step_append_src (by rfl) (.tmp 14) (.tmp 16) 88 (by rfl) W2.heap.size 115 iW _ 5 72 Tryz.underlying88 hw hw0 hw1 hw2 (by rfl) (by omega) (.slice a6 P c6) P (ps.flatMap Wc) (by rfl) hown6 (some ⟨W2.heap.size + 1, 0, none⟩) 1 1 (by rfl) (by intro h; cases h) [.int .i64 ((x.kind : Int) + 1), .string (str x.name), .string (str x.dst), .slice a m c, .int .i64 (x.n : Int)] hs6 WL1.out (by omega) (by omega) hcur.size ?_
                intro a9 c9 w9 hown9 hg9
                refine (fun (hcN : Below W2.heap.size W2 ?w20) => hK.out _ ?w20 (TStay.of_below hcN _) (fun hHeld => ?_)) ?hb20
                rotate_left
                · exact hcur.grown hg9 hcur.size (fun j hj => (hown6.lt j hj).1)
                clear hK K hcur
                have hcur := hcN
                clear hcN
                (try simp only [Act.put, List.setIfInBounds_toArray, List.set_cons_zero, List.set_cons_succ])
                have f2 := blk_free ((hcur.block B (blk_lt HB.out)).trans HB.out) 2
                have c22 := blk_cell (i := 2) ((hcur.block B (blk_lt HB.out)).trans HB.out) rfl
                refine wpAnyH_take (i := 10) (v := ?_) rfl (by kernel_rfl) (by kernel_rfl) (by kernel_rfl) (fun _ _ _ h => h) (Or.inl ⟨by kernel_rfl, ?_⟩) hHeld ?_
                rotate_left
                · (intro w hSw; clear hSw; go_simp; try (with_reducible rfl))
                (try simp only [Act.put, List.setIfInBounds_toArray, List.set_cons_zero, List.set_cons_succ])
                refine wpAnyH_take (i := 11) (v := ?_) rfl (by kernel_rfl) (by kernel_rfl) (by kernel_rfl) (fun _ _ _ h => h) (Or.inl ⟨by kernel_rfl, ?_⟩) hHeld ?_
                rotate_left
                · (intro w hSw; clear hSw; go_simp; try (with_reducible rfl))
                (try simp only [Act.put, List.setIfInBounds_toArray, List.set_cons_zero, List.set_cons_succ])
                refine wpAnyH_ready (rs := [12]) (by kernel_rfl) (by simp) ?_
                refine AllReadyH.cons rfl (fun K hK => ?_) AllReadyH.nil
                go_simp
                refine hK.out _ _ ((TStay.of_below hcur (fun k => k = B)).setCell (p := ⟨B, 2, none⟩) (.inl rfl) _) (fun hHeld => ?_)
                clear hK K
                (try simp only [Act.put, List.setIfInBounds_toArray, List.set_cons_zero, List.set_cons_succ])
                refine wpAnyH_done (by kernel_rfl) ?_ _
                (try simp only [Act.put, List.getElem_toArray, List.getElem_cons_zero, List.getElem_cons_succ, List.setIfInBounds_toArray, List.set_cons_zero, List.set_cons_succ])
                go_wp2_with fail
                go_meet
                exact ⟨rfl, a9, c9, w9, hcur, hown9, rfl⟩
              exact AllReadyH.nil
            exact AllReadyH.nil
          exact AllReadyH.nil
        refine AllReadyH.cons rfl (fun K hK => ?_) ?_
        · have hc8 := hcur
          go_simp
          refine (fun (hcN : Below W2.heap.size W2 ?w21) => hK.out _ ?w21 (TStay.of_below hcN _) (fun hHeld => ?_)) ?hb21
          rotate_left
          · exact hcur.alloc hcur.size _
          clear hK K hcur
          have hcur := hcN
          clear hcN
          (try simp only [Act.put, List.setIfInBounds_toArray, List.set_cons_zero, List.set_cons_succ])
          refine wpAnyH_ready (rs := [1]) (by kernel_rfl) (by simp) ?_
          refine AllReadyH.cons rfl (fun K hK => ?_) ?_
          · have hc1 := hcur
            go_simp
            refine (fun (hcN : Below W2.heap.size W2 ?w22) => hK.out _ ?w22 (TStay.of_below hcN _) (fun hHeld => ?_)) ?hb22
            rotate_left
            · exact hcur.alloc hcur.size _
            clear hK K hcur
            have hcur := hcN
            clear hcN
            (try simp only [Act.put, List.setIfInBounds_toArray, List.set_cons_zero, List.set_cons_succ])
            refine wpAnyH_ready (rs := [6]) (by kernel_rfl) (by simp) ?_
            refine AllReadyH.cons rfl (fun K hK => ?_) ?_
            · refine step_append_src (by rfl) (.tmp 9) (.tmp 13) 88 (by rfl) W2.heap.size 115 iW _ 5 72 Tryz.underlying88 hw hw0 hw1 hw2 (by rfl) (by omega) (.slice (some ⟨W2.heap.size + 1, 0, none⟩) 0 0) 0 [] (by rfl) (own_cast (World.ownsRow_made _ #[] 0 hc1.size (Nat.zero_le _) rfl) (n' := W2.heap.size + 1) (by simp)) pa P pc (by rfl) hpn (ps.flatMap Wc) ((Src.of_own HPO.out).below (by omega) hcur (Nat.le_refl _)) (Wc_one ps) (by omega) (by omega) hcur.size ?_
              intro a6 c6 w6 hown6 hg6
              rw [Nat.zero_add, List.nil_append] at hown6
              simp only [Nat.zero_add]
              have hs6 : Src w6 (some ⟨W2.heap.size, 0, none⟩) 1 5 [.int .i64 ((x.kind : Int) + 1), .string (str x.name), .string (str x.dst), .slice a m c, .int .i64 (x.n : Int)] := Src.keep ((src_cast (src_at hc8 _ _ _ _ _ _) (n' := W2.heap.size) (by simp)).alloc (by omega) _) (fun _ b o e => hg6.block b (by simp only [Option.some.injEq, Addr.mk.injEq] at e; obtain ⟨rfl, _⟩ := e; first | (simp; done) | (simp; omega) | omega) (by simp only [Option.some.injEq, Addr.mk.injEq] at e; obtain ⟨rfl, _⟩ := e; first | (simp [Value.ownBlock]; done) | (simp [Value.ownBlock]; omega)))
              refine (fun (hcN : Below W2.heap.size W2 ?w23) => hK.out _ ?w23 (TStay.of_below hcN _) (fun hHeld => ?_)) ?hb23
              rotate_left
              · exact hcur.grown hg6 hcur.size (fun j hj => by simp only [Value.ownBlock, Option.some.injEq] at hj; omega)
              clear hK K hcur
              have hcur := hcN
              clear hcN
              (try simp only [Act.put, List.setIfInBounds_toArray, List.set_cons_zero, List.set_cons_succ])
              refine wpAnyH_ready (rs := [9]) (by kernel_rfl) (by simp) ?_
              refine AllReadyH.cons rfl (fun K hK => ?_) ?_
              · refine step_append_src (by rfl) (.tmp 14) (.tmp 16) 88 (by rfl) W2.heap.size 115 iW _ 5 72 Tryz.underlying88 hw hw0 hw1 hw2 (by rfl) (by omega) (.slice a6 P c6) P (ps.flatMap Wc) (by rfl) hown6 (some ⟨W2.heap.size, 0, none⟩) 1 1 (by rfl) (by intro h; cases h) [.int .i64 ((x.kind : Int) + 1), .string (str x.name), .string (str x.dst), .slice a m c, .int .i64 (x.n : Int)] hs6 WL1.out (by omega) (by omega) hcur.size ?_
                intro a9 c9 w9 hown9 hg9
                refine (fun (hcN : Below W2.heap.size W2 ?w24) => hK.out _ ?w24 (TStay.of_below hcN _) (fun hHeld => ?_)) ?hb24
                rotate_left
                · exact hcur.grown hg9 hcur.size (fun j hj => (hown6.lt j hj).1)
                clear hK K hcur
                have hcur := hcN
                clear hcN
                (try simp only [Act.put, List.setIfInBounds_toArray, List.set_cons_zero, List.set_cons_succ])
                have f2 := blk_free ((hcur.block B (blk_lt HB.out)).trans HB.out) 2
                have c22 := blk_cell (i := 2) ((hcur.block B (blk_lt HB.out)).trans HB.out) rfl
                refine wpAnyH_take (i := 10) (v := ?_) rfl (by kernel_rfl) (by kernel_rfl) (by kernel_rfl) (fun _ _ _ h => h) (Or.inl ⟨by kernel_rfl, ?_⟩) hHeld ?_
                rotate_left
                · (intro w hSw; clear hSw; go_simp; try (with_reducible rfl))
                (try simp only [Act.put, List.setIfInBounds_toArray, List.set_cons_zero, List.set_cons_succ])
                refine wpAnyH_take (i := 11) (v := ?_) rfl (by kernel_rfl) (by kernel_rfl) (by kernel_rfl) (fun _ _ _ h => h) (Or.inl ⟨by kernel_rfl, ?_⟩) hHeld ?_
                rotate_left
                · (intro w hSw; clear hSw; go_simp; try (with_reducible rfl))
                (try simp only [Act.put, List.setIfInBounds_toArray, List.set_cons_zero, List.set_cons_succ])
                refine wpAnyH_ready (rs := [12]) (by kernel_rfl) (by simp) ?_
                refine AllReadyH.cons rfl (fun K hK => ?_) AllReadyH.nil
                go_simp
                refine hK.out _ _ ((TStay.of_below hcur (fun k => k = B)).setCell (p := ⟨B, 2, none⟩) (.inl rfl) _) (fun hHeld => ?_)
                clear hK K
                (try simp only [Act.put, List.setIfInBounds_toArray, List.set_cons_zero, List.set_cons_succ])
                refine wpAnyH_done (by kernel_rfl) ?_ _
                (try simp only [Act.put, List.getElem_toArray, List.getElem_cons_zero, List.getElem_cons_succ, List.setIfInBounds_toArray, List.set_cons_zero, List.set_cons_succ])
                go_wp2_with fail
                go_meet
                exact ⟨rfl, a9, c9, w9, hcur, hown9, rfl⟩
              exact AllReadyH.nil
            exact AllReadyH.nil
          exact AllReadyH.nil
        exact AllReadyH.nil
      refine AllReadyH.cons rfl (fun K hK => ?_) ?_
      · have hc8 := hcur
        go_simp
        refine (fun (hcN : Below W2.heap.size W2 ?w25) => hK.out _ ?w25 (TStay.of_below hcN _) (fun hHeld => ?_)) ?hb25
        rotate_left
        · exact hcur.alloc hcur.size _
        clear hK K hcur
        have hcur := hcN
        clear hcN
        (try simp only [Act.put, List.setIfInBounds_toArray, List.set_cons_zero, List.set_cons_succ])
        refine wpAnyH_ready (rs := [1, 5]) (by kernel_rfl) (by simp) ?_
        refine AllReadyH.cons rfl (fun K hK => ?_) ?_
        · have hc1 := hcur
          go_simp
          refine (fun (hcN : Below W2.heap.size W2 ?w26) => hK.out _ ?w26 (TStay.of_below hcN _) (fun hHeld => ?_)) ?hb26
          rotate_left
          · exact hcur.alloc hcur.size _
          clear hK K hcur
          have hcur := hcN
          clear hcN
          (try simp only [Act.put, List.setIfInBounds_toArray, List.set_cons_zero, List.set_cons_succ])
          refine wpAnyH_ready (rs := [5]) (by kernel_rfl) (by simp) ?_
          refine AllReadyH.cons rfl (fun K hK => ?_) ?_
          · have c2 := blk_cell (i := 2) ((hcur.block B (blk_lt HB.out)).trans HB.out) rfl
            go_simp
            clear c2
            refine (fun (hcN : Below W2.heap.size W2 ?w27) => hK.out _ ?w27 (TStay.of_below hcN _) (fun hHeld => ?_)) ?hb27
            rotate_left
            · exact hcur
            clear hK K hcur
            have hcur := hcN
            clear hcN
            (try simp only [Act.put, List.setIfInBounds_toArray, List.set_cons_zero, List.set_cons_succ])
            refine wpAnyH_ready (rs := [6]) (by kernel_rfl) (by simp) ?_
            refine AllReadyH.cons rfl (fun K hK => ?_) ?_
            · refine step_append_src (by rfl) (.tmp 9) (.tmp 13) 88 (by rfl) W2.heap.size 115 iW _ 5 72 Tryz.underlying88 hw hw0 hw1 hw2 (by rfl) (by omega) (.slice (some ⟨W2.heap.size + 1, 0, none⟩) 0 0) 0 [] (by rfl) (own_cast (World.ownsRow_made _ #[] 0 hc1.size (Nat.zero_le _) rfl) (n' := W2.heap.size + 1) (by simp)) pa P pc (by rfl) hpn (ps.flatMap Wc) ((Src.of_own HPO.out).below (by omega) hcur (Nat.le_refl _)) (Wc_one ps) (by omega) (by omega) hcur.size ?_
              intro a6 c6 w6 hown6 hg6
              rw [Nat.zero_add, List.nil_append] at hown6
              simp only [Nat.zero_add]
              have hs6 : Src w6 (some ⟨W2.heap.size, 0, none⟩) 1 5 [.int .i64 ((x.kind : Int) + 1), .string (str x.name), .string (str x.dst), .slice a m c, .int .i64 (x.n : Int)] := Src.keep ((src_cast (src_at hc8 _ _ _ _ _ _) (n' := W2.heap.size) (by simp)).alloc (by omega) _) (fun _ b o e => hg6.block b (by simp only [Option.some.injEq, Addr.mk.injEq] at e; obtain ⟨rfl, _⟩ := e; first | (simp; done) | (simp; omega) | omega) (by simp only [Option.some.injEq, Addr.mk.injEq] at e; obtain ⟨rfl, _⟩ := e; first | (simp [Value.ownBlock]; done) | (simp [Value.ownBlock]; omega)))
              refine (fun (hcN : Below W2.heap.size W2 ?w28) => hK.out _ ?w28 (TStay.of_below hcN _) (fun hHeld => ?_)) ?hb28
              rotate_left
              · exact hcur.grown hg6 hcur.size (fun j hj => by simp only [Value.ownBlock, Option.some.injEq] at hj; omega)
              clear hK K hcur
              have hcur := hcN
              clear hcN
              (try simp only [Act.put, List.setIfInBounds_toArray, List.set_cons_zero, List.set_cons_succ])
              refine wpAnyH_ready (rs := [9]) (by kernel_rfl) (by simp) ?_
              refine AllReadyH.cons rfl (fun K hK => ?_) ?_
              · refine step_append_src (by rfl) (.tmp 14) (.tmp 16) 88 (by rfl) W2.heap.size 115 iW _ 5 72 Tryz.underlying88 hw hw0 hw1 hw2 (by rfl) (by omega) (.slice a6 P c6) P (ps.flatMap Wc) (by rfl) hown6 (some ⟨W2.heap.size, 0, none⟩) 1 1 (by rfl) (by intro h; cases h) [.int .i64 ((x.kind : Int) + 1), .string (str x.name), .string (str x.dst), .slice a m c, .int .i64 (x.n : Int)] hs6 WL1.out (by omega) (by omega) hcur.size ?_
                intro a9 c9 w9 hown9 hg9
                refine (fun (hcN : Below W2.heap.size W2 ?w29) => hK.out _ ?w29 (TStay.of_below hcN _) (fun hHeld => ?_)) ?hb29
                rotate_left
                · exact hcur.grown hg9 hcur.size (fun j hj => (hown6.lt j hj).1)
                clear hK K hcur
                have hcur := hcN
                clear hcN
                (try simp only [Act.put, List.setIfInBounds_toArray, List.set_cons_zero, List.set_cons_succ])
                have f2 := blk_free ((hcur.block B (blk_lt HB.out)).trans HB.out) 2
                have c22 := blk_cell (i := 2) ((hcur.block B (blk_lt HB.out)).trans HB.out) rfl
                refine wpAnyH_take (i := 10) (v := ?_) rfl (by kernel_rfl) (by kernel_rfl) (by kernel_rfl) (fun _ _ _ h => h) (Or.inl ⟨by kernel_rfl, ?_⟩) hHeld ?_
                rotate_left
                · (intro w hSw; clear hSw; go_simp; try (with_reducible rfl))
                (try simp only [Act.put, List.setIfInBounds_toArray, List.set_cons_zero, List.set_cons_succ])
                refine wpAnyH_take (i := 11) (v := ?_) rfl (by kernel_rfl) (by kernel_rfl) (by kernel_rfl) (fun _ _ _ h => h) (Or.inl ⟨by kernel_rfl, ?_⟩) hHeld ?_
                rotate_left
                · (intro w hSw; clear hSw; go_simp; try (with_reducible rfl))
                (try simp only [Act.put, List.setIfInBounds_toArray, List.set_cons_zero, List.set_cons_succ])
                refine wpAnyH_ready (rs := [12]) (by kernel_rfl) (by simp) ?_
                refine AllReadyH.cons rfl (fun K hK => ?_) AllReadyH.nil
                go_simp
                refine hK.out _ _ ((TStay.of_below hcur (fun k => k = B)).setCell (p := ⟨B, 2, none⟩) (.inl rfl) _) (fun hHeld => ?_)
                clear hK K
                (try simp only [Act.put, List.setIfInBounds_toArray, List.set_cons_zero, List.set_cons_succ])
                refine wpAnyH_done (by kernel_rfl) ?_ _
                (try simp only [Act.put, List.getElem_toArray, List.getElem_cons_zero, List.getElem_cons_succ, List.setIfInBounds_toArray, List.set_cons_zero, List.set_cons_succ])
                go_wp2_with fail
                go_meet
                exact ⟨rfl, a9, c9, w9, hcur, hown9, rfl⟩
              exact AllReadyH.nil
            exact AllReadyH.nil
          exact AllReadyH.nil
        refine AllReadyH.cons rfl (fun K hK => ?_) ?_
        · have c2 := blk_cell (i := 2) ((hcur.block B (blk_lt HB.out)).trans HB.out) rfl
          go_simp
          clear c2
          refine (fun (hcN : Below W2.heap.size W2 ?w30) => hK.out _ ?w30 (TStay.of_below hcN _) (fun hHeld => ?_)) ?hb30
          rotate_left
          · exact hcur
          clear hK K hcur
          have hcur := hcN
          clear hcN
          (try simp only [Act.put, List.setIfInBounds_toArray, List.set_cons_zero, List.set_cons_succ])
          refine wpAnyH_ready (rs := [1]) (by kernel_rfl) (by simp) ?_
          refine AllReadyH.cons rfl (fun K hK => ?_) ?_
          · have hc1 := hcur
            go_simp
            refine (fun (hcN : Below W2.heap.size W2 ?w31) => hK.out _ ?w31 (TStay.of_below hcN _) (fun hHeld => ?_)) ?hb31
            rotate_left
            · exact hcur.alloc hcur.size _
            clear hK K hcur
            have hcur := hcN
            clear hcN
            (try simp only [Act.put, List.setIfInBounds_toArray, List.set_cons_zero, List.set_cons_succ])
            refine wpAnyH_ready (rs := [6]) (by kernel_rfl) (by simp) ?_
            refine AllReadyH.cons rfl (fun K hK => ?_) ?_
            · refine step_append_src (by rfl) (.tmp 9) (.tmp 13) 88 (by rfl) W2.heap.size 115 iW _ 5 72 Tryz.underlying88 hw hw0 hw1 hw2 (by rfl) (by omega) (.slice (some ⟨W2.heap.size + 1, 0, none⟩) 0 0) 0 [] (by rfl) (own_cast (World.ownsRow_made _ #[] 0 hc1.size (Nat.zero_le _) rfl) (n' := W2.heap.size + 1) (by simp)) pa P pc (by rfl) hpn (ps.flatMap Wc) ((Src.of_own HPO.out).below (by omega) hcur (Nat.le_refl _)) (Wc_one ps) (by omega) (by omega) hcur.size ?_
              intro a6 c6 w6 hown6 hg6
              rw [Nat.zero_add, List.nil_append] at hown6
              simp only [Nat.zero_add]
              have hs6 : Src w6 (some ⟨W2.heap.size, 0, none⟩) 1 5 [.int .i64 ((x.kind : Int) + 1), .string (str x.name), .string (str x.dst), .slice a m c, .int .i64 (x.n : Int)] := Src.keep ((src_cast (src_at hc8 _ _ _ _ _ _) (n' := W2.heap.size) (by simp)).alloc (by omega) _) (fun _ b o e => hg6.block b (by simp only [Option.some.injEq, Addr.mk.injEq] at e; obtain ⟨rfl, _⟩ := e; first | (simp; done) | (simp; omega) | omega) (by simp only [Option.some.injEq, Addr.mk.injEq] at e; obtain ⟨rfl, _⟩ := e; first | (simp [Value.ownBlock]; done) | (simp [Value.ownBlock]; omega)))
              refine (fun (hcN : Below W2.heap.size W2 ?w32) => hK.out _ ?w32 (TStay.of_below hcN _) (fun hHeld => ?_)) ?hb32
              rotate_left
              · exact hcur.grown hg6 hcur.size (fun j hj => by simp only [Value.ownBlock, Option.some.injEq] at hj; omega)
              clear hK K hcur
              have hcur := hcN
              clear hcN
              (try simp only [Act.put, List.setIfInBounds_toArray, List.set_cons_zero, List.set_cons_succ])
              refine wpAnyH_ready (rs := [9]) (by kernel_rfl) (by simp) ?_
              refine AllReadyH.cons rfl (fun K hK => ?_) ?_
              · refine step_append_src (by rfl) (.tmp 14) (.tmp 16) 88 (by rfl) W2.heap.size 115 iW _ 5 72 Tryz.underlying88 hw hw0 hw1 hw2 (by rfl) (by omega) (.slice a6 P c6) P (ps.flatMap Wc) (by rfl) hown6 (some ⟨W2.heap.size, 0, none⟩) 1 1 (by rfl) (by intro h; cases h) [.int .i64 ((x.kind : Int) + 1), .string (str x.name), .string (str x.dst), .slice a m c, .int .i64 (x.n : Int)] hs6 WL1.out (by omega) (by omega) hcur.size ?_
                intro a9 c9 w9 hown9 hg9
                refine (fun (hcN : Below W2.heap.size W2 ?w33) => hK.out _ ?w33 (TStay.of_below hcN _) (fun hHeld => ?_)) ?hb33
                rotate_left
                · exact hcur.grown hg9 hcur.size (fun j hj => (hown6.lt j hj).1)
                clear hK K hcur
                have hcur := hcN
                clear hcN
                (try simp only [Act.put, List.setIfInBounds_toArray, List.set_cons_zero, List.set_cons_succ])
                have f2 := blk_free ((hcur.block B (blk_lt HB.out)).trans HB.out) 2
                have c22 := blk_cell (i := 2) ((hcur.block B (blk_lt HB.out)).trans HB.out) rfl
                refine wpAnyH_take (i := 10) (v := ?_) rfl (by kernel_rfl) (by kernel_rfl) (by kernel_rfl) (fun _ _ _ h => h) (Or.inl ⟨by kernel_rfl, ?_⟩) hHeld ?_
                rotate_left
                · (intro w hSw; clear hSw; go_simp; try (with_reducible rfl))
                (try simp only [Act.put, List.setIfInBounds_toArray, List.set_cons_zero, List.set_cons_succ])
                refine wpAnyH_take (i := 11) (v := ?_) rfl (by kernel_rfl) (by kernel_rfl) (by kernel_rfl) (fun _ _ _ h => h) (Or.inl ⟨by kernel_rfl, ?_⟩) hHeld ?_
                rotate_left
                · (intro w hSw; clear hSw; go_simp; try (with_reducible rfl))
                (try simp only [Act.put, List.setIfInBounds_toArray, List.set_cons_zero, List.set_cons_succ])
                refine wpAnyH_ready (rs := [12]) (by kernel_rfl) (by simp) ?_
                refine AllReadyH.cons rfl (fun K hK => ?_) AllReadyH.nil
                go_simp
                refine hK.out _ _ ((TStay.of_below hcur (fun k => k = B)).setCell (p := ⟨B, 2, none⟩) (.inl rfl) _) (fun hHeld => ?_)
                clear hK K
                (try simp only [Act.put, List.setIfInBounds_toArray, List.set_cons_zero, List.set_cons_succ])
                refine wpAnyH_done (by kernel_rfl) ?_ _
                (try simp only [Act.put, List.getElem_toArray, List.getElem_cons_zero, List.getElem_cons_succ, List.setIfInBounds_toArray, List.set_cons_zero, List.set_cons_succ])
                go_wp2_with fail
                go_meet
                exact ⟨rfl, a9, c9, w9, hcur, hown9, rfl⟩
              exact AllReadyH.nil
            exact AllReadyH.nil
          exact AllReadyH.nil
        exact AllReadyH.nil
      exact AllReadyH.nil
    case rest =>
      obtain ⟨rfl, a9, c9, w9, hcur, hown9, rfl⟩ := hcut
      rw [WL.out] at hown9
      have ht9 : TStay (fun k => k = B) W2 (w9.setCell ⟨B, 2, none⟩ (.slice a9 (P + 1) c9)) := (TStay.of_below hcur (fun k => k = B)).setCell (p := ⟨B, 2, none⟩) (.inl rfl) _
      have hB9 : (w9.setCell ⟨B, 2, none⟩ (.slice a9 (P + 1) c9)).heap[B]? = some (.cells (Rcells r1 kv (.slice a9 (P + 1) c9)) 90 (0, 0)) := heap_setCell_same w9 B 2 _ _ _ ((hcur.block B (blk_lt HB.out)).trans HB.out)
      have hkf : KeepF W2 (w9.setCell ⟨B, 2, none⟩ (.slice a9 (P + 1) c9)) := IsRv.keepB HB.out ht9
      have hpr : PRow (w9.setCell ⟨B, 2, none⟩ (.slice a9 (P + 1) c9)) (.slice a9 (P + 1) c9) (r1.pend ++ [x]) := by
        refine ⟨ps ++ [⟨x, a, c⟩], by rw [List.map_append, HP1.out]; rfl, ?_, ?_⟩
        · intro p hp
          rcases List.mem_append.1 hp with hp | hp
          · exact (HP2.out p hp).stay hkf.ku
          · rw [List.mem_singleton.1 hp]
            have := HK2.out
            rw [HM.out] at this
            exact this.stay hkf.ku
        · have e1 : (r1.pend ++ [x]).length = P + 1 := by rw [List.length_append, ← HPP.out]; rfl
          have e2 : (ps ++ [(⟨x, a, c⟩ : Pd)]).flatMap Wc = ps.flatMap Wc ++ Wcells x a c := by rw [List.flatMap_append]; simp [Wc]
          rw [e1, e2]
          have h3 := ownsRow_setCell_below (ownsRow_base hown9 (Nat.le_refl _)) (a := ⟨B, 2, none⟩) (by show B < W2.heap.size; exact blk_lt HB.out) (.slice a9 (P + 1) c9)
          exact ownsRow_base h3 (Nat.zero_le _)
      have hfin := IsRv.pushed H2.out ht9 hB9 hpr
      have t0 : TStay (fun k => k = B) w (w9.setCell ⟨B, 2, none⟩ (.slice a9 (P + 1) c9)) := ((TStay.of_below B1.out _).trans T2.out (fun _ _ h => h)).trans ht9 (fun _ _ h => h)
      have HF := Lib.hid hfin
      have HT0 := Lib.hid t0
      clear ht9 hB9 hkf hpr hfin t0
      go_wp2
      go_ret
      exact ⟨rfl, ⟨_, _, HF.out⟩, HT0.out⟩
end Go.Proofs.YtkalpkmnelgieaaGreatDoor
