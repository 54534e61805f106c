/- DiskRoom: what it comes to. -/
import Derived.Test.YtgkbgponednfjaaDoorDskCalm
import Derived.Test.YtgkbgponednfjaaDoorDskKn2
import Derived.Test.YtgkbgponednfjaaDoorKind
import Derived.Test.YtgkbgponednfjaaDoorOpen6
import Derived.Test.YtgkbgponednfjaaDoorIdx
import Derived.Lib.SmallJoins
namespace Go.Proofs.YtgkbgponednfjaaDoor
open Go.RowKit Go.Tap Go.Maps
set_option linter.unusedVariables false
attribute [local go_sem ↓] Go.wp_at_zero Go.wp_at_succ

/-- What an operation that is not wanted leaves is no Bool. -/
theorem yl_undef (f : Bool → Option Bool) (g : Option Value → Option Bool) : Go.yielded.match_1 (motive := fun _ => Option Bool) (some undef) f g = g (some undef) := rfl
attribute [local go_sem] yl_undef
theorem bel_drew2 (w : World) : Below w.heap.size w w.drew := ⟨rfl, rfl, rfl, Nat.le_refl _, fun _ _ => rfl⟩
theorem rds_kp2 {w w' : World} {a : Option Addr} {n : Nat} {l : List UInt8} (h : Rds w a n l) (hb : Below w.heap.size w w') : Rds w' a n l := h.below hb (fun h0 b o e => by subst e; exact h.lt h0)
theorem used_le {w : World} {lo B : Nat} {d : Dsk.Dk} (h : IsDk w lo B d) : Dsk.used d.now ≤ d.room := by
  obtain ⟨_, _, _, _, hok⟩ := h
  exact hok.small'
theorem four_names (q : Nat) (hq : q < 4) : ∃ s : List UInt8, Dsk.good s ∧ ∀ w, (Instr.index 105 (.agg #[.string ⟨#[97]⟩, .string ⟨#[98]⟩, .string ⟨#[108, 111, 103]⟩, .string ⟨#[114, 111, 111, 116]⟩]) (.int .i64 (q : Int))).run Tryd.prog w = .ok (.string (str s)) w := by
  have key : ∀ v, (#[.string ⟨#[97]⟩, .string ⟨#[98]⟩, .string ⟨#[108, 111, 103]⟩, .string ⟨#[114, 111, 111, 116]⟩] : Array Value)[q]? = some v → ∀ w, (Instr.index 105 (.agg #[.string ⟨#[97]⟩, .string ⟨#[98]⟩, .string ⟨#[108, 111, 103]⟩, .string ⟨#[114, 111, 111, 116]⟩]) (.int .i64 (q : Int))).run Tryd.prog w = .ok v w :=
    fun v hv w => run_idx 105 9 4 _ q v Tryd.underlying105 hq hv Tryd.isAgg9 Tryd.sizeOf9 w
  rcases (show q = 0 ∨ q = 1 ∨ q = 2 ∨ q = 3 by omega) with rfl | rfl | rfl | rfl
  · exact ⟨[97], ⟨by decide, by decide⟩, key _ rfl⟩
  · exact ⟨[98], ⟨by decide, by decide⟩, key _ rfl⟩
  · exact ⟨[108, 111, 103], ⟨by decide, by decide⟩, key _ rfl⟩
  · exact ⟨[114, 111, 111, 116], ⟨by decide, by decide⟩, key _ rfl⟩
theorem enc_head {ss : List (List UInt8)} (h : 0 < ss.length) : ∃ s, s ∈ ss ∧ (encL ss)[0]? = some (.string (str s)) := by
  have hl : 0 < (ss.mergeSort (fun x y => decide (x ≤ y))).length := by rw [List.length_mergeSort]; exact h
  refine ⟨(ss.mergeSort (fun x y => decide (x ≤ y)))[0]'hl, List.mem_mergeSort.1 (List.getElem_mem hl), ?_⟩
  unfold encL
  rw [List.getElem?_map, List.getElem?_eq_getElem hl]
  rfl
set_option maxHeartbeats 16000000 in
set_option maxRecDepth 100000 in
theorem diskRoom_walk (w : World) (hg : EType w) (a1 : Int) (b1 : -9223372036854775808 ≤ a1 ∧ a1 ≤ 9223372036854775807) (s2 : Option Addr) (n2 c2 : Nat) (xs : List StepE) (g2 : ArgS6 140737488351232 w s2 n2 c2 xs) :
    Calls Tryd.prog 11 #[.int .i64 a1, .slice s2 n2 c2] w fun e w' => e = .returned (.bool true) ∧ Below w.heap.size w w' := by
  have hxl := g2.len
  have G2 := Lib.hid g2
  have HG := Lib.hid hg
  have hpk := pick_any w a1 200 b1.1 b1.2 (by omega) (by omega)
  obtain ⟨R, hR, hR2⟩ : ∃ R : Nat, a1 % 200 = (R : Int) ∧ R ≤ 199 := ⟨(a1 % 200).toNat, by omega, by omega⟩
  rw [hR] at hpk
  clear g2 hg hR b1
  go_enter Tryd.func11, Tryd.ntmps11
  go_wp2_with fail
  refine hpk.mono ?_
  rintro e w' ⟨rfl, rfl⟩
  clear hpk
  go_wp2_with fail
  refine (new_any w R (by omega)).mono ?_
  rintro e w1 ⟨B, rfl, h1, hb1⟩
  go_wp2_with fail
  refine (known6 w1).mono ?_
  rintro e w2 ⟨rfl, hb2⟩
  have b2 := hb1.trans (hb2.mono hb1.size)
  have H2 := Lib.hid (h1.below hb2)
  clear h1 hb1 hb2
  go_wp2_with fail
  go_loopw [6] (fun iv wr => ∃ (d : Dsk.Dk) (i : Nat), iv = .int .i64 (i : Int) ∧ i ≤ n2 ∧ i ≤ 40 ∧ Hid (IsDk wr w.heap.size B d) ∧ Hid (Dsk.Calm d R (2 * i)) ∧ Below w.heap.size w wr) (fun iv _ => n2 - (intOf iv).toNat)
  case atStart => exact ⟨Dsk.newD R, 0, rfl, Nat.zero_le _, Nat.zero_le _, H2, Dsk.calm_new R, b2⟩
  case round =>
    clear H2 b2
    obtain ⟨d, i, rfl, hin, hi10, HD, HN, hb⟩ := hrel
    by_cases hgo : i < n2 ∧ i < 40
    · have t0 : decide ((i : Int) < (n2 : Int)) = true := decide_eq_true (by omega)
      have t0' : decide (i < n2) = true := decide_eq_true hgo.1
      have t1 : decide ((i : Int) < 40) = true := decide_eq_true (by omega)
      have t1' : decide (i < 40) = true := decide_eq_true hgo.2
      have hi1 : (i : Int) < (n2 : Int) := by omega
      have hi0 : (0 : Int) ≤ (i : Int) := by omega
      have hx : xs[i]? = some (xs[i]'(by omega)) := List.getElem?_eq_getElem _
      generalize xs[i]'(by omega) = x at hx
      obtain ⟨b0, o0, rfl, hat⟩ := G2.out.at_ (by omega)
      obtain ⟨hxo, hcx, hxb⟩ := hat i x hx
      have hc0 := hcx 0 (by omega)
      have hc1 := hcx 1 (by omega)
      have hc5 := hcx 5 (by omega)
      rw [Nat.add_zero, show x.cells[0]? = some (.int .i64 x.what) from rfl] at hc0
      rw [show x.cells[1]? = some (.int .i64 x.nm) from rfl] at hc1
      rw [show x.cells[5]? = some (.slice x.b.a x.b.n x.b.c) from rfl] at hc5
      have hltx := World.block_lt_of_cell? w _ hc0
      have hcA : ∀ X : World, Below w.heap.size w X → X.cell? ⟨b0, o0 + i * 6, none⟩ = some (.int .i64 x.what) ∧ X.cell? ⟨b0, o0 + i * 6 + 1, none⟩ = some (.int .i64 x.nm) ∧ X.cell? ⟨b0, o0 + i * 6 + 5, none⟩ = some (.slice x.b.a x.b.n x.b.c) :=
        fun X hX => ⟨(World.cell?_of_block (hX.block b0 hltx)).trans hc0, (World.cell?_of_block (hX.block b0 hltx)).trans hc1, (World.cell?_of_block (hX.block b0 hltx)).trans hc5⟩
      have HCA := Lib.hid hcA
      have HXB := Lib.hid hxb
      have hzb : In64 x.what := hxo.1
      have hmb : In64 x.nm := hxo.2.1
      obtain ⟨z, hz⟩ : ∃ z, z = x.what := ⟨_, rfl⟩
      obtain ⟨nm, hnm⟩ : ∃ nm, nm = x.nm := ⟨_, rfl⟩
      rw [← hz] at hzb
      rw [← hnm] at hmb
      obtain ⟨xb, hxbe⟩ : ∃ xb, xb = x.b := ⟨_, rfl⟩
      rw [← hz, ← hnm, ← hxbe] at HCA
      rw [← hxbe] at HXB
      clear hat hxo hcx hxb hc0 hc1 hc5 hcA hz hnm hxbe hx
      obtain ⟨xa, xn, xc, xl⟩ := xb
      obtain ⟨U, hU⟩ : ∃ U, U = Dsk.used d.now := ⟨_, rfl⟩
      have hUR : U ≤ R := by have := used_le HD.out; have := HN.out.room; omega
      have hus : ∀ X : World, IsDk X w.heap.size B d → Calls Tryd.prog 50 #[.pointer (some ⟨B, 0, none⟩)] X fun e w' => e = .returned (.int .i64 (U : Int)) ∧ Below X.heap.size X w' := fun X hX => by
        have := usedm_any X w.heap.size B d hX
        rw [HN.out.dead, if_neg (by simp), ← hU] at this
        exact this
      have HUS := Lib.hid hus
      have hus0 := hus wr HD.out
      obtain ⟨q, hq, hq4⟩ : ∃ q : Nat, nm % 4 = (q : Int) ∧ q < 4 := ⟨(nm % 4).toNat, by omega, by omega⟩
      obtain ⟨s, hs, hidx⟩ := four_names q hq4
      have hxn : xn = xl.length := (HXB.out.rds.1).symm
      have hxc : xc ≤ 140737488351232 := HXB.out.reach
      have hxle : xn ≤ xc := HXB.out.le
      obtain ⟨V, hV⟩ : ∃ V, V = U + xn := ⟨_, rfl⟩
      have hvw : IntKind.i64.wrap ((U : Int) + (xn : Int)) = (V : Int) := by rw [hV]; push_cast; exact wrapi' _ (by omega)
      have hrw : IntKind.i64.wrap (z.tmod 5) = z.tmod 5 := by
        have h1 := Int.tmod_lt_of_pos z (b := 5) (by omega)
        have h2 : -5 < z.tmod 5 := by have := Int.tmod_lt_of_pos (-z) (b := 5) (by omega); rw [Int.neg_tmod] at this; omega
        exact wrapi' _ (by omega)
      have hiw := wrapi' ((i : Int) + 1) (by omega)
      obtain ⟨bb, hbb⟩ : ∃ bb, (z.tmod 5 == 0) = bb := ⟨_, rfl⟩
      have HS := Lib.hid hs
      have HQ := Lib.hid hq
      have HV := Lib.hid hV
      have HU := Lib.hid hU
      have HXN := Lib.hid hxn
      have HM := Lib.hid hmb
      clear hus hq hV hU hxn hmb hs
      go_wp2_with fail
      refine hus0.mono ?_
      rintro e w3 ⟨rfl, hb3⟩
      have b3 := hb.trans (hb3.mono hb.size)
      have D3 := HD.out.below hb3
      obtain ⟨ca0, ca1, ca5⟩ := HCA.out w3 b3
      have hpk := pick_any w3 nm 4 HM.out.1 HM.out.2 (by omega) (by omega)
      rw [show nm % 4 = (q : Int) from HQ.out] at hpk
      clear hus0 hb3
      go_wp2_with fail
      refine hpk.mono ?_
      rintro e w' ⟨rfl, rfl⟩
      clear hpk
      have hap := append_any w3 w.heap.size B d D3 (by have := HN.out.works; omega) s HS.out xa xn xc xl (rds_kp2 HXB.out.rds b3) HXB.out.none (by omega)
      by_cases hu : Dsk.used d.now + xl.length ≤ R
      · obtain ⟨hae, hcm⟩ := (HN.out.append s HS.out xl).2 hu
        rw [hae] at hap
        have hVR : V ≤ R := by rw [HV.out, HXN.out, HU.out]; exact hu
        have e3 : decide ((V : Int) ≤ (R : Int)) = true := decide_eq_true (by omega)
        have e3' : decide (V ≤ R) = true := decide_eq_true hVR
        obtain ⟨d5, hd5⟩ : ∃ d5, d5 = ({ d with pend := d.pend ++ [⟨0, s, [], xl, 0⟩], now := Dsk.put d.now s (Dsk.val d.now s ++ xl), works := d.works + 1 } : Dsk.Dk) := ⟨_, rfl⟩
        rw [← hd5] at hap hcm
        clear hd5 hae hu
        go_wp2_with fail
        refine hap.mono ?_
        rintro e w5 hop
        obtain ⟨rfl, h5, hb5, kt5⟩ := hop.ok
        have b5 := b3.trans hb5
        obtain ⟨ca0', ca1', ca5'⟩ := HCA.out w5 b5
        obtain ⟨U2, hU2⟩ : ∃ U2, U2 = Dsk.used d5.now := ⟨_, rfl⟩
        have hU2R : U2 ≤ R := by have := used_le h5; have := hcm.room; omega
        have hus2 : ∀ X : World, Below w5.heap.size w5 X → Calls Tryd.prog 50 #[.pointer (some ⟨B, 0, none⟩)] X fun e w' => e = .returned (.int .i64 (U2 : Int)) ∧ Below X.heap.size X w' := fun X hX => by
          have := usedm_any X w.heap.size B d5 (h5.below hX)
          rw [hcm.dead, if_neg (by simp), ← hU2] at this
          exact this
        have HUS2 := Lib.hid hus2
        have hu1 := hus2 w5.drew (bel_drew2 w5)
        have e4 : decide ((R : Int) < (U2 : Int)) = false := decide_eq_false (by omega)
        have e4' : decide (R < U2) = false := decide_eq_false (by omega)
        have e5 : decide ((U2 : Int) > (R : Int)) = false := decide_eq_false (by omega)
        have D5 := Lib.hid h5
        have C5 := Lib.hid hcm
        have hlt5 : b0 < w5.heap.size := Nat.lt_of_lt_of_le hltx b5.size
        clear hap hop hb5 kt5 hU2 h5 hcm ca0 ca1 ca5 D3 b3 hidx hus2
        go_wp2_with fail
        obtain ⟨tq, tq1, tq2, tq3, tq4, tq5, tq6⟩ : ∃ t : Bool, ((U2 : Int) == (U : Int)) = t ∧ (U2 == U) = t ∧ ((U2 : Int) != (U : Int)) = !t ∧ (U2 != U) = !t ∧ decide ((U2 : Int) = (U : Int)) = t ∧ decide (U2 = U) = t := by
          by_cases h : U2 = U
          · subst h; exact ⟨true, by simp, by simp, by simp, by simp, by simp, by simp⟩
          · have h' : (U2 : Int) ≠ (U : Int) := by omega
            have hne1 : ((U2 : Int) != (U : Int)) = true := by rw [bne, beq_eq_false_iff_ne.2 h']; rfl
            have hne2 : (U2 != U) = true := by rw [bne, beq_eq_false_iff_ne.2 h]; rfl
            exact ⟨false, beq_eq_false_iff_ne.2 h', beq_eq_false_iff_ne.2 h, hne1, hne2, decide_eq_false h', decide_eq_false h⟩
        refine wp_region_any (by kernel_rfl) ?_
        change wpAny _ _ _ _ _ _ _ (World.drew _)
        refine wpAny_take (i := 0) (v := ?_) rfl (by kernel_rfl) (by kernel_rfl) (by kernel_rfl) (fun _ _ _ h => h) (Or.inl ⟨by kernel_rfl, ?_⟩) ?_
        rotate_left
        · (intro w; go_simp; try (with_reducible rfl))
        (try simp only [Act.put, List.setIfInBounds_toArray, List.set_cons_zero, List.set_cons_succ])
        refine wpAny_take (i := 1) (v := ?_) rfl (by kernel_rfl) (by kernel_rfl) (by kernel_rfl) (fun _ _ _ h => h) (Or.inl ⟨by kernel_rfl, ?_⟩) ?_
        rotate_left
        · (intro w; go_simp; try (with_reducible rfl))
        (try simp only [Act.put, List.setIfInBounds_toArray, List.set_cons_zero, List.set_cons_succ])
        refine wpAny_take (i := 2) (v := ?_) rfl (by kernel_rfl) (by kernel_rfl) (by kernel_rfl) (fun _ _ _ h => h) (Or.inl ⟨by kernel_rfl, ?_⟩) ?_
        rotate_left
        · (intro w; go_simp; try (with_reducible rfl))
        (try simp only [Act.put, List.setIfInBounds_toArray, List.set_cons_zero, List.set_cons_succ])
        refine wpAny_take (i := 3) (v := ?_) rfl (by kernel_rfl) (by kernel_rfl) (by kernel_rfl) (fun _ _ _ h => h) (Or.inl ⟨by kernel_rfl, ?_⟩) ?_
        rotate_left
        · (intro w; go_simp; try (with_reducible rfl))
        (try simp only [Act.put, List.setIfInBounds_toArray, List.set_cons_zero, List.set_cons_succ])
        refine wpAny_take (i := 4) (v := ?_) rfl (by kernel_rfl) (by kernel_rfl) (by kernel_rfl) (fun _ _ _ h => h) (Or.inl ⟨by kernel_rfl, ?_⟩) ?_
        rotate_left
        · (intro w; go_simp; try (with_reducible rfl))
        (try simp only [Act.put, List.setIfInBounds_toArray, List.set_cons_zero, List.set_cons_succ])
        refine wpAny_take (i := 5) (v := ?_) rfl (by kernel_rfl) (by kernel_rfl) (by kernel_rfl) (fun _ _ _ h => h) (Or.inl ⟨by kernel_rfl, ?_⟩) ?_
        rotate_left
        · (intro w; go_simp; try (with_reducible rfl))
        (try simp only [Act.put, List.setIfInBounds_toArray, List.set_cons_zero, List.set_cons_succ])
        refine wpAny_take (i := 6) (v := ?_) rfl (by kernel_rfl) (by kernel_rfl) (by kernel_rfl) (fun _ _ _ h => h) (Or.inl ⟨by kernel_rfl, ?_⟩) ?_
        rotate_left
        · (intro w; go_simp; try (with_reducible rfl))
        (try simp only [Act.put, List.setIfInBounds_toArray, List.set_cons_zero, List.set_cons_succ])
        refine wpAny_take (i := 10) (v := ?_) rfl (by kernel_rfl) (by kernel_rfl) (by kernel_rfl) (fun _ _ _ h => h) (Or.inl ⟨by kernel_rfl, ?_⟩) ?_
        rotate_left
        · (intro w; go_simp; try (with_reducible rfl))
        (try simp only [Act.put, List.setIfInBounds_toArray, List.set_cons_zero, List.set_cons_succ])
        refine wpAny_ready (rs := [7]) (by kernel_rfl) (by simp) ?_
        refine AllReady.cons rfl (fun K hK => ?_) AllReady.nil
        go_simp
        go_wp2_with fail
        refine wpAny_take (i := 8) (v := ?_) rfl (by kernel_rfl) (by kernel_rfl) (by kernel_rfl) (fun _ _ _ h => h) (Or.inl ⟨by kernel_rfl, ?_⟩) ?_
        rotate_left
        · (intro w; go_simp; try (with_reducible rfl))
        (try simp only [Act.put, List.setIfInBounds_toArray, List.set_cons_zero, List.set_cons_succ])
        refine wpAny_take (i := 9) (v := ?_) rfl (by kernel_rfl) (by kernel_rfl) (by kernel_rfl) (fun _ _ _ h => h) (Or.inl ⟨by kernel_rfl, ?_⟩) ?_
        rotate_left
        · (intro w; go_simp; try (with_reducible rfl))
        (try simp only [Act.put, List.setIfInBounds_toArray, List.set_cons_zero, List.set_cons_succ])
        refine wpAny_take (i := 11) (v := ?_) rfl (by kernel_rfl) (by kernel_rfl) (by kernel_rfl) (fun _ _ _ h => h) (Or.inl ⟨by kernel_rfl, ?_⟩) ?_
        rotate_left
        · (intro w; go_simp; try (with_reducible rfl))
        (try simp only [Act.put, List.setIfInBounds_toArray, List.set_cons_zero, List.set_cons_succ])
        refine wpAny_take (i := 12) (v := ?_) rfl (by kernel_rfl) (by kernel_rfl) (by kernel_rfl) (fun _ _ _ h => h) (Or.inl ⟨by kernel_rfl, ?_⟩) ?_
        rotate_left
        · (intro w; go_simp; try (with_reducible rfl))
        (try simp only [Act.put, List.setIfInBounds_toArray, List.set_cons_zero, List.set_cons_succ])
        refine wpAny_take (i := 13) (v := ?_) rfl (by kernel_rfl) (by kernel_rfl) (by kernel_rfl) (fun _ _ _ h => h) (Or.inl ⟨by kernel_rfl, ?_⟩) ?_
        rotate_left
        · (intro w; go_simp; try (with_reducible rfl))
        (try simp only [Act.put, List.setIfInBounds_toArray, List.set_cons_zero, List.set_cons_succ])
        refine wpAny_take (i := 14) (v := ?_) rfl (by kernel_rfl) (by kernel_rfl) (by kernel_rfl) (fun _ _ _ h => h) (Or.inl ⟨by kernel_rfl, ?_⟩) ?_
        rotate_left
        · (intro w; go_simp; try (with_reducible rfl))
        (try simp only [Act.put, List.setIfInBounds_toArray, List.set_cons_zero, List.set_cons_succ])
        refine wpAny_take (i := 15) (v := ?_) rfl (by kernel_rfl) (by kernel_rfl) (by kernel_rfl) (fun _ _ _ h => h) (Or.inl ⟨by kernel_rfl, ?_⟩) ?_
        rotate_left
        · (intro w; go_simp; try (with_reducible rfl))
        (try simp only [Act.put, List.setIfInBounds_toArray, List.set_cons_zero, List.set_cons_succ])
        refine wpAny_take (i := 16) (v := ?_) rfl (by kernel_rfl) (by kernel_rfl) (by kernel_rfl) (fun _ _ _ h => h) (Or.inl ⟨by kernel_rfl, ?_⟩) ?_
        rotate_left
        · (intro w; go_simp; try (with_reducible rfl))
        (try simp only [Act.put, List.setIfInBounds_toArray, List.set_cons_zero, List.set_cons_succ])
        refine wpAny_take (i := 17) (v := undef) rfl (by kernel_rfl) (by kernel_rfl) (by kernel_rfl) (fun _ _ _ h => h) (Or.inr ⟨by kernel_rfl, rfl⟩) ?_
        (try simp only [Act.put, List.setIfInBounds_toArray, List.set_cons_zero, List.set_cons_succ])
        refine wpAny_take (i := 18) (v := undef) rfl (by kernel_rfl) (by kernel_rfl) (by kernel_rfl) (fun _ _ _ h => h) (Or.inr ⟨by kernel_rfl, rfl⟩) ?_
        (try simp only [Act.put, List.setIfInBounds_toArray, List.set_cons_zero, List.set_cons_succ])
        refine wpAny_take (i := 19) (v := undef) rfl (by kernel_rfl) (by kernel_rfl) (by kernel_rfl) (fun _ _ _ h => h) (Or.inr ⟨by kernel_rfl, rfl⟩) ?_
        (try simp only [Act.put, List.setIfInBounds_toArray, List.set_cons_zero, List.set_cons_succ])
        refine wpAny_take (i := 20) (v := undef) rfl (by kernel_rfl) (by kernel_rfl) (by kernel_rfl) (fun _ _ _ h => h) (Or.inr ⟨by kernel_rfl, rfl⟩) ?_
        (try simp only [Act.put, List.setIfInBounds_toArray, List.set_cons_zero, List.set_cons_succ])
        refine wpAny_take (i := 21) (v := undef) rfl (by kernel_rfl) (by kernel_rfl) (by kernel_rfl) (fun _ _ _ h => h) (Or.inr ⟨by kernel_rfl, rfl⟩) ?_
        (try simp only [Act.put, List.setIfInBounds_toArray, List.set_cons_zero, List.set_cons_succ])
        refine wpAny_take (i := 22) (v := undef) rfl (by kernel_rfl) (by kernel_rfl) (by kernel_rfl) (fun _ _ _ h => h) (Or.inr ⟨by kernel_rfl, rfl⟩) ?_
        (try simp only [Act.put, List.setIfInBounds_toArray, List.set_cons_zero, List.set_cons_succ])
        refine wpAny_take (i := 23) (v := undef) rfl (by kernel_rfl) (by kernel_rfl) (by kernel_rfl) (fun _ _ _ h => h) (Or.inr ⟨by kernel_rfl, rfl⟩) ?_
        (try simp only [Act.put, List.setIfInBounds_toArray, List.set_cons_zero, List.set_cons_succ])
        refine wpAny_take (i := 24) (v := undef) rfl (by kernel_rfl) (by kernel_rfl) (by kernel_rfl) (fun _ _ _ h => h) (Or.inr ⟨by kernel_rfl, rfl⟩) ?_
        (try simp only [Act.put, List.setIfInBounds_toArray, List.set_cons_zero, List.set_cons_succ])
        refine wpAny_take (i := 25) (v := undef) rfl (by kernel_rfl) (by kernel_rfl) (by kernel_rfl) (fun _ _ _ h => h) (Or.inr ⟨by kernel_rfl, rfl⟩) ?_
        (try simp only [Act.put, List.setIfInBounds_toArray, List.set_cons_zero, List.set_cons_succ])
        refine wpAny_take (i := 26) (v := ?_) rfl (by kernel_rfl) (by kernel_rfl) (by kernel_rfl) (fun _ _ _ h => h) (Or.inl ⟨by kernel_rfl, ?_⟩) ?_
        rotate_left
        · (intro w; go_simp; try (with_reducible rfl))
        (try simp only [Act.put, List.setIfInBounds_toArray, List.set_cons_zero, List.set_cons_succ])
        refine wpAny_take (i := 27) (v := ?_) rfl (by kernel_rfl) (by kernel_rfl) (by kernel_rfl) (fun _ _ _ h => h) (Or.inl ⟨by kernel_rfl, ?_⟩) ?_
        rotate_left
        · (intro w; go_simp; try (with_reducible rfl))
        (try simp only [Act.put, List.setIfInBounds_toArray, List.set_cons_zero, List.set_cons_succ])
        refine wpAny_take (i := 28) (v := ?_) rfl (by kernel_rfl) (by kernel_rfl) (by kernel_rfl) (fun _ _ _ h => h) (Or.inl ⟨by kernel_rfl, ?_⟩) ?_
        rotate_left
        · (intro w; go_simp; try (with_reducible rfl))
        (try simp only [Act.put, List.setIfInBounds_toArray, List.set_cons_zero, List.set_cons_succ])
        refine wpAny_take (i := 29) (v := ?_) rfl (by kernel_rfl) (by kernel_rfl) (by kernel_rfl) (fun _ _ _ h => h) (Or.inl ⟨by kernel_rfl, ?_⟩) ?_
        rotate_left
        · (intro w; go_simp; try (with_reducible rfl))
        (try simp only [Act.put, List.setIfInBounds_toArray, List.set_cons_zero, List.set_cons_succ])
        refine wpAny_take (i := 31) (v := ?_) rfl (by kernel_rfl) (by kernel_rfl) (by kernel_rfl) (fun _ _ _ h => h) (Or.inl ⟨by kernel_rfl, ?_⟩) ?_
        rotate_left
        · (intro w; go_simp; try (with_reducible rfl))
        (try simp only [Act.put, List.setIfInBounds_toArray, List.set_cons_zero, List.set_cons_succ])
        refine wpAny_ready (rs := [30]) (by kernel_rfl) (by simp) ?_
        refine AllReady.cons rfl (fun K hK => ?_) AllReady.nil
        go_simp
        go_wp2_with fail
        go_at_call 50
        refine hu1.mono ?_
        rintro e w6 ⟨rfl, hb6⟩
        go_wp2_with fail
        refine wpAny_take (i := 32) (v := ?_) rfl (by kernel_rfl) (by kernel_rfl) (by kernel_rfl) (fun _ _ _ h => h) (Or.inl ⟨by kernel_rfl, ?_⟩) ?_
        rotate_left
        · (intro w; go_simp; try (with_reducible rfl))
        (try simp only [Act.put, List.setIfInBounds_toArray, List.set_cons_zero, List.set_cons_succ])
        refine wpAny_take (i := 33) (v := ?_) rfl (by kernel_rfl) (by kernel_rfl) (by kernel_rfl) (fun _ _ _ h => h) (Or.inl ⟨by kernel_rfl, ?_⟩) ?_
        rotate_left
        · (intro w; go_simp; try (with_reducible rfl))
        (try simp only [Act.put, List.setIfInBounds_toArray, List.set_cons_zero, List.set_cons_succ])
        refine wpAny_done (by kernel_rfl) ?_ _
        all_goals
          have hb6' : Below w5.heap.size w5 w6 := ⟨hb6.os, hb6.tape, hb6.output, hb6.size, hb6.block⟩
          have b6 := b5.trans (hb6'.mono b5.size)
          have D6 := Lib.hid (D5.out.below hb6')
          obtain ⟨ca0, ca1, ca5⟩ := HCA.out w6 b6
          clear hb6 hb6' ca0' ca1' ca5' b5 D5
          have hC6 := Lib.hid C5.out
          cases bb with
          | false =>
            go_wp2_with fail
            go_roundw
            case rel => exact ⟨d5, i + 1, by push_cast; rfl, by omega, by omega, D6, C5.out.up (by omega), b6⟩
            case measure => first | (simp [intOf]; omega) | (simp [intOf]; done) | omega
          | true =>
            have hnm := names_any w6 w.heap.size B d5 D6.out C5.out.dead
            go_wp2_with fail
            refine hnm.mono ?_
            rintro e w7 ⟨v7, ss, rfl, hp7, ho7, hb7⟩
            have b7 := b6.trans (hb7.mono b6.size)
            have D7 := Lib.hid (D6.out.below hb7)
            obtain ⟨a7, c7, rfl, _⟩ := ownsRow_slice ho7
            obtain ⟨L, hL⟩ : ∃ L, L = ss.length := ⟨_, rfl⟩
            have hp7l := hp7.length_eq
            rw [← hL] at ho7 hp7l ⊢
            by_cases hL0 : L = 0
            · subst hL0
              clear ho7 hp7 hb7 hnm D6 hL hp7l
              go_wp2_with fail
              go_roundw
              case rel => exact ⟨d5, i + 1, by push_cast; rfl, by omega, by omega, D7, C5.out.up (by omega), b7⟩
              case measure => first | (simp [intOf]; omega) | (simp [intOf]; done) | omega
            · have e6 : decide ((L : Int) > 0) = true := decide_eq_true (by omega)
              have e6' : decide ((0 : Int) < (L : Int)) = true := decide_eq_true (by omega)
              have e6'' : decide (0 < L) = true := decide_eq_true (by omega)
              have hnm2 := names_any w7 w.heap.size B d5 D7.out C5.out.dead
              have HP7 := Lib.hid hp7l
              clear ho7 hp7 hb7 hnm D6 hL hp7l
              go_wp2_with fail
              refine hnm2.mono ?_
              rintro e w8 ⟨v8, ss2, rfl, hp8, ho8, hb8⟩
              have b8 := b7.trans (hb8.mono b7.size)
              have D8 := D7.out.below hb8
              have hl8 : 0 < ss2.length := by rw [hp8.length_eq, ← show L = _ from HP7.out]; omega
              obtain ⟨s8, hs8, hen⟩ := enc_head hl8
              obtain ⟨a8, c8, rfl, hc8, _⟩ := ownsRow_slice ho8
              obtain ⟨g8, rfl, _, _⟩ := own_head ho8 hl8
              have cg := ho8.cells (g := g8) rfl 0 _ hen
              rw [Addr.add_lit, Nat.zero_add] at cg
              have hmem : s8 ∈ d5.now.map (·.1) := hp8.mem_iff.1 hs8
              obtain ⟨hre, hcr⟩ := C5.out.remove s8 hmem
              have hgs : Dsk.good s8 := by obtain ⟨p, hp, rfl⟩ := List.mem_map.1 hmem; exact C5.out.names p hp
              have hrm := remove_any w8 w.heap.size B d5 D8 (by have := C5.out.works; omega) s8 hgs
              rw [hre] at hrm
              obtain ⟨d9, hd9⟩ : ∃ d9, d9 = ({ d5 with pend := d5.pend ++ [⟨3, s8, [], [], 0⟩], now := Dsk.del d5.now s8, works := d5.works + 1 } : Dsk.Dk) := ⟨_, rfl⟩
              rw [← hd9] at hrm hcr
              have C9 := Lib.hid hcr
              obtain ⟨L8, hL8⟩ : ∃ L8, L8 = ss2.length := ⟨_, rfl⟩
              rw [← hL8] at hl8 hc8 ⊢
              have hl8' : (0 : Int) < (L8 : Int) := by omega
              clear hd9 hre hcr hgs hmem hs8 hen ho8 hp8 hb8 hnm2 hL8
              go_wp2_with fail
              refine hrm.mono ?_
              rintro e w9 hop
              obtain ⟨rfl, h9, hb9, kt9⟩ := hop.ok
              have b9 := b8.trans hb9
              have D9 := Lib.hid h9
              clear hrm hop h9 hb9 kt9 cg
              go_wp2
              go_roundw
              case rel => exact ⟨d9, i + 1, by push_cast; rfl, by omega, by omega, D9, C9.out.up (by omega), b9⟩
              case measure => first | (simp [intOf]; omega) | (simp [intOf]; done) | omega
      · have hae := (HN.out.append s HS.out xl).1 (by omega)
        rw [hae] at hap
        have hVR : R < V := by rw [HV.out, HXN.out, HU.out]; omega
        have e3 : decide ((V : Int) ≤ (R : Int)) = false := decide_eq_false (by omega)
        have e3' : decide (V ≤ R) = false := decide_eq_false (by omega)
        clear hae hu
        go_wp2_with fail
        refine hap.mono ?_
        rintro e w5 hop
        obtain ⟨rfl, h5, hb5, kt5⟩ := hop.no (by omega)
        have b5 := b3.trans hb5
        obtain ⟨ca0', ca1', ca5'⟩ := HCA.out w5 b5
        have hE5 : EType w5 := HG.out.below b5 HG.out.pos
        have hkd := kind_errno w5.drew 6 (show EType w5.drew from hE5)
        have HE5 := Lib.hid hE5
        clear hE5
        have e4 : decide ((R : Int) < (U : Int)) = false := decide_eq_false (by omega)
        have e4' : decide (R < U) = false := decide_eq_false (by omega)
        have e5 : decide ((U : Int) > (R : Int)) = false := decide_eq_false (by omega)
        obtain ⟨d5, hd5⟩ : ∃ d5, d5 = d := ⟨_, rfl⟩
        have C5 := Lib.hid (HN.out.up (show 2 * i ≤ 2 * i + 1 by omega))
        rw [← hd5] at C5
        have D5 := Lib.hid h5
        have HD5 := Lib.hid hd5
        have hlt5 : b0 < w5.heap.size := Nat.lt_of_lt_of_le hltx b5.size
        clear hap hop hb5 kt5 h5 ca0 ca1 ca5 D3 b3 hidx hd5
        go_wp2_with fail
        first | go_region_held3 (fun w' => w'.cell? ⟨b0, o0 + i * 6 + 5, none⟩ = some (.slice xa xn xc))
          (first | exact ca5' | exact (World.cell?_of_block (hbk.block b0 hlt5)).trans ca5' | exact (World.cell?_of_block (hbl.block b0 hlt5)).trans ca5' | exact (World.cell?_of_block (hb6.block b0 hlt5)).trans ca5')
          (first
            | (go_at_call 21; refine hkd.mono ?_; rintro e wk ⟨rfl, hbk⟩; have hbk' : Below w5.heap.size w5 wk := ⟨hbk.os, hbk.tape, hbk.output, hbk.size, hbk.block⟩; have hu1 := HUS.out wk (D5.out.below hbk'))
            | (go_at_call 50; refine hu1.mono ?_; rintro e wl ⟨rfl, hbl0⟩; have hbl : Below w5.heap.size w5 wl := hbk'.trans (hbl0.mono hbk'.size); have hu2 := HUS.out wl (D5.out.below hbl))
            | (go_at_call 50; refine hu2.mono ?_; rintro e w6 ⟨rfl, hb60⟩; have hb6 : Below w5.heap.size w5 w6 := hbl.trans (hb60.mono hbl.size))) | fail "held"
        all_goals
          have b6 := b5.trans (hb6.mono b5.size)
          have D6 := Lib.hid (D5.out.below hb6)
          rw [← show d5 = d from HD5.out] at D6
          obtain ⟨ca0, ca1, ca5⟩ := HCA.out w6 b6
          clear hkd hbk hbk' hbl hbl0 hu1 hu2 hb60 hb6 ca0' ca1' ca5' b5 D5
          have hC6 := Lib.hid C5.out
          cases bb with
          | false =>
            go_wp2_with fail
            go_roundw
            case rel => exact ⟨d5, i + 1, by push_cast; rfl, by omega, by omega, D6, C5.out.up (by omega), b6⟩
            case measure => first | (simp [intOf]; omega) | (simp [intOf]; done) | omega
          | true =>
            have hnm := names_any w6 w.heap.size B d5 D6.out C5.out.dead
            go_wp2_with fail
            refine hnm.mono ?_
            rintro e w7 ⟨v7, ss, rfl, hp7, ho7, hb7⟩
            have b7 := b6.trans (hb7.mono b6.size)
            have D7 := Lib.hid (D6.out.below hb7)
            obtain ⟨a7, c7, rfl, _⟩ := ownsRow_slice ho7
            obtain ⟨L, hL⟩ : ∃ L, L = ss.length := ⟨_, rfl⟩
            have hp7l := hp7.length_eq
            rw [← hL] at ho7 hp7l ⊢
            by_cases hL0 : L = 0
            · subst hL0
              clear ho7 hp7 hb7 hnm D6 hL hp7l
              go_wp2_with fail
              go_roundw
              case rel => exact ⟨d5, i + 1, by push_cast; rfl, by omega, by omega, D7, C5.out.up (by omega), b7⟩
              case measure => first | (simp [intOf]; omega) | (simp [intOf]; done) | omega
            · have e6 : decide ((L : Int) > 0) = true := decide_eq_true (by omega)
              have e6' : decide ((0 : Int) < (L : Int)) = true := decide_eq_true (by omega)
              have e6'' : decide (0 < L) = true := decide_eq_true (by omega)
              have hnm2 := names_any w7 w.heap.size B d5 D7.out C5.out.dead
              have HP7 := Lib.hid hp7l
              clear ho7 hp7 hb7 hnm D6 hL hp7l
              go_wp2_with fail
              refine hnm2.mono ?_
              rintro e w8 ⟨v8, ss2, rfl, hp8, ho8, hb8⟩
              have b8 := b7.trans (hb8.mono b7.size)
              have D8 := D7.out.below hb8
              have hl8 : 0 < ss2.length := by rw [hp8.length_eq, ← show L = _ from HP7.out]; omega
              obtain ⟨s8, hs8, hen⟩ := enc_head hl8
              obtain ⟨a8, c8, rfl, hc8, _⟩ := ownsRow_slice ho8
              obtain ⟨g8, rfl, _, _⟩ := own_head ho8 hl8
              have cg := ho8.cells (g := g8) rfl 0 _ hen
              rw [Addr.add_lit, Nat.zero_add] at cg
              have hmem : s8 ∈ d5.now.map (·.1) := hp8.mem_iff.1 hs8
              obtain ⟨hre, hcr⟩ := C5.out.remove s8 hmem
              have hgs : Dsk.good s8 := by obtain ⟨p, hp, rfl⟩ := List.mem_map.1 hmem; exact C5.out.names p hp
              have hrm := remove_any w8 w.heap.size B d5 D8 (by have := C5.out.works; omega) s8 hgs
              rw [hre] at hrm
              obtain ⟨d9, hd9⟩ : ∃ d9, d9 = ({ d5 with pend := d5.pend ++ [⟨3, s8, [], [], 0⟩], now := Dsk.del d5.now s8, works := d5.works + 1 } : Dsk.Dk) := ⟨_, rfl⟩
              rw [← hd9] at hrm hcr
              have C9 := Lib.hid hcr
              obtain ⟨L8, hL8⟩ : ∃ L8, L8 = ss2.length := ⟨_, rfl⟩
              rw [← hL8] at hl8 hc8 ⊢
              have hl8' : (0 : Int) < (L8 : Int) := by omega
              clear hd9 hre hcr hgs hmem hs8 hen ho8 hp8 hb8 hnm2 hL8
              go_wp2_with fail
              refine hrm.mono ?_
              rintro e w9 hop
              obtain ⟨rfl, h9, hb9, kt9⟩ := hop.ok
              have b9 := b8.trans hb9
              have D9 := Lib.hid h9
              clear hrm hop h9 hb9 kt9 cg
              go_wp2
              go_roundw
              case rel => exact ⟨d9, i + 1, by push_cast; rfl, by omega, by omega, D9, C9.out.up (by omega), b9⟩
              case measure => first | (simp [intOf]; omega) | (simp [intOf]; done) | omega
    · obtain ⟨t0, q0, q0', q1⟩ : ∃ t0 : Bool, decide ((i : Int) < (n2 : Int)) = t0 ∧ decide (i < n2) = t0 ∧ (t0 = true → decide ((i : Int) < 40) = false ∧ decide (i < 40) = false) := by
        by_cases h : i < n2
        · exact ⟨true, decide_eq_true (by omega), decide_eq_true h, fun _ => ⟨decide_eq_false (by omega), decide_eq_false (by omega)⟩⟩
        · exact ⟨false, decide_eq_false (by omega), decide_eq_false h, fun e => by cases e⟩
      clear hgo
      cases t0 <;> (try obtain ⟨q2, q2'⟩ := q1 rfl) <;> clear q1
      all_goals
        go_wp2
        go_ret
        exact ⟨rfl, hb⟩
end Go.Proofs.YtgkbgponednfjaaDoor
