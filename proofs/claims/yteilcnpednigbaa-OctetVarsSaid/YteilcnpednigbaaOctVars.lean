/- What OctetVars comes to. -/
import Derived.Test.YteilcnpednigbaaOctLaws
namespace Go.Proofs.Yteilcnpednigbaa
open Go.RowKit Go.Tap
set_option linter.unusedVariables false

/-- How many groups of seven bits. -/
def grps : Nat → Nat → Nat
  | 0, _ => 1
  | f + 1, v => if v / 128 = 0 then 1 else grps f (v / 128) + 1
theorem grps_var (f v : Nat) : grps f v = (Oct.varF f v).length := by
  induction f generalizing v with
  | zero => rfl
  | succ f ih =>
    unfold grps Oct.varF
    by_cases h : v < 128
    · rw [if_pos (by omega), if_pos h]; rfl
    · rw [if_neg (by omega), if_neg h, ih]; simp
theorem u64_pick (n m : Int) (h0 : 0 ≤ n) (h1 : n < m) (hm : m ≤ 9223372036854775807) : Oct.u64 n = n.toNat := by unfold Oct.u64; omega

set_option maxHeartbeats 4000000 in
theorem vars_rest (w : World) (few : Bool) (n0 n : Int) (cut : Int) (hf : (few = false ∧ n0 = n) ∨ (few = true ∧ n0 % 40000 = n)) (hn0 : -9223372036854775808 ≤ n0 ∧ n0 ≤ 9223372036854775807) (hn : -9223372036854775808 ≤ n ∧ n ≤ 9223372036854775807) (hc : -9223372036854775808 ≤ cut ∧ cut ≤ 9223372036854775807) :
    Calls Try.prog 7 #[.int .i64 n0, .bool few, .int .i64 cut] w fun e w' => e = .returned (.bool true) ∧ Below w.heap.size w w' := by
  have hw64 := u64_shows n
  have hux := Oct.u64_lt n
  have hi := Oct.i64_u64 n hn.1 hn.2
  generalize hX : Oct.u64 n = X at hux hw64 hi
  have HX := Lib.hid hX
  have HUX := Lib.hid hux
  have HI := Lib.hid hi
  clear hX hux hi
  rcases hf with ⟨rfl, hf⟩ | ⟨rfl, hf⟩
  obtain rfl : n = n0 := hf.symm
  all_goals go_enter Try.func7, Try.ntmps7
  all_goals go_wp2_with fail
  rotate_left
  have HF0 := Lib.hid hf
  clear hf
  refine (pick_any _ n0 40000 hn0.1 hn0.2 (by omega) (by omega)).mono ?_
  rintro e w' ⟨he, rfl⟩
  rw [HF0.out] at he
  subst he
  go_wp2_with fail
  all_goals
    refine (newWriter_any _).mono ?_
    rintro e w1 ⟨B, rfl, hB, h1, hb1⟩
    go_wp2_with fail
    refine (known1 _).mono ?_
    rintro e w2 ⟨rfl, hb2⟩
    have h2 := h1.below hb2
    have b2 := hb1.trans (hb2.mono hb1.size)
    have hBl := blk_lt h1.blk
    clear h1 hb1 hb2
    go_wp2_with fail
    refine (oVar_any w2 B _ [] h2 n (by simp)).mono ?_
    rw [HX.out, List.nil_append]
    rintro e w3 ⟨rfl, v3, h3, s3, f3⟩
    have hv3 : ∀ k, v3.ownBlock = some k → w.heap.size ≤ k := fun k hk => (f3 k hk).elim (fun h => by simp [Value.ownBlock] at h) (fun h => by have := b2.size; omega)
    have b3 : Below w.heap.size w w3 := Below.trans_stay b2 s3 (Nat.le_refl _) (wfoot_new (w1 := w2) hB (fun k hk => by simp [Value.ownBlock] at hk))
    have hlen : (Oct.var X).length ≤ 10 := by
      have : ∀ f v, (Oct.varF f v).length ≤ f + 1 := by
        intro f; induction f with
        | zero => intro v; simp [Oct.varF]
        | succ f ih => intro v; unfold Oct.varF; split <;> simp; exact ih _
      exact this 9 X
    have hpos : 0 < (Oct.var X).length := Oct.varF_pos 9 X
    clear h2 s3 f3 b2
    go_wp2_with fail
    refine (bytes_any w3 B _ _ h3 (by omega)).mono ?_
    rintro e w4 ⟨a4, c4, rfl, hown, hb4⟩
    have b4 := b3.trans (hb4.mono b3.size)
    obtain ⟨g, rfl, hg1, hg2⟩ := own_head hown hpos
    have hr4 := Rds.of_own hown rfl
    have hcc := (ownsRow_slice hown)
    clear h3 hb4 b3 hv3
    have hL0 : Hid (grps 9 X = (Oct.var X).length) := grps_var 9 X
    have hXb : Hid (X < 128 ^ 9 * 2) := by have := HUX.out; show X < 128 ^ 9 * 2; simpa using this
    have hVd : Hid (∀ i (h : i < (Oct.var X).length), (127 < ((Oct.var X)[i]).toNat ↔ i + 1 < (Oct.var X).length)) := fun i h => Oct.varF_get 9 X i hXb.out h
    have hVl : Hid (1 < (Oct.var X).length → ∀ h : (Oct.var X).length - 1 < (Oct.var X).length, ((Oct.var X)[(Oct.var X).length - 1]).toNat ≠ 0) := fun h => Oct.varF_last 9 X hXb.out h
    have hVg : Hid (∀ r, Oct.varGo (Oct.var X ++ r) 0 0 = some (X, r)) := fun r => Oct.varGo_var X HUX.out r
    have hVs : Hid (∀ c, c < (Oct.var X).length → Oct.varGo ((Oct.var X).take c) 0 0 = none) := fun c h => Oct.varGo_short 9 0 0 X c hXb.out h
    generalize Oct.var X = V at hL0 hVd hVl hVg hVs hown hr4 hlen hpos hcc
    go_wp2
    go_loop [9, 10] (fun sz u => ∃ f x s : Nat, s + f ≤ 10 ∧ sz = .int .i64 (s : Int) ∧ u = .int .u64 ((x : Int) / 128) ∧ Hid (x < 128 ^ f * 2) ∧ Hid (grps f x + s = V.length + 1) ∧ 1 ≤ s) (fun _ u => (intOf u).toNat)
    case atStart => exact ⟨9, X, 1, by omega, rfl, rfl, hXb, (show grps 9 X + 1 = V.length + 1 by rw [hL0.out]), by omega⟩
    case round =>
      obtain ⟨f, x, s, hs, rfl, rfl, HF, HG, hs1⟩ := hrel
      by_cases h0 : x / 128 = 0
      · have hd : decide ((0 : Int) < (x : Int) / 128) = false := decide_eq_false (by omega)
        have hsl : s = V.length := by
          have := HG.out
          cases f with
          | zero => simp [grps] at this; omega
          | succ f => unfold grps at this; rw [if_pos h0] at this; omega
        have HSL := Lib.hid hsl
        obtain rfl : s = V.length := hsl
        clear HF HG h0 HSL hs
        have hLc : V.length ≤ c4 := by obtain ⟨a, c, e, h, _⟩ := hcc; simp at e; omega
        clear hcc
        have hcell : ∀ i (h : i < V.length), w4.cell? ⟨g, i, none⟩ = some (.int .u8 ((V[i]).toNat : Int)) := fun i h => by
          rw [hown.cellAt i (by omega), bv_getElem?, List.getElem?_eq_getElem h]; rfl
        have HC := Lib.hid hcell
        clear hcell hown
        have hways : (decide ((1 : Int) < (V.length : Int)) = false ∧ decide (1 < V.length) = false) ∨ ((decide ((1 : Int) < (V.length : Int)) = true ∧ decide (1 < V.length) = true) ∧ ∃ y : UInt8, w4.cell? ⟨g, V.length - 1, none⟩ = some (.int .u8 (y.toNat : Int)) ∧ ((y.toNat : Int) == 0) = false) := by
          by_cases h1 : 1 < V.length
          · refine .inr ⟨⟨decide_eq_true (by omega), decide_eq_true h1⟩, _, HC.out (V.length - 1) (by omega), ?_⟩
            have := hVl.out h1 (by omega)
            simp only [beq_eq_false_iff_ne]; omega
          · exact .inl ⟨decide_eq_false (by omega), decide_eq_false h1⟩
        have hrv : Oct.rdVar V false = (n, [], false) := by
          have := hVg.out []
          rw [List.append_nil] at this
          unfold Oct.rdVar; rw [this]; simp [HI.out]
        have HRV := Lib.hid hrv
        clear hrv
        rcases hways with ⟨d1, d1'⟩ | ⟨⟨d1, d1'⟩, y, d2, d3⟩
        all_goals
          go_wp2
          go_loop [11] (fun t => ∃ i : Nat, i ≤ V.length ∧ t = .int .i64 (i : Int)) (fun t => V.length - (intOf t).toNat)
          case atStart => exact ⟨0, Nat.zero_le _, rfl⟩
          case round =>
            obtain ⟨i, hi, rfl⟩ := hrel
            by_cases hlt : i < V.length
            · have hcl := HC.out i hlt
              have hvd := hVd.out i hlt
              generalize V[i] = y at hcl hvd
              have hw2 : (decide ((127 : Int) < (y.toNat : Int)) = true ∧ decide ((i : Int) < (V.length : Int) - 1) = true) ∨ (decide ((127 : Int) < (y.toNat : Int)) = false ∧ decide ((i : Int) < (V.length : Int) - 1) = false) := by
                simp only [decide_eq_true_eq, decide_eq_false_iff_not]; omega
              clear hvd
              rcases hw2 with ⟨e1, e2⟩ | ⟨e1, e2⟩
              all_goals
                go_wp2
                go_round
                case rel => exact ⟨i + 1, by omega, by go_num⟩
                case measure => first | (simp [intOf]; done) | (simp [intOf]; omega)
            · have HI2 := Lib.hid (show i = V.length by omega)
              clear d1 d1'
              go_wp2_with fail
              refine (newReader_any w4 _ _ _ V hr4 (by simp) (by omega)).mono ?_
              rintro e w5 ⟨B5, a5, c5, rfl, hB5, h5, ha5, hb5⟩
              have b5 := b4.trans (hb5.mono b4.size)
              have hr5 : Rds w5 (some ⟨g, 0, none⟩) V.length V := hr4.below hb5 (fun _ b o e => by simp at e; omega)
              clear hb5
              obtain ⟨k, hk⟩ : ∃ k : Nat, cut % (V.length : Int) = k := ⟨(cut % (V.length : Int)).toNat, by have := Int.emod_nonneg cut (show (V.length : Int) ≠ 0 by omega); omega⟩
              have hkn : k < V.length := by have := Int.emod_lt_of_pos cut (show (0 : Int) < V.length by omega); omega
              have HK := Lib.hid hk
              clear hk
              go_wp2_with fail
              refine (pick_any _ cut V.length hc.1 hc.2 (by omega) (by omega)).mono ?_
              rintro e w' ⟨he, rfl⟩
              rw [HK.out] at he
              subst he
              go_wp2_with fail
              refine (newReader_any w5 _ _ _ (V.take k) (hr5.take (by omega)) (by simp) (by omega)).mono ?_
              rintro e w6 ⟨B6, a6, c6, rfl, hB6, h6, ha6, hb6⟩
              have h5s := h5.below hb6
              have b6 := b5.trans (hb6.mono b5.size)
              have hlt5 := h5.lt
              have hs4 := b4.size
              have hs5 := b5.size
              have hrs : Oct.rdVar (V.take k) false = (0, [], true) := by unfold Oct.rdVar; rw [hVs.out k hkn]; rfl
              have HRS := Lib.hid hrs
              clear hrs h5 hb6
              go_wp2_with fail
              refine (rVar_any' w6 B5 _ _ _ _ h5s).mono ?_
              rw [HRV.out]
              rintro e w7 ⟨rfl, a7, c7, h7, s7⟩
              have h7s := h6.stayR h5s s7 (by omega)
              have b7 := below_R b6 s7 (by omega)
              clear h5s s7 h6
              go_wp2_with fail
              refine (left_any w7 B5 _ _ _ _ h7).mono ?_
              rintro e w' ⟨rfl, rfl⟩
              go_wp2_with fail
              refine (lack_any w7 B5 _ _ _ _ h7).mono ?_
              rintro e w' ⟨rfl, rfl⟩
              go_wp2_with fail
              refine (rVar_any' w7 B6 _ _ _ _ h7s).mono ?_
              rw [HRS.out]
              rintro e w8 ⟨rfl, a8, c8, h8, s8⟩
              have b8 := below_R b7 s8 (by omega)
              go_wp2_with fail
              refine (lack_any w8 B6 _ _ _ _ h8).mono ?_
              rintro e w' ⟨rfl, rfl⟩
              go_wp2_with fail
              go_ret
              exact ⟨rfl, b8⟩
      · cases f with
        | zero => exfalso; have := HF.out; simp at this; omega
        | succ f =>
          have hd : decide ((0 : Int) < (x : Int) / 128) = true := decide_eq_true (by omega)
          have HF2 : Hid (x / 128 < 128 ^ f * 2) := by have := HF.out; rw [Nat.pow_succ] at this; show x / 128 < 128 ^ f * 2; omega
          have HG2 : Hid (grps f (x / 128) + (s + 1) = V.length + 1) := by
            have := HG.out; unfold grps at this; rw [if_neg h0] at this; show _ = _; omega
          clear HF HG
          go_wp2
          go_round
          case rel => exact ⟨f, x / 128, s + 1, by omega, by go_num, rfl, HF2, HG2, by omega⟩
          case measure => first | (simp [intOf]; done) | (simp [intOf]; omega)

theorem octetVars_walk (w : World) (n : Int) (hn : -9223372036854775808 ≤ n ∧ n ≤ 9223372036854775807) (few : Bool) (cut : Int) (hc : -9223372036854775808 ≤ cut ∧ cut ≤ 9223372036854775807) :
    Calls Try.prog 7 #[.int .i64 n, .bool few, .int .i64 cut] w fun e w' => e = .returned (.bool true) ∧ Below w.heap.size w w' := by
  cases few with
  | false => exact vars_rest w false n n cut (.inl ⟨rfl, rfl⟩) hn hn hc
  | true => exact vars_rest w true n (n % 40000) cut (.inr ⟨rfl, rfl⟩) hn (by omega) hc
end Go.Proofs.Yteilcnpednigbaa
