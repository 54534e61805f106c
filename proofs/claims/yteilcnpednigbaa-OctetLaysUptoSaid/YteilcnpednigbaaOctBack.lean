/- What OctetBack comes to. -/
import Derived.Test.YteilcnpednigbaaOctLaws
import Derived.Deep.RegionWith
namespace Go.Proofs.Yteilcnpednigbaa
open Go.RowKit Go.Tap
set_option linter.unusedVariables false

theorem IsR.drew {T : TypeId} {w : World} {B : Nat} {a : Option Addr} {c : Nat} {lk : Bool} {l : List UInt8} (h : IsR T w B a c lk l) : IsR T w.drew B a c lk l := ⟨h.blk, h.rds, h.le, h.nnil, h.cap⟩
/-- The bytes of one step. -/
def stepEnc (s : StepD) : List UInt8 :=
  if s.what % 4 = 0 then Oct.be 1 (Oct.u64 (s.n % 256)) else if s.what % 4 = 1 then Oct.be 4 (Oct.u64 (s.n % 4294967296)) else if s.what % 4 = 2 then Oct.be 8 (Oct.u64 s.n) else Oct.var (Oct.u64 s.n)
theorem var_le (v : Nat) : (Oct.var v).length ≤ 10 := by
  have : ∀ f v, (Oct.varF f v).length ≤ f + 1 := by
    intro f; induction f with
    | zero => intro v; simp [Oct.varF]
    | succ f ih => intro v; unfold Oct.varF; split <;> simp; exact ih _
  exact this 9 v
theorem stepEnc_le (s : StepD) : (stepEnc s).length ≤ 10 := by
  unfold stepEnc
  split
  · rw [Oct.be_length]; omega
  split
  · rw [Oct.be_length]; omega
  split
  · rw [Oct.be_length]; omega
  · exact var_le _
theorem flat_le (l : List StepD) : (l.flatMap stepEnc).length ≤ l.length * 10 := by
  induction l with
  | nil => simp
  | cons s l ih => simp only [List.flatMap_cons, List.length_append, List.length_cons]; have := stepEnc_le s; omega
theorem flat_snoc (l : List StepD) (k : Nat) (s : StepD) (h : l[k]? = some s) : (l.take (k + 1)).flatMap stepEnc = (l.take k).flatMap stepEnc ++ stepEnc s := by
  rw [List.take_add_one, h]; simp
theorem rdU_be (k v : Nat) (r : List UInt8) : Oct.rdU k (Oct.be k v ++ r) false = (v % 256 ^ k, r, false) := by
  have hl := Oct.be_length k v
  unfold Oct.rdU
  rw [if_neg (by simp [hl])]
  rw [List.take_left' hl, List.drop_left' hl, Oct.val_be]
theorem bU8 (w : World) (B : Nat) (a : Option Addr) (c : Nat) (n : Int) (r : List UInt8) (h : IsR 98 w B a c false (Oct.be 1 (Oct.u64 (n % 256)) ++ r)) :
    Calls Try.prog 41 #[.pointer (some ⟨B, 0, none⟩)] w (RAft 98 w B (.int .i64 (n % 256)) (r, false)) := by
  have := rU8_any w B a c false _ h
  rw [rdU_be] at this
  have e : Oct.i64 (Oct.u64 (n % 256) % 256 ^ 1) = n % 256 := by unfold Oct.i64 Oct.u64; split <;> omega
  simp only [e] at this
  exact this
theorem bU32 (w : World) (B : Nat) (a : Option Addr) (c : Nat) (n : Int) (r : List UInt8) (h : IsR 98 w B a c false (Oct.be 4 (Oct.u64 (n % 4294967296)) ++ r)) :
    Calls Try.prog 43 #[.pointer (some ⟨B, 0, none⟩)] w (RAft 98 w B (.int .i64 (n % 4294967296)) (r, false)) := by
  have := rU32_any w B a c false _ h
  rw [rdU_be] at this
  have e : Oct.i64 (Oct.u64 (n % 4294967296) % 256 ^ 4) = n % 4294967296 := by unfold Oct.i64 Oct.u64; split <;> omega
  simp only [e] at this
  exact this
theorem bU64 (w : World) (B : Nat) (a : Option Addr) (c : Nat) (n : Int) (hn : -9223372036854775808 ≤ n ∧ n ≤ 9223372036854775807) (r : List UInt8) (h : IsR 98 w B a c false (Oct.be 8 (Oct.u64 n) ++ r)) :
    Calls Try.prog 40 #[.pointer (some ⟨B, 0, none⟩)] w (RAft 98 w B (.int .i64 n) (r, false)) := by
  have := rU64_any w B a c false _ h
  rw [rdU_be] at this
  have e : Oct.i64 (Oct.u64 n % 256 ^ 8) = n := by
    rw [Nat.mod_eq_of_lt (by have := Oct.u64_lt n; simpa using this)]; exact Oct.i64_u64 n hn.1 hn.2
  simp only [e] at this
  exact this
theorem bVar (w : World) (B : Nat) (a : Option Addr) (c : Nat) (n : Int) (hn : -9223372036854775808 ≤ n ∧ n ≤ 9223372036854775807) (r : List UInt8) (h : IsR 98 w B a c false (Oct.var (Oct.u64 n) ++ r)) :
    Calls Try.prog 37 #[.pointer (some ⟨B, 0, none⟩)] w (RAft 98 w B (.int .i64 n) (r, false)) := by
  have := rVar_any' w B a c false _ h
  have e : Oct.rdVar (Oct.var (Oct.u64 n) ++ r) false = (n, r, false) := by
    unfold Oct.rdVar; rw [Oct.varGo_var _ (Oct.u64_lt n)]; simp [Oct.i64_u64 n hn.1 hn.2]
  rw [e] at this
  exact this

set_option maxRecDepth 100000 in
set_option maxHeartbeats 4000000 in
theorem octetBack_walk (w : World) (a : Option Addr) (n c : Nat) (xs : List StepD) (h : ArgSt 140737488351232 w a n c xs) :
    Calls Try.prog 10 #[.slice a n c] w fun e w' => e = .returned (.bool true) ∧ Below w.heap.size w w' := by
  have hlen := h.len
  have hn44 : n ≤ 3518437208784 := by have := h.le; have := h.reach; omega
  have hargs : Hid (0 < n → ∃ b o, a = some ⟨b, o, none⟩ ∧ b < w.heap.size ∧ ∀ i (s : StepD), xs[i]? = some s → s.ok ∧ w.cell? ⟨b, o + i * 3, none⟩ = some (.int .i64 s.what) ∧ w.cell? ⟨b, o + i * 3 + 1, none⟩ = some (.int .i64 s.n)) := by
    intro h0
    obtain ⟨b, o, e, hx⟩ := h.at_ h0
    have h1 := hx 0 _ (List.getElem?_eq_getElem (show 0 < xs.length by omega))
    exact ⟨b, o, e, block_lt_of_cell h1.2.1, fun i s hs => ⟨(hx i s hs).1, (hx i s hs).2.1, (hx i s hs).2.2.1⟩⟩
  have HLEN := Lib.hid hlen
  clear h hlen
  go_enter Try.func10, Try.ntmps10
  go_wp2_with fail
  refine (newWriter_any _).mono ?_
  rintro e w1 ⟨B, rfl, hB, h1, hb1⟩
  go_wp2_with fail
  refine (known1 _).mono ?_
  rintro e w2 ⟨rfl, hb2⟩
  have h2 := h1.below hb2
  have b2 := hb1.trans (hb2.mono hb1.size)
  clear h1 hb1 hb2
  go_wp2
  go_loopw [4] (fun t wr => ∃ (k : Nat) (v : Value), k ≤ n ∧ k ≤ 40 ∧ t = .int .i64 (k : Int) ∧ IsW 95 wr B v ((xs.take k).flatMap stepEnc) ∧ Hid (∀ j, v.ownBlock = some j → w.heap.size ≤ j) ∧ Below w.heap.size w wr) (fun t _ => n - (intOf t).toNat)
  case atStart => exact ⟨0, _, Nat.zero_le _, by omega, rfl, h2, fun j hj => by simp [Value.ownBlock] at hj, b2⟩
  case round =>
    obtain ⟨k, v, hkn, hk40, rfl, hW, hv, hb⟩ := hrel
    have hfl := flat_le (xs.take k)
    rw [List.length_take] at hfl
    by_cases hlt : k < n ∧ k < 40
    · obtain ⟨hk1, hk2⟩ := hlt
      obtain ⟨b, o, rfl, hbl, hx⟩ := hargs.out (by omega)
      have hs : xs[k]? = some (xs[k]'(by have := HLEN.out; omega)) := List.getElem?_eq_getElem _
      generalize (xs[k]'(by have := HLEN.out; omega)) = s at hs
      obtain ⟨hok, hc0, hc1⟩ := hx k s hs
      have hc0' := (hb.cell (p := ⟨b, o + k * 3, none⟩) hbl).trans hc0
      have hc1' := (hb.cell (p := ⟨b, o + k * 3 + 1, none⟩) hbl).trans hc1
      have HFS := Lib.hid (flat_snoc xs k s hs)
      have HOK := Lib.hid hok
      have HFL := Lib.hid hfl
      clear hc0 hc1 hx hs hfl hok
      have hways : (s.what % 4 = 0 ∧ stepEnc s = Oct.be 1 (Oct.u64 (s.n % 256))) ∨ (s.what % 4 = 1 ∧ stepEnc s = Oct.be 4 (Oct.u64 (s.n % 4294967296))) ∨ (s.what % 4 = 2 ∧ stepEnc s = Oct.be 8 (Oct.u64 s.n)) ∨ (s.what % 4 = 3 ∧ stepEnc s = Oct.var (Oct.u64 s.n)) := by
        unfold stepEnc
        rcases (show s.what % 4 = 0 ∨ s.what % 4 = 1 ∨ s.what % 4 = 2 ∨ s.what % 4 = 3 by omega) with h | h | h | h <;> simp [h]
      rcases hways with ⟨hm, he⟩ | ⟨hm, he⟩ | ⟨hm, he⟩ | ⟨hm, he⟩
      · have HM := Lib.hid hm
        have HE := Lib.hid he
        clear hm he
        go_wp2_with fail
        refine (pick_any _ s.what 4 HOK.out.1.1 HOK.out.1.2 (by omega) (by omega)).mono ?_
        rintro e w' ⟨he, rfl⟩
        rw [HM.out] at he
        subst he
        go_wp2_with fail
        refine (pick_any _ s.n 256 HOK.out.2.1 HOK.out.2.2 (by omega) (by omega)).mono ?_
        rintro e w' ⟨rfl, rfl⟩
        go_wp2_with fail
        refine (oU8_any wr B v _ hW _ (by have := HFL.out; omega)).mono ?_
        rw [← HE.out, ← HFS.out]
        rintro e w3 ⟨rfl, v3, h3, s3, f3⟩
        have hv3 : Hid (∀ j, v3.ownBlock = some j → w.heap.size ≤ j) := fun j hj => (f3 j hj).elim (hv.out j) (fun h => by have := hb.size; omega)
        have hb3 : Below w.heap.size w w3 := Below.trans_stay hb s3 (Nat.le_refl _) (wfoot_new (w1 := wr) hB hv.out)
        go_wp2
        go_roundw
        case rel => exact ⟨k + 1, v3, by omega, by omega, by go_num, h3, hv3, hb3⟩
        case measure => first | (simp [intOf]; done) | (simp [intOf]; omega)
      · have HM := Lib.hid hm
        have HE := Lib.hid he
        clear hm he
        go_wp2_with fail
        refine (pick_any _ s.what 4 HOK.out.1.1 HOK.out.1.2 (by omega) (by omega)).mono ?_
        rintro e w' ⟨he, rfl⟩
        rw [HM.out] at he
        subst he
        go_wp2_with fail
        refine (pick_any _ s.n 4294967296 HOK.out.2.1 HOK.out.2.2 (by omega) (by omega)).mono ?_
        rintro e w' ⟨rfl, rfl⟩
        go_wp2_with fail
        refine (oU32_any wr B v _ hW _ (by have := HFL.out; omega)).mono ?_
        rw [← HE.out, ← HFS.out]
        rintro e w3 ⟨rfl, v3, h3, s3, f3⟩
        have hv3 : Hid (∀ j, v3.ownBlock = some j → w.heap.size ≤ j) := fun j hj => (f3 j hj).elim (hv.out j) (fun h => by have := hb.size; omega)
        have hb3 : Below w.heap.size w w3 := Below.trans_stay hb s3 (Nat.le_refl _) (wfoot_new (w1 := wr) hB hv.out)
        go_wp2
        go_roundw
        case rel => exact ⟨k + 1, v3, by omega, by omega, by go_num, h3, hv3, hb3⟩
        case measure => first | (simp [intOf]; done) | (simp [intOf]; omega)
      · have HM := Lib.hid hm
        have HE := Lib.hid he
        clear hm he
        go_wp2_with fail
        refine (pick_any _ s.what 4 HOK.out.1.1 HOK.out.1.2 (by omega) (by omega)).mono ?_
        rintro e w' ⟨he, rfl⟩
        rw [HM.out] at he
        subst he
        go_wp2_with fail
        refine (oU64_any wr B v _ hW _ (by have := HFL.out; omega)).mono ?_
        rw [← HE.out, ← HFS.out]
        rintro e w3 ⟨rfl, v3, h3, s3, f3⟩
        have hv3 : Hid (∀ j, v3.ownBlock = some j → w.heap.size ≤ j) := fun j hj => (f3 j hj).elim (hv.out j) (fun h => by have := hb.size; omega)
        have hb3 : Below w.heap.size w w3 := Below.trans_stay hb s3 (Nat.le_refl _) (wfoot_new (w1 := wr) hB hv.out)
        go_wp2
        go_roundw
        case rel => exact ⟨k + 1, v3, by omega, by omega, by go_num, h3, hv3, hb3⟩
        case measure => first | (simp [intOf]; done) | (simp [intOf]; omega)
      · have HM := Lib.hid hm
        have HE := Lib.hid he
        clear hm he
        go_wp2_with fail
        refine (pick_any _ s.what 4 HOK.out.1.1 HOK.out.1.2 (by omega) (by omega)).mono ?_
        rintro e w' ⟨he, rfl⟩
        rw [HM.out] at he
        subst he
        go_wp2_with fail
        refine (oVar_any wr B v _ hW _ (by have := HFL.out; omega)).mono ?_
        rw [← HE.out, ← HFS.out]
        rintro e w3 ⟨rfl, v3, h3, s3, f3⟩
        have hv3 : Hid (∀ j, v3.ownBlock = some j → w.heap.size ≤ j) := fun j hj => (f3 j hj).elim (hv.out j) (fun h => by have := hb.size; omega)
        have hb3 : Below w.heap.size w w3 := Below.trans_stay hb s3 (Nat.le_refl _) (wfoot_new (w1 := wr) hB hv.out)
        go_wp2
        go_roundw
        case rel => exact ⟨k + 1, v3, by omega, by omega, by go_num, h3, hv3, hb3⟩
        case measure => first | (simp [intOf]; done) | (simp [intOf]; omega)
    · have hex : (decide ((k : Int) < (n : Int)) = false ∧ decide (k < n) = false) ∨ ((decide ((k : Int) < (n : Int)) = true ∧ decide (k < n) = true) ∧ decide ((k : Int) < 40) = false) := by
        by_cases h : k < n
        · exact .inr ⟨⟨decide_eq_true (by omega), decide_eq_true h⟩, decide_eq_false (by omega)⟩
        · exact .inl ⟨decide_eq_false (by omega), decide_eq_false h⟩
      have e40 : xs.take k = xs.take 40 := by
        have := HLEN.out
        by_cases h : k < n
        · rw [show k = 40 by omega]
        · rw [List.take_of_length_le (by omega), List.take_of_length_le (by omega)]
      rw [e40] at hW hfl
      have hys : Hid (∀ i (s : StepD), (xs.take 40)[i]? = some s → xs[i]? = some s) := fun i s hs => by
        rw [List.getElem?_take] at hs; split at hs
        · exact hs
        · cases hs
      have hyl : Hid ((xs.take 40).length = min 40 n) := by rw [← HLEN.out, List.length_take]; rfl
      generalize xs.take 40 = ys at hW hfl hys hyl
      clear hlt e40
      have hfl2 : (ys.flatMap stepEnc).length ≤ 400 := by have h1 := flat_le ys; have h2 := hyl.out; omega
      obtain ⟨L, HLQ⟩ : ∃ L, Hid (L = ys.flatMap stepEnc) := ⟨_, rfl⟩
      rw [← HLQ.out] at hW hfl2
      clear hfl hk40 hkn
      rcases hex with ⟨d1, d2⟩ | ⟨⟨d1, d2⟩, d3⟩
      all_goals
        go_wp2_with fail
        refine (bytes_any wr B _ _ hW (by omega)).mono ?_
        rintro e w4 ⟨a4, c4, rfl, hown, hb4⟩
        have b4 := hb.trans (hb4.mono hb.size)
        have hr4 := Rds.of_own hown rfl
        have hz4 : Hid (a4 = none → c4 = 0) := by obtain ⟨_, _, e, _, _, h3, _⟩ := ownsRow_slice hown; simp at e; obtain ⟨rfl, rfl⟩ := e; exact h3
        clear hW hb hb4 hown hv
        go_wp2_with fail
        refine (newReader_any w4 _ _ _ _ hr4 hz4.out (by omega)).mono ?_
        rintro e w5 ⟨B5, a5, c5, rfl, hB5, h5, ha5, hb5⟩
        have b5 := b4.trans (hb5.mono b4.size)
        have hB5' : w.heap.size ≤ B5 := by have := b4.size; omega
        clear hr4 hb5 b4 ha5
        go_wp2
        go_loopw [6] (fun t wr => ∃ (k : Nat) (ar : Option Addr) (cr : Nat), k ≤ ys.length ∧ t = .int .i64 (k : Int) ∧ IsR 98 wr B5 ar cr false ((ys.drop k).flatMap stepEnc) ∧ Below w.heap.size w wr) (fun t _ => ys.length - (intOf t).toNat)
        case atStart => exact ⟨0, a5, c5, Nat.zero_le _, rfl, (by rw [List.drop_zero, ← HLQ.out]; exact h5), b5⟩
        case round =>
          obtain ⟨k, ar, cr, hk, rfl, hR, hb⟩ := hrel
          have hyl2 := hyl.out
          by_cases hlt : k < ys.length
          · have hk1 : k < n := by omega
            have hk2 : k < 40 := by omega
            obtain ⟨b, o, rfl, hbl, hx⟩ := hargs.out (by omega)
            have hs : ys[k]? = some (ys[k]'hlt) := List.getElem?_eq_getElem _
            have hdrop : ys.drop k = ys[k] :: ys.drop (k + 1) := List.drop_eq_getElem_cons hlt
            generalize (ys[k]'hlt) = s at hs hdrop
            rw [hdrop, List.flatMap_cons] at hR
            obtain ⟨hok, hc0, hc1⟩ := hx k s (hys.out k s hs)
            have hc0' := (hb.cell (p := ⟨b, o + k * 3, none⟩) hbl).trans hc0
            have hc1' := (hb.cell (p := ⟨b, o + k * 3 + 1, none⟩) hbl).trans hc1
            have HOK := Lib.hid hok
            have hbB : b ≠ B5 := by omega
            have hbr : b < wr.heap.size := by have := hb.size; omega
            clear hc0 hc1 hx hs hok hdrop hyl2
            have hways : (s.what % 4 = 0 ∧ stepEnc s = Oct.be 1 (Oct.u64 (s.n % 256))) ∨ (s.what % 4 = 1 ∧ stepEnc s = Oct.be 4 (Oct.u64 (s.n % 4294967296))) ∨ (s.what % 4 = 2 ∧ stepEnc s = Oct.be 8 (Oct.u64 s.n)) ∨ (s.what % 4 = 3 ∧ stepEnc s = Oct.var (Oct.u64 s.n)) := by
              unfold stepEnc
              rcases (show s.what % 4 = 0 ∨ s.what % 4 = 1 ∨ s.what % 4 = 2 ∨ s.what % 4 = 3 by omega) with h | h | h | h <;> simp [h]
            rcases hways with ⟨hm, he⟩ | ⟨hm, he⟩ | ⟨hm, he⟩ | ⟨hm, he⟩
            · have HM := Lib.hid hm
              have HE := Lib.hid he
              clear hm he
              go_wp2_with fail
              refine (pick_any _ s.what 4 HOK.out.1.1 HOK.out.1.2 (by omega) (by omega)).mono ?_
              rintro e w' ⟨he, rfl⟩
              rw [HM.out] at he
              subst he
              go_wp2_with fail
              go_region_with (first | (go_at_call 41; refine (bU8 _ B5 ar cr s.n _ (by rw [← HE.out]; first | exact hR | exact hR.drew)).mono ?_; rintro e w6 ⟨rfl, a6, c6, h6, s6⟩; have hq0 := (World.cell?_of_block (w := wr) (s6.block b hbr hbB)).trans hc0'; have hq1 := (World.cell?_of_block (w := wr) (s6.block b hbr hbB)).trans hc1') | (go_at_call 22; refine (pick_any _ s.n 256 HOK.out.2.1 HOK.out.2.2 (by omega) (by omega)).mono ?_; rintro e w' ⟨rfl, rfl⟩))
              all_goals
                go_wp2
                go_roundw
                case rel => exact ⟨k + 1, a6, c6, by omega, by go_num, h6, (by first | exact below_R hb s6 hB5' | exact below_R hb.drew s6 hB5')⟩
                case measure => first | (simp [intOf]; done) | (simp [intOf]; omega)
            · have HM := Lib.hid hm
              have HE := Lib.hid he
              clear hm he
              go_wp2_with fail
              refine (pick_any _ s.what 4 HOK.out.1.1 HOK.out.1.2 (by omega) (by omega)).mono ?_
              rintro e w' ⟨he, rfl⟩
              rw [HM.out] at he
              subst he
              go_wp2_with fail
              go_region_with (first | (go_at_call 43; refine (bU32 _ B5 ar cr s.n _ (by rw [← HE.out]; first | exact hR | exact hR.drew)).mono ?_; rintro e w6 ⟨rfl, a6, c6, h6, s6⟩; have hq0 := (World.cell?_of_block (w := wr) (s6.block b hbr hbB)).trans hc0'; have hq1 := (World.cell?_of_block (w := wr) (s6.block b hbr hbB)).trans hc1') | (go_at_call 22; refine (pick_any _ s.n 4294967296 HOK.out.2.1 HOK.out.2.2 (by omega) (by omega)).mono ?_; rintro e w' ⟨rfl, rfl⟩))
              all_goals
                go_wp2
                go_roundw
                case rel => exact ⟨k + 1, a6, c6, by omega, by go_num, h6, (by first | exact below_R hb s6 hB5' | exact below_R hb.drew s6 hB5')⟩
                case measure => first | (simp [intOf]; done) | (simp [intOf]; omega)
            · have HM := Lib.hid hm
              have HE := Lib.hid he
              clear hm he
              go_wp2_with fail
              refine (pick_any _ s.what 4 HOK.out.1.1 HOK.out.1.2 (by omega) (by omega)).mono ?_
              rintro e w' ⟨he, rfl⟩
              rw [HM.out] at he
              subst he
              go_wp2_with fail
              go_region_with ((go_at_call 40; refine (bU64 _ B5 ar cr s.n HOK.out.2 _ (by rw [← HE.out]; first | exact hR | exact hR.drew)).mono ?_; rintro e w6 ⟨rfl, a6, c6, h6, s6⟩; have hq0 := (World.cell?_of_block (w := wr) (s6.block b hbr hbB)).trans hc0'; have hq1 := (World.cell?_of_block (w := wr) (s6.block b hbr hbB)).trans hc1'))
              all_goals
                go_wp2
                go_roundw
                case rel => exact ⟨k + 1, a6, c6, by omega, by go_num, h6, (by first | exact below_R hb s6 hB5' | exact below_R hb.drew s6 hB5')⟩
                case measure => first | (simp [intOf]; done) | (simp [intOf]; omega)
            · have HM := Lib.hid hm
              have HE := Lib.hid he
              clear hm he
              go_wp2_with fail
              refine (pick_any _ s.what 4 HOK.out.1.1 HOK.out.1.2 (by omega) (by omega)).mono ?_
              rintro e w' ⟨he, rfl⟩
              rw [HM.out] at he
              subst he
              go_wp2_with fail
              go_region_with ((go_at_call 37; refine (bVar _ B5 ar cr s.n HOK.out.2 _ (by rw [← HE.out]; first | exact hR | exact hR.drew)).mono ?_; rintro e w6 ⟨rfl, a6, c6, h6, s6⟩; have hq0 := (World.cell?_of_block (w := wr) (s6.block b hbr hbB)).trans hc0'; have hq1 := (World.cell?_of_block (w := wr) (s6.block b hbr hbB)).trans hc1'))
              all_goals
                go_wp2
                go_roundw
                case rel => exact ⟨k + 1, a6, c6, by omega, by go_num, h6, (by first | exact below_R hb s6 hB5' | exact below_R hb.drew s6 hB5')⟩
                case measure => first | (simp [intOf]; done) | (simp [intOf]; omega)
          · have hex : (decide ((k : Int) < (n : Int)) = false ∧ decide (k < n) = false) ∨ ((decide ((k : Int) < (n : Int)) = true ∧ decide (k < n) = true) ∧ decide ((k : Int) < 40) = false) := by
              by_cases h : k < n
              · exact .inr ⟨⟨decide_eq_true (by omega), decide_eq_true h⟩, decide_eq_false (by omega)⟩
              · exact .inl ⟨decide_eq_false (by omega), decide_eq_false h⟩
            rw [List.drop_eq_nil_of_le (by omega)] at hR
            clear hyl2
            rcases hex with ⟨d1, d2⟩ | ⟨⟨d1, d2⟩, d3⟩
            all_goals
              go_wp2_with fail
              refine (left_any wr B5 _ _ _ _ hR).mono ?_
              rintro e w' ⟨rfl, rfl⟩
              go_wp2_with fail
              refine (lack_any wr B5 _ _ _ _ hR).mono ?_
              rintro e w' ⟨rfl, rfl⟩
              go_wp2_with fail
              go_ret
              exact ⟨rfl, hb⟩
#print axioms octetBack_walk
end Go.Proofs.Yteilcnpednigbaa
