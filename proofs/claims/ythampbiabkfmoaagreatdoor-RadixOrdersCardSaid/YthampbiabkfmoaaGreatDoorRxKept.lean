/- taprootlaw9: a pair's hash; kept.put. -/
import Derived.Test.YthampbiabkfmoaaGreatDoorRxRef
import Derived.Test.YthampbiabkfmoaaGreatDoorHand
import Derived.Deep.AppendLies
import Derived.Test.YthampbiabkfmoaaGreatDoorRxGet
import Derived.Test.YthampbiabkfmoaaGreatDoorRxPlain
namespace Rx
/-- A pair, raw. -/
structure Pr where
  n : Int
  v : Int
  h : List UInt8
  any : Bool
  deriving Inhabited
abbrev K := List (List UInt8 × Int)
def kput : K → List UInt8 → Int → K
  | [], h, n => [(h, n)]
  | (x, m) :: r, h, n => if x = h then (x, n) :: r else (x, m) :: kput r h n
theorem kput_set : ∀ (k : K) (i : Nat) (x : List UInt8 × Int) (n : Int), (∀ j, j < i → ∀ y, k[j]? = some y → y.1 ≠ x.1) → k[i]? = some x → kput k x.1 n = k.set i (x.1, n)
  | [], i, x, n, _, h => by simp at h
  | (y, m) :: r, 0, x, n, _, h => by
    simp at h; subst h
    simp [kput]
  | (y, m) :: r, i + 1, x, n, hn, h => by
    have h0 := hn 0 (by omega) (y, m) rfl
    rw [kput, if_neg h0, List.set_cons_succ]
    rw [kput_set r i x n (fun j hj z hz => hn (j + 1) (by omega) z (by simpa using hz)) (by simpa using h)]
theorem kput_snoc : ∀ (k : K) (h : List UInt8) (n : Int), (∀ y ∈ k, y.1 ≠ h) → kput k h n = k ++ [(h, n)]
  | [], h, n, _ => rfl
  | (y, m) :: r, h, n, hn => by
    rw [kput, if_neg (hn (y, m) (List.mem_cons_self ..)), kput_snoc r h n (fun z hz => hn z (List.mem_cons_of_mem _ hz))]
    rfl
end Rx
namespace Go.Proofs.YthampbiabkfmoaaGreatDoor
open Go.RowKit Go.Tap
set_option linter.unusedVariables false
set_option linter.unusedSimpArgs false
def prC (p : Rx.Pr) : Array Value := ([Value.int .i64 p.n, Value.int .i64 p.v] ++ bv p.h ++ [Value.bool p.any]).toArray
theorem prC_n (p : Rx.Pr) : (prC p)[0]? = some (.int .i64 p.n) := by simp [prC]
theorem prC_v (p : Rx.Pr) : (prC p)[1]? = some (.int .i64 p.v) := by simp [prC]
theorem prC_any (p : Rx.Pr) (h : p.h.length = 32) : (prC p)[34]? = some (.bool p.any) := by
  simp only [prC, List.getElem?_toArray]
  rw [List.getElem?_append_right (by simp [bv_length, h])]
  simp [bv_length, h]
theorem prC_h (p : Rx.Pr) (h : p.h.length = 32) : (prC p).extract 2 (2 + 32) = hashC p.h := by
  apply Array.ext'
  simp only [prC, hashC, List.extract_toArray, List.extract_eq_take_drop]
  rw [List.append_assoc, List.drop_left' (by simp), List.take_left' (by rw [bv_length, h])]
theorem prC_size (p : Rx.Pr) (h : p.h.length = 32) : (prC p).size = 35 := by simp [prC, bv_length, h]
def Rx.hashOf (p : Rx.Pr) : List UInt8 := if p.any = true then p.h else Hs.of (p.n % 60).toNat
theorem hashOf_len (p : Rx.Pr) (h : p.h.length = 32) : (Rx.hashOf p).length = 32 := by unfold Rx.hashOf; split; exact h; rfl
set_option maxHeartbeats 1000000 in
set_option maxRecDepth 100000 in
theorem pairHash_any (w : World) (p : Rx.Pr) (hp : p.h.length = 32) (hn : In64 p.n) : Calls Tryz.prog 11 #[.agg (prC p)] w fun e w' => e = .returned (.agg (hashC (Rx.hashOf p))) ∧ Below w.heap.size w w' := by
  obtain ⟨C, hC⟩ : ∃ C, C = prC p := ⟨_, rfl⟩
  obtain ⟨W1, hW1⟩ : ∃ W1, W1 = (w.alloc (.cells C 44)).alloc (.cells (hashC Wi.z32) 42) := ⟨_, rfl⟩
  have b1 : Below w.heap.size w W1 := by rw [hW1]; exact ((Below.refl _ _).alloc (Nat.le_refl _) _).alloc (by simp) _
  have t0 : W1.heap[w.heap.size]? = some (.cells C 44 (0, 0)) := by rw [hW1]; exact heap_alloc2_old _ _ _
  have t1 : W1.heap[w.heap.size + 1]? = some (.cells (hashC Wi.z32) 42 (0, 0)) := by rw [hW1]; exact heap_alloc2_new _ _ _
  have c34 : W1.cell? ⟨w.heap.size, 34, none⟩ = some (.bool p.any) := blk_cell (i := 34) t0 (by rw [hC]; exact prC_any p hp)
  have c0 : W1.cell? ⟨w.heap.size, 0, none⟩ = some (.int .i64 p.n) := blk_cell (i := 0) t0 (by rw [hC]; exact prC_n p)
  have PH : Hid (Part W1 w.heap.size 2 (hashC p.h)) := Lib.hid (part_of t0 (by rw [hC]; exact prC_h p hp))
  have hh := hash32_any W1 p.n hn.1 hn.2
  obtain ⟨an, han⟩ : ∃ an, an = p.any := ⟨_, rfl⟩
  rw [← han] at c34
  have HAN := Lib.hid han
  have T1 := Lib.hid t1
  have B1 := Lib.hid b1
  have HP := Lib.hid hp
  rw [← hC]
  obtain ⟨R, hR⟩ : ∃ R, R = Rx.hashOf p := ⟨_, rfl⟩
  rw [← hR]
  have HR := Lib.hid hR
  clear hC b1 t0 t1 hp han hR
  go_enter Tryz.func11, Tryz.ntmps11
  go_upto_region 1 with (refine wpL_alloc rfl 42 rfl 2 rfl (hashC Wi.z32) 32 zi_hash ?_)
  rw [← hW1]
  clear hW1
  cases an
  · have HF : Hid (R = Hs.of (p.n % 60).toNat) := Lib.hid (by rw [HR.out, Rx.hashOf, if_neg (by rw [← HAN.out]; decide)])
    rw [← HF.out] at hh
    have R32 : Hid (R.length = 32) := Lib.hid (by rw [HF.out]; rfl)
    go_wp2_with fail
    refine hh.mono ?_
    clear hh c34 c0
    rintro e w2 ⟨rfl, b2⟩
    have T2 := Lib.hid ((b2.block _ (blk_lt T1.out)).trans T1.out)
    have B2 := Lib.hid (B1.out.trans (b2.mono B1.out.size))
    have HSP : Hid ((splice (hashC Wi.z32).toList 0 (hashC R).toList).toArray = hashC R) := Lib.hid (by rw [splice_all _ _ (by simp [hashC, bv_length, R32.out]; rfl)])
    clear b2
    go_wp2_with (refine wpL_storeW (by kernel_rfl) 42 (.tmp 2) (.tmp 9) rfl (w.heap.size + 1) 0 rfl (hashC R) rfl (hashC Wi.z32) 42 T2.out (hashC R) HSP.out (by rw [hashC_size _ R32.out]; exact Nat.le_refl 32) (hashC_one' _) (by rw [hashC_size _ R32.out]; exact sz_hash) ?_)
    intro w9 T9 S9
    go_wp2
    refine bodyPost_ret (results_cell_row rfl _ _ (w.heap.size + 1) 42 _ (0, 0) _ rfl T9 Tryz.underlying42 rfl (by rw [hashC_size _ R32.out]; exact sz_hash)) rfl ?_
    exact ⟨rfl, Below.trans_stay B2.out S9 (Nat.le_refl _) (fun j hj e => by omega)⟩
  · have HF : Hid (R = p.h) := Lib.hid (by rw [HR.out, Rx.hashOf, if_pos HAN.out.symm])
    rw [← HF.out] at PH
    have R32 : Hid (R.length = 32) := Lib.hid (by rw [HF.out]; exact HP.out)
    have HSP : Hid ((splice (hashC Wi.z32).toList 0 (hashC R).toList).toArray = hashC R) := Lib.hid (by rw [splice_all _ _ (by simp [hashC, bv_length, R32.out]; rfl)])
    clear hh
    go_wp2_with (first | (refine wpL_load ?hw 42 (.tmp 5) rfl w.heap.size 2 rfl (hashC R) _ PH.out Tryz.underlying42 rfl (by rw [hashC_size _ R32.out]; exact sz_hash) ?_; case hw => kernel_rfl) | (refine wpL_storeW (by kernel_rfl) 42 (.tmp 2) (.tmp 6) rfl (w.heap.size + 1) 0 rfl (hashC R) rfl (hashC Wi.z32) 42 T1.out (hashC R) HSP.out (by rw [hashC_size _ R32.out]; exact Nat.le_refl 32) (hashC_one' _) (by rw [hashC_size _ R32.out]; exact sz_hash) ?_))
    intro w9 T9 S9
    go_wp2
    refine bodyPost_ret (results_cell_row rfl _ _ (w.heap.size + 1) 42 _ (0, 0) _ rfl T9 Tryz.underlying42 rfl (by rw [hashC_size _ R32.out]; exact sz_hash)) rfl ?_
    exact ⟨rfl, Below.trans_stay B1.out S9 (Nat.le_refl _) (fun j hj e => by omega)⟩
theorem in_int : (Tryz.prog.info? 3).map (fun i => (i.zero, i.size, i.bytes)) = some (some (.int .i64 0), 1, 8) := by kernel_rfl
/-- What was put, in memory. -/
abbrev OwnZ (w : World) (base : Nat) (v : Value) (l : List Int) : Prop := w.ownsRow base 3 1 v l.length (l.map (Value.int .i64))
structure KeptAt (w : World) (lo KB : Nat) (k : Rx.K) (vh vn : Value) : Prop where
  top : w.heap[KB]? = some (.cells #[vh, vn] 37 (0, 0))
  hs : OwnH w lo vh (k.map (·.1))
  ns : OwnZ w lo vn (k.map (·.2))
  lo_ : lo ≤ KB
  h32 : ∀ x ∈ k, x.1.length = 32
theorem KeptAt.below {w w' : World} {lo KB : Nat} {k : Rx.K} {vh vn : Value} (h : KeptAt w lo KB k vh vn) (hb : Below w.heap.size w w') : KeptAt w' lo KB k vh vn :=
  ⟨(hb.block _ (blk_lt h.top)).trans h.top, ownsRow_stay h.hs (TStay.of_below hb (fun _ => False)) (fun _ _ h => h), ownsRow_stay h.ns (TStay.of_below hb (fun _ => False)) (fun _ _ h => h), h.lo_, h.h32⟩
theorem KeptAt.stay {S : Nat → Prop} {w w' : World} {lo KB : Nat} {k : Rx.K} {vh vn : Value} (h : KeptAt w lo KB k vh vn) (hs : TStay S w w') (hd : ∀ j, lo ≤ j → j < w.heap.size → (∃ cs, w.heap[j]? = some (.cells cs 37 (0, 0))) ∨ (∃ cs, w.heap[j]? = some (.cells cs 42 (0, 0))) ∨ (∃ cs, w.heap[j]? = some (.cells cs 3 (0, 0))) → ¬ S j) : KeptAt w' lo KB k vh vn := by
  refine ⟨(hs.block _ (blk_lt h.top) (hd _ h.lo_ (blk_lt h.top) (.inl ⟨_, h.top⟩))).trans h.top, ownsRow_stay h.hs hs (fun j hj => ?_), ownsRow_stay h.ns hs (fun j hj => ?_), h.lo_, h.h32⟩
  · rcases h.hs.2 with ⟨rfl, _⟩ | ⟨g, cap, cur, rfl, h1, hg, _⟩
    · cases hj
    · simp [Value.ownBlock] at hj; subst hj; exact hd _ h1 (lt_of_block hg) (.inr (.inl ⟨_, hg⟩))
  · rcases h.ns.2 with ⟨rfl, _⟩ | ⟨g, cap, cur, rfl, h1, hg, _⟩
    · cases hj
    · simp [Value.ownBlock] at hj; subst hj; exact hd _ h1 (lt_of_block hg) (.inr (.inr ⟨_, hg⟩))
theorem TreeAt.stay {S : Nat → Prop} {w w' : World} {lo TB : Nat} {t : Rx.T} (h : TreeAt w lo TB t) (hs : TStay S w w') (hd : ∀ x, x = TB ∨ Rx.mem t x → ¬ S x) : TreeAt w' lo TB t :=
  ⟨(hs.block _ (blk_lt h.top) (hd _ (.inl rfl))).trans h.top, h.at_.stay hs (fun x hx => hd x (.inr hx)), h.sep, h.ok, h.lo_, h.mem⟩
/-- Blocks of such types as a kept one has. -/
def KS (w : World) (lo j : Nat) : Prop := lo ≤ j ∧ ((∃ cs, w.heap[j]? = some (.cells cs 37 (0, 0))) ∨ (∃ cs, w.heap[j]? = some (.cells cs 42 (0, 0))) ∨ (∃ cs, w.heap[j]? = some (.cells cs 3 (0, 0))))
theorem KS.tree {w : World} {lo TB : Nat} {t : Rx.T} (h : TreeAt w lo TB t) (x : Nat) (hx : x = TB ∨ Rx.mem t x) (lo' : Nat) : ¬ KS w lo' x := by
  rintro ⟨_, hk⟩
  have : (∃ cs, w.heap[x]? = some (.cells cs 59 (0, 0))) ∨ (∃ cs, w.heap[x]? = some (.cells cs 85 (0, 0))) := by
    rcases hx with rfl | hx
    · exact .inl ⟨_, h.top⟩
    · exact .inr (h.at_.ty x hx)
  rcases this with ⟨cs, h1⟩ | ⟨cs, h1⟩
  all_goals
    rcases hk with ⟨cs2, h2⟩ | ⟨cs2, h2⟩ | ⟨cs2, h2⟩
    all_goals
      rw [h1] at h2
      simp at h2
theorem own_ty {w : World} {base e size n : Nat} {v : Value} {xs : List Value} (h : w.ownsRow base e size v n xs) {j : Nat} (hj : v.ownBlock = some j) : base ≤ j ∧ ∃ cs, w.heap[j]? = some (.cells cs e (0, 0)) := by
  rcases h.2 with ⟨rfl, _⟩ | ⟨g, cap, cur, rfl, h1, hg, _⟩
  · cases hj
  · simp [Value.ownBlock] at hj; subst hj; exact ⟨h1, _, hg⟩
theorem KeptAt.hsN {w : World} {lo KB N : Nat} {k : Rx.K} {vh vn : Value} (h : KeptAt w lo KB k vh vn) (hN : N = k.length) : w.ownsRow lo 42 32 vh N (flatC hashC (k.map (·.1))) := by
  have h2 : w.ownsRow lo 42 32 vh (k.map (·.1)).length (flatC hashC (k.map (·.1))) := h.hs
  rw [List.length_map, ← hN] at h2
  exact h2
theorem KeptAt.nsN {w : World} {lo KB N : Nat} {k : Rx.K} {vh vn : Value} (h : KeptAt w lo KB k vh vn) (hN : N = k.length) : w.ownsRow lo 3 1 vn N ((k.map (·.2)).map (Value.int .i64)) := by
  have h2 : w.ownsRow lo 3 1 vn (k.map (·.2)).length ((k.map (·.2)).map (Value.int .i64)) := h.ns
  rw [List.length_map, ← hN] at h2
  exact h2
theorem map_set_fst (k : Rx.K) (i : Nat) (x : List UInt8 × Int) (n : Int) (h : k[i]? = some x) : (k.set i (x.1, n)).map (·.1) = k.map (·.1) := by
  rw [List.map_set]
  apply List.ext_getElem?
  intro j
  rw [List.getElem?_set]
  split
  · next e => subst e; simp [h]; have := (List.getElem?_eq_some_iff.1 h).1; omega
  · rfl
theorem map_get {α β : Type} (l : List α) (f : α → β) (j : Nat) (x : α) (h : l[j]? = some x) : (l.map f)[j]? = some (f x) := by simp [h]
/-- A row that stands where another stood, or is new. -/
def KN (w : World) (v v' : Value) : Prop := ∀ j, v'.ownBlock = some j → v.ownBlock = some j ∨ w.heap.size ≤ j
/-- What kept.put may turn. -/
def KX (KB : Nat) (vh vn : Value) (j : Nat) : Prop := j = KB ∨ vh.ownBlock = some j ∨ vn.ownBlock = some j
set_option maxHeartbeats 4000000 in
set_option maxRecDepth 100000 in
theorem kput_x (w : World) (lo KB : Nat) (k : Rx.K) (vh vn : Value) (hK : KeptAt w lo KB k vh vn) (h : List UInt8) (n : Int) (hl : h.length = 32) (hk : k.length ≤ 1000) (hlo : lo ≤ w.heap.size) :
    Calls Tryz.prog 12 #[.pointer (some ⟨KB, 0, none⟩), .agg (hashC h), .int .i64 n] w fun e w' => e = .returned (.tuple #[]) ∧ ∃ vh' vn', KeptAt w' lo KB (Rx.kput k h n) vh' vn' ∧ TStay (KX KB vh vn) w w' ∧ KN w vh vh' ∧ KN w vn vn' := by
  obtain ⟨C, hC⟩ : ∃ C, C = hashC h := ⟨_, rfl⟩
  have SC : Hid (C.size = 32) := Lib.hid (by rw [hC]; exact hashC_size h hl)
  obtain ⟨W1, hW1⟩ : ∃ W1, W1 = w.alloc (.cells C 42) := ⟨_, rfl⟩
  have b1 : Below w.heap.size w W1 := by rw [hW1]; exact (Below.refl _ _).alloc (Nat.le_refl _) _
  have BX : Hid (W1.heap[w.heap.size]? = some (.cells C 42 (0, 0))) := Lib.hid (by rw [hW1]; exact heap_alloc_new _ _)
  have K1 := Lib.hid (hK.below b1)
  have K0 := Lib.hid hK
  have B1 := Lib.hid b1
  have HL := Lib.hid hl
  have HC := Lib.hid hC
  have HLO := Lib.hid hlo
  have HKL := Lib.hid hk
  rw [← hC]
  obtain ⟨ah, ch, hvh, hhc, _⟩ := ownsRow_slice hK.hs
  obtain ⟨an, cn, hvn, hnc, _⟩ := ownsRow_slice hK.ns
  obtain ⟨N, hN⟩ : ∃ N, N = k.length := ⟨_, rfl⟩
  rw [List.length_map, ← hN] at hvh hvn
  have HN := Lib.hid hN
  subst hvh; subst hvn
  have FIN : Hid (∀ wx : World, TStay (KX KB (.slice ah N ch) (.slice an N cn)) w wx → ∀ k' vh' vn', KeptAt wx lo KB k' vh' vn' → KN w (.slice ah N ch) vh' → KN w (.slice an N cn) vn' → k' = Rx.kput k h n → ∃ vh' vn', KeptAt wx lo KB (Rx.kput k h n) vh' vn' ∧ TStay (KX KB (.slice ah N ch) (.slice an N cn)) w wx ∧ KN w (.slice ah N ch) vh' ∧ KN w (.slice an N cn) vn') := Lib.hid (fun wx h1 k' a b h2 h3 h4 e => ⟨a, b, by rw [← e]; exact h2, h1, h3, h4⟩)
  clear hC b1 hK hl hlo hk hhc hnc hN
  go_enter Tryz.func12, Tryz.ntmps12
  go_upto_region 1 with (fail)
  rw [← hW1]
  clear hW1
  go_wp2
  go_loopw [6] (fun kv wr => ∃ i q : Nat, i ≤ N ∧ kv = .int .i64 (i : Int) ∧ wr = W1.drewN q ∧ Hid (∀ j, j < i → ∀ y, k[j]? = some y → y.1 ≠ h)) (fun kv _ => N - (intOf kv).toNat)
  case atStart => exact ⟨0, 0, Nat.zero_le _, rfl, rfl, Lib.hid (fun j hj => absurd hj (by omega))⟩
  case round =>
    obtain ⟨i, q, hi, rfl, rfl, HNE⟩ := hrel
    have BR : Hid (Below W1.heap.size W1 (W1.drewN q)) := Lib.hid (bel_drewN (Below.refl _ _) q)
    have KR : Hid (KeptAt (W1.drewN q) lo KB k (.slice ah N ch) (.slice an N cn)) := Lib.hid (K1.out.below BR.out)
    have c0 : (W1.drewN q).cell? ⟨KB, 0, none⟩ = some (.slice ah N ch) := blk_cell (i := 0) KR.out.top rfl
    generalize hwq : W1.drewN q = wr at BR KR c0 ⊢
    by_cases hlt : i < N
    · have d0 : decide ((i : Int) < (N : Int)) = true := decide_eq_true (by omega)
      have d0' : decide (i < N) = true := decide_eq_true hlt
      have i0 : (0 : Int) ≤ (i : Int) := by omega
      have i1 : (i : Int) < (N : Int) := by omega
      have hw := wrapi' ((i : Int) + 1) (by have := HKL.out; have := HN.out; omega)
      have hx : k[i]? = some (k[i]'(by have := HN.out; omega)) := List.getElem?_eq_getElem _
      generalize k[i]'(by have := HN.out; omega) = x at hx
      have hx32 : x.1.length = 32 := KR.out.h32 x (List.mem_of_getElem? hx)
      have hrd : RdH wr ah N (k.map (·.1)) := RdA.of_own (e := 42) (base := lo) (c := ch) (KR.out.hsN HN.out) (by rw [List.length_map]; exact HN.out.symm) (fun y hy => by
        obtain ⟨z, hz, rfl⟩ := List.mem_map.1 hy
        exact hashC_size _ (KR.out.h32 z hz))
      obtain ⟨hb, ho, rfl, hbl, hp⟩ := hrd.at (map_get k (·.1) i x hx)
      have HX32 := Lib.hid hx32
      have PH : Hid (Part wr hb (ho + i * 32) (hashC x.1)) := Lib.hid hp
      have PC : Hid (Part wr w.heap.size 0 C) := Lib.hid (Part.of_blk ((BR.out.block _ (blk_lt BX.out)).trans BX.out))
      obtain ⟨eqb, heq⟩ : ∃ eqb, eqb = decide (x.1 = h) := ⟨_, rfl⟩
      have Q0 : Hid (∀ w, (binOp .eql 42 (.agg (hashC x.1)) (.agg C)).run Tryz.prog w = .ok (.bool eqb) w) := Lib.hid (fun w => by rw [HC.out, cmp_hash x.1 h HX32.out HL.out, heq])
      have HE := Lib.hid heq
      have HXX := Lib.hid hx
      clear heq hx hx32 hrd hbl hp
      go_upto_region 4 with (fail)
      refine wp_region_quiet_lit (by kernel_rfl) (by kernel_rfl) ?_
      repeat (go_big_quiet_step (fail))
      refine wpQuiet_load (by kernel_rfl) 42 (.tmp 21) rfl hb (ho + i * 32) rfl (hashC x.1) _ PH.out Tryz.underlying42 rfl (by rw [hashC_size _ HX32.out]; exact sz_hash) ?_
      simp only [Act.put, List.setIfInBounds_toArray, List.set_cons_zero, List.set_cons_succ]
      refine wpQuiet_load (by kernel_rfl) 42 (.tmp 4) rfl w.heap.size 0 rfl C _ PC.out Tryz.underlying42 rfl (by rw [SC.out]; exact sz_hash) ?_
      simp only [Act.put, List.setIfInBounds_toArray, List.set_cons_zero, List.set_cons_succ]
      refine wpQuiet_cmp (by kernel_rfl) .eql 42 42 (.tmp 22) (.tmp 23) rfl (hashC x.1) C rfl rfl gd_hash eqb Q0.out ?_
      simp only [Act.put, List.setIfInBounds_toArray, List.set_cons_zero, List.set_cons_succ]
      refine wpQuiet_nil ?_
      intro _ hw'
      obtain ⟨nq, hw2⟩ := hw'
      subst hw2
      cases eqb
      · have hxh : x.1 ≠ h := of_decide_eq_false HE.out.symm
        have HXH := Lib.hid hxh
        clear hxh
        go_wp2
        go_roundw
        case rel =>
          refine ⟨i + 1, q + nq, by omega, by go_num, by rw [← hwq, World.drewN_drewN], Lib.hid (fun j hj y hy => ?_)⟩
          by_cases e : j = i
          · subst e; rw [HXX.out] at hy; simp only [Option.some.injEq] at hy; subst hy; exact HXH.out
          · exact HNE.out j (by omega) y hy
        case measure => simp [intOf]; omega
      · have hxh : x.1 = h := of_decide_eq_true HE.out.symm
        have HXH := Lib.hid hxh
        obtain ⟨gn, hgn, hgl, hgs⟩ := own_head (w := wr) (base := lo) (e := 3) (size := 1) (a := an) (n := N) (c := cn) (xs := (k.map (·.2)).map (Value.int .i64)) (KR.out.nsN HN.out) (by omega)
        subst hgn
        have ON : (wr.drewN nq).ownsRow lo 3 1 (.slice (some ⟨gn, 0, none⟩) N cn) N ((k.map (·.2)).map (Value.int .i64)) := by
          exact ownsRow_stay (KR.out.nsN HN.out) (TStay.of_below (bel_drewN (Below.refl _ _) nq) (fun _ => False)) (fun _ _ h => h)
        have cc1 : (wr.drewN nq).cell? ⟨KB, 1, none⟩ = some (.slice (some ⟨gn, 0, none⟩) N cn) := blk_cell (w := wr) (i := 1) KR.out.top rfl
        have cg : (wr.drewN nq).cell? ⟨gn, i, none⟩ = some (.int .i64 x.2) := by
          rw [ON.cellAt i (by omega)]
          simp [HXX.out]
        have fg : (wr.drewN nq).frozen? ⟨gn, i, none⟩ = false := ON.frozenAt i
        have hst := ON.stored i (.int .i64 n)
        have KQ : KeptAt (wr.drewN nq) lo KB k (.slice (some ⟨hb, ho, none⟩) N ch) (.slice (some ⟨gn, 0, none⟩) N cn) := KR.out.below (bel_drewN (Below.refl _ _) nq)
        have HLT := Lib.hid hlt
        have HST := Lib.hid hst
        have KQ' := Lib.hid KQ
        have BQ : Hid (Below wr.heap.size wr (wr.drewN nq)) := Lib.hid (bel_drewN (Below.refl _ _) nq)
        have GL := Lib.hid hgl
        clear hxh KQ hst
        have TB : TStay (fun j => j = gn) w (wr.drewN nq) := TStay.of_below ((B1.out.trans (BR.out.mono B1.out.size)).trans (BQ.out.mono (Nat.le_trans B1.out.size BR.out.size))) _
        have TBH := Lib.hid TB
        clear TB
        go_wp2
        refine bodyPost_ret (results_none rfl _ _ _) rfl ?_
        have e1 : KB ≠ gn := fun e => by
          have h1 := K0.out.top
          obtain ⟨_, cs, h2⟩ := own_ty (K0.out.nsN HN.out) (j := gn) rfl
          rw [e, h2] at h1; simp at h1
        have e2 : (Value.slice (some ⟨hb, ho, none⟩) N ch).ownBlock ≠ some gn := by
          obtain ⟨_, cs, h2⟩ := own_ty (K0.out.nsN HN.out) (j := gn) rfl
          exact own_ne' (K0.out.hsN HN.out) h2 (by decide)
        have st : TStay (fun j => j = gn) (wr.drewN nq) ((wr.drewN nq).setCell ⟨gn, i, none⟩ (.int .i64 n)) := (TStay.refl (fun j => j = gn) _).setCell (p := ⟨gn, i, none⟩) (.inl rfl) _
        refine ⟨rfl, FIN.out _ ?_ (k.set i (x.1, n)) (.slice (some ⟨hb, ho, none⟩) N ch) (.slice (some ⟨gn, 0, none⟩) N cn) ?_ (fun j e => .inl e) (fun j e => .inl e) ?_⟩
        · refine (TBH.out.trans st (fun _ _ e => e)).mono (fun j _ e => ?_)
          subst e
          exact .inr (.inr rfl)
        · refine ⟨(st.block _ (blk_lt KQ'.out.top) e1).trans KQ'.out.top, ?_, ?_, KQ'.out.lo_, fun y hy => ?_⟩
          · have h1 := ownsRow_stay (KQ'.out.hsN HN.out) st (fun j hj e => e2 (by rw [← e]; exact hj))
            show World.ownsRow _ _ _ _ _ _ _
            rw [map_set_fst k i x n HXX.out, List.length_map, ← HN.out]
            exact h1
          · show World.ownsRow _ _ _ _ _ _ _
            rw [List.length_map, List.length_set, ← HN.out, List.map_set, List.map_set]
            exact HST.out.1
          · rcases List.mem_or_eq_of_mem_set hy with h1 | h1
            · exact KQ'.out.h32 y h1
            · subst h1; exact HX32.out
        · rw [← HXH.out]
          exact (Rx.kput_set k i x n (fun j hj y hy => by rw [HXH.out]; exact HNE.out j hj y hy) HXX.out).symm
    · have hiN : i = N := by omega
      have d0 : decide ((i : Int) < (N : Int)) = false := decide_eq_false (by omega)
      have d0' : decide (i < N) = false := decide_eq_false (by omega)
      have HALL : Hid (∀ y ∈ k, y.1 ≠ h) := Lib.hid (fun y hy => by
        obtain ⟨j, hj⟩ := List.mem_iff_getElem?.1 hy
        exact HNE.out j (by have := (List.getElem?_eq_some_iff.1 hj).1; have := HN.out; omega) y hj)
      have PC : Hid (∀ w', TStay (fun j => j = KB ∨ (Value.slice ah N ch).ownBlock = some j) W1 w' → Part w' w.heap.size 0 C) := Lib.hid (fun w' ht => Part.of_blk ((ht.block _ (blk_lt BX.out) (fun e => by
        rcases e with e | e
        · have := blk_lt K0.out.top; omega
        · obtain ⟨_, cs, h2⟩ := own_ty (K0.out.hsN HN.out) e
          have := blk_lt h2; omega)).trans BX.out))
      have HNB : Hid ((Value.slice ah N ch).ownBlock ≠ some KB ∧ (Value.slice an N cn).ownBlock ≠ some KB) := Lib.hid ⟨own_ne' (K0.out.hsN HN.out) K0.out.top (by decide), own_ne' (K0.out.nsN HN.out) K0.out.top (by decide)⟩
      have HNX : Hid (∀ j, (Value.slice an N cn).ownBlock = some j → ¬ (j = KB ∨ (Value.slice ah N ch).ownBlock = some j)) := Lib.hid (fun j hj e => by
        obtain ⟨_, cs, h2⟩ := own_ty (K0.out.nsN HN.out) hj
        rcases e with rfl | e
        · exact HNB.out.2 hj
        · exact own_ne' (K0.out.hsN HN.out) h2 (by decide) e)
      clear hiN hi
      go_upto_region 6 with (fail)
      obtain ⟨i0, hi0, hz0, hz1, hz2⟩ := info_parts in_hash
      refine wp_region_held_drew (S := fun w' => TStay (fun j => j = KB ∨ (Value.slice ah N ch).ownBlock = some j) W1 w') (by kernel_rfl) (TStay.of_below (BR.out.trans ((bel_drw wr).mono BR.out.size)) _) (fun hS0 => ?_)
      refine takeK (i := 0) (.pointer (some ⟨KB, 0, none⟩)) (some 32) rfl (by kernel_rfl) (by kernel_rfl) (by kernel_rfl) (by kernel_rfl) (fun _ _ _ h => h) (by kernel_rfl) (fun w' _ => by go_simp) hS0 ?_
      simp only [Act.put, List.setIfInBounds_toArray, List.set_cons_zero, List.set_cons_succ]
      refine takeK (i := 1) (.pointer (some ⟨KB, 0, none⟩)) (some 33) rfl (by kernel_rfl) (by kernel_rfl) (by kernel_rfl) (by kernel_rfl) (fun _ _ _ h => h) (by kernel_rfl) (fun w' _ => by go_simp) hS0 ?_
      simp only [Act.put, List.setIfInBounds_toArray, List.set_cons_zero, List.set_cons_succ]
      refine takeK (i := 2) (.pointer (some ⟨KB, 0, none⟩)) (some 34) rfl (by kernel_rfl) (by kernel_rfl) (by kernel_rfl) (by kernel_rfl) (fun _ _ _ h => h) (by kernel_rfl) (fun w' _ => by go_simp) hS0 ?_
      simp only [Act.put, List.setIfInBounds_toArray, List.set_cons_zero, List.set_cons_succ]
      refine takeK (i := 3) (.pointer (some ⟨KB, 0, none⟩)) (some 35) rfl (by kernel_rfl) (by kernel_rfl) (by kernel_rfl) (by kernel_rfl) (fun _ _ _ h => h) (by kernel_rfl) (fun w' _ => by go_simp) hS0 ?_
      simp only [Act.put, List.setIfInBounds_toArray, List.set_cons_zero, List.set_cons_succ]
      refine takeK (i := 5) (.agg C) (some 37) rfl (by kernel_rfl) (by kernel_rfl) (by kernel_rfl) (by kernel_rfl) (fun _ _ _ h => h) (by kernel_rfl) (fun w' h' => ex_load 42 (.tmp 4) rfl w.heap.size 0 (by kernel_rfl) C _ (PC.out w' h') Tryz.underlying42 rfl (by rw [SC.out]; exact sz_hash)) hS0 ?_
      simp only [Act.put, List.setIfInBounds_toArray, List.set_cons_zero, List.set_cons_succ]
      have bA : Below wr.drew.heap.size wr.drew (wr.drew.alloc (.cells C 42)) := (Below.refl _ _).alloc (Nat.le_refl _) _
      have KD := Lib.hid (KR.out.below (bel_drw wr))
      have KA := KD.out.below bA
      have TAX : (wr.drew.alloc (.cells C 42)).heap[wr.drew.heap.size]? = some (.cells C 42 (0, 0)) := heap_alloc_new _ _
      have hS1 : TStay (fun j => j = KB ∨ (Value.slice ah N ch).ownBlock = some j) W1 (wr.drew.alloc (.cells C 42)) := hS0.trans (TStay.of_below bA _) (fun _ _ e => e)
      obtain ⟨wa, hwa⟩ : ∃ wa, wa = wr.drew.alloc (.cells C 42) := ⟨_, rfl⟩
      rw [← hwa] at hS1 KA TAX bA
      have HWA := Lib.hid hwa
      clear hwa
      have KA := Lib.hid KA
      have ca : wa.cell? ⟨KB, 0, none⟩ = some (.slice ah N ch) := blk_cell (i := 0) KA.out.top rfl
      refine (fun (HC0 : Hid ?C) => ?main) ?cont
      case main =>
        refine wpAnyH_ready (rs := [4, 6]) (by kernel_rfl) (by simp) ?_
        refine AllReadyH.cons rfl (fun K hK => ?_) (AllReadyH.cons rfl (fun K hK => ?_) AllReadyH.nil)
        · have c0d : wr.drew.cell? ⟨KB, 0, none⟩ = some (.slice ah N ch) := c0
          rw [if_pos (by kernel_rfl)]
          go_simp
          refine hK.out _ _ hS0 (fun hS => ?_)
          clear hK K hS c0d
          refine wpAnyH_ready (rs := [6]) (by kernel_rfl) (by simp) ?_
          refine AllReadyH.cons rfl (fun K hK => ?_) AllReadyH.nil
          refine step_rowOne rfl 35 42 (.tmp 37) rfl 38 rfl Tryz.underlying35 C (by rfl) (.agg (hashC Wi.z32)) 32 zi_hash (by decide) SC.out ?_
          rw [← show wa = _ from HWA.out]
          refine hK.out _ _ hS1 (fun hS => ?_)
          clear hK K hS
          simp only [Act.put, List.setIfInBounds_toArray, List.set_cons_zero, List.set_cons_succ]
          exact HC0.out
        · refine step_rowOne rfl 35 42 (.tmp 37) rfl 38 rfl Tryz.underlying35 C (by rfl) (.agg (hashC Wi.z32)) 32 zi_hash (by decide) SC.out ?_
          rw [← show wa = _ from HWA.out]
          refine hK.out _ _ hS1 (fun hS => ?_)
          clear hK K hS
          simp only [Act.put, List.setIfInBounds_toArray, List.set_cons_zero, List.set_cons_succ]
          refine wpAnyH_ready (rs := [4]) (by kernel_rfl) (by simp) ?_
          refine AllReadyH.cons rfl (fun K hK => ?_) AllReadyH.nil
          rw [if_pos (by kernel_rfl)]
          go_simp
          refine hK.out _ _ hS1 (fun hS => ?_)
          clear hK K hS
          exact HC0.out
      case cont =>
      refine Lib.hid ?_
      clear c0 ca
      refine wpAnyH_ready (rs := [7]) (by kernel_rfl) (by simp) ?_
      refine AllReadyH.cons rfl (fun K hK => ?_) AllReadyH.nil
      have SZ : lo ≤ wa.heap.size := Nat.le_trans HLO.out (Nat.le_trans B1.out.size hS1.size)
      refine step_append_lies _ rfl (.tmp 36) (.tmp 38) 35 rfl lo 42 i0 _ 32 32 Tryz.underlying35 hi0 hz0 hz1 hz2 (by decide) (by omega) (.slice ah N ch) N (flatC hashC (k.map (·.1))) (by rfl) (KA.out.hsN HN.out) ⟨wr.drew.heap.size, 0, none⟩ 1 1 (hashC h).toList (by rfl) (by rw [Array.length_toList, hashC_size h HL.out]) (World.news_of_block (by rw [← HC.out]; exact TAX)) (hashC_one' h) (by omega) (by have := HN.out; have := HKL.out; unfold maxLen; omega) (by have := HN.out; have := HKL.out; omega) SZ _ rfl ?_
      intro g cap w8 hown hgrow hat hlt8
      have HG1 : Hid (KN w (.slice ah N ch) (.slice (some ⟨g, 0, none⟩) (N + 1) cap)) := Lib.hid (fun j hj => by
        have e : g = j := by simpa [Value.ownBlock] using hj
        subst e
        rcases hat with h | h
        · exact .inl h
        · have h1 := B1.out.size; have h2 := hS1.size; exact .inr (by omega))
      have S8 : TStay (fun j => j = KB ∨ (Value.slice ah N ch).ownBlock = some j) W1 w8 := hS1.grown hgrow (fun j e => .inl (.inr e))
      have T8 : w8.heap[KB]? = _ := (hgrow.block KB (blk_lt KA.out.top) (fun e => HNB.out.1 e.symm)).trans KA.out.top
      refine hK.out _ _ S8 (fun hS2 => ?_)
      clear hK K
      simp only [Act.put, List.setIfInBounds_toArray, List.set_cons_zero, List.set_cons_succ]
      refine takeK (i := 8) (.pointer (some ⟨KB, 0, none⟩)) (some 40) rfl (by kernel_rfl) (by kernel_rfl) (by kernel_rfl) (by kernel_rfl) (fun _ _ _ h => h) (by kernel_rfl) (fun w' _ => by go_simp) hS2 ?_
      simp only [Act.put, List.setIfInBounds_toArray, List.set_cons_zero, List.set_cons_succ]
      refine takeK (i := 9) (.pointer (some ⟨KB, 0, none⟩)) (some 41) rfl (by kernel_rfl) (by kernel_rfl) (by kernel_rfl) (by kernel_rfl) (fun _ _ _ h => h) (by kernel_rfl) (fun w' _ => by go_simp) hS2 ?_
      simp only [Act.put, List.setIfInBounds_toArray, List.set_cons_zero, List.set_cons_succ]
      refine wpAnyH_ready (rs := [10]) (by kernel_rfl) (by simp) ?_
      refine AllReadyH.cons rfl (fun K hK => ?_) AllReadyH.nil
      have c0 : w8.cell? ⟨KB, 0, none⟩ = some (.slice ah N ch) := blk_cell (i := 0) T8 rfl
      have f0 : w8.frozen? ⟨KB, 0, none⟩ = false := blk_free T8 0
      rw [if_pos (by kernel_rfl)]
      go_simp
      obtain ⟨w9, hw9⟩ : ∃ w9, w9 = w8.setCell ⟨KB, 0, none⟩ (.slice (some ⟨g, 0, none⟩) (N + 1) cap) := ⟨_, rfl⟩
      rw [← hw9]
      have S9 : TStay (fun j => j = KB ∨ (Value.slice ah N ch).ownBlock = some j) W1 w9 := by rw [hw9]; exact S8.setCell (p := ⟨KB, 0, none⟩) (.inl (.inl rfl)) _
      have ST : TStay (fun j => j = KB) w8 w9 := by rw [hw9]; exact (TStay.refl (fun j => j = KB) _).setCell (p := ⟨KB, 0, none⟩) (.inl rfl) _
      have T9 : w9.heap[KB]? = some (.cells #[.slice (some ⟨g, 0, none⟩) (N + 1) cap, .slice an N cn] 37 (0, 0)) := by rw [hw9]; exact heap_setCell_same _ KB 0 _ _ _ T8
      have OH : w9.ownsRow lo 42 32 (.slice (some ⟨g, 0, none⟩) (N + 1) cap) (N + 1) (flatC hashC (k.map (·.1)) ++ (hashC h).toList) := ownsRow_stay hown ST (fun j hj e => own_ne' hown T8 (by decide) (by rw [← e]; exact hj))
      have ON : w9.ownsRow lo 3 1 (.slice an N cn) N ((k.map (·.2)).map (Value.int .i64)) := ownsRow_stay (K1.out.nsN HN.out) S9 (fun j hj => HNX.out j hj)
      refine hK.out _ _ S9 (fun hS9 => ?_)
      clear hK K
      refine wpAnyH_done (by kernel_rfl) ?_ _
      have S9' := Lib.hid S9
      have T9' := Lib.hid T9
      have OH' := Lib.hid OH
      have ON' := Lib.hid ON
      clear hw9 S9 ST T9 OH ON hS9 hS2 S8 T8 hown hgrow hat hlt8 c0 f0 SZ hS1 KA KD bA hS0 hi0 hz0 hz1 hz2 KR BR hwq PC
      have HNY : Hid (∀ j, (Value.slice (some ⟨g, 0, none⟩) (N + 1) cap).ownBlock = some j → ¬ (j = KB ∨ (Value.slice an N cn).ownBlock = some j)) := Lib.hid (fun j hj e => by
        obtain ⟨_, cs, h2⟩ := own_ty OH'.out hj
        rcases e with rfl | e
        · exact own_ne' OH'.out T9'.out (by decide) hj
        · exact own_ne' ON'.out h2 (by decide) e)
      obtain ⟨i1', hi0, hz0, hz1, hz2⟩ := info_parts in_int
      have c1 : w9.cell? ⟨KB, 1, none⟩ = some (.slice an N cn) := blk_cell (i := 1) T9'.out rfl
      have f1 : w9.frozen? ⟨KB, 1, none⟩ = false := blk_free T9'.out 1
      have bA : Below w9.heap.size w9 (w9.alloc (.cells #[.int .i64 n] 3)) := (Below.refl _ _).alloc (Nat.le_refl _) _
      have hT1 : TStay (fun j => j = KB ∨ (Value.slice an N cn).ownBlock = some j) w9 (w9.alloc (.cells #[.int .i64 n] 3)) := TStay.of_below bA _
      have TA := (bA.block _ (blk_lt T9'.out)).trans T9'.out
      have TAX : (w9.alloc (.cells #[.int .i64 n] 3)).heap[w9.heap.size]? = some (.cells #[.int .i64 n] 3 (0, 0)) := heap_alloc_new _ _
      have SZ : lo ≤ (w9.alloc (.cells #[.int .i64 n] 3)).heap.size := Nat.le_trans HLO.out (Nat.le_trans B1.out.size (Nat.le_trans S9'.out.size hT1.size))
      have OA := ownsRow_stay ON'.out (TStay.of_below bA (fun _ => False)) (fun _ _ h => h)
      have hT1 := Lib.hid hT1
      have TA := Lib.hid TA
      have TAX := Lib.hid TAX
      have OA := Lib.hid OA
      have SZ := Lib.hid SZ
      clear bA
      go_wp2_with (at_builtin; refine wpList_append_lies _ rfl (.tmp 46) (.tmp 48) 23 rfl lo 3 i1' _ 1 8 Tryz.underlying23 hi0 hz0 hz1 hz2 (by decide) (by omega) (.slice an N cn) N ((k.map (·.2)).map (Value.int .i64)) (by rfl) OA.out ⟨w9.heap.size, 0, none⟩ 1 1 [.int .i64 n] (by rfl) rfl (World.news_of_block TAX.out) (by simp [Value.oneCell']) (by omega) (by have := HN.out; have := HKL.out; unfold maxLen; omega) (by have := HN.out; have := HKL.out; omega) SZ.out _ rfl ?_)
      intro g2 cap2 wx hown hgrow hat hlt8
      have HG2 : Hid (KN w (.slice an N cn) (.slice (some ⟨g2, 0, none⟩) (N + 1) cap2)) := Lib.hid (fun j hj => by
        have e : g2 = j := by simpa [Value.ownBlock] using hj
        subst e
        rcases hat with h | h
        · exact .inl h
        · have h1 := B1.out.size; have h2 := S9'.out.size; have h3 := hT1.out.size; exact .inr (by omega))
      have SX : TStay (fun j => j = KB ∨ (Value.slice an N cn).ownBlock = some j) w9 wx := hT1.out.grown hgrow (fun j e => .inl (.inr e))
      have TX : wx.heap[KB]? = _ := (hgrow.block KB (blk_lt TA.out) (fun e => HNB.out.2 e.symm)).trans TA.out
      have SX := Lib.hid SX
      have TX := Lib.hid TX
      have hown := Lib.hid hown
      have c1 : wx.cell? ⟨KB, 1, none⟩ = some (.slice an N cn) := blk_cell (i := 1) TX.out rfl
      have f1 : wx.frozen? ⟨KB, 1, none⟩ = false := blk_free TX.out 1
      clear hgrow hat hlt8 hi0 hz0 hz1 hz2
      go_wp2
      refine bodyPost_end (results_none rfl _ _ _) rfl ?_
      obtain ⟨wz, hwz⟩ : ∃ wz, wz = wx.setCell ⟨KB, 1, none⟩ (.slice (some ⟨g2, 0, none⟩) (N + 1) cap2) := ⟨_, rfl⟩
      rw [← hwz]
      have SZ9 : TStay (fun j => j = KB ∨ (Value.slice an N cn).ownBlock = some j) w9 wz := by rw [hwz]; exact SX.out.setCell (p := ⟨KB, 1, none⟩) (.inl (.inl rfl)) _
      have ST : TStay (fun j => j = KB) wx wz := by rw [hwz]; exact (TStay.refl (fun j => j = KB) _).setCell (p := ⟨KB, 1, none⟩) (.inl rfl) _
      have TZ : wz.heap[KB]? = some (.cells #[.slice (some ⟨g, 0, none⟩) (N + 1) cap, .slice (some ⟨g2, 0, none⟩) (N + 1) cap2] 37 (0, 0)) := by rw [hwz]; exact heap_setCell_same _ KB 1 _ _ _ TX.out
      have OZ : wz.ownsRow lo 3 1 (.slice (some ⟨g2, 0, none⟩) (N + 1) cap2) (N + 1) ((k.map (·.2)).map (Value.int .i64) ++ [.int .i64 n]) := by
        rw [List.map_map]
        exact ownsRow_stay hown.out ST (fun j hj e => own_ne' hown.out TX.out (by decide) (by rw [← e]; exact hj))
      have OX : wz.ownsRow lo 42 32 (.slice (some ⟨g, 0, none⟩) (N + 1) cap) (N + 1) (flatC hashC (k.map (·.1)) ++ (hashC h).toList) := ownsRow_stay OH'.out SZ9 (fun j hj => HNY.out j hj)
      refine ⟨rfl, FIN.out _ ?_ (k ++ [(h, n)]) (.slice (some ⟨g, 0, none⟩) (N + 1) cap) (.slice (some ⟨g2, 0, none⟩) (N + 1) cap2) ?_ HG1.out HG2.out (Rx.kput_snoc k h n HALL.out).symm⟩
      · have hk : ∀ j, j = KB ∨ (Value.slice ah N ch).ownBlock = some j ∨ (Value.slice an N cn).ownBlock = some j → KX KB (.slice ah N ch) (.slice an N cn) j := fun j e => e
        have t1 : TStay (KX KB (.slice ah N ch) (.slice an N cn)) w w9 := (TStay.of_below B1.out (KX KB (.slice ah N ch) (.slice an N cn))).trans S9'.out (fun j _ e => hk j (by rcases e with e | e; exact .inl e; exact .inr (.inl e)))
        exact t1.trans SZ9 (fun j _ e => hk j (by rcases e with e | e; exact .inl e; exact .inr (.inr e)))
      · refine ⟨TZ, ?_, ?_, K0.out.lo_, fun y hy => ?_⟩
        · show World.ownsRow _ _ _ _ _ _ _
          rw [List.map_append, List.length_append, List.length_map, ← HN.out, flatC_app]
          simpa [flatC] using OX
        · show World.ownsRow _ _ _ _ _ _ _
          rw [List.map_append, List.length_append, List.length_map, ← HN.out, List.map_append]
          exact OZ
        · rcases List.mem_append.1 hy with h1 | h1
          · exact K0.out.h32 y h1
          · simp at h1; subst h1; exact HL.out
theorem kput_any (w : World) (lo KB : Nat) (k : Rx.K) (vh vn : Value) (hK : KeptAt w lo KB k vh vn) (h : List UInt8) (n : Int) (hl : h.length = 32) (hk : k.length ≤ 1000) (hlo : lo ≤ w.heap.size) :
    Calls Tryz.prog 12 #[.pointer (some ⟨KB, 0, none⟩), .agg (hashC h), .int .i64 n] w fun e w' => e = .returned (.tuple #[]) ∧ ∃ vh' vn', KeptAt w' lo KB (Rx.kput k h n) vh' vn' ∧ TStay (KS w lo) w w' :=
  (kput_x w lo KB k vh vn hK h n hl hk hlo).mono fun e w' ⟨h1, a, b, h2, h3, _, _⟩ => ⟨h1, a, b, h2, h3.mono (fun j _ e => by
    rcases e with rfl | e | e
    · exact ⟨hK.lo_, .inl ⟨_, hK.top⟩⟩
    · obtain ⟨h1, h2⟩ := own_ty hK.hs e
      exact ⟨h1, .inr (.inl h2)⟩
    · obtain ⟨h1, h2⟩ := own_ty hK.ns e
      exact ⟨h1, .inr (.inr h2)⟩)⟩
end Go.Proofs.YthampbiabkfmoaaGreatDoor
/- Plain: a tree's leaves against what was put. -/
set_option linter.unusedVariables false
set_option linter.unusedSimpArgs false
namespace Rx
/-- The tree holds what was put. -/
structure Mt (t : T) (k : K) : Prop where
  mem : ∀ x n, x.length = 32 → (Rx.has t x 0 = some n ↔ (x, n) ∈ k)
  nd : (k.map (·.1)).Nodup
  h32 : ∀ x ∈ k, x.1.length = 32
theorem Mt.nil : Mt .nil [] := ⟨fun x n _ => by simp [has], by simp, fun x h => by simp at h⟩
theorem Mt.leaf {t : T} {k : K} (h : Mt t k) (ho : ok t []) (x : List UInt8 × Int) : x ∈ leaves t ↔ x ∈ k := by
  constructor
  · intro hx
    have h1 := (leaves_ok t [] ho x hx).1
    exact (h.mem x.1 x.2 h1).1 ((has_leaves t [] ho x.1 x.2 h1 (pre_nil _)).2 hx)
  · intro hx
    have h1 := h.h32 x hx
    exact (has_leaves t [] ho x.1 x.2 h1 (pre_nil _)).1 ((h.mem x.1 x.2 h1).2 hx)
theorem Mt.get {t : T} {k : K} (h : Mt t k) {x : List UInt8 × Int} (hx : x ∈ k) : has t x.1 0 = some x.2 := (h.mem x.1 x.2 (h.h32 x hx)).2 hx
theorem Mt.hashes {t : T} {k : K} (h : Mt t k) (ho : ok t []) : hashes t = sortH (k.map (·.1)) := by
  refine hashes_sort ho _ (fun x hx => ?_) (fun x => ?_)
  · obtain ⟨y, hy, rfl⟩ := List.mem_map.1 hx
    exact h.h32 y hy
  · simp only [Rx.hashes, List.mem_map]
    constructor
    · rintro ⟨y, hy, rfl⟩; exact ⟨y, (h.leaf ho y).2 hy, rfl⟩
    · rintro ⟨y, hy, rfl⟩; exact ⟨y, (h.leaf ho y).1 hy, rfl⟩
theorem nodup_len {α : Type} [DecidableEq α] : ∀ (l m : List α), l.Nodup → (∀ x ∈ l, x ∈ m) → l.length ≤ m.length
  | [], m, _, _ => Nat.zero_le _
  | a :: l, m, hn, hs => by
    have ha : a ∈ m := hs a (List.mem_cons_self ..)
    have h1 := nodup_len l (m.erase a) (List.nodup_cons.1 hn).2 (fun x hx => (List.mem_erase_of_ne (fun e => (List.nodup_cons.1 hn).1 (by rw [← e]; exact hx))).2 (hs x (List.mem_cons_of_mem _ hx)))
    rw [List.length_erase_of_mem ha] at h1
    have := List.length_pos_of_mem ha
    simp only [List.length_cons]; omega
theorem nodup_of_lt : ∀ (l : List (List UInt8)), l.Pairwise lt → l.Nodup := fun l h => List.Pairwise.imp (S := fun a b => a ≠ b) (fun {a b} h e => by subst e; exact lt_irrefl _ h) h
theorem Mt.cnt {t : T} {k : K} (h : Mt t k) (ho : ok t []) : cnt t = k.length := by
  rw [← cnt_leaves, show (leaves t).length = ((leaves t).map (·.1)).length by simp, show k.length = (k.map (·.1)).length by simp]
  have e1 : ∀ x, x ∈ (leaves t).map (·.1) ↔ x ∈ k.map (·.1) := fun x => by
    simp only [List.mem_map]
    constructor
    · rintro ⟨y, hy, rfl⟩; exact ⟨y, (h.leaf ho y).1 hy, rfl⟩
    · rintro ⟨y, hy, rfl⟩; exact ⟨y, (h.leaf ho y).2 hy, rfl⟩
  exact Nat.le_antisymm (nodup_len _ _ (nodup_of_lt _ (leaves_distinct ho)) (fun x hx => (e1 x).1 hx)) (nodup_len _ _ h.nd (fun x hx => (e1 x).2 hx))
theorem kput_mem : ∀ (k : K) (h : List UInt8) (n : Int), (k.map (·.1)).Nodup → ∀ x m, (x, m) ∈ kput k h n ↔ if x = h then m = n else (x, m) ∈ k
  | [], h, n, _, x, m => by
    simp only [kput, List.mem_singleton, Prod.mk.injEq, List.not_mem_nil]
    split <;> simp_all
  | (y, j) :: r, h, n, hn, x, m => by
    simp only [List.map_cons, List.nodup_cons] at hn
    by_cases e : y = h
    · subst e
      rw [kput, if_pos rfl]
      simp only [List.mem_cons, Prod.mk.injEq]
      by_cases e2 : x = y
      · subst e2
        simp only [true_and, if_true]
        constructor
        · rintro (h1 | h1)
          · exact h1
          · exact absurd (List.mem_map.2 ⟨_, h1, rfl⟩) hn.1
        · exact .inl
      · simp [e2]
    · rw [kput, if_neg e]
      simp only [List.mem_cons, Prod.mk.injEq, kput_mem r h n hn.2 x m]
      by_cases e2 : x = h
      · subst e2
        rw [if_pos rfl, if_pos rfl]
        constructor
        · rintro (h1 | h1)
          · exact absurd h1.1.symm e
          · exact h1
        · exact .inr
      · rw [if_neg e2, if_neg e2]
theorem kput_keys : ∀ (k : K) (h : List UInt8) (n : Int) (x : List UInt8), x ∈ (kput k h n).map (·.1) ↔ x = h ∨ x ∈ k.map (·.1)
  | [], h, n, x => by simp [kput]
  | (y, j) :: r, h, n, x => by
    by_cases e : y = h
    · subst e; rw [kput, if_pos rfl]; simp
    · rw [kput, if_neg e]
      simp only [List.map_cons, List.mem_cons, kput_keys r h n x]
      constructor
      · rintro (h1 | h1 | h1); exact .inr (.inl h1); exact .inl h1; exact .inr (.inr h1)
      · rintro (h1 | h1 | h1); exact .inr (.inl h1); exact .inl h1; exact .inr (.inr h1)
theorem kput_nd : ∀ (k : K) (h : List UInt8) (n : Int), (k.map (·.1)).Nodup → ((kput k h n).map (·.1)).Nodup
  | [], h, n, _ => by simp [kput]
  | (y, j) :: r, h, n, hn => by
    by_cases e : y = h
    · subst e; rw [kput, if_pos rfl]; exact hn
    · rw [kput, if_neg e]
      simp only [List.map_cons, List.nodup_cons] at hn ⊢
      refine ⟨fun hm => ?_, kput_nd r h n hn.2⟩
      rcases (kput_keys r h n y).1 hm with h1 | h1
      · exact e h1
      · exact hn.1 h1
theorem kput_len : ∀ (k : K) (h : List UInt8) (n : Int), (kput k h n).length ≤ k.length + 1
  | [], h, n => by simp [kput]
  | (y, j) :: r, h, n => by
    by_cases e : y = h
    · rw [kput, if_pos e]; simp
    · rw [kput, if_neg e]
      have := kput_len r h n
      simp only [List.length_cons]; omega
theorem Mt.put {t t' : T} {k : K} {h : List UInt8} {n : Int} {f : Bool} (hm : Mt t k) (hp : Puts [] h n t t' f) (hl : h.length = 32) : Mt t' (kput k h n) where
  mem := fun x m hx => by
    rw [kput_mem k h n hm.nd x m]
    have h1 := hp.has x hx (pre_nil _)
    simp only [List.length_nil] at h1
    rw [h1]
    split
    · constructor
      · intro e; simpa using e.symm
      · intro e; rw [e]
    · exact hm.mem x m hx
  nd := kput_nd k h n hm.nd
  h32 := fun x hx => by
    have h1 := (kput_mem k h n hm.nd x.1 x.2).1 hx
    split at h1
    · next e => rw [e]; exact hl
    · exact hm.h32 _ h1
end Rx
namespace Go.Proofs.YthampbiabkfmoaaGreatDoor
/-- What Prefix shall answer. -/
def Rx.want (s : List UInt8) (l : List (List UInt8)) : Nat := if Wi.isPre s = true then (if l.length = 0 then 11 else if 1 < l.length then 14 else 0) else 1
/-- A start of a hash's text, or one that starts none. -/
def Rx.startOk (s : List UInt8) : Prop := Rx.isP s = true ∨ ∀ h : List UInt8, h.length = 32 → Wi.beg h s = false
theorem Rx.allS_some {t : Rx.T} {s : List UInt8} {m : Nat} (hs : Rx.startOk s) (h32 : ∀ x ∈ Rx.hashes t, x.length = 32) : Rx.allS t s m = ((Rx.hashes t).filter fun h => Wi.beg h s).take m := by
  unfold Rx.allS
  split
  · rfl
  · rcases hs with h | h
    · contradiction
    · have : (Rx.hashes t).filter (fun h => Wi.beg h s) = [] := by
        rw [List.filter_eq_nil_iff]
        intro x hx
        rw [h x (h32 x hx)]; simp
      rw [this]; simp
theorem Rx.pfx_want {t : Rx.T} {s : List UInt8} (hs : Rx.startOk s) (h32 : ∀ x ∈ Rx.hashes t, x.length = 32) (l : List (List UInt8)) (hl : l = (Rx.hashes t).filter fun h => Wi.beg h s) :
    Rx.pfx t s = (if Rx.want s l = 0 then l.headD [] else Wi.z32, Rx.want s l) := by
  unfold Rx.pfx Rx.want
  rw [Rx.allS_some hs h32, ← hl]
  split
  · rcases l with _ | ⟨a, _ | ⟨b, r⟩⟩
    · rfl
    · rfl
    · simp
  · rfl
end Go.Proofs.YthampbiabkfmoaaGreatDoor
/- Plain: starts of a hash's text. -/
set_option linter.unusedVariables false
namespace Go.Proofs.YthampbiabkfmoaaGreatDoor
open Go.RowKit Go.Tap
theorem dig_hexc (n : Nat) (h : n < 16) : Wi.dig (Wi.hexc n) = true := by
  have : ∀ k : Fin 16, Wi.dig (Wi.hexc k.val) = true := by decide
  exact this ⟨n, h⟩
theorem hexT_dig (h : List UInt8) (hl : h.length = 32) (j : Nat) (x : UInt8) (hx : (Wi.hexT h)[j]? = some x) : Wi.dig x = true := by
  have hj : j < 2 * h.length := by
    have := (List.getElem?_eq_some_iff.1 hx).1
    rwa [Wi.hexT_len] at this
  rw [hexT_get h j hj] at hx
  cases hx
  exact dig_hexc _ (Rx.dig_lt h j)
theorem startOk_text (h : List UInt8) (hl : h.length = 32) (r : Nat) (hr : r ≤ 64) : Rx.startOk ((Wi.hexT h).take r) := by
  refine .inl ?_
  simp only [Rx.isP, Wi.isPre, Bool.or_eq_true, Bool.and_eq_true, decide_eq_true_eq]
  by_cases he : (Wi.hexT h).take r = []
  · exact .inl he
  · refine .inr ⟨⟨?_, he⟩, by rw [List.length_take]; omega⟩
    rw [List.all_eq_true]
    intro x hx
    obtain ⟨j, hj⟩ := List.mem_iff_getElem?.1 (List.mem_of_mem_take hx)
    exact hexT_dig h hl j x hj
theorem startOk_xyz : Rx.startOk [120, 121, 122] := by
  refine .inr fun h hl => ?_
  unfold Wi.beg
  rw [Bool.and_eq_false_iff]
  refine .inr (decide_eq_false fun e => ?_)
  have h0 : ((Wi.hexT h).take 3)[0]? = some (120 : UInt8) := by
    have e' : (Wi.hexT h).take 3 = [120, 121, 122] := e
    rw [e']; rfl
  rw [List.getElem?_take_of_lt (by omega)] at h0
  have := hexT_dig h hl 0 120 h0
  revert this
  decide
end Go.Proofs.YthampbiabkfmoaaGreatDoor
