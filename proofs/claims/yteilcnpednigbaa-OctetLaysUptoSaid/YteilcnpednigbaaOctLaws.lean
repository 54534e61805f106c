/- What taprootlaw1's known comes to. -/
import Derived.Test.YteilcnpednigbaaOctNew
import Derived.Test.YteilcnpednigbaaReadVar
import Derived.Test.YteilcnpednigbaaOpen
namespace Go.Proofs.Yteilcnpednigbaa
open Go.RowKit Go.Tap
set_option linter.unusedVariables false

theorem wfoot_new {w w1 : World} {B : Nat} {v : Value} (hb : w.heap.size ≤ B) (hv : ∀ k, v.ownBlock = some k → w.heap.size ≤ k) : ∀ k, k < w.heap.size → ¬ WFoot B v k := by
  rintro k hk (rfl | h)
  · omega
  · have := hv k h; omega

theorem IsR.below {T : TypeId} {w w' : World} {B : Nat} {a : Option Addr} {c : Nat} {lk : Bool} {l : List UInt8} (h : IsR T w B a c lk l) (hb : Below w.heap.size w w') : IsR T w' B a c lk l :=
  ⟨(hb.block B h.lt).trans h.blk, h.rds.below hb (fun h0 b o e => by subst e; exact h.rds.lt h0), h.le, h.nnil, h.cap⟩
theorem IsW.below {T : TypeId} {w w' : World} {B : Nat} {v : Value} {l : List UInt8} (h : IsW T w B v l) (hb : Below w.heap.size w w') : IsW T w' B v l :=
  ⟨(hb.block B (blk_lt h.blk)).trans h.blk, ownsRow_stay h.own (TStay.of_below hb (fun _ => False)) (fun _ _ h => h)⟩
/-- A Reader stays while nothing but a row of no bytes (and what is new) is written. -/
theorem IsR.stay {T : TypeId} {w w' : World} {B : Nat} {a : Option Addr} {c : Nat} {lk : Bool} {l : List UInt8} {S : Nat → Prop} (h : IsR T w B a c lk l) (hs : TStay S w w') (hB : ¬ S B)
    (hn : ∀ b, b < w.heap.size → S b → ∃ cs t fr, w.heap[b]? = some (.cells cs t fr) ∧ ∀ (i : Nat) (n : Int), cs[i]? ≠ some (.int .u8 n)) : IsR T w' B a c lk l := by
  refine ⟨(hs.block B h.lt hB).trans h.blk, h.rds.stay hs (fun h0 b o e hSb => ?_), h.le, h.nnil, h.cap⟩
  obtain ⟨b', o', e', hc⟩ := h.rds.2 h0
  subst e
  simp only [Option.some.injEq, Addr.mk.injEq] at e'
  obtain ⟨rfl, rfl, _⟩ := e'
  obtain ⟨cs, t, fr, h1, h2⟩ := hn b (h.rds.lt h0) hSb
  have := hc 0 (l[0]'h0) (by simp)
  rw [cell_of_row w b _ _ _ _ h1] at this
  exact h2 _ _ this
theorem IsR.stayR {T T' : TypeId} {w w' : World} {B B' : Nat} {a a' : Option Addr} {c c' : Nat} {lk lk' : Bool} {l l' : List UInt8} (h : IsR T w B a c lk l) (h' : IsR T' w B' a' c' lk' l') (hs : TStay (fun k => k = B') w w') (hB : B ≠ B') : IsR T w' B a c lk l :=
  h.stay hs hB (fun b _ e => by subst e; exact ⟨_, _, _, h'.blk, fun i n => by rcases i with _ | _ | i <;> simp⟩)
theorem IsR.stayW {T T' : TypeId} {w w' : World} {B B' : Nat} {a : Option Addr} {c : Nat} {lk : Bool} {l l' : List UInt8} (h : IsR T w B a c lk l) (h' : IsW T' w B' (.slice none 0 0) l') (hs : TStay (WFoot B' (.slice none 0 0)) w w') (hB : B ≠ B') : IsR T w' B a c lk l :=
  h.stay hs (by rintro (e | e); exact hB e; simp [Value.ownBlock] at e) (fun b _ e => by
    rcases e with rfl | e
    · exact ⟨_, _, _, h'.blk, fun i n => by rcases i with _ | i <;> simp⟩
    · simp [Value.ownBlock] at e)
theorem below_R {w w1 w2 : World} {B : Nat} (h : Below w.heap.size w w1) (hs : TStay (fun k => k = B) w1 w2) (hB : w.heap.size ≤ B) : Below w.heap.size w w2 :=
  Below.trans_stay h hs (Nat.le_refl _) (by rintro k hk rfl; omega)

set_option maxHeartbeats 400000 in
theorem known1 (w : World) : Calls Try.prog 24 #[] w fun e w' => e = .returned (.bool true) ∧ Below w.heap.size w w' := by
  go_enter Try.func24, Try.ntmps24
  go_wp2_with fail
  refine (newWriter_any _).mono ?_
  rintro e w1 ⟨B, rfl, hB, h1, hb1⟩
  go_wp2_with fail
  refine (oU8_any w1 B _ [] h1 1 (by simp)).mono ?_
  rintro e w2 ⟨rfl, v2, h2, s2, f2⟩
  go_wp2_with fail
  refine (oVar_any w2 B _ _ h2 300 (by simp [Oct.be])).mono ?_
  rintro e w3 ⟨rfl, v3, h3, s3, f3⟩
  have e3 : [] ++ Oct.be 1 (Oct.u64 1) ++ Oct.var (Oct.u64 300) = [1, 172, 2] := by decide
  rw [e3] at h3
  go_wp2_with fail
  refine (bytes_any w3 B _ _ h3 (by simp)).mono ?_
  rintro e w4 ⟨a4, c4, rfl, hown, hb4⟩
  have hstr := run_str (P := Try.prog) w4 a4 3 c4 [1, 172, 2] 25 9 5 Try.underlying25 Try.underlying5 Try.underlying9 (Rds.of_own hown rfl)
  have hv2 : ∀ k, v2.ownBlock = some k → w.heap.size ≤ k := fun k hk => (f2 k hk).elim (fun h => by simp [Value.ownBlock] at h) (fun h => by have := hb1.size; omega)
  have HB : Hid (Below w.heap.size w w4) := by
    have a1 : Below w.heap.size w w2 := Below.trans_stay hb1 s2 (Nat.le_refl _) (wfoot_new (w1 := w1) hB (fun k hk => by simp [Value.ownBlock] at hk))
    have a2 : Below w.heap.size w w3 := Below.trans_stay a1 s3 (Nat.le_refl _) (wfoot_new (w1 := w1) hB hv2)
    exact a2.trans (hb4.mono a2.size)
  clear hb1 s2 f2 s3 f3 hown hb4 h1 h2 h3 hB hv2
  go_wp2
  go_ret
  exact ⟨ret_bool (by rw [str_toList]; decide), HB.out⟩

def ex14 : List UInt8 := [255, 255, 255, 255, 255, 255, 255, 254, 128, 128, 1, 128, 0, 7]
theorem k1 : Oct.rdU 8 ex14 false = (18446744073709551614, [128, 128, 1, 128, 0, 7], false) := by decide +kernel
theorem k2 : Oct.rdVar [128, 128, 1, 128, 0, 7] false = (16384, [128, 0, 7], false) := by decide +kernel
theorem k3 : Oct.rdVar [128, 0, 7] false = (0, [], true) := by decide +kernel
theorem k4 : Oct.i64 18446744073709551614 = -2 := by decide +kernel
theorem k5 : [] ++ Oct.var (Oct.u64 (-1)) = [255, 255, 255, 255, 255, 255, 255, 255, 255, 1] := by decide +kernel
theorem k6 : Oct.rdVar [255, 255, 255, 255, 255, 255, 255, 255, 255, 1] false = (-1, [], false) := by decide +kernel
theorem k7 : Oct.rdU 1 [] true = (0, [], true) := by decide +kernel
set_option maxHeartbeats 1000000 in
theorem octetKnown_walk (w : World) : Calls Try.prog 8 #[] w fun e w' => e = .returned (.bool true) ∧ Below w.heap.size w w' := by
  go_enter Try.func8, Try.ntmps8
  go_wp2_with fail
  refine (newReader_any _ _ _ _ ex14 (rds_lit w 5 ex14 (0, 0)) (by simp) (by simp [ex14])).mono ?_
  rintro e w1 ⟨B1, a1, c1, rfl, hB1, h1, ha1, hb1⟩
  simp only [World.size_alloc] at hB1 hb1
  have b1 : Below w.heap.size w w1 := ((Below.refl w.heap.size w).alloc (Nat.le_refl _) _).trans (hb1.mono (by omega))
  go_wp2_with fail
  refine (newWriter_any _).mono ?_
  rintro e w2 ⟨B2, rfl, hB2, hW2, hb2⟩
  have h2 := h1.below hb2
  have hlt1 := h1.lt
  have b2 := b1.trans (hb2.mono b1.size)
  go_wp2_with fail
  refine (known1 _).mono ?_
  rintro e w3 ⟨rfl, hb3⟩
  have h3 := h2.below hb3
  have hW3 := hW2.below hb3
  have b3 := b2.trans (hb3.mono b2.size)
  clear h1 h2 hW2 b1 b2 hb1 hb2 hb3
  go_wp2_with fail
  refine (rU64_any w3 B1 a1 c1 _ _ h3).mono ?_
  rw [k1]
  rintro e w4 ⟨rfl, a4, c4, h4, s4⟩
  rw [k4]
  simp only at h4
  have hne : B1 ≠ B2 := by omega
  have hW4 : IsW 95 w4 B2 (.slice none 0 0) [] := ⟨(s4.block B2 (blk_lt hW3.blk) (by omega)).trans hW3.blk, World.ownsRow_nil _ _ _ _⟩
  have b4 := below_R b3 s4 (by omega)
  clear h3 hW3 b3 s4
  go_wp2_with fail
  refine (rVar_any' w4 B1 a4 c4 _ _ h4).mono ?_
  rw [k2]
  rintro e w5 ⟨rfl, a5, c5, h5, s5⟩
  simp only at h5
  have hW5 : IsW 95 w5 B2 (.slice none 0 0) [] := ⟨(s5.block B2 (blk_lt hW4.blk) (by omega)).trans hW4.blk, World.ownsRow_nil _ _ _ _⟩
  have b5 := below_R b4 s5 (by omega)
  clear h4 hW4 b4 s5
  go_wp2_with fail
  refine (rVar_any' w5 B1 a5 c5 _ _ h5).mono ?_
  rw [k3]
  rintro e w6 ⟨rfl, a6, c6, h6, s6⟩
  simp only at h6
  have hW6 : IsW 95 w6 B2 (.slice none 0 0) [] := ⟨(s6.block B2 (blk_lt hW5.blk) (by omega)).trans hW5.blk, World.ownsRow_nil _ _ _ _⟩
  have b6 := below_R b5 s6 (by omega)
  clear h5 hW5 b5 s6
  go_wp2_with fail
  refine (oVar_any w6 B2 _ _ hW6 (-1) (by simp)).mono ?_
  rw [k5]
  rintro e w7 ⟨rfl, v7, hW7, s7, f7⟩
  have h7 := h6.stayW hW6 s7 hne
  have b7 : Below w.heap.size w w7 := Below.trans_stay b6 s7 (Nat.le_refl _) (wfoot_new (w1 := w6) (by omega) (fun k hk => by simp [Value.ownBlock] at hk))
  clear h6 hW6 b6 s7
  go_wp2_with fail
  refine (bytes_any w7 B2 _ _ hW7 (by simp)).mono ?_
  rintro e w8 ⟨a8, c8, rfl, hown8, hb8⟩
  have h8 := h7.below hb8
  have b8 := b7.trans (hb8.mono b7.size)
  obtain ⟨g, rfl, hg1, hg2⟩ := own_head hown8 (by simp)
  have hc9 : w8.cell? ⟨g, 9, none⟩ = some (.int .u8 1) := hown8.cellAt 9 (by simp)
  have hr8 := Rds.of_own hown8 rfl
  clear hW7 h7 b7 hb8 hown8
  go_wp2_with fail
  refine (newReader_any w8 _ _ _ _ hr8 (by simp) (by simp)).mono ?_
  rintro e w9 ⟨B9, a9, c9, rfl, hB9, h9, ha9, hb9⟩
  have h9r := h8.below hb9
  have b9 := b8.trans (hb9.mono b8.size)
  have hc9' : w9.cell? ⟨g, 9, none⟩ = some (.int .u8 1) := (hb9.cell (p := ⟨g, 9, none⟩) hg2).trans hc9
  have hlt8 := h8.lt
  have hsz9 := b9.size
  have hsz98 := hb9.size
  clear h8 b8 hb9 hr8 hc9
  go_wp2_with fail
  refine (lack_any w9 B1 _ _ _ _ h9r).mono ?_
  rintro e w' ⟨rfl, rfl⟩
  go_wp2_with fail
  refine (left_any w9 B1 _ _ _ _ h9r).mono ?_
  rintro e w' ⟨rfl, rfl⟩
  go_wp2_with fail
  refine (rU8_any w9 B1 _ _ _ _ h9r).mono ?_
  rw [k7]
  rintro e w10 ⟨rfl, a10, c10, h10, s10⟩
  have h10s := h9.stayR h9r s10 (by omega)
  have b10 := below_R b9 s10 (by omega)
  have hc10 : w10.cell? ⟨g, 9, none⟩ = some (.int .u8 1) := by
    by_cases hgB : g = B1
    · subst hgB; rw [cell_of_row w9 g _ _ _ _ h9r.blk] at hc9'; simp at hc9'
    · exact (World.cell?_of_block (w := w9) (s10.block g (by omega) hgB)).trans hc9'
  clear h9 h9r b9 s10 hc9'
  go_wp2_with fail
  refine (rVar_any' w10 B9 _ _ _ _ h10s).mono ?_
  rw [k6]
  rintro e w11 ⟨rfl, a11, c11, h11, s11⟩
  have b11 := below_R b10 s11 (by omega)
  go_wp2_with fail
  refine (lack_any w11 B9 _ _ _ _ h11).mono ?_
  rintro e w' ⟨rfl, rfl⟩
  go_wp2_with fail
  go_ret
  exact ⟨rfl, b11⟩
#print axioms octetKnown_walk
end Go.Proofs.Yteilcnpednigbaa
