/- DiskSynced: what it comes to. -/
import Derived.Test.YtjdadbpekaoijaaDskNm
import Derived.Test.YtjdadbpekaoijaaDskRen
import Derived.Test.YtjdadbpekaoijaaOpen6
import Derived.Lib.SmallJoins
namespace Go.Proofs.Ytjdadbpekaoijaa
open Go.RowKit Go.Tap Go.Maps
set_option linter.unusedVariables false
attribute [local go_sem ↓] Go.wp_at_zero Go.wp_at_succ

namespace Dsk
/-- Behind a Sync: what is so, whatever pends. -/
structure Firm (d : Dk) (F : Files) (w : Nat) : Prop where
  done : d.done = F
  works : d.works ≤ w
theorem Firm.one {d : Dk} {F : Files} {w : Nat} (h : Firm d F w) : Firm d.one.1 F (w + 1) := by
  obtain ⟨e1, _⟩ := d.one_same
  have := d.one_works
  exact ⟨by rw [e1]; exact h.done, by have := h.works; omega⟩
theorem Firm.up {d : Dk} {F : Files} {w w' : Nat} (h : Firm d F w) (hw : w ≤ w') : Firm d F w' := ⟨h.done, Nat.le_trans h.works hw⟩
theorem Firm.putr {d : Dk} {F : Files} {w : Nat} (h : Firm d F w) (x : Wk) (g : Files) : Firm (d.putr x g).1 F (w + 1) := by
  unfold Dk.putr
  split
  · exact ⟨h.one.done, h.one.works⟩
  · exact h.one
theorem Firm.append {d : Dk} {F : Files} {w : Nat} (h : Firm d F w) (s : Name) (l : List UInt8) : Firm (d.append s l).1 F (w + 1) := by
  unfold Dk.append
  split
  · exact h.up (by omega)
  · split
    · exact h.up (by omega)
    · exact h.putr _ _
theorem Firm.rename {d : Dk} {F : Files} {w : Nat} (h : Firm d F w) (s t : Name) : Firm (d.rename s t).1 F (w + 1) := by
  unfold Dk.rename
  split
  · exact h.putr _ _
  · exact h.up (by omega)
theorem Firm.remove {d : Dk} {F : Files} {w : Nat} (h : Firm d F w) (s : Name) : Firm (d.remove s).1 F (w + 1) := by
  unfold Dk.remove
  split
  · exact h.putr _ _
  · exact h.up (by omega)
theorem Firm.trunc {d : Dk} {F : Files} {w : Nat} (h : Firm d F w) (s : Name) (n : Int) : Firm (d.trunc s n).1 F (w + 1) := by
  unfold Dk.trunc
  split
  · split
    · exact h.up (by omega)
    · exact h.putr _ _
  · exact h.up (by omega)
theorem cr_zero (fs : Files) (l : List Wk) : ∀ j, cr 0 0 fs l j = fs
  | 0 => rfl
  | j + 1 => by
    have ih := cr_zero fs l j
    unfold cr
    split
    · rw [ih]
      unfold stp
      rw [if_neg (by omega), if_neg (fun h => by have h3 := h.2.2; simp [pl] at h3)]
    · exact ih
theorem Firm.crash {d : Dk} {F : Files} {w : Nat} (h : Firm d F w) : Firm (d.crash 0 0) F w ∧ (d.crash 0 0).now = F ∧ (d.crash 0 0).dead = false := by
  have e : ((0 : Int) % ((d.pend.length : Int) + 1)).toNat = 0 := by rw [Int.zero_emod]; rfl
  have e2 : cr 0 0 d.done d.pend d.pend.length = F := by rw [cr_zero]; exact h.done
  unfold Dk.crash
  rw [e, e2]
  exact ⟨⟨rfl, h.works⟩, rfl, rfl⟩
def y1 (A : List UInt8) : Dk := ⟨100000, [], [([97], A)], [⟨0, [97], [], A, 0⟩], -1, false, 1⟩
def y2 (A C : List UInt8) : Dk := ⟨100000, [], [([98], C), ([97], A)], [⟨0, [97], [], A, 0⟩, ⟨0, [98], [], C, 0⟩], -1, false, 2⟩
def y3 (A C : List UInt8) : Dk := ⟨100000, [([98], C), ([97], A)], [([98], C), ([97], A)], [], -1, false, 3⟩
theorem y1_is (A : List UInt8) (h : A.length ≤ 1000) : (newD 100000).append [97] A = (y1 A, 0) := (append_eq rfl rfl [97] A (by show 0 + A.length ≤ 100000; omega)).trans rfl
theorem y2_is (A C : List UInt8) (h : A.length ≤ 1000) (h2 : C.length ≤ 1000) : (y1 A).append [98] C = (y2 A C, 0) := (append_eq rfl rfl [98] C (by show (A.length + 0) + C.length ≤ 100000; omega)).trans rfl
theorem y3_is (A C : List UInt8) : (y2 A C).sync = (y3 A C, 0) := (sync_eq rfl rfl).trans rfl
end Dsk
theorem gooda : Dsk.good [97] := ⟨by decide, by decide⟩
theorem goodb : Dsk.good [98] := ⟨by decide, by decide⟩
set_option maxHeartbeats 16000000 in
set_option maxRecDepth 100000 in
theorem diskSynced_walk (w : World) (s1 : Option Addr) (n1 c1 : Nat) (l1 : List UInt8) (g1 : ArgB 140737488351232 w s1 n1 c1 l1) (s2 : Option Addr) (n2 c2 : Nat) (l2 : List UInt8) (g2 : ArgB 140737488351232 w s2 n2 c2 l2)
    (s3 : Option Addr) (n3 c3 : Nat) (xs : List StepE) (g3 : ArgS6 140737488351232 w s3 n3 c3 xs) :
    Calls Try.prog 9 #[.slice s1 n1 c1, .slice s2 n2 c2, .slice s3 n3 c3] w fun e w' => e = .returned (.bool true) ∧ Below w.heap.size w w' := by
  have R1 := Lib.hid g1.rds
  have R2 := Lib.hid g2.rds
  have e1 := Lib.hid (And.intro g1.le (And.intro g1.none g1.reach))
  have e2 := Lib.hid (And.intro g2.le (And.intro g2.none g2.reach))
  have hxl := g3.len
  have G3 := Lib.hid g3
  have kc := Lib.hid (fun (w : World) (C : Array Value) (n c : Nat) => Lib.run_convert_bytes_const (P := Try.prog) w 25 5 C n c Try.underlying25 Try.underlying5)
  clear g1 g2 g3
  go_enter Try.func9, Try.ntmps9
  go_wp2_with fail
  refine (new100000 w).mono ?_
  rintro e w1 ⟨B, rfl, h1, hb1⟩
  go_wp2_with fail
  refine (few_any w1 s1 n1 c1 1000 l1 (R1.out.below hb1 (fun h0 b o e => by subst e; exact R1.out.lt h0)) e1.out.1 e1.out.2.1 (by have := e1.out.2.2; omega) (by omega) (by omega)).mono ?_
  rintro e w2 ⟨aA, cA, rfl, hoA, hb2⟩
  obtain ⟨A, hA⟩ : ∃ A, A = l1.take (1000 : Int).toNat := ⟨_, rfl⟩
  rw [← hA] at hoA ⊢
  have hAl : A.length ≤ 1000 := by rw [hA, List.length_take]; show min 1000 _ ≤ _; omega
  have b2 := hb1.trans (hb2.mono hb1.size)
  have KA := Keeps.of_own hoA rfl
  have h2 := h1.below hb2
  clear h1 hA hoA hb1 hb2
  go_wp2_with fail
  refine (few_any w2 s2 n2 c2 1000 l2 (R2.out.below b2 (fun h0 b o e => by subst e; exact R2.out.lt h0)) e2.out.1 e2.out.2.1 (by have := e2.out.2.2; omega) (by omega) (by omega)).mono ?_
  rintro e w3 ⟨aC, cC, rfl, hoC, hb3⟩
  obtain ⟨C, hC⟩ : ∃ C, C = l2.take (1000 : Int).toNat := ⟨_, rfl⟩
  rw [← hC] at hoC ⊢
  have hCl : C.length ≤ 1000 := by rw [hC, List.length_take]; show min 1000 _ ≤ _; omega
  have b3 := b2.trans (hb3.mono b2.size)
  have KA3 := KA.stay (KeepU.below hb3 (Nat.le_refl _))
  have KC := Keeps.of_own hoC rfl
  have h3 := h2.below hb3
  clear h2 hC hoC hb3 b2 KA
  go_wp2_with fail
  refine (known6 w3).mono ?_
  rintro e w4 ⟨rfl, hb4⟩
  have b4 := b3.trans (hb4.mono b3.size)
  have KA4 := KA3.stay (KeepU.below hb4 (Nat.le_refl _))
  have KC4 := KC.stay (KeepU.below hb4 (Nat.le_refl _))
  have h4 := h3.below hb4
  clear h3 hb4 b3 KA3 KC
  go_wp2_with fail
  refine (append_yes w4 w.heap.size B _ _ h4 (by decide) [97] gooda aA A.length cA A KA4.rds KA4.none (by omega) (Dsk.y1_is A hAl)).mono ?_
  rintro e w5 ⟨rfl, h5, hb5, kt5⟩
  have b5 := b4.trans hb5
  have KA5 := KA4.stay kt5.ku
  have KC5 := KC4.stay kt5.ku
  clear h4 hb5 kt5 b4 KA4 KC4
  go_wp2_with fail
  refine (append_yes w5 w.heap.size B _ _ h5 (by show 1 ≤ _; omega) [98] goodb aC C.length cC C KC5.rds KC5.none (by omega) (Dsk.y2_is A C hAl hCl)).mono ?_
  rintro e w6 ⟨rfl, h6, hb6, kt6⟩
  have b6 := b5.trans hb6
  have KA6 := KA5.stay kt6.ku
  have KC6 := KC5.stay kt6.ku
  clear h5 hb6 kt6 b5 KA5 KC5
  go_wp2_with fail
  refine (sync_yes w6 w.heap.size B _ _ h6 (by show 2 ≤ _; omega) (Dsk.y3_is A C)).mono ?_
  rintro e w7 ⟨rfl, h7, hb7, kt7⟩
  have b7 := b6.trans hb7
  have KA7 := Lib.hid (KA6.stay kt7.ku)
  have KC7 := Lib.hid (KC6.stay kt7.ku)
  have H7 := Lib.hid h7
  clear h6 hb7 kt7 b6 KA6 KC6 h7
  obtain ⟨F, hF⟩ : ∃ F : Dsk.Files, F = [([98], C), ([97], A)] := ⟨_, rfl⟩
  have HF := Lib.hid hF
  clear hF
  go_wp2_with fail
  go_loopw [8] (fun iv wr => ∃ (d : Dsk.Dk) (i : Nat), iv = .int .i64 (i : Int) ∧ i ≤ n3 ∧ i ≤ 10 ∧ Hid (IsDk wr w.heap.size B d) ∧ Hid (Dsk.Firm d F (3 + i) ∧ d.now = F ∧ d.dead = false) ∧ Hid (Keeps wr aA A.length cA A) ∧ Hid (Keeps wr aC C.length cC C) ∧ Below w.heap.size w wr) (fun iv _ => n3 - (intOf iv).toNat)
  case atStart => exact ⟨Dsk.y3 A C, 0, rfl, Nat.zero_le _, Nat.zero_le _, H7, ⟨⟨HF.out.symm, Nat.le_refl _⟩, HF.out.symm, rfl⟩, KA7, KC7, b7⟩
  case round =>
    clear H7 KA7 KC7 b7
    obtain ⟨d, i, rfl, hin, hi10, HD, HN, HA, HC, hb⟩ := hrel
    by_cases hgo : i < n3 ∧ i < 10
    · have t0 : decide ((i : Int) < (n3 : Int)) = true := decide_eq_true (by omega)
      have t0' : decide (i < n3) = true := decide_eq_true hgo.1
      have t1 : decide ((i : Int) < 10) = true := decide_eq_true (by omega)
      have t1' : decide (i < 10) = true := decide_eq_true hgo.2
      have hx : xs[i]? = some (xs[i]'(by omega)) := List.getElem?_eq_getElem _
      generalize xs[i]'(by omega) = x at hx
      obtain ⟨b0, o0, rfl, hat⟩ := G3.out.at_ (by omega)
      obtain ⟨hxo, hcx, _⟩ := hat i x hx
      have hc0 := hcx 0 (by omega)
      rw [Nat.add_zero] at hc0
      have hw0 : x.cells[0]? = some (.int .i64 x.what) := rfl
      rw [hw0] at hc0
      have ca : wr.cell? ⟨b0, o0 + i * 6, none⟩ = some (.int .i64 x.what) := (World.cell?_of_block (hb.block b0 (World.block_lt_of_cell? w _ hc0))).trans hc0
      obtain ⟨z, hz⟩ : ∃ z, z = x.what := ⟨_, rfl⟩
      rw [← hz] at ca
      have hzb : In64 z := by rw [hz]; exact hxo.1
      have hiw := wrapi' ((i : Int) + 1) (by omega)
      have hpk := pick_any wr z 4 hzb.1 hzb.2 (by omega) (by omega)
      obtain ⟨q, hq⟩ : ∃ q, q = z % 4 := ⟨_, rfl⟩
      rw [← hq] at hpk
      have hq4 : q = 0 ∨ q = 1 ∨ q = 2 ∨ q = 3 := by omega
      have hwk : d.works ≤ 99999 := by have := HN.out.1.works; omega
      have hrm := remove_any wr w.heap.size B d HD.out hwk [97] gooda
      have hrn := rename_any wr w.heap.size B d HD.out hwk [98] [97] goodb gooda
      have htr := trunc_any wr w.heap.size B d HD.out hwk [97] gooda 0
      have happ := fun fr => append_any (wr.alloc (.cells (bv [109, 111, 114, 101]).toArray 5 fr)) w.heap.size B d (HD.out.below ((Below.refl _ _).alloc (Nat.le_refl _) _)) hwk [97] gooda _ 4 4 [109, 111, 114, 101] (rds_lit wr _ [109, 111, 114, 101] fr) (by intro h; cases h) (by omega)
      have HQ := Lib.hid hq
      clear hat hxo hcx hc0 hw0 hz hq hzb hx
      rcases hq4 with rfl | rfl | rfl | rfl
      · go_wp2_with fail
        refine hpk.mono ?_
        rintro e w' ⟨rfl, rfl⟩
        clear hpk happ hrn htr
        go_wp2_with fail
        refine hrm.mono ?_
        rintro e w5 ⟨rfl, h5, hb5, kt5⟩
        have f5 := HN.out.1.remove [97]
        have b5 := hb.trans hb5
        have KA5 := HA.out.stay kt5.ku
        have KC5 := HC.out.stay kt5.ku
        obtain ⟨dd, hdd⟩ : ∃ dd, dd = (d.remove [97]).1 := ⟨_, rfl⟩
        rw [← hdd] at h5 f5
        clear hdd hrm HD HN HA HC hb5 kt5
        have hcr := crash_any w5 w.heap.size B dd h5 0 0
        go_wp2_with fail
        refine hcr.mono ?_
        rintro e w6 ⟨rfl, h6, hb6, kt6⟩
        obtain ⟨f6, n6, dd6⟩ := f5.crash
        obtain ⟨d6, hd6⟩ : ∃ d6, d6 = dd.crash 0 0 := ⟨_, rfl⟩
        rw [← hd6] at h6 f6 n6 dd6
        have b6 := b5.trans hb6
        have KA6 := KA5.stay kt6.ku
        have KC6 := KC5.stay kt6.ku
        have N6 := Lib.hid (And.intro n6 dd6)
        clear hd6 hcr h5 hb6 kt6 b5 KA5 KC5 f5 n6 dd6
        go_wp2_with fail
        refine (read_is w6 w.heap.size B d6 h6 N6.out.2 [97] (by decide) A true A.length (by rw [N6.out.1, HF.out]; rfl) (by rw [N6.out.1, HF.out]; rfl) rfl).mono ?_
        rintro e w7 ⟨a7, c7, rfl, ho7, hb7⟩
        have b7 := b6.trans (hb7.mono b6.size)
        have KX := Keeps.of_own ho7 rfl
        have KA7 := KA6.stay (KeepU.below hb7 (Nat.le_refl _))
        have KC7 := KC6.stay (KeepU.below hb7 (Nat.le_refl _))
        have h7 := h6.below hb7
        clear h6 hb7 ho7 b6 KA6 KC6
        go_wp2_with fail
        refine (read_is w7 w.heap.size B d6 h7 N6.out.2 [98] (by decide) C true C.length (by rw [N6.out.1, HF.out]; rfl) (by rw [N6.out.1, HF.out]; rfl) rfl).mono ?_
        rintro e w8 ⟨a8, c8, rfl, ho8, hb8⟩
        have b8 := b7.trans (hb8.mono b7.size)
        have KY := Keeps.of_own ho8 rfl
        have KX8 := KX.stay (KeepU.below hb8 (Nat.le_refl _))
        have KA8 := KA7.stay (KeepU.below hb8 (Nat.le_refl _))
        have KC8 := KC7.stay (KeepU.below hb8 (Nat.le_refl _))
        have h8 := h7.below hb8
        have cx := convB w8 a7 A.length c7 A KX8.rds
        have ca8 := convB w8 aA A.length cA A KA8.rds
        have cy := convB w8 a8 C.length c8 C KY.rds
        have cb8 := convB w8 aC C.length cC C KC8.rds
        have hsa := str_eq A
        have hsc := str_eq C
        have hnm := names_any w8 w.heap.size B d6 h8 N6.out.2
        have HA8 := Lib.hid KA8
        have HC8 := Lib.hid KC8
        have H8 := Lib.hid h8
        clear h7 hb8 ho8 b7 KX KX8 KY KA7 KC7 KA8 KC8 h8
        go_wp2_with fail
        refine hnm.mono ?_
        rintro e w9 ⟨v9, ss, rfl, hp9, ho9, hb9⟩
        have hl2 : ss.length = 2 := by rw [hp9.length_eq, N6.out.1, HF.out]; rfl
        rw [hl2] at ho9
        obtain ⟨a9, c9, rfl, _⟩ := ownsRow_slice ho9
        have b9 := b8.trans (hb9.mono b8.size)
        have KA9 := HA8.out.stay (KeepU.below hb9 (Nat.le_refl _))
        have KC9 := HC8.out.stay (KeepU.below hb9 (Nat.le_refl _))
        have h9 := H8.out.below hb9
        clear hnm hl2 hp9 ho9 hb9 cx ca8 cy cb8 hsa hsc
        go_wp2
        go_roundw
        case rel => exact ⟨d6, i + 1, by push_cast; rfl, by omega, by omega, h9, ⟨f6.up (by omega), N6.out.1, N6.out.2⟩, KA9, KC9, b9⟩
        case measure => first | (simp [intOf]; omega) | (simp [intOf]; done) | omega
      · go_wp2_with fail
        refine hpk.mono ?_
        rintro e w' ⟨rfl, rfl⟩
        clear hpk happ hrm htr
        go_wp2_with fail
        refine hrn.mono ?_
        rintro e w5 ⟨rfl, h5, hb5, kt5⟩
        have f5 := HN.out.1.rename [98] [97]
        have b5 := hb.trans hb5
        have KA5 := HA.out.stay kt5.ku
        have KC5 := HC.out.stay kt5.ku
        obtain ⟨dd, hdd⟩ : ∃ dd, dd = (d.rename [98] [97]).1 := ⟨_, rfl⟩
        rw [← hdd] at h5 f5
        clear hdd hrn HD HN HA HC hb5 kt5
        have hcr := crash_any w5 w.heap.size B dd h5 0 0
        go_wp2_with fail
        refine hcr.mono ?_
        rintro e w6 ⟨rfl, h6, hb6, kt6⟩
        obtain ⟨f6, n6, dd6⟩ := f5.crash
        obtain ⟨d6, hd6⟩ : ∃ d6, d6 = dd.crash 0 0 := ⟨_, rfl⟩
        rw [← hd6] at h6 f6 n6 dd6
        have b6 := b5.trans hb6
        have KA6 := KA5.stay kt6.ku
        have KC6 := KC5.stay kt6.ku
        have N6 := Lib.hid (And.intro n6 dd6)
        clear hd6 hcr h5 hb6 kt6 b5 KA5 KC5 f5 n6 dd6
        go_wp2_with fail
        refine (read_is w6 w.heap.size B d6 h6 N6.out.2 [97] (by decide) A true A.length (by rw [N6.out.1, HF.out]; rfl) (by rw [N6.out.1, HF.out]; rfl) rfl).mono ?_
        rintro e w7 ⟨a7, c7, rfl, ho7, hb7⟩
        have b7 := b6.trans (hb7.mono b6.size)
        have KX := Keeps.of_own ho7 rfl
        have KA7 := KA6.stay (KeepU.below hb7 (Nat.le_refl _))
        have KC7 := KC6.stay (KeepU.below hb7 (Nat.le_refl _))
        have h7 := h6.below hb7
        clear h6 hb7 ho7 b6 KA6 KC6
        go_wp2_with fail
        refine (read_is w7 w.heap.size B d6 h7 N6.out.2 [98] (by decide) C true C.length (by rw [N6.out.1, HF.out]; rfl) (by rw [N6.out.1, HF.out]; rfl) rfl).mono ?_
        rintro e w8 ⟨a8, c8, rfl, ho8, hb8⟩
        have b8 := b7.trans (hb8.mono b7.size)
        have KY := Keeps.of_own ho8 rfl
        have KX8 := KX.stay (KeepU.below hb8 (Nat.le_refl _))
        have KA8 := KA7.stay (KeepU.below hb8 (Nat.le_refl _))
        have KC8 := KC7.stay (KeepU.below hb8 (Nat.le_refl _))
        have h8 := h7.below hb8
        have cx := convB w8 a7 A.length c7 A KX8.rds
        have ca8 := convB w8 aA A.length cA A KA8.rds
        have cy := convB w8 a8 C.length c8 C KY.rds
        have cb8 := convB w8 aC C.length cC C KC8.rds
        have hsa := str_eq A
        have hsc := str_eq C
        have hnm := names_any w8 w.heap.size B d6 h8 N6.out.2
        have HA8 := Lib.hid KA8
        have HC8 := Lib.hid KC8
        have H8 := Lib.hid h8
        clear h7 hb8 ho8 b7 KX KX8 KY KA7 KC7 KA8 KC8 h8
        go_wp2_with fail
        refine hnm.mono ?_
        rintro e w9 ⟨v9, ss, rfl, hp9, ho9, hb9⟩
        have hl2 : ss.length = 2 := by rw [hp9.length_eq, N6.out.1, HF.out]; rfl
        rw [hl2] at ho9
        obtain ⟨a9, c9, rfl, _⟩ := ownsRow_slice ho9
        have b9 := b8.trans (hb9.mono b8.size)
        have KA9 := HA8.out.stay (KeepU.below hb9 (Nat.le_refl _))
        have KC9 := HC8.out.stay (KeepU.below hb9 (Nat.le_refl _))
        have h9 := H8.out.below hb9
        clear hnm hl2 hp9 ho9 hb9 cx ca8 cy cb8 hsa hsc
        go_wp2
        go_roundw
        case rel => exact ⟨d6, i + 1, by push_cast; rfl, by omega, by omega, h9, ⟨f6.up (by omega), N6.out.1, N6.out.2⟩, KA9, KC9, b9⟩
        case measure => first | (simp [intOf]; omega) | (simp [intOf]; done) | omega
      · go_wp2_with fail
        refine hpk.mono ?_
        rintro e w' ⟨rfl, rfl⟩
        clear hpk happ hrm hrn
        go_wp2_with fail
        refine htr.mono ?_
        rintro e w5 ⟨rfl, h5, hb5, kt5⟩
        have f5 := HN.out.1.trunc [97] 0
        have b5 := hb.trans hb5
        have KA5 := HA.out.stay kt5.ku
        have KC5 := HC.out.stay kt5.ku
        obtain ⟨dd, hdd⟩ : ∃ dd, dd = (d.trunc [97] 0).1 := ⟨_, rfl⟩
        rw [← hdd] at h5 f5
        clear hdd htr HD HN HA HC hb5 kt5
        have hcr := crash_any w5 w.heap.size B dd h5 0 0
        go_wp2_with fail
        refine hcr.mono ?_
        rintro e w6 ⟨rfl, h6, hb6, kt6⟩
        obtain ⟨f6, n6, dd6⟩ := f5.crash
        obtain ⟨d6, hd6⟩ : ∃ d6, d6 = dd.crash 0 0 := ⟨_, rfl⟩
        rw [← hd6] at h6 f6 n6 dd6
        have b6 := b5.trans hb6
        have KA6 := KA5.stay kt6.ku
        have KC6 := KC5.stay kt6.ku
        have N6 := Lib.hid (And.intro n6 dd6)
        clear hd6 hcr h5 hb6 kt6 b5 KA5 KC5 f5 n6 dd6
        go_wp2_with fail
        refine (read_is w6 w.heap.size B d6 h6 N6.out.2 [97] (by decide) A true A.length (by rw [N6.out.1, HF.out]; rfl) (by rw [N6.out.1, HF.out]; rfl) rfl).mono ?_
        rintro e w7 ⟨a7, c7, rfl, ho7, hb7⟩
        have b7 := b6.trans (hb7.mono b6.size)
        have KX := Keeps.of_own ho7 rfl
        have KA7 := KA6.stay (KeepU.below hb7 (Nat.le_refl _))
        have KC7 := KC6.stay (KeepU.below hb7 (Nat.le_refl _))
        have h7 := h6.below hb7
        clear h6 hb7 ho7 b6 KA6 KC6
        go_wp2_with fail
        refine (read_is w7 w.heap.size B d6 h7 N6.out.2 [98] (by decide) C true C.length (by rw [N6.out.1, HF.out]; rfl) (by rw [N6.out.1, HF.out]; rfl) rfl).mono ?_
        rintro e w8 ⟨a8, c8, rfl, ho8, hb8⟩
        have b8 := b7.trans (hb8.mono b7.size)
        have KY := Keeps.of_own ho8 rfl
        have KX8 := KX.stay (KeepU.below hb8 (Nat.le_refl _))
        have KA8 := KA7.stay (KeepU.below hb8 (Nat.le_refl _))
        have KC8 := KC7.stay (KeepU.below hb8 (Nat.le_refl _))
        have h8 := h7.below hb8
        have cx := convB w8 a7 A.length c7 A KX8.rds
        have ca8 := convB w8 aA A.length cA A KA8.rds
        have cy := convB w8 a8 C.length c8 C KY.rds
        have cb8 := convB w8 aC C.length cC C KC8.rds
        have hsa := str_eq A
        have hsc := str_eq C
        have hnm := names_any w8 w.heap.size B d6 h8 N6.out.2
        have HA8 := Lib.hid KA8
        have HC8 := Lib.hid KC8
        have H8 := Lib.hid h8
        clear h7 hb8 ho8 b7 KX KX8 KY KA7 KC7 KA8 KC8 h8
        go_wp2_with fail
        refine hnm.mono ?_
        rintro e w9 ⟨v9, ss, rfl, hp9, ho9, hb9⟩
        have hl2 : ss.length = 2 := by rw [hp9.length_eq, N6.out.1, HF.out]; rfl
        rw [hl2] at ho9
        obtain ⟨a9, c9, rfl, _⟩ := ownsRow_slice ho9
        have b9 := b8.trans (hb9.mono b8.size)
        have KA9 := HA8.out.stay (KeepU.below hb9 (Nat.le_refl _))
        have KC9 := HC8.out.stay (KeepU.below hb9 (Nat.le_refl _))
        have h9 := H8.out.below hb9
        clear hnm hl2 hp9 ho9 hb9 cx ca8 cy cb8 hsa hsc
        go_wp2
        go_roundw
        case rel => exact ⟨d6, i + 1, by push_cast; rfl, by omega, by omega, h9, ⟨f6.up (by omega), N6.out.1, N6.out.2⟩, KA9, KC9, b9⟩
        case measure => first | (simp [intOf]; omega) | (simp [intOf]; done) | omega
      · have HAPP := Lib.hid happ
        have kcc := kc.out
        go_wp2_with fail
        refine hpk.mono ?_
        rintro e w' ⟨rfl, rfl⟩
        clear hpk happ hrm hrn htr
        go_wp2_with fail
        refine (HAPP.out _).mono ?_
        rintro e w5 ⟨rfl, h5, hb5, kt5⟩
        have f5 := HN.out.1.append [97] [109, 111, 114, 101]
        have hal : ∀ fr, Below wr.heap.size wr (wr.alloc (.cells (bv [109, 111, 114, 101]).toArray 5 fr)) := fun fr => (Below.refl _ _).alloc (Nat.le_refl _) _
        have b5 := (hb.trans ((hal _).mono hb.size)).trans hb5
        have KA5 := (HA.out.stay (KeepU.alloc wr _)).stay kt5.ku
        have KC5 := (HC.out.stay (KeepU.alloc wr _)).stay kt5.ku
        obtain ⟨dd, hdd⟩ : ∃ dd, dd = (d.append [97] [109, 111, 114, 101]).1 := ⟨_, rfl⟩
        rw [← hdd] at h5 f5
        clear hdd HAPP HD HN HA HC hb5 kt5 hal kcc
        have hcr := crash_any w5 w.heap.size B dd h5 0 0
        go_wp2_with fail
        refine hcr.mono ?_
        rintro e w6 ⟨rfl, h6, hb6, kt6⟩
        obtain ⟨f6, n6, dd6⟩ := f5.crash
        obtain ⟨d6, hd6⟩ : ∃ d6, d6 = dd.crash 0 0 := ⟨_, rfl⟩
        rw [← hd6] at h6 f6 n6 dd6
        have b6 := b5.trans hb6
        have KA6 := KA5.stay kt6.ku
        have KC6 := KC5.stay kt6.ku
        have N6 := Lib.hid (And.intro n6 dd6)
        clear hd6 hcr h5 hb6 kt6 b5 KA5 KC5 f5 n6 dd6
        go_wp2_with fail
        refine (read_is w6 w.heap.size B d6 h6 N6.out.2 [97] (by decide) A true A.length (by rw [N6.out.1, HF.out]; rfl) (by rw [N6.out.1, HF.out]; rfl) rfl).mono ?_
        rintro e w7 ⟨a7, c7, rfl, ho7, hb7⟩
        have b7 := b6.trans (hb7.mono b6.size)
        have KX := Keeps.of_own ho7 rfl
        have KA7 := KA6.stay (KeepU.below hb7 (Nat.le_refl _))
        have KC7 := KC6.stay (KeepU.below hb7 (Nat.le_refl _))
        have h7 := h6.below hb7
        clear h6 hb7 ho7 b6 KA6 KC6
        go_wp2_with fail
        refine (read_is w7 w.heap.size B d6 h7 N6.out.2 [98] (by decide) C true C.length (by rw [N6.out.1, HF.out]; rfl) (by rw [N6.out.1, HF.out]; rfl) rfl).mono ?_
        rintro e w8 ⟨a8, c8, rfl, ho8, hb8⟩
        have b8 := b7.trans (hb8.mono b7.size)
        have KY := Keeps.of_own ho8 rfl
        have KX8 := KX.stay (KeepU.below hb8 (Nat.le_refl _))
        have KA8 := KA7.stay (KeepU.below hb8 (Nat.le_refl _))
        have KC8 := KC7.stay (KeepU.below hb8 (Nat.le_refl _))
        have h8 := h7.below hb8
        have cx := convB w8 a7 A.length c7 A KX8.rds
        have ca8 := convB w8 aA A.length cA A KA8.rds
        have cy := convB w8 a8 C.length c8 C KY.rds
        have cb8 := convB w8 aC C.length cC C KC8.rds
        have hsa := str_eq A
        have hsc := str_eq C
        have hnm := names_any w8 w.heap.size B d6 h8 N6.out.2
        have HA8 := Lib.hid KA8
        have HC8 := Lib.hid KC8
        have H8 := Lib.hid h8
        clear h7 hb8 ho8 b7 KX KX8 KY KA7 KC7 KA8 KC8 h8
        go_wp2_with fail
        refine hnm.mono ?_
        rintro e w9 ⟨v9, ss, rfl, hp9, ho9, hb9⟩
        have hl2 : ss.length = 2 := by rw [hp9.length_eq, N6.out.1, HF.out]; rfl
        rw [hl2] at ho9
        obtain ⟨a9, c9, rfl, _⟩ := ownsRow_slice ho9
        have b9 := b8.trans (hb9.mono b8.size)
        have KA9 := HA8.out.stay (KeepU.below hb9 (Nat.le_refl _))
        have KC9 := HC8.out.stay (KeepU.below hb9 (Nat.le_refl _))
        have h9 := H8.out.below hb9
        clear hnm hl2 hp9 ho9 hb9 cx ca8 cy cb8 hsa hsc
        go_wp2
        go_roundw
        case rel => exact ⟨d6, i + 1, by push_cast; rfl, by omega, by omega, h9, ⟨f6.up (by omega), N6.out.1, N6.out.2⟩, KA9, KC9, b9⟩
        case measure => first | (simp [intOf]; omega) | (simp [intOf]; done) | omega
    · obtain ⟨t0, q0, q0', q1⟩ : ∃ t0 : Bool, decide ((i : Int) < (n3 : Int)) = t0 ∧ decide (i < n3) = t0 ∧ (t0 = true → decide ((i : Int) < 10) = false ∧ decide (i < 10) = false) := by
        by_cases h : i < n3
        · exact ⟨true, decide_eq_true (by omega), decide_eq_true h, fun _ => ⟨decide_eq_false (by omega), decide_eq_false (by omega)⟩⟩
        · exact ⟨false, decide_eq_false (by omega), decide_eq_false h, fun e => by cases e⟩
      clear hgo
      have hu := usedm_any wr w.heap.size B d HD.out
      obtain ⟨U, hU⟩ : ∃ U, U = A.length + C.length := ⟨_, rfl⟩
      have hUs : (if d.dead = true then 0 else Dsk.used d.now) = U := by rw [HN.out.2.2, HN.out.2.1, HF.out, hU]; simp [Dsk.used]; omega
      rw [hUs] at hu
      have hUw : IntKind.i64.wrap ((A.length : Int) + (C.length : Int)) = (U : Int) := by rw [hU]; push_cast; exact wrapi' _ (by omega)
      clear hUs hU
      cases t0 <;> (try obtain ⟨q2, q2'⟩ := q1 rfl) <;> clear q1
      all_goals
        go_wp2_with fail
        refine hu.mono ?_
        rintro e w5 ⟨rfl, hb5⟩
        have b5 := hb.trans (hb5.mono hb.size)
        clear hu
        go_wp2
        go_ret
        exact ⟨rfl, b5⟩
end Go.Proofs.Ytjdadbpekaoijaa
