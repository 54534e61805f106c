/- DiskRenames: what it comes to. -/
import Derived.Test.YtjdadbpekaoijaaDskKn
import Derived.Test.YtjdadbpekaoijaaDskOp4
import Derived.Test.YtjdadbpekaoijaaOpen
namespace Go.Proofs.Ytjdadbpekaoijaa
open Go.RowKit Go.Tap Go.Maps
set_option linter.unusedVariables false

namespace Dsk
theorem one_eq {d : Dk} (h1 : d.dead = false) (h2 : d.fuse = -1) : d.one = ({ d with works := d.works + 1 }, true) := by
  obtain ⟨room, done, now, pend, fuse, dead, works⟩ := d
  simp only at h1 h2
  subst h1 h2
  rfl
theorem append_eq {d : Dk} (h1 : d.dead = false) (h2 : d.fuse = -1) (s : Name) (l : List UInt8) (h3 : used d.now + l.length ≤ d.room) :
    d.append s l = ({ d with pend := d.pend ++ [⟨0, s, [], l, 0⟩], now := Dsk.put d.now s (Dsk.val d.now s ++ l), works := d.works + 1 }, 0) := by
  unfold Dk.append Dk.putr
  rw [if_neg (by rw [h1]; simp), if_neg (by omega), one_eq h1 h2, if_pos rfl]
theorem sync_eq {d : Dk} (h1 : d.dead = false) (h2 : d.fuse = -1) : d.sync = ({ d with done := d.now, pend := [], works := d.works + 1 }, 0) := by
  unfold Dk.sync
  rw [one_eq h1 h2, if_pos rfl]
theorem rename_eq {d : Dk} (h1 : d.dead = false) (h2 : d.fuse = -1) (s t : Name) (h3 : (get d.now s).isSome = true) :
    d.rename s t = ({ d with pend := d.pend ++ [⟨2, s, t, [], 0⟩], now := Dsk.put (Dsk.del d.now s) t (Dsk.val d.now s), works := d.works + 1 }, 0) := by
  have ht : d.there s = 0 := by unfold Dk.there; rw [if_neg (by rw [h1]; simp), if_pos h3]
  unfold Dk.rename Dk.putr
  rw [if_pos ht, one_eq h1 h2, if_pos rfl]
def r1 (A : List UInt8) : Dk := ⟨10000, [], [([102], A)], [⟨0, [102], [], A, 0⟩], -1, false, 1⟩
def r2 (A : List UInt8) : Dk := ⟨10000, [([102], A)], [([102], A)], [], -1, false, 2⟩
def r3 (A C : List UInt8) : Dk := ⟨10000, [([102], A)], [([103], C), ([102], A)], [⟨0, [103], [], C, 0⟩], -1, false, 3⟩
def r4 (A C : List UInt8) : Dk := ⟨10000, [([103], C), ([102], A)], [([103], C), ([102], A)], [], -1, false, 4⟩
def r5 (A C : List UInt8) : Dk := ⟨10000, [([103], C), ([102], A)], [([102], C)], [⟨2, [103], [102], [], 0⟩], -1, false, 5⟩
def r6 (A C : List UInt8) (done : Int) : Dk := if done % 2 = 0 then ⟨10000, [([103], C), ([102], A)], [([103], C), ([102], A)], [], -1, false, 5⟩ else ⟨10000, [([102], C)], [([102], C)], [], -1, false, 5⟩
theorem r1_is (A : List UInt8) (h : A.length ≤ 1000) : (newD 10000).append [102] A = (r1 A, 0) := (append_eq rfl rfl [102] A (by show 0 + A.length ≤ 10000; omega)).trans rfl
theorem r2_is (A : List UInt8) : (r1 A).sync = (r2 A, 0) := (sync_eq rfl rfl).trans rfl
theorem r3_is (A C : List UInt8) (h : A.length ≤ 1000) (h2 : C.length ≤ 1000) : (r2 A).append [103] C = (r3 A C, 0) := (append_eq rfl rfl [103] C (by show (A.length + 0) + C.length ≤ 10000; omega)).trans rfl
theorem r4_is (A C : List UInt8) : (r3 A C).sync = (r4 A C, 0) := (sync_eq rfl rfl).trans rfl
theorem r5_is (A C : List UInt8) : (r4 A C).rename [103] [102] = (r5 A C, 0) := (rename_eq rfl rfl [103] [102] rfl).trans rfl
theorem r6_is (A C : List UInt8) (done cut : Int) : (r5 A C).crash done cut = r6 A C done := by
  have h : done % 2 = 0 ∨ done % 2 = 1 := by omega
  unfold r6
  unfold Dk.crash
  have e : (((r5 A C).pend.length : Nat) : Int) + 1 = 2 := rfl
  rw [e]
  rcases h with h | h
  · rw [h]; rfl
  · rw [h]; rfl
end Dsk
theorem goodg : Dsk.good [103] := ⟨by decide, by decide⟩
theorem rename_yes (w : World) (lo B : Nat) (d d' : Dsk.Dk) (h : IsDk w lo B d) (hw : d.works ≤ 99999) (s t : List UInt8) (hs : Dsk.good s) (ht : Dsk.good t) (hap : d.rename s t = (d', 0)) :
    Calls Try.prog 35 #[.pointer (some ⟨B, 0, none⟩), .string (str s), .string (str t)] w fun e w' => e = .returned .nilIface ∧ IsDk w' lo B d' ∧ Below lo w w' ∧ KeepT w w' := by
  have := rename_any w lo B d h hw s t hs ht
  rw [hap] at this
  exact this
theorem str_eq (a : List UInt8) : ((str a).toList == (str a).toList) = true := by simp
set_option maxHeartbeats 8000000 in
set_option maxRecDepth 100000 in
theorem diskRenames_walk (w : World) (s1 : Option Addr) (n1 c1 : Nat) (l1 : List UInt8) (g1 : ArgB 140737488351232 w s1 n1 c1 l1) (s2 : Option Addr) (n2 c2 : Nat) (l2 : List UInt8) (g2 : ArgB 140737488351232 w s2 n2 c2 l2)
    (a3 : Int) (b3 : -9223372036854775808 ≤ a3 ∧ a3 ≤ 9223372036854775807) (a4 : Int) (b4 : -9223372036854775808 ≤ a4 ∧ a4 ≤ 9223372036854775807) :
    Calls Try.prog 6 #[.slice s1 n1 c1, .slice s2 n2 c2, .int .i64 a3, .int .i64 a4] w fun e w' => e = .returned (.bool true) ∧ Below w.heap.size w w' := by
  have R1 := Lib.hid g1.rds
  have R2 := Lib.hid g2.rds
  have e1 := Lib.hid (And.intro g1.le (And.intro g1.none g1.reach))
  have e2 := Lib.hid (And.intro g2.le (And.intro g2.none g2.reach))
  have B3 := Lib.hid b3
  clear g1 g2 b3 b4
  go_enter Try.func6, Try.ntmps6
  go_wp2_with fail
  refine (new10000 w).mono ?_
  rintro e w1 ⟨B, rfl, h1, hb1⟩
  have k1 := KeepU.below hb1 (Nat.le_refl _)
  go_wp2_with fail
  refine (few_any w1 s1 n1 c1 1000 l1 (R1.out.below hb1 (fun h0 b o e => by subst e; exact R1.out.lt h0)) e1.out.1 e1.out.2.1 (by have := e1.out.2.2; omega) (by omega) (by omega)).mono ?_
  rintro e w2 ⟨aA, cA, rfl, hoA, hb2⟩
  obtain ⟨A, hA⟩ : ∃ A, A = l1.take (1000 : Int).toNat := ⟨_, rfl⟩
  rw [← hA] at hoA ⊢
  have hAl : A.length ≤ 1000 := by rw [hA, List.length_take]; show min 1000 _ ≤ _; omega
  have b2 := hb1.trans (hb2.mono hb1.size)
  have KA := Keeps.of_own hoA rfl
  have h2 := h1.below hb2
  clear h1 hA hoA hb1 hb2 k1
  go_wp2_with fail
  refine (few_any w2 s2 n2 c2 1000 l2 (R2.out.below b2 (fun h0 b o e => by subst e; exact R2.out.lt h0)) e2.out.1 e2.out.2.1 (by have := e2.out.2.2; omega) (by omega) (by omega)).mono ?_
  rintro e w3 ⟨aC, cC, rfl, hoC, hb3⟩
  obtain ⟨C, hC⟩ : ∃ C, C = l2.take (1000 : Int).toNat := ⟨_, rfl⟩
  rw [← hC] at hoC ⊢
  have hCl : C.length ≤ 1000 := by rw [hC, List.length_take]; show min 1000 _ ≤ _; omega
  have b3 := b2.trans (hb3.mono b2.size)
  have KA3 := KA.stay (KeepU.below hb3 (Nat.le_refl _))
  have KC := Keeps.of_own hoC rfl
  have h3 := h2.below hb3
  clear h2 hC hoC hb3 b2 KA
  go_wp2_with fail
  refine (known6 w3).mono ?_
  rintro e w4 ⟨rfl, hb4⟩
  have b4 := b3.trans (hb4.mono b3.size)
  have KA4 := KA3.stay (KeepU.below hb4 (Nat.le_refl _))
  have KC4 := KC.stay (KeepU.below hb4 (Nat.le_refl _))
  have h4 := h3.below hb4
  clear h3 hb4 b3 KA3 KC
  go_wp2_with fail
  refine (append_yes w4 w.heap.size B _ _ h4 (by decide) [102] goodf aA A.length cA A KA4.rds KA4.none (by omega) (Dsk.r1_is A hAl)).mono ?_
  rintro e w5 ⟨rfl, h5, hb5, kt5⟩
  have b5 := b4.trans hb5
  have KA5 := KA4.stay kt5.ku
  have KC5 := KC4.stay kt5.ku
  clear h4 hb5 kt5 b4 KA4 KC4
  go_wp2_with fail
  refine (sync_yes w5 w.heap.size B _ _ h5 (by show 1 ≤ _; omega) (Dsk.r2_is A)).mono ?_
  rintro e w6 ⟨rfl, h6, hb6, kt6⟩
  have b6 := b5.trans hb6
  have KA6 := KA5.stay kt6.ku
  have KC6 := KC5.stay kt6.ku
  clear h5 hb6 kt6 b5 KA5 KC5
  go_wp2_with fail
  refine (append_yes w6 w.heap.size B _ _ h6 (by show 2 ≤ _; omega) [103] goodg aC C.length cC C KC6.rds KC6.none (by omega) (Dsk.r3_is A C hAl hCl)).mono ?_
  rintro e w7 ⟨rfl, h7, hb7, kt7⟩
  have b7 := b6.trans hb7
  have KA7 := KA6.stay kt7.ku
  have KC7 := KC6.stay kt7.ku
  clear h6 hb7 kt7 b6 KA6 KC6
  go_wp2_with fail
  refine (sync_yes w7 w.heap.size B _ _ h7 (by show 3 ≤ _; omega) (Dsk.r4_is A C)).mono ?_
  rintro e w8 ⟨rfl, h8, hb8, kt8⟩
  have b8 := b7.trans hb8
  have KA8 := KA7.stay kt8.ku
  have KC8 := KC7.stay kt8.ku
  clear h7 hb8 kt8 b7 KA7 KC7
  go_wp2_with fail
  refine (rename_yes w8 w.heap.size B _ _ h8 (by show 4 ≤ _; omega) [103] [102] goodg goodf (Dsk.r5_is A C)).mono ?_
  rintro e w9 ⟨rfl, h9, hb9, kt9⟩
  have b9 := b8.trans hb9
  have KA9 := KA8.stay kt9.ku
  have KC9 := KC8.stay kt9.ku
  clear h8 hb9 kt9 b8 KA8 KC8
  go_wp2_with fail
  have hcr := crash_any w9 w.heap.size B _ h9 a3 a4
  rw [Dsk.r6_is] at hcr
  refine hcr.mono ?_
  rintro e w10 ⟨rfl, h10, hb10, kt10⟩
  have b10 := b9.trans hb10
  have KA10 := KA9.stay kt10.ku
  have KC10 := KC9.stay kt10.ku
  clear h9 hb10 kt10 b9 KA9 KC9 hcr
  rcases (show a3 % 2 = 0 ∨ a3 % 2 = 1 by omega) with hm | hm
  · have hr6 : Dsk.r6 A C a3 = ⟨10000, [([103], C), ([102], A)], [([103], C), ([102], A)], [], -1, false, 5⟩ := if_pos hm
    rw [hr6] at h10
    go_wp2_with fail
    refine (read_is w10 w.heap.size B _ h10 rfl [102] (by decide) A true A.length rfl rfl rfl).mono ?_
    rintro e w11 ⟨a11, c11, rfl, ho11, hb11⟩
    have b11 := b10.trans (hb11.mono b10.size)
    have KX := Keeps.of_own ho11 rfl
    have KA11 := KA10.stay (KeepU.below hb11 (Nat.le_refl _))
    have h11 := h10.below hb11
    clear h10 hb11 ho11 b10 KA10 KC10 hr6
    go_wp2_with fail
    refine (read_is w11 w.heap.size B _ h11 rfl [103] (by decide) C true C.length rfl rfl rfl).mono ?_
    rintro e w12 ⟨a12, c12, rfl, ho12, hb12⟩
    have b12 := b11.trans (hb12.mono b11.size)
    have cx := convB w12 a11 A.length c11 A ((KX.stay (KeepU.below hb12 (Nat.le_refl _))).rds)
    have ca := convB w12 aA A.length cA A ((KA11.stay (KeepU.below hb12 (Nat.le_refl _))).rds)
    clear h11 hb12 ho12 b11 KX KA11
    go_wp2_with fail
    refine (pick_any w12 a3 2 B3.out.1 B3.out.2 (by omega) (by omega)).mono ?_
    rintro e w' ⟨he, rfl⟩
    rw [hm] at he
    subst he
    have hse := str_eq A
    clear hm
    go_wp2
    go_ret
    exact ⟨rfl, b12⟩
  · have hr6 : Dsk.r6 A C a3 = ⟨10000, [([102], C)], [([102], C)], [], -1, false, 5⟩ := if_neg (by omega)
    rw [hr6] at h10
    go_wp2_with fail
    refine (read_is w10 w.heap.size B _ h10 rfl [102] (by decide) C true C.length rfl rfl rfl).mono ?_
    rintro e w11 ⟨a11, c11, rfl, ho11, hb11⟩
    have b11 := b10.trans (hb11.mono b10.size)
    have KX := Keeps.of_own ho11 rfl
    have KC11 := KC10.stay (KeepU.below hb11 (Nat.le_refl _))
    have h11 := h10.below hb11
    clear h10 hb11 ho11 b10 KA10 KC10 hr6
    go_wp2_with fail
    refine (read_is w11 w.heap.size B _ h11 rfl [103] (by decide) [] false 0 rfl rfl rfl).mono ?_
    rintro e w12 ⟨a12, c12, rfl, ho12, hb12⟩
    have b12 := b11.trans (hb12.mono b11.size)
    have cx := convB w12 a11 C.length c11 C ((KX.stay (KeepU.below hb12 (Nat.le_refl _))).rds)
    have ca := convB w12 aC C.length cC C ((KC11.stay (KeepU.below hb12 (Nat.le_refl _))).rds)
    clear h11 hb12 ho12 b11 KX KC11
    go_wp2_with fail
    refine (pick_any w12 a3 2 B3.out.1 B3.out.2 (by omega) (by omega)).mono ?_
    rintro e w' ⟨he, rfl⟩
    rw [hm] at he
    subst he
    have hse := str_eq C
    clear hm
    go_wp2
    go_ret
    exact ⟨rfl, b12⟩
end Go.Proofs.Ytjdadbpekaoijaa
