/- The log's calls that are refused, and Scan of bytes that hold no record. -/
import Derived.Test.YtkalpkmnelgieaaGreatDoorLogCut
import Derived.Test.YtkalpkmnelgieaaGreatDoorKindSt
import Derived.Test.YtkalpkmnelgieaaGreatDoorDskKn
namespace Go.Proofs.YtkalpkmnelgieaaGreatDoor
open Go.RowKit Go.Tap Go.Maps
set_option linter.unusedVariables false
attribute [local go_sem ↓] Go.wp_at_zero Go.wp_at_succ

def NoLog (k : Int) : Value := .tuple #[.pointer none, .iface 35 (.int .i64 k)]
theorem open_nil (w : World) (s : ByteArray) (n : Int) : Calls Tryz.prog 10 #[.pointer none, .string s, .int .i64 n] w fun e w' => e = .returned (NoLog 1) ∧ w' = w := by
  go_enter Tryz.func10, Tryz.ntmps10
  go_wp2
  go_ret2
  exact ⟨rfl, rfl⟩
theorem open_neg (w : World) (B : Nat) (s : ByteArray) : Calls Tryz.prog 10 #[.pointer (some ⟨B, 0, none⟩), .string s, .int .i64 (-1)] w fun e w' => e = .returned (NoLog 1) ∧ w' = w := by
  go_enter Tryz.func10, Tryz.ntmps10
  go_wp2
  go_ret2
  exact ⟨rfl, rfl⟩
set_option maxHeartbeats 2000000 in
set_option maxRecDepth 100000 in
theorem open_short (w : World) (lo B : Nat) (d : Dsk.Dk) (h : IsDk w lo B d) (hd : d.dead = false) (nm : List UInt8) (hnm : nm.length ≤ 20) (len : Nat) (hlt : (Dsk.val d.now nm).length < len) :
    Calls Tryz.prog 10 #[.pointer (some ⟨B, 0, none⟩), .string (str nm), .int .i64 (len : Int)] w fun e w' => e = .returned (NoLog 3) ∧ Below w.heap.size w w' := by
  obtain ⟨L, hL⟩ : ∃ L, Dsk.val d.now nm = L := ⟨_, rfl⟩
  have hrd := read_is w lo B d h hd nm (by omega) L _ L.length hL rfl rfl
  rw [hL] at hlt
  have d0 : decide ((len : Int) < 0) = false := decide_eq_false (by omega)
  have d1 : decide ((L.length : Int) < (len : Int)) = true := decide_eq_true (by omega)
  have d1' : decide (L.length < len) = true := decide_eq_true (by omega)
  clear hL h hd hlt
  obtain ⟨n, hn⟩ : ∃ n, n = L.length := ⟨_, rfl⟩
  rw [← hn] at hrd d1 d1'
  clear hn
  go_enter Tryz.func10, Tryz.ntmps10
  go_wp2_with fail
  refine hrd.mono ?_
  clear hrd
  rintro e w1 ⟨a, c, rfl, hown, hb1⟩
  clear hown
  go_wp2
  go_ret2
  exact ⟨rfl, hb1⟩
set_option maxHeartbeats 4000000 in
set_option maxRecDepth 100000 in
theorem open_bad (w : World) (lo B : Nat) (d : Dsk.Dk) (h : IsDk w lo B d) (hd : d.dead = false) (nm : List UInt8) (hnm : Dsk.good nm) (len : Nat) (hle : len ≤ (Dsk.val d.now nm).length)
    (rs : List Rec) (k : Nat) (hk : k ≠ 0) (hl0 : 0 < len) (hsc : scanF ((Dsk.val d.now nm).take len) = (rs, k)) :
    Calls Tryz.prog 10 #[.pointer (some ⟨B, 0, none⟩), .string (str nm), .int .i64 (len : Int)] w fun e w' => ∃ pb, e = .returned (.tuple #[.pointer none, .iface 150 (.pointer (some ⟨pb, 0, none⟩))]) ∧ IsSt w' pb (k : Int) ∧ Below w.heap.size w w' := by
  have hlo := h.lo_le
  obtain ⟨L, hL⟩ : ∃ L, Dsk.val d.now nm = L := ⟨_, rfl⟩
  have hLs : L.length ≤ 16777216 := by
    obtain ⟨bd, bn, pv, h1, hok⟩ := h
    have q1 := Dsk.val_le h1.now.apart nm; have q2 := hok.small'; have q3 := hok.room; rw [hL] at q1; omega
  have hrd := read_is w lo B d h hd nm (by have := hnm.2; omega) L _ L.length hL rfl rfl
  rw [hL] at hle hsc
  have d0 : decide ((len : Int) < 0) = false := decide_eq_false (by omega)
  have d1 : decide ((L.length : Int) < (len : Int)) = false := decide_eq_false (by omega)
  have d1' : decide (L.length < len) = false := decide_eq_false (by omega)
  have hq0 : (0 : Int) ≤ (len : Int) := by omega
  have HSC := Lib.hid hsc
  have HK0 := Lib.hid hk
  clear h hL hsc hd hk
  obtain ⟨n, hn⟩ : ∃ n, n = L.length := ⟨_, rfl⟩
  rw [← hn] at hrd d1 d1' hle hLs
  have HN := Lib.hid hn
  clear hn
  go_enter Tryz.func10, Tryz.ntmps10
  go_wp2_with fail
  refine hrd.mono ?_
  clear hrd
  rintro e w1 ⟨a, c, rfl, hown, hb1⟩
  obtain ⟨_, _, hsl, hnc, _, hno, _⟩ := ownsRow_slice hown
  simp only [Value.slice.injEq] at hsl
  obtain ⟨rfl, _, rfl⟩ := hsl
  have hr1 := Rds.of_own (n := n) (l := L) (by rw [← show n = L.length from HN.out]; exact hown) HN.out.symm
  obtain ⟨W2, hW2⟩ : ∃ W2, W2 = w1.alloc (.cells #[.pointer (some ⟨B, 0, none⟩), .string (str nm), .slice none 0 0] 95) := ⟨_, rfl⟩
  have hT2 : W2.heap[w1.heap.size]? = some (.cells #[.pointer (some ⟨B, 0, none⟩), .string (str nm), .slice none 0 0] 95 (0, 0)) := by rw [hW2]; exact heap_alloc_new _ _
  have hB2 : Below w1.heap.size w1 W2 := by rw [hW2]; exact (Below.refl _ _).alloc (Nat.le_refl _) _
  have hs2 : W2.heap.size = w1.heap.size + 1 := by rw [hW2]; simp
  have hr2 : Rds W2 a n L := hr1.below hB2 (fun h0 b o e => by subst e; exact hr1.lt h0)
  have bw2 : Below w.heap.size w W2 := hb1.trans (hB2.mono hb1.size)
  have HT2 := Lib.hid hT2
  have HS2 := Lib.hid hs2
  obtain ⟨b, o, rfl, _⟩ := hr1.2 (by omega)
  have hscan := scan_any W2 (some ⟨b, o, none⟩) len c (L.take len) (hr2.take hle) (by omega) (by intro h; cases h) (by omega)
  rw [HSC.out] at hscan
  have hsz1 := hb1.size
  clear hown hr1 hT2 hB2 hs2 hr2 hb1 hno
  have fin : ∀ w3 rv, Below W2.heap.size W2 w3 → w3.cell? ⟨w1.heap.size, 2, none⟩ = some (.slice none 0 0) ∧ w3.frozen? ⟨w1.heap.size, 2, none⟩ = false ∧ Below w.heap.size w (w3.setCell ⟨w1.heap.size, 2, none⟩ rv) := fun w3 rv hb3 => by
    have hT3 := (hb3.block w1.heap.size (by rw [HS2.out]; omega)).trans HT2.out
    exact ⟨blk_cell (i := 2) hT3 rfl, blk_free hT3 2, (bw2.trans (hb3.mono bw2.size)).setCell hsz1 _⟩
  have FIN := Lib.hid fin
  have hlc : (len : Int) ≤ (c : Int) := by omega
  have hlc' : len ≤ c := by omega
  clear fin
  go_wp2_with fail
  rw [← hW2]
  clear hW2
  refine hscan.mono ?_
  rintro e w3 ⟨rv, rfl, hrec, hb3⟩
  obtain ⟨ra, rc, rfl⟩ := hrec.slice
  obtain ⟨c3, f3, hbf⟩ := FIN.out w3 (.slice ra rs.length rc) hb3
  rw [show errv (rs, k).2 = .iface 35 (.int .i64 (k : Int)) from if_neg HK0.out]
  have hwr := wrap_any (w3.setCell ⟨w1.heap.size, 2, none⟩ (.slice ra rs.length rc)) (str [108, 111, 103]) (k : Int)
  clear hrec hb3 hscan
  go_wp2_with fail
  refine hwr.mono ?_
  rintro e w5 ⟨pb, rfl, hst, hb5⟩
  have b5 := hbf.trans (hb5.mono hbf.size)
  have HST := Lib.hid hst
  clear hwr hb5 hst hbf c3 f3
  go_wp2
  go_ret2
  exact ⟨pb, rfl, HST.out, b5⟩
set_option maxHeartbeats 1000000 in
theorem add_bad (w : World) (lo LB B : Nat) (nm : Dsk.Name) (rs : List Rec) (hg : LogIs w lo LB B nm rs) (k : Int) (a : Option Addr) (n c : Nat) (h : k < 1 ∨ 255 < k ∨ 1048576 < n) (hn : n ≤ 140737488355328) :
    Calls Tryz.prog 22 #[.pointer (some ⟨LB, 0, none⟩), .int .i64 k, .slice a n c] w fun e w' => e = .returned (.iface 35 (.int .i64 1)) ∧ w' = w := by
  have hlay := lay_bad w k a n c h hn
  clear h hg
  go_enter Tryz.func22, Tryz.ntmps22
  go_wp2_with fail
  refine hlay.mono ?_
  clear hlay
  rintro e w1 ⟨rfl, rfl⟩
  go_wp2
  go_ret
  exact ⟨rfl, rfl⟩
set_option maxHeartbeats 4000000 in
set_option maxRecDepth 100000 in
theorem add_no (w : World) (lo LB B : Nat) (nm : Dsk.Name) (d d' : Dsk.Dk) (rs : List Rec) (h : IsDk w lo B d) (hg : LogIs w lo LB B nm rs) (hw : d.works ≤ 99999) (hnm : Dsk.good nm) (k : Nat) (hk : 1 ≤ k ∧ k ≤ 255)
    (a : Option Addr) (n c : Nat) (l : List UInt8) (hkk : Keeps w a n c l) (hn : n ≤ 1048576) (j : Nat) (hj : j ≠ 0) (hap : d.append nm (frm (k : Int) l) = (d', j)) :
    Calls Tryz.prog 22 #[.pointer (some ⟨LB, 0, none⟩), .int .i64 (k : Int), .slice a n c] w fun e w' => e = .returned (.iface 35 (.int .i64 (j : Int))) ∧ IsDk w' lo B d' ∧ LogIs w' lo LB B nm rs ∧ Below lo w w' ∧ KeepG w w' := by
  have hr := hkk.rds
  have hz := hkk.none
  have hl := hr.1
  have hlo := h.lo_le
  have H := Lib.hid h
  have HG := Lib.hid hg
  have HR := Lib.hid hr
  have HAP := Lib.hid hap
  have HJ := Lib.hid hj
  clear h hg hr hap hkk hj
  have hlay := lay_any w (k : Int) (by omega) (by omega) a n c l HR.out hz hn
  obtain ⟨F, hF⟩ : ∃ F, F = frm (k : Int) l := ⟨_, rfl⟩
  have hFl : F.length = 9 + n := by rw [hF, frm_length, hl]
  rw [← hF] at hlay
  have HF := Lib.hid hF
  obtain ⟨N, hN⟩ : ∃ N, N = F.length := ⟨_, rfl⟩
  rw [← hN] at hlay
  have HN := Lib.hid hN
  have hNb : N ≤ 1048585 := by omega
  clear hF hN hFl
  go_enter Tryz.func22, Tryz.ntmps22
  go_wp2_with fail
  refine hlay.mono ?_
  clear hlay
  rintro e w1 ⟨v1, rfl, ho1, hb1⟩
  obtain ⟨a1, c1, rfl, _, _, hz1', _⟩ := ownsRow_slice ho1
  have hr1 : Rds w1 a1 N F := Rds.of_own (by rw [← show N = F.length from HN.out]; exact ho1) (show N = F.length from HN.out).symm
  have hd1 := H.out.below hb1
  have hg1 := HG.out.below hb1
  obtain ⟨rv, hB1, hlo1, hrec1⟩ := hg1
  have HB1 := Lib.hid hB1
  have HG1 := Lib.hid (HG.out.below hb1)
  have happ := append_is w1.drew lo B d d' j (hd1.below (bel_drew1 w1)) hw nm hnm a1 N c1 F hr1.drew hz1' (by omega) (by rw [show F = _ from HF.out]; exact HAP.out)
  clear ho1 hrec1 hB1
  go_wp2_with fail
  go_region_held3 (fun w' => w'.cell? ⟨LB, 0, none⟩ = some (.pointer (some ⟨B, 0, none⟩)) ∧ w'.cell? ⟨LB, 1, none⟩ = some (.string (str nm)))
    (first | exact log3 HB2.out | exact log3 HB1.out)
    ((go_at_call 50; refine happ.mono ?_; intro e w2 hop; obtain ⟨rfl, hd2, hb2, kt2⟩ := hop.no HJ.out; have HB2 := Lib.hid ((kt2 LB _ _ _ HB1.out (by decide) (by decide)).trans HB1.out)))
  all_goals
    have hb2' : Below lo w1 w2 := ⟨hb2.os, hb2.tape, hb2.output, hb2.size, hb2.block⟩
    have kt2' : KeepT w1 w2 := fun k' xs t fr hk' h1 h2 => kt2 k' xs t fr hk' h1 h2
    have bw2 : Below lo w w2 := (hb1.mono hlo).trans hb2'
    have hg2 := HG1.out.keep kt2'
    have kg2 : KeepG w w2 := (KeepG.below hb1 (Nat.le_refl _)).trans (.ofT kt2')
    have HD2 := Lib.hid hd2
    have HG2 := Lib.hid hg2
    clear happ hb2 kt2 hop hd2 hg2
    go_wp2
    go_ret
    exact ⟨rfl, HD2.out, HG2.out, bw2, kg2⟩
set_option maxHeartbeats 2000000 in
set_option maxRecDepth 100000 in
theorem ends_no (w : World) (lo LB B : Nat) (nm : Dsk.Name) (rs : List Rec) (h : LogIs w lo LB B nm rs) (T : Int) (hT : 0 < T) (hno : ∀ (j : Nat) (x : Rec), rs[j]? = some x → (x.fin : Int) ≠ T) (hil : rs.length ≤ 1000000) :
    Calls Tryz.prog 43 #[.pointer (some ⟨LB, 0, none⟩), .int .i64 T] w fun e w' => e = .returned (.tuple #[.int .i64 0, .bool false]) ∧ Below w.heap.size w w' := by
  obtain ⟨rv, h1, h2, h3⟩ := h
  have c2 : w.cell? ⟨LB, 2, none⟩ = some rv := blk_cell (i := 2) h1 rfl
  obtain ⟨ra, rc, rfl⟩ := h3.slice
  have z0 : (T == 0) = false := beq_eq_false_iff_ne.2 (by omega)
  obtain ⟨n, hn⟩ : ∃ n, n = rs.length := ⟨_, rfl⟩
  rw [← hn] at c2 hil
  have HR := Lib.hid h3
  have HN := Lib.hid hn
  have HNO := Lib.hid hno
  clear h1 h3 hn hno
  go_enter Tryz.func43, Tryz.ntmps43
  go_wp2_with fail
  go_loopw [15] (fun iv wr => ∃ j : Nat, j ≤ n ∧ iv = .int .i64 (j : Int) ∧ Below w.heap.size w wr) (fun iv _ => n - (intOf iv).toNat)
  case atStart => exact ⟨0, Nat.zero_le _, rfl, Below.refl _ _⟩
  case round =>
    obtain ⟨j, hjk, rfl, hb⟩ := hrel
    by_cases hlt : j < n
    · have d0 : decide ((j : Int) < (n : Int)) = true := decide_eq_true (by omega)
      have d0' : decide (j < n) = true := decide_eq_true hlt
      have hx : rs[j]? = some (rs[j]'(by have := HN.out; omega)) := List.getElem?_eq_getElem _
      generalize rs[j]'(by have := HN.out; omega) = x at hx
      have hrs := HR.out.stay (KeepU.below hb (Nat.le_refl _)) (fun k' e => by
        obtain ⟨ps, _, _, h4⟩ := HR.out
        obtain ⟨_, _, _, _, _, h5⟩ := h4.form
        obtain ⟨_, _, cur, hc⟩ := h5 k' e
        exact hb.block k' (blk_lt hc))
      obtain ⟨g, cap, a, c, hsl, _, e0, e1, e2⟩ := hrs.elem hx
      simp only [Value.slice.injEq] at hsl
      obtain ⟨rfl, _, rfl⟩ := hsl
      have hne := HNO.out j x hx
      obtain ⟨F, hF⟩ : ∃ F, F = x.fin := ⟨_, rfl⟩
      rw [← hF] at e2 hne
      have hjw := wrapi' ((j : Int) + 1) (by omega)
      have q0 : ((F : Int) == T) = false := beq_eq_false_iff_ne.2 hne
      have bw := hb.alloc hb.size (.cells #[.int .i64 (x.kind : Int), .slice a x.body.length c, .int .i64 (F : Int)] 104)
      clear hx hrs hF hne
      go_wp2
      go_roundw
      case rel => exact ⟨j + 1, by omega, by push_cast; rfl, bw⟩
      case measure => first | (simp [intOf]; omega) | omega
    · obtain rfl : j = n := by omega
      have d0 : decide ((j : Int) < (j : Int)) = false := decide_eq_false (by omega)
      go_wp2
      go_ret2
      exact ⟨rfl, hb⟩
theorem cut_no (w : World) (lo LB B : Nat) (nm : Dsk.Name) (rs : List Rec) (h : LogIs w lo LB B nm rs) (T : Int) (hT : 0 < T) (hno : ∀ (j : Nat) (x : Rec), rs[j]? = some x → (x.fin : Int) ≠ T) (hil : rs.length ≤ 1000000) :
    Calls Tryz.prog 14 #[.pointer (some ⟨LB, 0, none⟩), .int .i64 T] w fun e w' => e = .returned (.iface 35 (.int .i64 1)) ∧ Below w.heap.size w w' := by
  have hends := ends_no w lo LB B nm rs h T hT hno hil
  clear h hno hil
  go_enter Tryz.func14, Tryz.ntmps14
  go_wp2_with fail
  refine hends.mono ?_
  clear hends
  rintro e w1 ⟨rfl, hb1⟩
  go_wp2
  go_ret
  exact ⟨rfl, hb1⟩
theorem record_no (w : World) (lo LB B : Nat) (nm : Dsk.Name) (l : List Rec) (h : LogIs w lo LB B nm l) (j : Nat) (hj : l.length ≤ j) :
    Calls Tryz.prog 54 #[.pointer (some ⟨LB, 0, none⟩), .int .i64 (j : Int)] w fun e w' => e = .returned (.tuple #[.int .i64 0, .slice none 0 0, .bool false]) ∧ w' = w := by
  obtain ⟨rv, h1, h2, h3⟩ := h
  have c2 : w.cell? ⟨LB, 2, none⟩ = some rv := blk_cell (i := 2) h1 rfl
  obtain ⟨ra, rc, rfl⟩ := h3.slice
  obtain ⟨n, hn'⟩ : ∃ n, n = l.length := ⟨_, rfl⟩
  rw [← hn'] at c2 hj
  have d0 : decide ((j : Int) < 0) = false := decide_eq_false (by omega)
  have d1 : decide ((n : Int) ≤ (j : Int)) = true := decide_eq_true (by omega)
  have d1' : decide (n ≤ j) = true := decide_eq_true (by omega)
  clear h1 h3 hn'
  go_enter Tryz.func54, Tryz.ntmps54
  go_wp2
  go_ret3
  exact ⟨rfl, rfl⟩
end Go.Proofs.YtkalpkmnelgieaaGreatDoor
