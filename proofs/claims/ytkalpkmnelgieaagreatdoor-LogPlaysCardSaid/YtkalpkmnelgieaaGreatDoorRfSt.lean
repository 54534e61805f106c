/- The reference's disk as it stands in memory; Now, works, pend. -/
import Derived.Test.YtkalpkmnelgieaaGreatDoorRfTurn2
import Derived.Deep.RegionLaw
namespace Go.Proofs.YtkalpkmnelgieaaGreatDoor
open Go.RowKit Go.Tap Go.Maps
set_option linter.unusedVariables false
set_option linter.unusedSimpArgs false
attribute [local go_sem ↓] Go.wp_at_zero Go.wp_at_succ

def Wc (p : Pd) : List Value := Wcells p.x p.a p.c
theorem Wc_len (p : Pd) : (Wc p).length = 5 := rfl
theorem Wc_one (ps : List Pd) : ∀ u ∈ ps.flatMap Wc, u.oneCell' = true := by
  intro u hu
  obtain ⟨p, _, hp⟩ := List.mem_flatMap.1 hu
  simp [Wc, Wcells] at hp
  rcases hp with rfl | rfl | rfl | rfl | rfl <;> rfl
/-- A row of works that pend. -/
def PRow (w : World) (v : Value) (l : List Dsk.Wk) : Prop :=
  ∃ ps : List Pd, ps.map Pd.x = l ∧ (∀ p ∈ ps, Keeps w p.a p.x.b.length p.c p.x.b) ∧ w.ownsRow 0 115 5 v l.length (ps.flatMap Wc)
theorem PRow.nil (w : World) : PRow w (.slice none 0 0) [] := ⟨[], rfl, by simp, World.ownsRow_nil _ _ _ _⟩
theorem PRow.keep {w w' : World} {v : Value} {l : List Dsk.Wk} (h : PRow w v l) (hk : KeepF w w') : PRow w' v l := by
  obtain ⟨ps, h1, h2, h3⟩ := h
  exact ⟨ps, h1, fun p hp => (h2 p hp).stay hk.ku, own_keep h3 (fun k cur hc => hk k cur _ _ hc (.inr (.inr rfl)))⟩
theorem PRow.slice {w : World} {v : Value} {l : List Dsk.Wk} (h : PRow w v l) : ∃ a c, v = .slice a l.length c ∧ l.length ≤ c ∧ (a = none → c = 0) := by
  obtain ⟨ps, h1, _, h3⟩ := h
  obtain ⟨a, c, rfl, h4, _, h5, _⟩ := ownsRow_slice h3
  exact ⟨a, c, rfl, h4, h5⟩
theorem PRow.elem {w : World} {v : Value} {l : List Dsk.Wk} (h : PRow w v l) {j : Nat} {x : Dsk.Wk} (hj : l[j]? = some x) :
    ∃ g cap a c, v = .slice (some ⟨g, 0, none⟩) l.length cap ∧ Keeps w a x.b.length c x.b ∧
      w.cell? ⟨g, j * 5, none⟩ = some (.int .i64 ((x.kind : Int) + 1)) ∧ w.cell? ⟨g, j * 5 + 1, none⟩ = some (.string (str x.name)) ∧ w.cell? ⟨g, j * 5 + 2, none⟩ = some (.string (str x.dst)) ∧ w.cell? ⟨g, j * 5 + 3, none⟩ = some (.slice a x.b.length c) ∧ w.cell? ⟨g, j * 5 + 4, none⟩ = some (.int .i64 (x.n : Int)) := by
  obtain ⟨ps, rfl, h2, h3⟩ := h
  rw [List.getElem?_map, Option.map_eq_some_iff] at hj
  obtain ⟨p, hp, rfl⟩ := hj
  have hlt : j < ps.length := (List.getElem?_eq_some_iff.1 hp).1
  rw [List.length_map] at h3 ⊢
  rcases h3.2 with ⟨_, hx⟩ | ⟨g, cap, cur, rfl, _, hg, _⟩
  · omega
  · refine ⟨g, cap, p.a, p.c, rfl, h2 p (List.mem_of_getElem? hp), ?_⟩
    have key : ∀ i, i < 5 → w.cell? ⟨g, j * 5 + i, none⟩ = (Wc p)[i]? := fun i hi => by
      have hc : (Wc p)[i]? = some ((Wc p)[i]'(by rw [Wc_len]; exact hi)) := List.getElem?_eq_getElem _
      rw [hc]
      have := h3.cells (g := g) rfl (j * 5 + i) _ ((flatK Wc 5 Wc_len ps j i p hp hi).trans hc)
      rw [Addr.add_lit, Nat.zero_add] at this
      exact this
    exact ⟨key 0 (by omega), key 1 (by omega), key 2 (by omega), key 3 (by omega), key 4 (by omega)⟩
def Rcells (r : Ref.Rd) (kv pv : Value) : Array Value := #[.int .i64 (r.room : Int), kv, pv, .int .i64 r.fuse, .bool r.dead, .int .i64 (r.works : Int)]
/-- The reference's disk. -/
structure IsRv (w : World) (B : Nat) (kv pv : Value) (r : Ref.Rd) : Prop where
  blk : w.heap[B]? = some (.cells (Rcells r kv pv) 90 (0, 0))
  kept : FRow w kv r.kept
  pend : PRow w pv r.pend
def IsRd (w : World) (B : Nat) (r : Ref.Rd) : Prop := ∃ kv pv, IsRv w B kv pv r
theorem IsRv.keep {w w' : World} {B : Nat} {kv pv : Value} {r : Ref.Rd} (h : IsRv w B kv pv r) (hB : w'.heap[B]? = w.heap[B]?) (hk : KeepF w w') : IsRv w' B kv pv r := ⟨hB.trans h.blk, h.kept.keep hk, h.pend.keep hk⟩
theorem IsRv.below {w w' : World} {B : Nat} {kv pv : Value} {r : Ref.Rd} (h : IsRv w B kv pv r) (hb : Below w.heap.size w w') : IsRv w' B kv pv r := h.keep (hb.block B (blk_lt h.blk)) (KeepF.below hb (Nat.le_refl _))
theorem IsRd.below {w w' : World} {B : Nat} {r : Ref.Rd} (h : IsRd w B r) (hb : Below w.heap.size w w') : IsRd w' B r := by
  obtain ⟨kv, pv, h⟩ := h
  exact ⟨kv, pv, h.below hb⟩
/-- A store into the disk's own block. -/
theorem IsRv.keepB {w w' : World} {B : Nat} {cs : Array Value} (hB : w.heap[B]? = some (.cells cs 90 (0, 0))) (ht : TStay (fun k => k = B) w w') : KeepF w w' := fun k xs t fr hk htt => by
  refine ht.block k (blk_lt hk) (fun e => ?_)
  subst e
  rw [hB] at hk
  simp only [Option.some.injEq, Obj.cells.injEq] at hk
  obtain ⟨_, rfl, _⟩ := hk
  rcases htt with h | h | h <;> exact absurd h (by decide)
/-- What the document's disk and the program's have in common, and its bounds. -/
def Rok (r : Ref.Rd) : Prop := ∃ d, Ref.Eq d r ∧ Dsk.Ok d
theorem Rok.step {r : Ref.Rd} (h : Rok r) (i : Nat) (hi : i ≤ r.pend.length) : (Ref.now r.kept (r.pend.take i)).length ≤ 1000000 ∧ Dsk.used (Ref.now r.kept (r.pend.take i)) ≤ 16777216 := by
  obtain ⟨d, he, ho⟩ := h
  obtain ⟨g, hg⟩ := Dsk.run_take ho.run i
  rw [← he.pend] at hg
  have hl := (Ref.Like.now he.kept he.apart hg).1
  have hb : Dsk.used g ≤ d.room ∧ g.length ≤ 1000000 := by
    cases i with
    | zero =>
      simp only [List.take_zero, Dsk.run, Option.some.injEq] at hg
      subst hg
      exact ho.small
    | succ i =>
      have hx : r.pend[i]? = some (r.pend[i]'(by omega)) := List.getElem?_eq_getElem _
      obtain ⟨g0, hg0⟩ := Dsk.run_take ho.run i
      obtain ⟨g', h1, h2⟩ := Dsk.run_step ho.run (by rw [← he.pend]; exact hx) hg0
      rw [he.pend] at hg
      rw [h2] at hg
      cases hg
      exact (Dsk.do2_some h1).2
  exact ⟨by rw [hl.length]; exact hb.2, by rw [hl.used]; have := ho.room; omega⟩
theorem Rok.elem {r : Ref.Rd} (h : Rok r) {i : Nat} {x : Dsk.Wk} (hi : r.pend[i]? = some x) : x.kind ≤ 3 ∧ x.b.length ≤ 16777216 ∧ (x.kind = 1 → x.n ≤ (Dsk.val (Ref.now r.kept (r.pend.take i)) x.name).length) := by
  obtain ⟨d, he, ho⟩ := h
  have hm : x ∈ d.pend := by rw [← he.pend]; exact List.mem_of_getElem? hi
  obtain ⟨h1, h2, h3⟩ := ho.names x hm
  refine ⟨h2, h3, fun hk => ?_⟩
  obtain ⟨g, hg⟩ := Dsk.run_take ho.run i
  have hg' := hg
  rw [← he.pend] at hg'
  have hl := Ref.Like.now he.kept he.apart hg'
  obtain ⟨g', h4, _⟩ := Dsk.run_step ho.run (by rw [← he.pend]; exact hi) hg
  have h5 := (Dsk.do2_some h4).1
  rw [hl.1.val hl.2]
  unfold Dsk.do1 at h5
  rw [hk] at h5
  simp only at h5
  split at h5
  · assumption
  · cases h5
theorem Rok.len {r : Ref.Rd} (h : Rok r) : r.pend.length ≤ 100000 := by
  obtain ⟨d, he, ho⟩ := h
  have := ho.pl
  have := ho.works
  rw [he.pend]; omega
theorem le_sum_mem : ∀ (l : List Nat) (x : Nat), x ∈ l → x ≤ l.sum
  | [], x, h => by cases h
  | y :: l, x, h => by
    rw [List.sum_cons]
    rcases List.mem_cons.1 h with rfl | h
    · omega
    · have := le_sum_mem l x h; omega
theorem apart_used {l : Dsk.Files} (s : Dsk.Name) : (Dsk.val l s).length ≤ Dsk.used l := by
  unfold Dsk.val Dsk.get Dsk.used
  cases hf : l.find? (fun p => p.1 == s) with
  | none => simp
  | some p =>
    have hm := List.mem_of_find?_eq_some hf
    have : p.2.length ∈ l.map (fun p => p.2.length) := List.mem_map.2 ⟨p, hm, rfl⟩
    have := le_sum_mem _ _ this
    simpa using this
/-- What Now asks: the files and what pends are such a disk's. -/
def Rkp (r : Ref.Rd) : Prop := ∃ r0, Rok r0 ∧ r0.kept = r.kept ∧ r0.pend = r.pend
theorem Rok.kp {r : Ref.Rd} (h : Rok r) : Rkp r := ⟨r, h, rfl, rfl⟩
theorem Rkp.same {r r' : Ref.Rd} (h : Rkp r) (h1 : r'.kept = r.kept) (h2 : r'.pend = r.pend) : Rkp r' := by
  obtain ⟨r0, a, b, c⟩ := h
  exact ⟨r0, a, b.trans h1.symm, c.trans h2.symm⟩
theorem Rkp.step {r : Ref.Rd} (h : Rkp r) (i : Nat) (hi : i ≤ r.pend.length) : (Ref.now r.kept (r.pend.take i)).length ≤ 1000000 ∧ Dsk.used (Ref.now r.kept (r.pend.take i)) ≤ 16777216 := by
  obtain ⟨r0, a, b, c⟩ := h
  rw [← b, ← c]
  exact a.step i (by rw [c]; exact hi)
theorem Rkp.elem {r : Ref.Rd} (h : Rkp r) {i : Nat} {x : Dsk.Wk} (hi : r.pend[i]? = some x) : x.kind ≤ 3 ∧ x.b.length ≤ 16777216 ∧ (x.kind = 1 → x.n ≤ (Dsk.val (Ref.now r.kept (r.pend.take i)) x.name).length) := by
  obtain ⟨r0, a, b, c⟩ := h
  rw [← b, ← c]
  exact a.elem (by rw [c]; exact hi)
theorem Rkp.len {r : Ref.Rd} (h : Rkp r) : r.pend.length ≤ 100000 := by
  obtain ⟨r0, a, b, c⟩ := h
  rw [← c]; exact a.len
def NowAft (w : World) (l : Dsk.Files) (e : Ending) (w' : World) : Prop := ∃ v, e = .returned v ∧ FRow w' v l ∧ Below w.heap.size w w'
set_option maxHeartbeats 4000000 in
set_option maxRecDepth 100000 in
theorem rnow_any (w : World) (B : Nat) (r : Ref.Rd) (h : IsRd w B r) (hr : Rkp r) :
    Calls Tryz.prog 74 #[.pointer (some ⟨B, 0, none⟩)] w (NowAft w r.now) := by
  obtain ⟨kv, pv, h⟩ := h
  have hlen := hr.len
  obtain ⟨pa, pc, hpv, hpc, hpn⟩ := h.pend.slice
  subst hpv
  obtain ⟨P, hP⟩ : ∃ P, P = r.pend.length := ⟨_, rfl⟩
  rw [← hP] at hpc hlen
  have hblk : w.heap[B]? = some (.cells #[.int .i64 (r.room : Int), kv, .slice pa P pc, .int .i64 r.fuse, .bool r.dead, .int .i64 (r.works : Int)] 90 (0, 0)) := by rw [hP]; exact h.blk
  have c1 : w.cell? ⟨B, 1, none⟩ = some kv := blk_cell (i := 1) hblk rfl
  have HBK := Lib.hid hblk
  have HK := Lib.hid h.kept
  have HPE := Lib.hid h.pend
  have HP := Lib.hid hP
  have HR := Lib.hid hr
  have hlt := blk_lt hblk
  clear h hblk hP hr
  go_enter Tryz.func74, Tryz.ntmps74
  go_wp2_with fail
  go_loopw [3, 4] (fun lv' iv' wr => ∃ (k : Nat) (lv : Value), lv' = lv ∧ iv' = .int .i64 (k : Int) ∧ k ≤ P ∧ Hid (FRow wr lv (Ref.now r.kept (r.pend.take k))) ∧ Below w.heap.size w wr) (fun _ iv' _ => P - (intOf iv').toNat)
  case atStart => exact ⟨0, _, rfl, rfl, Nat.zero_le _, HK, Below.refl _ _⟩
  case round =>
    obtain ⟨k, lv, hlv, rfl, hk, HF, hb⟩ := hrel
    obtain rfl : lv = _ := hlv.symm
    have c2 : wr.cell? ⟨B, 2, none⟩ = some (.slice pa P pc) := blk_cell (i := 2) ((hb.block B hlt).trans HBK.out) rfl
    have hw := wrapi' ((k : Int) + 1) (by omega)
    by_cases hgo : k < P
    · have d0 : decide ((k : Int) < (P : Int)) = true := decide_eq_true (by omega)
      have d0' : decide (k < P) = true := decide_eq_true hgo
      have d1 : (k : Int) < (P : Int) := by omega
      have d2 : (0 : Int) ≤ (k : Int) := by omega
      have hx : r.pend[k]? = some (r.pend[k]'(by have := HP.out; omega)) := List.getElem?_eq_getElem _
      generalize r.pend[k]'(by have := HP.out; omega) = x at hx
      obtain ⟨g, cap, a, c, hsl, hkx, e0, e1, e2, e3, e4⟩ := (HPE.out.keep (KeepF.below hb (Nat.le_refl _))).elem hx
      simp only [Value.slice.injEq] at hsl
      obtain ⟨rfl, _, rfl⟩ := hsl
      obtain ⟨s1, s2⟩ := HR.out.step k (by have := HP.out; omega)
      obtain ⟨x1, x2, x3⟩ := HR.out.elem hx
      have hv := apart_used (l := Ref.now r.kept (r.pend.take k)) x.name
      have htn := rturn_any wr lv _ HF.out x a c hkx x1 s1 x3 ⟨by omega, by omega⟩
      have hst : Ref.turn (Ref.now r.kept (r.pend.take k)) x = Ref.now r.kept (r.pend.take (k + 1)) := by
        unfold Ref.now
        rw [List.take_add_one, hx]
        simp
      rw [hst] at htn
      obtain ⟨n, hn⟩ : ∃ n, n = x.b.length := ⟨_, rfl⟩
      rw [← hn] at e3
      have htn' : Calls Tryz.prog 48 #[lv, .agg #[.int .i64 ((x.kind : Int) + 1), .string (str x.name), .string (str x.dst), .slice a n c, .int .i64 (x.n : Int)]] wr (RowAft wr (Ref.now r.kept (r.pend.take (k + 1)))) := by rw [hn]; exact htn
      clear htn hst hx hkx s1 s2 x1 x2 x3 hv hn
      go_wp2_with fail
      refine htn'.mono ?_
      clear htn'
      rintro e w2 ⟨v2, rfl, hf2, hb2⟩
      have HF2 := Lib.hid hf2.row
      have b2 := hb.trans (hb2.mono hb.size)
      clear hf2 hb2
      go_wp2
      go_roundw
      case rel => exact ⟨k + 1, _, rfl, by go_num, by omega, HF2, b2⟩
      case measure => simp [intOf]; omega
    · obtain rfl : k = P := by omega
      have d0 : decide ((k : Int) < (k : Int)) = false := decide_eq_false (by omega)
      have HF' : FRow wr lv r.now := by
        have := HF.out
        rw [HP.out, List.take_length] at this
        exact this
      have HF2 := Lib.hid HF'
      clear HF' HF
      go_wp2
      go_ret
      exact ⟨_, rfl, HF2.out, hb⟩
/-- Behind a call that works. -/
def ROp (w : World) (B : Nat) (q : Ref.Rd × Nat) (e : Ending) (w' : World) : Prop := e = .returned (.int .i64 (q.2 : Int)) ∧ IsRd w' B q.1 ∧ TStay (fun k => k = B) w w'
set_option maxHeartbeats 4000000 in
set_option maxRecDepth 100000 in
theorem rworks_any (w : World) (B : Nat) (kv pv : Value) (r : Ref.Rd) (h : IsRv w B kv pv r) (hf : -1 ≤ r.fuse ∧ r.fuse ≤ 9223372036854775807) (hw : r.works ≤ 1000000) :
    Calls Tryz.prog 113 #[.pointer (some ⟨B, 0, none⟩)] w fun e w' => e = .returned (.bool r.wk.2) ∧ IsRv w' B kv pv r.wk.1 ∧ TStay (fun k => k = B) w w' := by
  obtain ⟨room, kept, pend, fuse, dead, works⟩ := r
  simp only at hf hw
  have hblk := h.blk
  have c3 : w.cell? ⟨B, 3, none⟩ = some (.int .i64 fuse) := blk_cell (i := 3) hblk rfl
  have c5 : w.cell? ⟨B, 5, none⟩ = some (.int .i64 (works : Int)) := blk_cell (i := 5) hblk rfl
  have f3 := blk_free hblk 3
  have f4 := blk_free hblk 4
  have f5 := blk_free hblk 5
  have hw1 := wrapi' (fuse - 1) (by omega)
  have hw2 := wrapi' ((works : Int) + 1) (by omega)
  have c4 : w.cell? ⟨B, 4, none⟩ = some (.bool dead) := blk_cell (i := 4) hblk rfl
  have H := Lib.hid h
  have HB := Lib.hid hblk
  clear h hblk
  by_cases h0 : fuse = 0
  · have q : (⟨room, kept, pend, fuse, dead, works⟩ : Ref.Rd).wk = (⟨room, kept, pend, fuse, true, works⟩, false) := by unfold Ref.Rd.wk; rw [if_pos h0]
    rw [q]
    subst h0
    clear q
    go_enter Tryz.func113, Tryz.ntmps113
    go_wp2
    go_ret
    have st := (TStay.refl (fun k => k = B) w).setCell (p := ⟨B, 4, none⟩) (.inl rfl) (.bool true)
    have kf := IsRv.keepB HB.out st
    exact ⟨rfl, ⟨heap_setCell_same w B 4 _ _ _ HB.out, H.out.kept.keep kf, H.out.pend.keep kf⟩, st⟩
  · have e0 : (fuse == 0) = false := by simpa using h0
    by_cases h1 : 0 < fuse
    · have d1 : decide (0 < fuse) = true := decide_eq_true h1
      have q : (⟨room, kept, pend, fuse, dead, works⟩ : Ref.Rd).wk = (⟨room, kept, pend, fuse - 1, dead, works + 1⟩, true) := by unfold Ref.Rd.wk; rw [if_neg h0, if_pos h1]
      rw [q]
      clear q h0
      go_enter Tryz.func113, Tryz.ntmps113
      go_wp2
      go_ret
      have st := ((TStay.refl (fun k => k = B) w).setCell (p := ⟨B, 3, none⟩) (.inl rfl) (.int .i64 (fuse - 1))).setCell (p := ⟨B, 5, none⟩) (.inl rfl) (.int .i64 ((works : Int) + 1))
      have kf := IsRv.keepB HB.out st
      exact ⟨rfl, ⟨heap_setCell_same _ B 5 _ _ _ (heap_setCell_same w B 3 _ _ _ HB.out), H.out.kept.keep kf, H.out.pend.keep kf⟩, st⟩
    · have d1 : decide (0 < fuse) = false := decide_eq_false h1
      have q : (⟨room, kept, pend, fuse, dead, works⟩ : Ref.Rd).wk = (⟨room, kept, pend, fuse, dead, works + 1⟩, true) := by unfold Ref.Rd.wk; rw [if_neg h0, if_neg h1]
      rw [q]
      clear q h0
      go_enter Tryz.func113, Tryz.ntmps113
      go_wp2
      go_ret
      have st := (TStay.refl (fun k => k = B) w).setCell (p := ⟨B, 5, none⟩) (.inl rfl) (.int .i64 ((works : Int) + 1))
      have kf := IsRv.keepB HB.out st
      exact ⟨rfl, ⟨heap_setCell_same w B 5 _ _ _ HB.out, H.out.kept.keep kf, H.out.pend.keep kf⟩, st⟩
end Go.Proofs.YtkalpkmnelgieaaGreatDoor
