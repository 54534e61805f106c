/- readHead: what it reads. -/
import Derived.Test.YthampbiabkfmoaaDoorWiRow
import Derived.Test.YthampbiabkfmoaaDoorWiLayRq
namespace Go.Proofs.YthampbiabkfmoaaDoor
open Go.RowKit Go.Tap
set_option linter.unusedVariables false
set_option linter.unusedSimpArgs false
theorem wpL_storeW {P : Program} {ops : Array Oper} {rest : List Oper} {op : Oper} {a : Act} {w : World} {Q : Exit → Act → World → Prop} (hw : Region.wanted op (yielded ops a.tmps) = true) (ty : TypeId) (x v : Operand) (ho : op.op = .store ty x v)
    (g o : Nat) (hx : a.eval x = .pointer (some ⟨g, o, none⟩)) (cs : Array Value) (hv : a.eval v = .agg cs) (cur : Array Value) (t : TypeId) (hg : w.heap[g]? = some (.cells cur t (0, 0))) (new : Array Value) (hnew : (splice cur.toList o cs.toList).toArray = new) (hfit : o + cs.size ≤ cur.size) (h1 : ∀ v ∈ cs.toList, v.oneCell' = true)
    (hi : (P.info? ty).map (·.size) = some cs.size) (h : ∀ w', w'.heap[g]? = some (.cells new t (0, 0)) → TStay (fun k => k = g) w w' → wpList P ops Q rest (a.put op.dst undef) w') : wpList P ops Q (op :: rest) a w :=
  wpL_store hw ty x v ho g o hx cs hv cur t hg hfit h1 hi (by
    rw [hnew]
    exact h _ (setRow_heap _ _ _ _ _ _ hg) (setRow_stay (TStay.refl (fun k => k = g) _) (.inl rfl) _))
theorem own_ne' {w : World} {base e e' size : Nat} {v : Value} {n b : Nat} {xs : List Value} {cs : Array Value} {fr : Nat × Nat} (h : w.ownsRow base e size v n xs) (hb : w.heap[b]? = some (.cells cs e' fr)) (hne : e' ≠ e) : v.ownBlock ≠ some b := by
  intro ho
  rcases h.2 with ⟨rfl, _⟩ | ⟨g, cap, cur, rfl, _, hg, _⟩
  · simp [Value.ownBlock] at ho
  · simp [Value.ownBlock] at ho
    subst ho
    rw [hb] at hg
    simp at hg
    exact hne hg.2.1
/-- readHead's state: the request so far in block b3, the zero one in block b2. -/
structure RdSt (T : TypeId) (w : World) (B D b2 b3 : Nat) (sq kd : Int) (wr : World) (li : List Wi.It) (q : List UInt8 × Bool) (v : Value) : Prop where
  t3 : wr.heap[b3]? = some (.cells #[.int .i64 sq, .int .i64 kd, v] 28 (0, 0))
  t2 : wr.heap[b2]? = some (.cells #[.int .i64 0, .int .i64 0, .slice none 0 0] 28 (0, 0))
  own : OwnI wr w.heap.size v li
  rd : Rd T wr B D q.1 q.2
  st : TStay (fun k => k = B) w wr
  ok : ∀ i ∈ li, i.ok
  lt : B < w.heap.size ∧ D < w.heap.size ∧ w.heap.size ≤ b3 ∧ w.heap.size ≤ b2 ∧ b2 ≠ b3
theorem RdSt.step {T : TypeId} {w wr wr' : World} {B D b2 b3 : Nat} {sq kd : Int} {li : List Wi.It} {q q' : List UInt8 × Bool} {v : Value} (h : RdSt T w B D b2 b3 sq kd wr li q v) (h1 : Rd T wr' B D q'.1 q'.2) (h2 : TStay (fun k => k = B) wr wr') : RdSt T w B D b2 b3 sq kd wr' li q' v := by
  have hl := h.lt
  exact ⟨(h2.block _ (blk_lt h.t3) (by omega)).trans h.t3, (h2.block _ (blk_lt h.t2) (by omega)).trans h.t2, ownsRow_stay h.own h2 (fun k hk => by have := (h.own.lt k hk).1; omega), h1, h.st.trans h2 (fun _ _ h => h), h.ok, h.lt⟩
theorem RdSt.below {T : TypeId} {w wr wr' : World} {B D b2 b3 : Nat} {sq kd : Int} {li : List Wi.It} {q : List UInt8 × Bool} {v : Value} (h : RdSt T w B D b2 b3 sq kd wr li q v) (h2 : Below wr.heap.size wr wr') : RdSt T w B D b2 b3 sq kd wr' li q v := by
  have hs := TStay.of_below h2 (fun k => k = B)
  exact ⟨(h2.block _ (blk_lt h.t3)).trans h.t3, (h2.block _ (blk_lt h.t2)).trans h.t2, ownsRow_stay h.own (TStay.of_below h2 (fun _ => False)) (fun _ _ h => h), h.rd.below h2, h.st.trans hs (fun _ _ h => h), h.ok, h.lt⟩
/-- A block that was made behind and is none of the state's turned. -/
theorem RdSt.turn {T : TypeId} {w wr wr' : World} {B D b2 b3 g : Nat} {sq kd : Int} {li : List Wi.It} {q : List UInt8 × Bool} {v : Value} (h : RdSt T w B D b2 b3 sq kd wr li q v) (h2 : TStay (fun k => k = g) wr wr') (hg : w.heap.size ≤ g) (h3 : g ≠ b3) (h4 : g ≠ b2) (h5 : ∀ k, v.ownBlock = some k → k ≠ g) : RdSt T w B D b2 b3 sq kd wr' li q v := by
  have hl := h.lt
  refine ⟨(h2.block _ (blk_lt h.t3) (by omega)).trans h.t3, (h2.block _ (blk_lt h.t2) (by omega)).trans h.t2, ownsRow_stay h.own h2 (fun k hk => h5 k hk), h.rd.stay h2 (by omega) (by omega), h.st.trans h2 (fun i hi h => by exfalso; omega), h.ok, h.lt⟩
/-- One more item appended, and the new row stored. -/
theorem RdSt.app {T : TypeId} {w wr wr' : World} {B D b2 b3 : Nat} {sq kd : Int} {li : List Wi.It} {q : List UInt8 × Bool} {v v' : Value} {x : Wi.It} (h : RdSt T w B D b2 b3 sq kd wr li q v) (ho : OwnI wr' w.heap.size v' (li ++ [x])) (hg : wr.grownBy wr' v.ownBlock) (hx : x.ok) :
    wr'.heap[b3]? = some (.cells #[.int .i64 sq, .int .i64 kd, v] 28 (0, 0)) ∧ RdSt T w B D b2 b3 sq kd (wr'.setCell ⟨b3, 2, none⟩ v') (li ++ [x]) q v' := by
  have hl := h.lt
  have n3 : v.ownBlock ≠ some b3 := own_ne' h.own h.t3 (by decide)
  have n2 : v.ownBlock ≠ some b2 := own_ne' h.own h.t2 (by decide)
  have e3 : wr'.heap[b3]? = some (.cells #[.int .i64 sq, .int .i64 kd, v] 28 (0, 0)) := (hg.block _ (blk_lt h.t3) (fun e => n3 e.symm)).trans h.t3
  have e2 : wr'.heap[b2]? = some (.cells #[.int .i64 0, .int .i64 0, .slice none 0 0] 28 (0, 0)) := (hg.block _ (blk_lt h.t2) (fun e => n2 e.symm)).trans h.t2
  have hs : TStay (fun k => w.heap.size ≤ k) wr wr' := (TStay.refl (fun k => w.heap.size ≤ k) wr).grown hg (fun k hk => .inl (h.own.lt k hk).1)
  have hs2 : TStay (fun k => k = b3) wr' (wr'.setCell ⟨b3, 2, none⟩ v') := (TStay.refl (fun k => k = b3) _).setCell (p := ⟨b3, 2, none⟩) (.inl rfl) _
  have nn : v'.ownBlock ≠ some b3 := own_ne' ho e3 (by decide)
  refine ⟨e3, heap_setCell_same _ b3 2 _ _ _ e3, (hs2.block _ (blk_lt e2) hl.2.2.2.2).trans e2, ownsRow_stay ho hs2 (fun k hk e => nn (by rw [← e]; exact hk)), (h.rd.stay hs (by omega) (by omega)).stay hs2 (by omega) (by omega), (h.st.trans hs (fun i hi h => by exfalso; omega)).trans hs2 (fun i hi h => by exfalso; omega), ?_, h.lt⟩
  intro i hi
  rw [List.mem_append, List.mem_singleton] at hi
  rcases hi with hi | rfl
  · exact h.ok i hi
  · exact hx
theorem pathC_one (h : List UInt8) (s : Int) : ∀ v ∈ (pathC h s).toList, v.oneCell' = true := by
  intro v hv
  simp only [pathC, List.mem_append, List.mem_cons, List.not_mem_nil, or_false] at hv
  rcases hv with hv | rfl
  · exact bv_one _ v hv
  · rfl
/-- What readHead answers. -/
structure HeadAft (T : TypeId) (w : World) (B D : Nat) (r : Wi.Rq × List UInt8 × Bool) (e : Ending) (w' : World) : Prop where
  e : ∃ a c, e = .returned (.agg #[.int .i64 r.1.seq, .int .i64 r.1.kind, .slice a r.1.items.length c]) ∧ RdI w' a r.1.items.length r.1.items ∧ (a = none → c = 0) ∧ r.1.items.length ≤ c ∧ ∀ x, a = some x → w.heap.size ≤ x.block
  rd : Rd T w' B D r.2.1 r.2.2
  st : TStay (fun k => k = B) w w'
theorem rdIts_zero (kd : Int) (q : List UInt8 × Bool) (n : Nat) (h : n = 0 ∨ q.2 = true) : Wi.rdIts kd n q = ([], q) := by
  cases n with
  | zero => rfl
  | succ n =>
    rcases h with h | h
    · omega
    · rw [Wi.rdIts, if_pos h]
theorem rdIts_succ (kd : Int) (q : List UInt8 × Bool) (n : Nat) (h : q.2 = false) : Wi.rdIts kd (n + 1) q = ((Wi.rdIt kd q.1 q.2).1 :: (Wi.rdIts kd n (Wi.rdIt kd q.1 q.2).2).1, (Wi.rdIts kd n (Wi.rdIt kd q.1 q.2).2).2) := by
  rw [Wi.rdIts, if_neg (by rw [h]; decide)]
set_option maxHeartbeats 4000000 in
set_option maxRecDepth 100000 in
theorem readHead_any {w : World} {B D : Nat} {l : List UInt8} {lk : Bool} (h : Rd 198 w B D l lk) :
    Calls Tryd.prog 37 #[.pointer (some ⟨B, 0, none⟩)] w (HeadAft 198 w B D (Wi.rdHead l lk)) := by
  obtain ⟨H, hH⟩ : ∃ H, H = Wi.rdHead l lk := ⟨_, rfl⟩
  rw [← hH]
  have HH := Lib.hid hH
  have b1 : Below w.heap.size w (w.alloc (.cells #[.int .i64 0, .int .i64 0, .slice none 0 0] 28)) := (Below.refl _ _).alloc (Nat.le_refl _) _
  have hu1 := rd_u32 (h.below b1)
  have LT : Hid (B < w.heap.size ∧ D < w.heap.size) := Lib.hid ⟨h.lt, h.dlt⟩
  have T1 : Hid ((w.alloc (.cells #[.int .i64 0, .int .i64 0, .slice none 0 0] 28)).heap[w.heap.size]? = some (.cells #[.int .i64 0, .int .i64 0, .slice none 0 0] 28 (0, 0))) := Lib.hid (heap_alloc_new _ _)
  have B1 := Lib.hid b1
  obtain ⟨s4, hs4⟩ : ∃ s4, s4 = Oct.rdU 4 l lk := ⟨_, rfl⟩
  rw [← hs4] at hu1
  obtain ⟨sq, hsq⟩ : ∃ sq, sq = Oct.i64 s4.1 := ⟨_, rfl⟩
  rw [← hsq] at hu1
  have HS4 := Lib.hid hs4
  have HSQ := Lib.hid hsq
  clear hH h b1 hs4 hsq
  go_enter Tryd.func37, Tryd.ntmps37
  go_wp2_with fail
  refine hu1.mono ?_
  clear hu1
  rintro e w1 ⟨rfl, r1, s1⟩
  have T1' := Lib.hid ((s1.block _ (blk_lt T1.out) (by have := LT.out; omega)).trans T1.out)
  have S1 := Lib.hid ((TStay.of_below B1.out (fun k => k = B)).trans s1 (fun _ _ h => h))
  have hu2 := rd_u8 r1
  obtain ⟨k1, hk1⟩ : ∃ k1, k1 = Oct.rdU 1 s4.2.1 s4.2.2 := ⟨_, rfl⟩
  rw [← hk1] at hu2
  obtain ⟨kd, hkd⟩ : ∃ kd, kd = Oct.i64 k1.1 := ⟨_, rfl⟩
  rw [← hkd] at hu2
  have HK1 := Lib.hid hk1
  have HKD := Lib.hid hkd
  clear r1 s1 T1 B1 hk1 hkd
  go_wp2_with fail
  refine hu2.mono ?_
  clear hu2
  rintro e w2 ⟨rfl, r2, s2⟩
  have T2 := Lib.hid ((s2.block _ (blk_lt T1'.out) (by have := LT.out; omega)).trans T1'.out)
  have S2 := Lib.hid (S1.out.trans s2 (fun _ _ h => h))
  have b2 : Below w2.heap.size w2 (w2.alloc (.cells #[.int .i64 sq, .int .i64 kd, .slice none 0 0] 28)) := (Below.refl _ _).alloc (Nat.le_refl _) _
  have hu3 := rd_u8 (r2.below b2)
  obtain ⟨n1, hn1⟩ : ∃ n1, n1 = Oct.rdU 1 k1.2.1 k1.2.2 := ⟨_, rfl⟩
  rw [← hn1] at hu3
  have hnn : Oct.i64 n1.1 = (n1.1 : Int) := by rw [hn1]; exact Wi.rdU_i64 1 (by omega) _ _
  have hn256 : n1.1 < 256 := by rw [hn1]; exact Oct.rdU_lt 1 _ _
  rw [hnn] at hu3
  obtain ⟨n0, hn0⟩ : ∃ n0, n0 = n1.1 := ⟨_, rfl⟩
  rw [← hn0] at hu3 hn256
  have HN1 := Lib.hid hn1
  have HN0 := Lib.hid hn0
  have HN256 := Lib.hid hn256
  have RS : Hid (RdSt 198 w B D w.heap.size w2.heap.size sq kd (w2.alloc (.cells #[.int .i64 sq, .int .i64 kd, .slice none 0 0] 28)) [] k1.2 (.slice none 0 0)) := Lib.hid
    ⟨heap_alloc_new _ _, (b2.block _ (blk_lt T2.out)).trans T2.out, World.ownsRow_nil _ _ _ _, r2.below b2, S2.out.trans (TStay.of_below b2 (fun k => k = B)) (fun _ _ h => h), (fun i hi => by cases hi), ⟨LT.out.1, LT.out.2, S2.out.size, Nat.le_refl _, by have := blk_lt T2.out; omega⟩⟩
  clear r2 s2 b2 T1' S1 T2 S2 hn1 hn0 hnn hn256
  go_wp2_with fail
  refine hu3.mono ?_
  clear hu3
  rintro e w4 ⟨rfl, r4, s4'⟩
  have R4 := Lib.hid (RS.out.step r4 s4')
  have HF : Hid (H = (⟨sq, kd, (Wi.rdIts kd n0 n1.2).1⟩, (Wi.rdIts kd n0 n1.2).2)) := Lib.hid (by
    rw [HH.out, Wi.rdHead, ← show s4 = _ from HS4.out, ← show k1 = _ from HK1.out, ← show n1 = _ from HN1.out, ← show sq = _ from HSQ.out, ← show kd = _ from HKD.out, ← show n0 = _ from HN0.out])
  clear RS r4 s4' HS4 HK1 HN1 HSQ HKD HN0 HH
  obtain ⟨q0, hq0⟩ : ∃ q0, q0 = n1.2 := ⟨_, rfl⟩
  rw [← hq0] at HF R4
  clear hq0
  obtain ⟨b3, hb3⟩ : ∃ b3, b3 = w2.heap.size := ⟨_, rfl⟩
  rw [← hb3] at R4 ⊢
  clear hb3
  go_wp2
  go_loopw [4] (fun nv wr => ∃ (nn : Nat) (li : List Wi.It) (q : List UInt8 × Bool) (v : Value), nv = .int .i64 (nn : Int) ∧ Hid (Wi.rdIts kd n0 q0 = (li ++ (Wi.rdIts kd nn q).1, (Wi.rdIts kd nn q).2)) ∧ Hid (li.length + nn ≤ 255) ∧ Hid (RdSt 198 w B D w.heap.size b3 sq kd wr li q v)) (fun nv _ => (intOf nv).toNat)
  case atStart => exact ⟨n0, [], q0, .slice none 0 0, rfl, Lib.hid (by rw [List.nil_append]), Lib.hid (by have := HN256.out; simp; omega), R4⟩
  case round =>
    obtain ⟨nn, li, q, v, rfl, HE, HLN, HR⟩ := hrel
    clear R4
    have hlack := lack_same HR.out.rd
    obtain ⟨g0, g1, g2⟩ := cells3 HR.out.t3
    by_cases hgo : 0 < nn ∧ q.2 = false
    · obtain ⟨h0, hlk⟩ := hgo
      obtain ⟨mm, hmm⟩ : ∃ mm, nn = mm + 1 := ⟨nn - 1, by omega⟩
      have d0 : decide ((0 : Int) < (nn : Int)) = true := decide_eq_true (by omega)
      have d0' : (0 : Int) < (nn : Int) := by omega
      have hw : IntKind.i64.wrap ((nn : Int) - 1) = (mm : Int) := by rw [wrapi' _ (by have := HLN.out; omega)]; omega
      have HMM := Lib.hid hmm
      rw [hmm] at HE
      rw [hlk] at hlack
      have HLK := Lib.hid hlk
      have HS := Lib.hid (rdIts_succ kd q mm hlk)
      obtain ⟨it, hit⟩ : ∃ it, it = Wi.rdIt kd q.1 q.2 := ⟨_, rfl⟩
      rw [← hit] at HS
      have HIT := Lib.hid hit
      have HOK : Hid (it.1.ok) := Lib.hid (by rw [hit]; exact Wi.rdIt_ok _ _ _)
      have ba : Below wr.heap.size wr (wr.alloc (.cells (itC ⟨Wi.z32, 0, []⟩) 44)) := (Below.refl _ _).alloc (Nat.le_refl _) _
      have RA := Lib.hid (HR.out.below ba)
      have TA : Hid ((wr.alloc (.cells (itC ⟨Wi.z32, 0, []⟩) 44)).heap[wr.heap.size]? = some (.cells (itC ⟨Wi.z32, 0, []⟩) 44 (0, 0))) := Lib.hid (heap_alloc_new _ _)
      obtain ⟨ga0, ga1, ga2⟩ := cells3 RA.out.t3
      have NB : Hid (wr.heap.size ≠ B ∧ wr.heap.size ≠ b3 ∧ wr.heap.size ≠ w.heap.size ∧ w.heap.size ≤ wr.heap.size ∧ ∀ k, v.ownBlock = some k → k ≠ wr.heap.size) := Lib.hid
        ⟨by have := HR.out.rd.lt; omega, by have := blk_lt HR.out.t3; omega, by have := blk_lt HR.out.t2; omega, HR.out.st.size, fun k hk => by have := (HR.out.own.lt k hk).2; omega⟩
      clear hlk hit ba h0
      have HE2 : Hid (Wi.rdIts kd n0 q0 = ((li ++ [it.1]) ++ (Wi.rdIts kd mm it.2).1, (Wi.rdIts kd mm it.2).2)) := Lib.hid (by rw [HE.out, HS.out, List.append_assoc]; rfl)
      have HLN2 : Hid ((li ++ [it.1]).length + mm ≤ 255) := Lib.hid (by have := HLN.out; rw [List.length_append, List.length_singleton]; omega)
      clear HE HS g0 g1 g2 hmm
      by_cases hk1 : kd = 1
      · as_aux_lemma =>
          subst hk1
          obtain ⟨hq, hhq⟩ : ∃ hq, hq = Wi.rdHash q.1 q.2 := ⟨_, rfl⟩
          obtain ⟨vq, hvq⟩ : ∃ vq, vq = Oct.rdVar hq.2.1 hq.2.2 := ⟨_, rfl⟩
          have HITE : Hid (it = (⟨hq.1, vq.1, []⟩, vq.2)) := Lib.hid (by rw [HIT.out, Wi.rdIt, if_pos rfl, hvq, hhq])
          have HL32 : Hid (hq.1.length = 32) := Lib.hid (by rw [hhq]; exact Wi.rdHash_length _ _)
          have hh := wireHash_any RA.out.rd
          rw [← hhq] at hh
          have HVQ := Lib.hid hvq
          clear hhq hvq HIT
          go_wp2_with fail
          refine hlack.mono ?_
          clear hlack
          rintro e w' ⟨rfl, rfl⟩
          go_wp2_with (refine wpL_alloc rfl 44 rfl 5 rfl (itC ⟨Wi.z32, 0, []⟩) 34 zi_item ?_)
          refine hh.mono ?_
          clear hh ga0 ga1 ga2
          rintro e w5 ⟨rfl, r5, s5⟩
          have R5 := Lib.hid (RA.out.step r5 s5)
          have T5 := Lib.hid ((s5.block _ (blk_lt TA.out) NB.out.1).trans TA.out)
          have hv := rd_var r5
          rw [← show vq = _ from HVQ.out] at hv
          clear r5 s5 RA TA
          go_wp2_with fail
          refine hv.mono ?_
          clear hv
          rintro e w6 ⟨rfl, r6, s6⟩
          have R6 := Lib.hid (R5.out.step r6 s6)
          have T6 := Lib.hid ((s6.block _ (blk_lt T5.out) NB.out.1).trans T5.out)
          clear r6 s6 R5 T5
          go_wp2_with (first | (refine wpL_built ?hw 42 #[(0, .tmp 26), (1, .tmp 28)] rfl [(0, .agg (hashC hq.1)), (1, .int .i64 vq.1)] ?hv (pathC hq.1 vq.1) ?hb ?_; (case hw => kernel_rfl); (try case hv => rfl); (case hb => exact bt_path _ _ HL32.out)) | (refine wpL_storeW ?hw 42 (.tmp 30) (.tmp 29) rfl wr.heap.size 0 rfl (pathC hq.1 vq.1) rfl (itC ⟨Wi.z32, 0, []⟩) 44 T6.out (itC ⟨hq.1, vq.1, []⟩) (sp_item_path ⟨Wi.z32, 0, []⟩ _ _ rfl HL32.out) (by rw [pathC_size _ _ HL32.out]; exact (by decide : 0 + 33 ≤ 34)) (pathC_one _ _) (by rw [pathC_size _ _ HL32.out]; exact sz_path) ?_; case hw => kernel_rfl))
          intro w7 T7 S7
          have R7 := Lib.hid (R6.out.turn S7 NB.out.2.2.2.1 NB.out.2.1 NB.out.2.2.1 NB.out.2.2.2.2)
          have HXE : Hid (itC ⟨hq.1, vq.1, []⟩ = itC it.1) := Lib.hid (by rw [HITE.out])
          rw [HXE.out] at T7
          have HT7 := Lib.hid T7
          have HR2 : Hid (R7.out = R7.out) := Lib.hid rfl
          have Q2 : Hid (it.2 = vq.2) := Lib.hid (by rw [HITE.out])
          have P7 : Hid (Part w7 wr.heap.size 0 (itC it.1)) := Lib.hid (Part.of_blk T7)
          have ba7 : Below w7.heap.size w7 (w7.alloc (.cells (itC it.1) 44)) := (Below.refl _ _).alloc (Nat.le_refl _) _
          have R8 : Hid (RdSt 198 w B D w.heap.size b3 sq 1 (w7.alloc (.cells (itC it.1) 44)) li it.2 v) := Lib.hid (by rw [Q2.out]; exact R7.out.below ba7)
          have HLA : Hid (w.heap.size ≤ (w7.alloc (.cells (itC it.1) 44)).heap.size) := Lib.hid R8.out.st.size
          obtain ⟨g0, g1, g2⟩ := cells3 R7.out.t3
          clear T7 S7 R6 T6 ba7 HR2
          go_wp2_with (first | (refine wpL_load ?hw 44 (.tmp 5) rfl wr.heap.size 0 rfl (itC it.1) _ P7.out Tryd.underlying44 rfl (by rw [itC_size _ HOK.out]; exact sz_item) ?_; case hw => kernel_rfl) | (refine wpL_rowOne rfl 26 44 (.tmp 39) rfl 40 rfl Tryd.underlying26 (itC it.1) ?hx (.agg (itC ⟨Wi.z32, 0, []⟩)) 34 zi_item (by decide) (itC_size _ HOK.out) ?_; (try case hx => rfl)) | (at_builtin; refine wpL_appI _ rfl (.tmp 38) (.tmp 40) rfl w.heap.size v li ?ha R8.out.own w7.heap.size it.1 HOK.out ?hx (heap_alloc_new _ _) (by have := HLN.out; omega) HLA.out ?_; (try case ha => rfl); (try case hx => rfl)))
          intro v' w8 O8 G8
          obtain ⟨a', c', rfl, _⟩ := ownsRow_slice O8
          obtain ⟨E3, R9⟩ := R8.out.app O8 G8 HOK.out
          rw [show (li ++ [it.1]).length = li.length + 1 by simp] at R9
          have HR9 := Lib.hid R9
          obtain ⟨g0', g1', g2'⟩ := cells3 E3
          have f2 := blk_free E3 2
          clear O8 G8 R9 R8 R7 HT7 P7 g0 g1 g2 g0' g1' E3
          go_wp2
          go_roundw
          case rel => exact ⟨mm, li ++ [it.1], it.2, _, by go_num, HE2, HLN2, HR9⟩
          case measure => have := HMM.out; simp [intOf]; omega
      · as_aux_lemma =>
          have dk : (kd == 1) = false := by simp [hk1]
          obtain ⟨nq, hnq⟩ : ∃ nq, nq = Oct.rdU 1 q.1 q.2 := ⟨_, rfl⟩
          have hnn : Oct.i64 nq.1 = (nq.1 : Int) := by rw [hnq]; exact Wi.rdU_i64 1 (by omega) _ _
          have hn256 : nq.1 < 256 := by rw [hnq]; exact Oct.rdU_lt 1 _ _
          obtain ⟨xq, hxq⟩ : ∃ xq, xq = Oct.rdRaw (nq.1 : Int) nq.2.1 nq.2.2 := ⟨_, rfl⟩
          have HITE : Hid (it = (⟨Wi.z32, 0, xq.1⟩, xq.2)) := Lib.hid (by rw [HIT.out, Wi.rdIt, if_neg hk1, hxq, ← hnn, hnq])
          have hu := rd_u8 RA.out.rd
          rw [← hnq, hnn] at hu
          have HXQ := Lib.hid hxq
          have HN2 := Lib.hid hn256
          clear hnq hxq hnn hn256 HIT hk1
          go_wp2_with fail
          refine hlack.mono ?_
          clear hlack
          rintro e w' ⟨rfl, rfl⟩
          go_wp2_with (refine wpL_alloc rfl 44 rfl 5 rfl (itC ⟨Wi.z32, 0, []⟩) 34 zi_item ?_)
          refine hu.mono ?_
          clear hu ga0 ga1 ga2
          rintro e w5 ⟨rfl, r5, s5⟩
          have R5 := Lib.hid (RA.out.step r5 s5)
          have T5 := Lib.hid ((s5.block _ (blk_lt TA.out) NB.out.1).trans TA.out)
          have hv := rd_raw r5 (nq.1 : Int) (by have := HN2.out; omega)
          rw [← show xq = _ from HXQ.out] at hv
          clear r5 s5 RA TA
          go_wp2_with fail
          refine hv.mono ?_
          clear hv
          rintro e w6 ⟨⟨xa, xc, rfl, o6⟩, r6, s6⟩
          have R6 := Lib.hid (R5.out.step r6 s6)
          have T6 := Lib.hid ((s6.block _ (blk_lt T5.out) NB.out.1).trans T5.out)
          have hcv := convB w6 xa xq.1.length xc xq.1 (Rds.of_own o6 rfl)
          have q33 : w6.cell? ⟨wr.heap.size, 33, none⟩ = some (.string (str [])) := by rw [cell_of_row w6 _ 33 _ _ _ T6.out]; rfl
          have f33 : w6.frozen? ⟨wr.heap.size, 33, none⟩ = false := blk_free T6.out 33
          have T7 : (w6.setCell ⟨wr.heap.size, 33, none⟩ (.string (str xq.1))).heap[wr.heap.size]? = some (.cells (itC it.1) 44 (0, 0)) := by
            rw [heap_setCell_same _ _ 33 _ _ _ T6.out, it_set33, HITE.out]
          have S7 : TStay (fun k => k = wr.heap.size) w6 (w6.setCell ⟨wr.heap.size, 33, none⟩ (.string (str xq.1))) := (TStay.refl (fun k => k = wr.heap.size) _).setCell (p := ⟨wr.heap.size, 33, none⟩) (.inl rfl) _
          have R7 := Lib.hid (R6.out.turn S7 NB.out.2.2.2.1 NB.out.2.1 NB.out.2.2.1 NB.out.2.2.2.2)
          have Q2 : Hid (it.2 = xq.2) := Lib.hid (by rw [HITE.out])
          have P7 : Hid (Part (w6.setCell ⟨wr.heap.size, 33, none⟩ (.string (str xq.1))) wr.heap.size 0 (itC it.1)) := Lib.hid (Part.of_blk T7)
          have ba7 : Below (w6.setCell ⟨wr.heap.size, 33, none⟩ (.string (str xq.1))).heap.size (w6.setCell ⟨wr.heap.size, 33, none⟩ (.string (str xq.1))) ((w6.setCell ⟨wr.heap.size, 33, none⟩ (.string (str xq.1))).alloc (.cells (itC it.1) 44)) := (Below.refl _ _).alloc (Nat.le_refl _) _
          have R8 : Hid (RdSt 198 w B D w.heap.size b3 sq kd ((w6.setCell ⟨wr.heap.size, 33, none⟩ (.string (str xq.1))).alloc (.cells (itC it.1) 44)) li it.2 v) := Lib.hid (by rw [Q2.out]; exact R7.out.below ba7)
          have HLA : Hid (w.heap.size ≤ ((w6.setCell ⟨wr.heap.size, 33, none⟩ (.string (str xq.1))).alloc (.cells (itC it.1) 44)).heap.size) := Lib.hid R8.out.st.size
          obtain ⟨g0, g1, g2⟩ := cells3 R7.out.t3
          clear T7 S7 R6 ba7 o6 r6 s6 R5 T5
          go_wp2_with (first | (refine wpL_load ?hw 44 (.tmp 5) rfl wr.heap.size 0 rfl (itC it.1) _ P7.out Tryd.underlying44 rfl (by rw [itC_size _ HOK.out]; exact sz_item) ?_; case hw => kernel_rfl) | (refine wpL_rowOne rfl 26 44 (.tmp 39) rfl 40 rfl Tryd.underlying26 (itC it.1) ?hx (.agg (itC ⟨Wi.z32, 0, []⟩)) 34 zi_item (by decide) (itC_size _ HOK.out) ?_; (try case hx => rfl)) | (at_builtin; refine wpL_appI _ rfl (.tmp 38) (.tmp 40) rfl w.heap.size v li ?ha R8.out.own (w6.setCell ⟨wr.heap.size, 33, none⟩ (.string (str xq.1))).heap.size it.1 HOK.out ?hx (heap_alloc_new _ _) (by have := HLN.out; omega) HLA.out ?_; (try case ha => rfl); (try case hx => rfl)))
          intro v' w8 O8 G8
          obtain ⟨a', c', rfl, _⟩ := ownsRow_slice O8
          obtain ⟨E3, R9⟩ := R8.out.app O8 G8 HOK.out
          rw [show (li ++ [it.1]).length = li.length + 1 by simp] at R9
          have HR9 := Lib.hid R9
          obtain ⟨g0', g1', g2'⟩ := cells3 E3
          have f2 := blk_free E3 2
          clear O8 G8 R9 R8 R7 P7 g0 g1 g2 g0' g1' E3 T6 q33 f33 hcv
          go_wp2
          go_roundw
          case rel => exact ⟨mm, li ++ [it.1], it.2, _, by go_num, HE2, HLN2, HR9⟩
          case measure => have := HMM.out; simp [intOf]; omega
    · as_aux_lemma =>
        have HST : Hid (Wi.rdIts kd nn q = ([], q)) := Lib.hid (rdIts_zero kd q nn (by cases hq : q.2 with | true => exact .inr rfl | false => left; simp [hq] at hgo; omega))
        have HFI : Hid (H = (⟨sq, kd, li⟩, q)) := Lib.hid (by rw [HF.out, HE.out, HST.out, List.append_nil])
        have PT : Hid (Part wr b3 0 #[.int .i64 sq, .int .i64 kd, v]) := Lib.hid (Part.of_blk HR.out.t3)
        have hone : ∀ u ∈ (#[.int .i64 sq, .int .i64 kd, v] : Array Value).toList, u.oneCell' = true := by
          obtain ⟨a, c, rfl, _⟩ := ownsRow_slice HR.out.own
          intro u hu
          simp only [List.mem_cons, List.not_mem_nil, or_false] at hu
          rcases hu with rfl | rfl | rfl <;> rfl
        have HONE := Lib.hid hone
        have key : ∀ w', w'.heap[w.heap.size]? = some (.cells #[.int .i64 sq, .int .i64 kd, v] 28 (0, 0)) → TStay (fun k => k = w.heap.size) wr w' → HeadAft 198 w B D H (.returned (.agg #[.int .i64 sq, .int .i64 kd, v])) w' := fun w' h1 h2 => by
          obtain ⟨a, c, e, ri, hz, hlc, hblk⟩ := rdI_own HR.out.own HR.out.ok
          have hne := own_ne' HR.out.own HR.out.t2 (by decide)
          have hl := HR.out.lt
          rw [HFI.out]
          refine ⟨⟨a, c, by rw [e], ri.stay h2 (fun h0 b o e2 e3 => hne (by rw [e, e2]; simp [Value.ownBlock, e3])), hz, hlc, hblk⟩, HR.out.rd.stay h2 (by omega) (by omega), HR.out.st.trans h2 (fun i hi h => by exfalso; omega)⟩
        have KEY := Lib.hid key
        have T2 := Lib.hid HR.out.t2
        clear hone key
        have hcase : (nn = 0) ∨ (0 < nn ∧ q.2 = true) := by
          rcases Nat.eq_zero_or_pos nn with h | h
          · exact .inl h
          · exact .inr ⟨h, by cases hq : q.2 with | true => rfl | false => exact absurd ⟨h, hq⟩ hgo⟩
        clear hgo g0 g1 g2
        rcases hcase with rfl | ⟨h0, hq⟩
        · go_wp2_with (first | (refine wpL_load ?hw 28 (.tmp 3) rfl b3 0 rfl #[.int .i64 sq, .int .i64 kd, v] _ PT.out Tryd.underlying28 rfl (sz_rq _ _ _) ?_; case hw => kernel_rfl) | (refine wpL_storeW ?hw 28 (.tmp 2) (.tmp 43) rfl w.heap.size 0 rfl #[.int .i64 sq, .int .i64 kd, v] rfl #[.int .i64 0, .int .i64 0, .slice none 0 0] 28 T2.out #[.int .i64 sq, .int .i64 kd, v] rfl (Nat.le_refl 3) HONE.out (sz_rq _ _ _) ?_; case hw => kernel_rfl))
          intro w9 T9 S9
          go_wp2
          exact bodyPost_ret (results_cell_row rfl _ _ w.heap.size 28 _ (0, 0) _ rfl T9 Tryd.underlying28 rfl (sz_rq _ _ _)) rfl (KEY.out w9 T9 S9)
        · have d0 : decide ((0 : Int) < (nn : Int)) = true := decide_eq_true (by omega)
          have d0' : (0 : Int) < (nn : Int) := by omega
          rw [hq] at hlack
          clear hq h0
          go_wp2_with fail
          refine hlack.mono ?_
          rintro e w' ⟨rfl, rfl⟩
          go_wp2_with (first | (refine wpL_load ?hw 28 (.tmp 3) rfl b3 0 rfl #[.int .i64 sq, .int .i64 kd, v] _ PT.out Tryd.underlying28 rfl (sz_rq _ _ _) ?_; case hw => kernel_rfl) | (refine wpL_storeW ?hw 28 (.tmp 2) (.tmp 43) rfl w.heap.size 0 rfl #[.int .i64 sq, .int .i64 kd, v] rfl #[.int .i64 0, .int .i64 0, .slice none 0 0] 28 T2.out #[.int .i64 sq, .int .i64 kd, v] rfl (Nat.le_refl 3) HONE.out (sz_rq _ _ _) ?_; case hw => kernel_rfl))
          intro w9 T9 S9
          go_wp2
          exact bodyPost_ret (results_cell_row rfl _ _ w.heap.size 28 _ (0, 0) _ rfl T9 Tryd.underlying28 rfl (sz_rq _ _ _)) rfl (KEY.out w9 T9 S9)
end Go.Proofs.YthampbiabkfmoaaDoor
