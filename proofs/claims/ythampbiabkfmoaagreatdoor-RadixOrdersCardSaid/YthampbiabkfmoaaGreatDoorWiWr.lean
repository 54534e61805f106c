/- A Writer as a state; layPath, layHead, summed, LayRequest. -/
import Derived.Test.YthampbiabkfmoaaGreatDoorWiReq
import Derived.Test.YthampbiabkfmoaaGreatDoorOctNew
import Derived.Test.YthampbiabkfmoaaGreatDoorCrc
namespace Go.Proofs.YthampbiabkfmoaaGreatDoor
open Go.RowKit Go.Tap
set_option linter.unusedVariables false
set_option linter.unusedSimpArgs false
/-- All blocks but those of writers (type T) and of bytes stay. -/
def KeepW (T : TypeId) (w w' : World) : Prop := ∀ (k : Nat) (cs : Array Value) (t : TypeId) (fr : Nat × Nat), w.heap[k]? = some (Obj.cells cs t fr) → t ≠ T → t ≠ 5 → w'.heap[k]? = w.heap[k]?
theorem KeepW.refl (T : TypeId) (w : World) : KeepW T w w := fun _ _ _ _ _ _ _ => rfl
theorem KeepW.trans {T : TypeId} {a b c : World} (h : KeepW T a b) (k : KeepW T b c) : KeepW T a c := fun i cs t fr hi h1 h2 => by
  have := h i cs t fr hi h1 h2
  exact (k i cs t fr (this.trans hi) h1 h2).trans this
theorem KeepW.below {T : TypeId} {w w' : World} (h : Below w.heap.size w w') : KeepW T w w' := fun i cs t fr hi _ _ => h.block i (blk_lt hi)
/-- A writer with these bytes, made behind w0. -/
structure Wr (T : TypeId) (w0 w : World) (B : Nat) (l : List UInt8) : Prop where
  is : ∃ v, IsW T w B v l ∧ ∀ k, v.ownBlock = some k → w0.heap.size ≤ k
  new : w0.heap.size ≤ B
  bel : Below w0.heap.size w0 w
theorem Wr.below {T : TypeId} {w0 w w' : World} {B : Nat} {l : List UInt8} (h : Wr T w0 w B l) (hb : Below w.heap.size w w') : Wr T w0 w' B l := by
  obtain ⟨⟨v, h1, h2⟩, h3, h4⟩ := h
  exact ⟨⟨v, ⟨(hb.block _ (blk_lt h1.blk)).trans h1.blk, ownsRow_stay h1.own (TStay.of_below hb (fun _ => False)) (fun _ _ h => h)⟩, h2⟩, h3, h4.trans (hb.mono h4.size)⟩
theorem Wr.lt {T : TypeId} {w0 w : World} {B : Nat} {l : List UInt8} (h : Wr T w0 w B l) : B < w.heap.size := by
  obtain ⟨⟨v, h1, h2⟩, h3, h4⟩ := h; exact blk_lt h1.blk
theorem Wr.blk {T : TypeId} {w0 w : World} {B : Nat} {l : List UInt8} (h : Wr T w0 w B l) : ∃ cs, w.heap[B]? = some (.cells cs T (0, 0)) := by
  obtain ⟨⟨v, h1, h2⟩, h3, h4⟩ := h; exact ⟨_, h1.blk⟩
/-- Behind a writing call. -/
structure WrAft (T : TypeId) (w0 w : World) (B : Nat) (l : List UInt8) (e : Ending) (w' : World) : Prop where
  e : e = .returned (.tuple #[])
  wr : Wr T w0 w' B l
  keep : KeepW T w w'
theorem wr_step {T : TypeId} {w0 w : World} {B f : Nat} {l l' : List UInt8} {args : Array Value} (h : Wr T w0 w B l) (hc : ∀ v, IsW T w B v l → Calls Tryz.prog f args w (WAft T w B v l')) : Calls Tryz.prog f args w (WrAft T w0 w B l') := by
  obtain ⟨⟨v, h1, h2⟩, h3, h4⟩ := h
  refine (hc v h1).mono ?_
  rintro e w' ⟨rfl, v', k1, k2, k3⟩
  refine ⟨rfl, ⟨⟨v', k1, fun k hk => (k3 k hk).elim (h2 k) (fun q => by have := h4.size; omega)⟩, h3, ?_⟩, fun i cs t fr hi n1 n2 => k2.block i (blk_lt hi) ?_⟩
  · exact Below.trans_stay h4 k2 (Nat.le_refl _) (fun k hk q => by rcases q with q | q; omega; have := h2 k q; omega)
  · rintro (rfl | q)
    · rw [h1.blk] at hi; simp at hi; exact n1 hi.2.1.symm
    · rcases h1.own.2 with ⟨rfl, _⟩ | ⟨g, cap, cur, rfl, _, hg, _⟩
      · simp [Value.ownBlock] at q
      · simp [Value.ownBlock] at q; subst q; rw [hg] at hi; simp at hi; exact n2 hi.2.1.symm
theorem wr_u8 {w0 w : World} {B : Nat} {l : List UInt8} (h : Wr 175 w0 w B l) (n : Int) (hl : l.length ≤ 1000000) : Calls Tryz.prog 81 #[.pointer (some ⟨B, 0, none⟩), .int .i64 n] w (WrAft 175 w0 w B (l ++ Wi.u8B n)) :=
  wr_step h fun v hv => oU8_any w B v l hv n (by omega)
theorem wr_u32 {w0 w : World} {B : Nat} {l : List UInt8} (h : Wr 175 w0 w B l) (n : Int) (hl : l.length ≤ 1000000) : Calls Tryz.prog 82 #[.pointer (some ⟨B, 0, none⟩), .int .i64 n] w (WrAft 175 w0 w B (l ++ Wi.u32B n)) :=
  wr_step h fun v hv => oU32_any w B v l hv n (by omega)
theorem wr_var {w0 w : World} {B : Nat} {l : List UInt8} (h : Wr 175 w0 w B l) (n : Int) (hl : l.length ≤ 1000000) : Calls Tryz.prog 66 #[.pointer (some ⟨B, 0, none⟩), .int .i64 n] w (WrAft 175 w0 w B (l ++ Oct.var (Oct.u64 n))) :=
  wr_step h fun v hv => oVar_any w B v l hv n (by omega)
theorem wr_raw {w0 w : World} {B : Nat} {l : List UInt8} (h : Wr 175 w0 w B l) (a : Option Addr) (n c : Nat) (x : List UInt8) (hr : Rds w a n x) (hz : a = none → c = 0) (hl : l.length ≤ 1000000) (hn : n ≤ 1000000) :
    Calls Tryz.prog 65 #[.pointer (some ⟨B, 0, none⟩), .slice a n c] w (WrAft 175 w0 w B (l ++ x)) :=
  wr_step h fun v hv => oRaw_any w B v l hv a n c x hr hz (by omega)
theorem wr_bytes {w0 w : World} {B : Nat} {l : List UInt8} (h : Wr 175 w0 w B l) (hl : l.length ≤ 1000000) : Calls Tryz.prog 67 #[.pointer (some ⟨B, 0, none⟩)] w (Fresh w l) := by
  obtain ⟨⟨v, h1, h2⟩, h3, h4⟩ := h
  exact bytes_any w B v l h1 (by omega)
/-- The bytes of an array's place. -/
theorem rds_part {w : World} {g o : Nat} {h : List UInt8} (hl : h.length = 32) (hp : Part w g o (hashC h)) : Rds w (some ⟨g, o, none⟩) 32 h :=
  ⟨hl, fun _ => ⟨g, o, rfl, fun i x hx => hp i _ (by simp [hashC, bv_getElem?, hx])⟩⟩
theorem part_sub {w : World} {g o : Nat} {C D : Array Value} {p n : Nat} (h : Part w g o C) (he : C.extract p (p + n) = D) : Part w g (o + p) D := fun j v hv => by
  rw [← he, Array.getElem?_extract] at hv
  split at hv
  · have := h (p + j) v hv; rwa [show o + p + j = o + (p + j) by omega]
  · cases hv
theorem slice_arr (w : World) (g o : Nat) : (Instr.sliceAt 42 (.pointer (some ⟨g, o, none⟩)) none none none).run Tryz.prog w = .ok (.slice (some ⟨g, o, none⟩) 32 32) w :=
  run_slice_array Tryz.underlying42 sz_u8
end Go.Proofs.YthampbiabkfmoaaGreatDoor
