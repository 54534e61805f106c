/- A Reader as a state; wire.hash. -/
import Derived.Test.YthampbiabkfmoaaGreatDoorWiWr
import Derived.Test.YthampbiabkfmoaaGreatDoorWiHash
import Derived.Test.YthampbiabkfmoaaGreatDoorReadQ
import Derived.Test.YthampbiabkfmoaaGreatDoorReadVar
import Derived.Deep.RegionHeld3
namespace Go.Proofs.YthampbiabkfmoaaGreatDoor
open Go.RowKit Go.Tap
set_option linter.unusedVariables false
set_option linter.unusedSimpArgs false
/-- A reader (type T) with these bytes left, which lie in block D. -/
structure Rd (T : TypeId) (w : World) (B D : Nat) (l : List UInt8) (lk : Bool) : Prop where
  is : ∃ a c, IsQ D T w B a c lk l
  dlt : D < w.heap.size
theorem Rd.lt {T : TypeId} {w : World} {B D : Nat} {l : List UInt8} {lk : Bool} (h : Rd T w B D l lk) : B < w.heap.size := by
  obtain ⟨⟨a, c, h⟩, _⟩ := h; exact h.lt
theorem Rd.stay {T : TypeId} {S : Nat → Prop} {w w' : World} {B D : Nat} {l : List UInt8} {lk : Bool} (h : Rd T w B D l lk) (ht : TStay S w w') (hB : ¬ S B) (hD : ¬ S D) : Rd T w' B D l lk := by
  have hlt := h.lt
  obtain ⟨⟨a, c, h⟩, hd⟩ := h
  refine ⟨⟨a, c, ⟨⟨(ht.block B hlt hB).trans h.blk, h.rds.keep (fun h0 b o e => ?_), h.le, h.nnil, h.cap⟩, h.dat⟩⟩, by have := ht.size; omega⟩
  have := h.dat _ e
  simp only at this
  subst this
  exact ht.block _ hd hD
theorem Rd.below {T : TypeId} {w w' : World} {B D : Nat} {l : List UInt8} {lk : Bool} (h : Rd T w B D l lk) (hb : Below w.heap.size w w') : Rd T w' B D l lk :=
  h.stay (TStay.of_below hb (fun _ => False)) (fun h => h) (fun h => h)
/-- Behind a reading call. -/
structure RdAft (T : TypeId) (w : World) (B D : Nat) (v : Value) (q : List UInt8 × Bool) (e : Ending) (w' : World) : Prop where
  e : e = .returned v
  rd : Rd T w' B D q.1 q.2
  st : TStay (fun k => k = B) w w'
theorem rd_step {T : TypeId} {w : World} {B D f : Nat} {l : List UInt8} {lk : Bool} {args : Array Value} {v : Value} {q : List UInt8 × Bool} (h : Rd T w B D l lk) (hc : ∀ a c, IsQ D T w B a c lk l → Calls Tryz.prog f args w (QAft D T w B v q)) : Calls Tryz.prog f args w (RdAft T w B D v q) := by
  obtain ⟨⟨a, c, h1⟩, hd⟩ := h
  refine (hc a c h1).mono ?_
  rintro e w' ⟨rfl, a', c', k1, k2⟩
  exact ⟨rfl, ⟨⟨a', c', k1⟩, by have := k2.size; omega⟩, k2⟩
theorem rd_u8 {w : World} {B D : Nat} {l : List UInt8} {lk : Bool} (h : Rd 156 w B D l lk) : Calls Tryz.prog 54 #[.pointer (some ⟨B, 0, none⟩)] w (RdAft 156 w B D (.int .i64 (Oct.i64 (Oct.rdU 1 l lk).1)) (Oct.rdU 1 l lk).2) :=
  rd_step h fun a c hq => q_rU8_any D w B a c lk l hq
theorem rd_u32 {w : World} {B D : Nat} {l : List UInt8} {lk : Bool} (h : Rd 156 w B D l lk) : Calls Tryz.prog 55 #[.pointer (some ⟨B, 0, none⟩)] w (RdAft 156 w B D (.int .i64 (Oct.i64 (Oct.rdU 4 l lk).1)) (Oct.rdU 4 l lk).2) :=
  rd_step h fun a c hq => q_rU32_any D w B a c lk l hq
theorem rd_var {w : World} {B D : Nat} {l : List UInt8} {lk : Bool} (h : Rd 156 w B D l lk) : Calls Tryz.prog 72 #[.pointer (some ⟨B, 0, none⟩)] w (RdAft 156 w B D (.int .i64 (Oct.rdVar l lk).1) (Oct.rdVar l lk).2) :=
  rd_step h fun a c hq => q_rVar_any' D w B a c lk l hq
/-- Behind Raw. -/
structure RdRaw (T : TypeId) (w : World) (B D : Nat) (q : List UInt8 × List UInt8 × Bool) (e : Ending) (w' : World) : Prop where
  e : ∃ x c, e = .returned (.slice x q.1.length c) ∧ w'.ownsRow w.heap.size 5 1 (.slice x q.1.length c) q.1.length (bv q.1)
  rd : Rd T w' B D q.2.1 q.2.2
  st : TStay (fun k => k = B) w w'
theorem rd_raw {w : World} {B D : Nat} {l : List UInt8} {lk : Bool} (h : Rd 156 w B D l lk) (n : Int) (hn : n ≤ 9223372036854775807) : Calls Tryz.prog 71 #[.pointer (some ⟨B, 0, none⟩), .int .i64 n] w (RdRaw 156 w B D (Oct.rdRaw n l lk)) := by
  obtain ⟨⟨a, c, h1⟩, hd⟩ := h
  refine (q_qRaw_any D w B a c lk l h1 n hn).mono ?_
  rintro e w' ⟨x, c', rfl, k0, a2, c2, k1, k2⟩
  exact ⟨⟨x, c', rfl, k0⟩, ⟨⟨a2, c2, k1⟩, by have := k2.size; omega⟩, k2⟩
theorem raw_len (l : List UInt8) (lk : Bool) : (Oct.rdRaw 32 l lk).1 = [] ∨ (Oct.rdRaw 32 l lk).1.length = 32 := by
  unfold Oct.rdRaw
  split
  · exact .inl rfl
  · rename_i h; right; simp at h ⊢; omega
theorem hash_splice (x : List UInt8) (h : x = [] ∨ x.length = 32) : (splice (hashC Wi.z32).toList 0 (bv x)).toArray = hashC (if x = [] then Wi.z32 else x) := by
  rcases h with rfl | h
  · rfl
  · have hx : x ≠ [] := by rintro rfl; simp at h
    rw [if_neg hx]
    apply Array.ext'
    simp only [splice, List.take_zero, List.nil_append, bv_length, h]
    rw [List.drop_of_length_le (by simp [hashC, bv_length, Wi.z32])]
    simp [hashC]
theorem step_copy_hash {ops : Array Oper} {o : Oper} {a : Act} {Y : World} {K : Act → World → Prop} {Q : Exit → Act → World → Prop} {E : Prop} (hgd : o.guard = none) (d s : Operand)
    (ho : o.op = .call { callee := .builtin .copy, args := #[d, s], argTypes := #[66, 66] }) (g : Nat) (x : Option Addr) (c : Nat) (q : List UInt8) (hd : a.eval d = .slice (some ⟨g, 0, none⟩) 32 32) (hs : a.eval s = .slice x q.length c)
    (hg : Y.heap[g]? = some (.cells (hashC Wi.z32) 42 (0, 0))) (hq : q = [] ∨ q.length = 32) (hr : Rds Y x q.length q)
    (h : ∀ w', w'.heap[g]? = some (.cells (hashC (if q = [] then Wi.z32 else q)) 42 (0, 0)) → Below g Y w' → K (a.put o.dst (goInt q.length)) w') :
    if Region.wanted o (yielded ops a.tmps) = true then Oper.wp Tryz.prog o a Y K Q else E := by
  refine step_copy_splice hgd d s 66 66 ho 5 Tryz.underlying66 sz_u8 (some ⟨g, 0, none⟩) x 32 32 q.length c hd hs g 0 (hashC Wi.z32).toList 42 (by rw [Array.toArray_toList]; exact hg) (bv q) ?_ ?_ ?_ (bv_one _) g Y (Below.refl _ _) (Nat.le_refl _) ?_
  · rw [bv_length]
    rcases hq with rfl | h
    · rfl
    · rw [h]; rfl
  · intro h0
    obtain ⟨b, o, e, hc⟩ := hr.2 (by rwa [bv_length] at h0)
    refine ⟨rfl, _, e, fun j v hj => ?_⟩
    rw [bv_getElem?] at hj
    obtain ⟨y, hy, rfl⟩ := Option.map_eq_some_iff.1 hj
    rw [Addr.add_lit]; exact hc j y hy
  · rw [bv_length]; show 0 + q.length ≤ 32; rcases hq with rfl | h <;> simp_all
  · intro w' h1 h2
    rw [bv_length]
    refine h w' ?_ h2
    have := h1.out
    rwa [hash_splice q hq] at this
theorem rdHash_len (l : List UInt8) (lk : Bool) : (Wi.rdHash l lk).1.length = 32 := by
  unfold Wi.rdHash
  rcases raw_len l lk with h | h
  · simp only [h, if_true]; rfl
  · have hx : (Oct.rdRaw 32 l lk).1 ≠ [] := by intro e; rw [e] at h; simp at h
    simp only [if_neg hx]; exact h
end Go.Proofs.YthampbiabkfmoaaGreatDoor
