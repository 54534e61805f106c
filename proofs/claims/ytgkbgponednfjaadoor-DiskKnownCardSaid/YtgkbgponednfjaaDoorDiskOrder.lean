/- DiskOrder: what it comes to. -/
import Derived.Test.YtgkbgponednfjaaDoorDskOrd
import Derived.Test.YtgkbgponednfjaaDoorAid2
import Derived.Deep.Cut
import Derived.Deep.CutRange
import Derived.Deep.CutBlock
namespace Go.Proofs.YtgkbgponednfjaaDoor
open Go.RowKit Go.Tap Go.Maps
set_option linter.unusedVariables false

theorem infoI : (Tryd.prog.info? 3).map (fun i => (i.zero, i.size, i.bytes)) = some (some (.int .i64 0), 1, 8) := by kernel_rfl
theorem sub0 (l : List UInt8) (b : Nat) : (str l).extract 0 b = str (l.take b) := by
  rw [str, ByteArray.extract_mk]; simp [str]
theorem str_plus (a b : List UInt8) : str a ++ str b = str (a ++ b) := by
  apply ByteArray.ext; simp [str]
/-- Where each ends. -/
def endsV (L : List (List UInt8)) : List Value := (List.range L.length).map fun j => .int .i64 ((L.take (j + 1)).flatten.length : Int)
theorem endsV_snoc (L : List (List UInt8)) (b : List UInt8) : endsV (L ++ [b]) = endsV L ++ [.int .i64 ((L ++ [b]).flatten.length : Int)] := by
  unfold endsV
  rw [List.length_append, List.length_singleton, List.range_succ, List.map_append]
  congr 1
  · refine List.map_congr_left fun j hj => ?_
    have hj' := List.mem_range.1 hj
    rw [List.take_append_of_le_length (by omega)]
  · rw [List.map_singleton, List.take_of_length_le (by simp)]
theorem endsV_get (L : List (List UInt8)) (j : Nat) (h : j < L.length) : (endsV L)[j]? = some (.int .i64 ((L.take (j + 1)).flatten.length : Int)) := by
  unfold endsV; rw [List.getElem?_map, List.getElem?_range h]; rfl
def small (L : List (List UInt8)) : Prop := ∀ b ∈ L, b ≠ [] ∧ b.length ≤ 100
theorem small_len : ∀ {L : List (List UInt8)}, small L → L.flatten.length ≤ 100 * L.length
  | [], _ => by simp
  | b :: r, h => by
    have h1 := small_len (L := r) (fun c hc => h c (List.mem_cons_of_mem _ hc))
    have h2 := (h b (List.mem_cons_self ..)).2
    simp only [List.flatten_cons, List.length_append, List.length_cons]; omega
theorem small_snoc {L : List (List UInt8)} {b : List UInt8} (h : small L) (hb : b ≠ [] ∧ b.length ≤ 100) : small (L ++ [b]) := fun c hc => by
  rcases List.mem_append.1 hc with h1 | h1
  · exact h c h1
  · simp only [List.mem_singleton] at h1; subst h1; exact hb
theorem own_nd {w : World} {base e size : Nat} {v : Value} {n : Nat} {xs : List Value} (h : w.ownsRow base e size v n xs) {w' : World} (hk : KeepT w w') (h1 : e ≠ 158) (h2 : e ≠ 181) : w'.ownsRow base e size v n xs := by
  refine ⟨h.1, ?_⟩
  rcases h.2 with hn | ⟨g, cap, cur, rfl, hb, hg, r⟩
  · exact .inl hn
  · exact .inr ⟨g, cap, cur, rfl, hb, (hk g cur e (0, 0) hg h1 h2).trans hg, r⟩
theorem rds_kp {w w' : World} {a : Option Addr} {n : Nat} {l : List UInt8} (h : Rds w a n l) (hb : Below w.heap.size w w') : Rds w' a n l := h.below hb (fun h0 b o e => by subst e; exact h.lt h0)
theorem own_bel {w : World} {base e size : Nat} {v : Value} {n : Nat} {xs : List Value} (h : w.ownsRow base e size v n xs) {w' : World} (hb : Below w.heap.size w w') : w'.ownsRow base e size v n xs :=
  ownsRow_stay h (TStay.of_below hb (fun _ => False)) (fun _ _ h => h)
end Go.Proofs.YtgkbgponednfjaaDoor
