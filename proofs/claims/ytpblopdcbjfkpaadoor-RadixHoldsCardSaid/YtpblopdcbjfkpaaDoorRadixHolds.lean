/- taprootlaw9.RadixHolds: the walk, as the frame wants it. -/
import Derived.Test.YtpblopdcbjfkpaaDoorRxHolds
namespace Go.Proofs.YtpblopdcbjfkpaaDoor
open Go.RowKit Go.Tap
set_option linter.unusedVariables false
theorem rdz_of9 {N : Nat} {W : World} {a : Option Addr} {n c : Nat} {l : List Int} (g : ArgI N W a n c l) : RdZ W a n l := by
  refine ⟨g.len, fun z hz => ?_, fun h0 => ?_⟩
  · have h0 : 0 < n := by have := List.length_pos_of_mem hz; have := g.len; omega
    obtain ⟨b, o, _, hx⟩ := g.at_ h0
    obtain ⟨i, hi, rfl⟩ := List.getElem_of_mem hz
    exact (hx i _ (List.getElem?_eq_getElem hi)).2
  · obtain ⟨b, o, e, hx⟩ := g.at_ h0
    have hi : 0 < l.length := by have := g.len; omega
    have hc := (hx 0 _ (List.getElem?_eq_getElem hi)).1
    refine ⟨b, o, e, block_lt_of_cell hc, fun i z hz => ?_⟩
    have := (hx i z hz).1
    rwa [Nat.mul_one] at this
theorem radixHolds_walk (W : World) (hg : EType W) (s0 : Option Addr) (n0 c0 : Nat) (l0 : List Rx.Pr) (g0 : ArgP 140737488351232 W s0 n0 c0 l0) (s1 : Option Addr) (n1 c1 : Nat) (l1 : List Int) (g1 : ArgI 140737488351232 W s1 n1 c1 l1) :
    Calls Tryd.prog 3 #[.slice s0 n0 c0, .slice s1 n1 c1] W fun e W' => e = .returned (.bool true) ∧ Below W.heap.size W W' := by
  obtain ⟨h1, h2⟩ := argP_rd g0
  refine radixHolds_any W hg s0 n0 c0 l0 h1 h2 s1 n1 c1 l1 (rdz_of9 g1)
end Go.Proofs.YtpblopdcbjfkpaaDoor
