/- What the statements of chapter 23 share: the raw argument. -/
import Derived.Test.YtpblopdcbjfkpaaDoorWiSmRp
namespace Go.Proofs.YtpblopdcbjfkpaaDoor
open Go.RowKit Go.Tap
set_option linter.unusedVariables false
set_option linter.unusedSimpArgs false
theorem rdz_of {N : Nat} {W : World} {a : Option Addr} {n c : Nat} {l : List Int} (g : ArgI N W a n c l) : RdZ W a n l := by
  refine ⟨g.len, fun z hz => ?_, fun h0 => ?_⟩
  · have h0 : 0 < n := by have := List.length_pos_of_mem hz; have := g.len; omega
    obtain ⟨b, o, _, hx⟩ := g.at_ h0
    obtain ⟨i, hi, rfl⟩ := List.getElem_of_mem hz
    exact (hx i _ (List.getElem?_eq_getElem hi)).2
  · obtain ⟨b, o, e, hx⟩ := g.at_ h0
    have hi : 0 < l.length := by have := g.len; omega
    have hc := (hx 0 _ (List.getElem?_eq_getElem hi)).1
    refine ⟨b, o, e, block_lt_of_cell hc, fun i z hz => ?_⟩
    have := (hx i z hz).1
    rwa [Nat.mul_one] at this
theorem argX_of {W : World} {r : RawW} (g : ArgRW 140737488351232 W r) : ArgX W r :=
  ⟨g.1, rdz_of g.2.1, rdz_of g.2.2, by have h1 := g.2.1.le; have h2 := g.2.1.cap; omega, by have h1 := g.2.2.le; have h2 := g.2.2.cap; omega⟩
theorem layRq_le {q : Wi.Rq} (ho : q.ok) {b : List UInt8} (h : Wi.layRq q = some b) : b.length ≤ 3000 := by
  obtain ⟨hm, hb⟩ := Wi.layRq_parts h
  have h1 := Wi.headB_le hm ho 1
  rw [hb, Wi.sumB_len]
  omega
end Go.Proofs.YtpblopdcbjfkpaaDoor
