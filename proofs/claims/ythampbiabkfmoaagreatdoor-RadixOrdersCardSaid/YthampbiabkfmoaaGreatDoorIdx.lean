/- An array by value, indexed. -/
import Derived.WalkKit
namespace Go
namespace Tap
theorem run_idx {P : Program} (t e n : Nat) (cs : Array Value) (i : Nat) (v : Value) (h : P.underlying t = some (.array n e)) (hi : i < n) (hv : cs[i]? = some v)
    (hagg : ∀ w, (isAgg e).run P w = .ok false w) (hsz : ∀ w, (sizeOf e).run P w = .ok 1 w) (w : World) : (Instr.index t (.agg cs) (.int .i64 (i : Int))).run P w = .ok v w := by
  have h2 : (i : Int) < (n : Int) := by omega
  simp [Instr.index, run_underlying h, asIntOf, part, hi, hagg, hsz, hv, go_sem]
end Tap
end Go
