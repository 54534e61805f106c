/- Plain: starts of a hash's text. -/
import Derived.Test.YtpblopdcbjfkpaaDoorRxMt
set_option linter.unusedVariables false
namespace Go.Proofs.YtpblopdcbjfkpaaDoor
open Go.RowKit Go.Tap
theorem dig_hexc (n : Nat) (h : n < 16) : Wi.dig (Wi.hexc n) = true := by
  have : ∀ k : Fin 16, Wi.dig (Wi.hexc k.val) = true := by decide
  exact this ⟨n, h⟩
theorem hexT_dig (h : List UInt8) (hl : h.length = 32) (j : Nat) (x : UInt8) (hx : (Wi.hexT h)[j]? = some x) : Wi.dig x = true := by
  have hj : j < 2 * h.length := by
    have := (List.getElem?_eq_some_iff.1 hx).1
    rwa [Wi.hexT_len] at this
  rw [hexT_get h j hj] at hx
  cases hx
  exact dig_hexc _ (Rx.dig_lt h j)
theorem startOk_text (h : List UInt8) (hl : h.length = 32) (r : Nat) (hr : r ≤ 64) : Rx.startOk ((Wi.hexT h).take r) := by
  refine .inl ?_
  simp only [Rx.isP, Wi.isPre, Bool.or_eq_true, Bool.and_eq_true, decide_eq_true_eq]
  by_cases he : (Wi.hexT h).take r = []
  · exact .inl he
  · refine .inr ⟨⟨?_, he⟩, by rw [List.length_take]; omega⟩
    rw [List.all_eq_true]
    intro x hx
    obtain ⟨j, hj⟩ := List.mem_iff_getElem?.1 (List.mem_of_mem_take hx)
    exact hexT_dig h hl j x hj
theorem startOk_xyz : Rx.startOk [120, 121, 122] := by
  refine .inr fun h hl => ?_
  unfold Wi.beg
  rw [Bool.and_eq_false_iff]
  refine .inr (decide_eq_false fun e => ?_)
  have h0 : ((Wi.hexT h).take 3)[0]? = some (120 : UInt8) := by
    have e' : (Wi.hexT h).take 3 = [120, 121, 122] := e
    rw [e']; rfl
  rw [List.getElem?_take_of_lt (by omega)] at h0
  have := hexT_dig h hl 0 120 h0
  revert this
  decide
end Go.Proofs.YtpblopdcbjfkpaaDoor
