/- What the bound of an '..UptoSaid' gives. -/
import Derived.Test.YtjdadbpekaoijaaDoorRows
import Derived.Test.YtjdadbpekaoijaaDoorOpen
namespace Go.Proofs.YtjdadbpekaoijaaDoor
open Go.Tap

theorem bulk_one {H : Type} (d : DataW H) : 1 ≤ Rows.uptoBulk d := by
  cases d with
  | lit l => cases l <;> simp [Rows.uptoBulk]
  | nil => simp [Rows.uptoBulk]
  | ptr d => simp [Rows.uptoBulk]
  | slice elems spare => simp [Rows.uptoBulk]
  | agg parts => simp [Rows.uptoBulk]
  | iface t d => simp [Rows.uptoBulk]
  | map entries => simp [Rows.uptoBulk]
  | held h => simp [Rows.uptoBulk]
theorem bulk_part {H : Type} {d : DataW H} {l : List (DataW H)} (h : d ∈ l) : Rows.uptoBulk d ≤ Rows.uptoBulkAll l := by
  induction l with
  | nil => cases h
  | cons x r ih =>
    simp only [Rows.uptoBulkAll]
    cases List.mem_cons.1 h with
    | inl e => subst e; omega
    | inr e => have := ih e; omega
theorem bulk_length {H : Type} (l : List (DataW H)) : l.length ≤ Rows.uptoBulkAll l := by
  induction l with
  | nil => simp [Rows.uptoBulkAll]
  | cons x r ih => have := bulk_one x; simp only [Rows.uptoBulkAll, List.length_cons]; omega
theorem sized_bulk {H : Type} {P : Program} : Sized (H := H) P 1048576 (fun _ d => Rows.uptoBulk d ≤ 1048576) := by
  refine ⟨fun t e es sp ht h1 h2 h => ?_, fun t e es sp ht h d hd => ?_, fun t fs ds ht h i f d hf hd => ?_⟩
  · have a := bulk_length es
    have b := bulk_length sp
    simp only [Rows.uptoBulk] at h
    refine ⟨by omega, ?_⟩
    have : (es.length + sp.length) * P.bytesOf e ≤ 1048576 * 1048576 := Nat.mul_le_mul (by omega) h2
    unfold reachBytes; omega
  · simp only [Rows.uptoBulk] at h
    rcases hd with hd | hd
    · have := bulk_part hd; omega
    · have := bulk_part hd; omega
  · simp only [Rows.uptoBulk] at h
    have := bulk_part (List.mem_of_getElem? hd); omega
end Go.Proofs.YtjdadbpekaoijaaDoor
