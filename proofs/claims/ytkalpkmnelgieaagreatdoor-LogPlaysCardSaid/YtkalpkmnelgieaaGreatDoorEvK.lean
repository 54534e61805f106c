/- An error of a kind. -/
import Derived.Test.YtkalpkmnelgieaaGreatDoorDpOps
import Derived.Test.YtkalpkmnelgieaaGreatDoorKindSt
namespace Go.Proofs.YtkalpkmnelgieaaGreatDoor
open Go.RowKit Go.Tap Go.Maps
set_option linter.unusedVariables false

/-- An error of a kind. -/
def EvIs (X : World) (ev : Value) (k : Nat) : Prop := (ev = .nilIface ∧ k = 0) ∨ (ev = .iface 35 (.int .i64 (k : Int))) ∨ ∃ pb, ev = .iface 150 (.pointer (some ⟨pb, 0, none⟩)) ∧ IsSt X pb (k : Int)
theorem EvIs.below {X Y : World} {ev : Value} {k : Nat} (h : EvIs X ev k) (hb : Below X.heap.size X Y) : EvIs Y ev k := by
  rcases h with h | h | ⟨pb, h1, h2⟩
  · exact .inl h
  · exact .inr (.inl h)
  · exact .inr (.inr ⟨pb, h1, h2.keep hb⟩)
theorem EvIs.ref {X Y : World} {ev : Value} {k B : Nat} {r : Ref.Rd} (h : EvIs X ev k) (hr : IsRd X B r) (ht : TStay (fun j => j = B) X Y) : EvIs Y ev k := by
  rcases h with h | h | ⟨pb, h1, h2⟩
  · exact .inl h
  · exact .inr (.inl h)
  · refine .inr (.inr ⟨pb, h1, ?_⟩)
    have hne : pb ≠ B := by
      rintro rfl
      obtain ⟨kv, pv, hv⟩ := hr
      have c1 : X.cell? ⟨pb, 1, none⟩ = some kv := blk_cell (i := 1) hv.blk rfl
      obtain ⟨a, c, rfl, _⟩ := hv.kept.slice
      unfold IsSt at h2
      rw [c1] at h2
      cases h2
    unfold IsSt at h2 ⊢
    exact (blk_same (ht.block pb (World.block_lt_of_cell? X _ h2) hne) 1).trans h2
theorem EvIs.kind {X : World} {ev : Value} {k : Nat} (h : EvIs X ev k) (hg : EType X) : Calls Tryz.prog 13 #[ev] X fun e w' => e = .returned (.int .i64 (k : Int)) ∧ Below X.heap.size X w' := by
  rcases h with ⟨rfl, rfl⟩ | rfl | ⟨pb, rfl, h2⟩
  · exact (kind_nil X).mono fun e w' ⟨h1, h2⟩ => ⟨h1, by rw [h2]; exact Below.refl _ _⟩
  · exact kind_errno X k hg
  · exact kind_step X pb k h2 hg
end Go.Proofs.YtkalpkmnelgieaaGreatDoor
