/-
  DERIVED. GIVEN WITH THE SEED: THE CARDS: each row of YthampbiabkfmoaaGreatDoorRows.lean that lists a variable, with what it lists TIED to the program's text (the seventh form; the later family's looks); each row that meets fmt, with fmt's text TOLD by the authors' own Lean function (tested against real Go, not proved from fmt's source: count such statements apart). THE CARD IS WHAT COUNTS. Prove the row's statement (the work); the ties are given (YthampbiabkfmoaaGreatDoorTie.lean); close each card by the builder's one call (the guide's Derived/Test/ToyasCard.lean, 'card_holds'). Laid BY PROGRAM, IN A SANDBOX (cutbox-door.mjs). By AI agents, Wed Nov 11 2026. No macro, syntax, notation, axiom, sorry.
-/
import Derived.Test.YthampbiabkfmoaaGreatDoorRows
import GoSem.ClaimSeven
namespace Go.Proofs.YthampbiabkfmoaaGreatDoor
namespace Rows

/-- THE TIED CARD OF 'taprootlaw9.RadixSaves'. -/
def radixSavesCard : Claim7 := { stood := { row := radixSavesRow, standIns := [], harness := (true, "a11190a680993711a625bf3e31413c2635b5ba8b91dadc6f5a9b65a452c1fb49"), looks := true }, kinds := [], alts := [], laidByText := true, laidKinds := [.handle], laidTests := true, laidLooks := .later }
def RadixSavesCardSaid : Prop := Claim7.holds Tryz.pinned (.plain (OpenSpec.ofChange radixSavesSpec)) radixSavesCard

/-- THE TIED CARD OF 'taprootlaw9.RadixOrders'. -/
def radixOrdersCard : Claim7 := { stood := { row := radixOrdersRow, standIns := [], harness := (true, "a11190a680993711a625bf3e31413c2635b5ba8b91dadc6f5a9b65a452c1fb49"), looks := true }, kinds := [], alts := [], laidByText := true, laidKinds := [.handle], laidTests := true, laidLooks := .later }
def RadixOrdersCardSaid : Prop := Claim7.holds Tryz.pinned (.plain (OpenSpec.ofChange radixOrdersSpec)) radixOrdersCard

/-- THE SECOND FORM's CARD OF 'taprootlaw9.RadixSaves'. -/
def radixSavesUptoCard : Claim7 := { stood := { row := radixSavesUptoRow, standIns := [], harness := (true, "a11190a680993711a625bf3e31413c2635b5ba8b91dadc6f5a9b65a452c1fb49"), looks := true }, kinds := [], alts := [], laidByText := true, laidKinds := [.handle], laidTests := true, laidLooks := .later }
def RadixSavesUptoCardSaid : Prop := Claim7.holds Tryz.pinned (.plain (OpenSpec.upto radixSavesSpec)) radixSavesUptoCard

/-- THE SECOND FORM's CARD OF 'taprootlaw9.RadixOrders'. -/
def radixOrdersUptoCard : Claim7 := { stood := { row := radixOrdersUptoRow, standIns := [], harness := (true, "a11190a680993711a625bf3e31413c2635b5ba8b91dadc6f5a9b65a452c1fb49"), looks := true }, kinds := [], alts := [], laidByText := true, laidKinds := [.handle], laidTests := true, laidLooks := .later }
def RadixOrdersUptoCardSaid : Prop := Claim7.holds Tryz.pinned (.plain (OpenSpec.upto radixOrdersSpec)) radixOrdersUptoCard
end Rows
end Go.Proofs.YthampbiabkfmoaaGreatDoor
