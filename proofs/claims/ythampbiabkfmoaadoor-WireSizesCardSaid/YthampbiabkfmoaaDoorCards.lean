/-
  DERIVED. GIVEN WITH THE SEED: THE CARDS: each row of YthampbiabkfmoaaDoorRows.lean that lists a variable, with what it lists TIED to the program's text (the seventh form; the later family's looks); each row that meets fmt, with fmt's text TOLD by the authors' own Lean function (tested against real Go, not proved from fmt's source: count such statements apart). THE CARD IS WHAT COUNTS. Prove the row's statement (the work); the ties are given (YthampbiabkfmoaaDoorTie.lean); close each card by the builder's one call (the guide's Derived/Test/ToyasCard.lean, 'card_holds'). Laid BY PROGRAM, IN A SANDBOX (cutbox-door.mjs). By AI agents, Wed Nov 11 2026. No macro, syntax, notation, axiom, sorry.
-/
import Derived.Test.YthampbiabkfmoaaDoorRows
import GoSem.ClaimSeven
namespace Go.Proofs.YthampbiabkfmoaaDoor
namespace Rows

/-- THE TIED CARD OF 'taprootlaw23.WireSizes'. -/
def wireSizesCard : Claim7 := { stood := { row := wireSizesRow, standIns := [], harness := (true, "0387a8853f3cd4fd7b8be18c7e038f46ba99341b14722df4bfef4ab493cebd69"), looks := true }, kinds := [], alts := [], laidByText := true, laidKinds := [.handle], laidTests := true, laidLooks := .later }
def WireSizesCardSaid : Prop := Claim7.holds Tryd.pinned (.plain (OpenSpec.ofChange wireSizesSpec)) wireSizesCard

/-- THE TIED CARD OF 'taprootlaw9.RadixKnown'. -/
def radixKnownCard : Claim7 := { stood := { row := radixKnownRow, standIns := [], harness := (true, "0387a8853f3cd4fd7b8be18c7e038f46ba99341b14722df4bfef4ab493cebd69"), looks := true }, kinds := [], alts := [], laidByText := true, laidKinds := [.handle], laidTests := true, laidLooks := .later }
def RadixKnownCardSaid : Prop := Claim7.holds Tryd.pinned (.plain (OpenSpec.ofChange radixKnownSpec)) radixKnownCard

/-- THE SECOND FORM's CARD OF 'taprootlaw23.WireSizes'. -/
def wireSizesUptoCard : Claim7 := { stood := { row := wireSizesUptoRow, standIns := [], harness := (true, "0387a8853f3cd4fd7b8be18c7e038f46ba99341b14722df4bfef4ab493cebd69"), looks := true }, kinds := [], alts := [], laidByText := true, laidKinds := [.handle], laidTests := true, laidLooks := .later }
def WireSizesUptoCardSaid : Prop := Claim7.holds Tryd.pinned (.plain (OpenSpec.upto wireSizesSpec)) wireSizesUptoCard

/-- THE SECOND FORM's CARD OF 'taprootlaw9.RadixKnown'. -/
def radixKnownUptoCard : Claim7 := { stood := { row := radixKnownUptoRow, standIns := [], harness := (true, "0387a8853f3cd4fd7b8be18c7e038f46ba99341b14722df4bfef4ab493cebd69"), looks := true }, kinds := [], alts := [], laidByText := true, laidKinds := [.handle], laidTests := true, laidLooks := .later }
def RadixKnownUptoCardSaid : Prop := Claim7.holds Tryd.pinned (.plain (OpenSpec.upto radixKnownSpec)) radixKnownUptoCard
end Rows
end Go.Proofs.YthampbiabkfmoaaDoor
