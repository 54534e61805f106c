/-
  DERIVED. GIVEN WITH THE SEED: THE CARDS: each row of YtdlpehlgmfhheaaDoorRows.lean that lists a variable, with what it lists TIED to the program's text (the seventh form; the later family's looks); each row that meets fmt, with fmt's text TOLD by the authors' own Lean function (tested against real Go, not proved from fmt's source: count such statements apart). THE CARD IS WHAT COUNTS. Prove the row's statement (the work); the ties are given (YtdlpehlgmfhheaaDoorTie.lean); close each card by the builder's one call (the guide's Derived/Test/ToyasCard.lean, 'card_holds'). Laid BY PROGRAM, IN A SANDBOX (cutbox-door.mjs). By AI agents, Wed Nov 11 2026. No macro, syntax, notation, axiom, sorry.
-/
import Derived.Test.YtdlpehlgmfhheaaDoorRows
import GoSem.ClaimSeven
namespace Go.Proofs.YtdlpehlgmfhheaaDoor
namespace Rows

/-- THE TIED CARD OF 'taprootlaw9.RadixHolds'. -/
def radixHoldsCard : Claim7 := { stood := { row := radixHoldsRow, standIns := [], harness := (true, "c5dad2520d909b223010d502c70e6941324c42d78f364ce450d5069aad782812"), looks := true }, kinds := [], alts := [], laidByText := true, laidKinds := [.handle], laidTests := true, laidLooks := .later }
def RadixHoldsCardSaid : Prop := Claim7.holds Tryd.pinned (.plain (OpenSpec.ofChange radixHoldsSpec)) radixHoldsCard

/-- THE TIED CARD OF 'taprootlaw23.WireTurns'. -/
def wireTurnsCard : Claim7 := { stood := { row := wireTurnsRow, standIns := [], harness := (true, "c5dad2520d909b223010d502c70e6941324c42d78f364ce450d5069aad782812"), looks := true }, kinds := [], alts := [], laidByText := true, laidKinds := [.handle], laidTests := true, laidLooks := .later }
def WireTurnsCardSaid : Prop := Claim7.holds Tryd.pinned (.plain (OpenSpec.ofChange wireTurnsSpec)) wireTurnsCard

/-- THE TIED CARD OF 'taprootlaw23.WireSizes'. -/
def wireSizesCard : Claim7 := { stood := { row := wireSizesRow, standIns := [], harness := (true, "c5dad2520d909b223010d502c70e6941324c42d78f364ce450d5069aad782812"), looks := true }, kinds := [], alts := [], laidByText := true, laidKinds := [.handle], laidTests := true, laidLooks := .later }
def WireSizesCardSaid : Prop := Claim7.holds Tryd.pinned (.plain (OpenSpec.ofChange wireSizesSpec)) wireSizesCard

/-- THE TIED CARD OF 'taprootlaw23.WireKnown'. -/
def wireKnownCard : Claim7 := { stood := { row := wireKnownRow, standIns := [], harness := (true, "c5dad2520d909b223010d502c70e6941324c42d78f364ce450d5069aad782812"), looks := true }, kinds := [], alts := [], laidByText := true, laidKinds := [.handle], laidTests := true, laidLooks := .later }
def WireKnownCardSaid : Prop := Claim7.holds Tryd.pinned (.plain (OpenSpec.ofChange wireKnownSpec)) wireKnownCard

/-- THE TIED CARD OF 'taprootlaw23.WireBack'. -/
def wireBackCard : Claim7 := { stood := { row := wireBackRow, standIns := [], harness := (true, "c5dad2520d909b223010d502c70e6941324c42d78f364ce450d5069aad782812"), looks := true }, kinds := [], alts := [], laidByText := true, laidKinds := [.handle], laidTests := true, laidLooks := .later }
def WireBackCardSaid : Prop := Claim7.holds Tryd.pinned (.plain (OpenSpec.ofChange wireBackSpec)) wireBackCard

/-- THE TIED CARD OF 'taprootlaw8.RootCodes'. -/
def rootCodesCard : Claim7 := { stood := { row := rootCodesRow, standIns := [], harness := (true, "c5dad2520d909b223010d502c70e6941324c42d78f364ce450d5069aad782812"), looks := true }, kinds := [], alts := [], laidByText := true, laidKinds := [.handle], laidTests := true, laidLooks := .later }
def RootCodesCardSaid : Prop := Claim7.holds Tryd.pinned (.plain (OpenSpec.ofChange rootCodesSpec)) rootCodesCard

/-- THE TIED CARD OF 'taprootlaw8.RootWhole'. -/
def rootWholeCard : Claim7 := { stood := { row := rootWholeRow, standIns := [], harness := (true, "c5dad2520d909b223010d502c70e6941324c42d78f364ce450d5069aad782812"), looks := true }, kinds := [], alts := [], laidByText := true, laidKinds := [.handle], laidTests := true, laidLooks := .later }
def RootWholeCardSaid : Prop := Claim7.holds Tryd.pinned (.plain (OpenSpec.ofChange rootWholeSpec)) rootWholeCard

/-- THE TIED CARD OF 'taprootlaw9.RadixKnown'. -/
def radixKnownCard : Claim7 := { stood := { row := radixKnownRow, standIns := [], harness := (true, "c5dad2520d909b223010d502c70e6941324c42d78f364ce450d5069aad782812"), looks := true }, kinds := [], alts := [], laidByText := true, laidKinds := [.handle], laidTests := true, laidLooks := .later }
def RadixKnownCardSaid : Prop := Claim7.holds Tryd.pinned (.plain (OpenSpec.ofChange radixKnownSpec)) radixKnownCard

/-- THE SECOND FORM's CARD OF 'taprootlaw9.RadixHolds'. -/
def radixHoldsUptoCard : Claim7 := { stood := { row := radixHoldsUptoRow, standIns := [], harness := (true, "c5dad2520d909b223010d502c70e6941324c42d78f364ce450d5069aad782812"), looks := true }, kinds := [], alts := [], laidByText := true, laidKinds := [.handle], laidTests := true, laidLooks := .later }
def RadixHoldsUptoCardSaid : Prop := Claim7.holds Tryd.pinned (.plain (OpenSpec.upto radixHoldsSpec)) radixHoldsUptoCard

/-- THE SECOND FORM's CARD OF 'taprootlaw23.WireTurns'. -/
def wireTurnsUptoCard : Claim7 := { stood := { row := wireTurnsUptoRow, standIns := [], harness := (true, "c5dad2520d909b223010d502c70e6941324c42d78f364ce450d5069aad782812"), looks := true }, kinds := [], alts := [], laidByText := true, laidKinds := [.handle], laidTests := true, laidLooks := .later }
def WireTurnsUptoCardSaid : Prop := Claim7.holds Tryd.pinned (.plain (OpenSpec.upto wireTurnsSpec)) wireTurnsUptoCard

/-- THE SECOND FORM's CARD OF 'taprootlaw23.WireSizes'. -/
def wireSizesUptoCard : Claim7 := { stood := { row := wireSizesUptoRow, standIns := [], harness := (true, "c5dad2520d909b223010d502c70e6941324c42d78f364ce450d5069aad782812"), looks := true }, kinds := [], alts := [], laidByText := true, laidKinds := [.handle], laidTests := true, laidLooks := .later }
def WireSizesUptoCardSaid : Prop := Claim7.holds Tryd.pinned (.plain (OpenSpec.upto wireSizesSpec)) wireSizesUptoCard

/-- THE SECOND FORM's CARD OF 'taprootlaw23.WireKnown'. -/
def wireKnownUptoCard : Claim7 := { stood := { row := wireKnownUptoRow, standIns := [], harness := (true, "c5dad2520d909b223010d502c70e6941324c42d78f364ce450d5069aad782812"), looks := true }, kinds := [], alts := [], laidByText := true, laidKinds := [.handle], laidTests := true, laidLooks := .later }
def WireKnownUptoCardSaid : Prop := Claim7.holds Tryd.pinned (.plain (OpenSpec.upto wireKnownSpec)) wireKnownUptoCard

/-- THE SECOND FORM's CARD OF 'taprootlaw23.WireBack'. -/
def wireBackUptoCard : Claim7 := { stood := { row := wireBackUptoRow, standIns := [], harness := (true, "c5dad2520d909b223010d502c70e6941324c42d78f364ce450d5069aad782812"), looks := true }, kinds := [], alts := [], laidByText := true, laidKinds := [.handle], laidTests := true, laidLooks := .later }
def WireBackUptoCardSaid : Prop := Claim7.holds Tryd.pinned (.plain (OpenSpec.upto wireBackSpec)) wireBackUptoCard

/-- THE SECOND FORM's CARD OF 'taprootlaw8.RootCodes'. -/
def rootCodesUptoCard : Claim7 := { stood := { row := rootCodesUptoRow, standIns := [], harness := (true, "c5dad2520d909b223010d502c70e6941324c42d78f364ce450d5069aad782812"), looks := true }, kinds := [], alts := [], laidByText := true, laidKinds := [.handle], laidTests := true, laidLooks := .later }
def RootCodesUptoCardSaid : Prop := Claim7.holds Tryd.pinned (.plain (OpenSpec.upto rootCodesSpec)) rootCodesUptoCard

/-- THE SECOND FORM's CARD OF 'taprootlaw8.RootWhole'. -/
def rootWholeUptoCard : Claim7 := { stood := { row := rootWholeUptoRow, standIns := [], harness := (true, "c5dad2520d909b223010d502c70e6941324c42d78f364ce450d5069aad782812"), looks := true }, kinds := [], alts := [], laidByText := true, laidKinds := [.handle], laidTests := true, laidLooks := .later }
def RootWholeUptoCardSaid : Prop := Claim7.holds Tryd.pinned (.plain (OpenSpec.upto rootWholeSpec)) rootWholeUptoCard

/-- THE SECOND FORM's CARD OF 'taprootlaw9.RadixKnown'. -/
def radixKnownUptoCard : Claim7 := { stood := { row := radixKnownUptoRow, standIns := [], harness := (true, "c5dad2520d909b223010d502c70e6941324c42d78f364ce450d5069aad782812"), looks := true }, kinds := [], alts := [], laidByText := true, laidKinds := [.handle], laidTests := true, laidLooks := .later }
def RadixKnownUptoCardSaid : Prop := Claim7.holds Tryd.pinned (.plain (OpenSpec.upto radixKnownSpec)) radixKnownUptoCard
end Rows
end Go.Proofs.YtdlpehlgmfhheaaDoor
