/-
  DERIVED. GIVEN WITH THE SEED: THE CARDS: each row of YtgkbgponednfjaaDoorRows.lean that lists a variable, with what it lists TIED to the program's text (the seventh form; the later family's looks); each row that meets fmt, with fmt's text TOLD by the authors' own Lean function (tested against real Go, not proved from fmt's source: count such statements apart). THE CARD IS WHAT COUNTS. Prove the row's statement (the work); the ties are given (YtgkbgponednfjaaDoorTie.lean); close each card by the builder's one call (the guide's Derived/Test/ToyasCard.lean, 'card_holds'). Laid BY PROGRAM, IN A SANDBOX (cutbox-door.mjs). By AI agents, Wed Nov 11 2026. No macro, syntax, notation, axiom, sorry.
-/
import Derived.Test.YtgkbgponednfjaaDoorRows
import GoSem.ClaimSeven
namespace Go.Proofs.YtgkbgponednfjaaDoor
namespace Rows

/-- THE TIED CARD OF 'taprootlaw23.WireTurns'. -/
def wireTurnsCard : Claim7 := { stood := { row := wireTurnsRow, standIns := [], harness := (true, "0e0ca7a08a8911a6990bcf149778facd67272fd39328614c86f67c7c554da781"), looks := true }, kinds := [], alts := [], laidByText := true, laidKinds := [.handle], laidTests := true, laidLooks := .later }
def WireTurnsCardSaid : Prop := Claim7.holds Tryd.pinned (.plain (OpenSpec.ofChange wireTurnsSpec)) wireTurnsCard

/-- THE TIED CARD OF 'taprootlaw23.WireSizes'. -/
def wireSizesCard : Claim7 := { stood := { row := wireSizesRow, standIns := [], harness := (true, "0e0ca7a08a8911a6990bcf149778facd67272fd39328614c86f67c7c554da781"), looks := true }, kinds := [], alts := [], laidByText := true, laidKinds := [.handle], laidTests := true, laidLooks := .later }
def WireSizesCardSaid : Prop := Claim7.holds Tryd.pinned (.plain (OpenSpec.ofChange wireSizesSpec)) wireSizesCard

/-- THE TIED CARD OF 'taprootlaw23.WireKnown'. -/
def wireKnownCard : Claim7 := { stood := { row := wireKnownRow, standIns := [], harness := (true, "0e0ca7a08a8911a6990bcf149778facd67272fd39328614c86f67c7c554da781"), looks := true }, kinds := [], alts := [], laidByText := true, laidKinds := [.handle], laidTests := true, laidLooks := .later }
def WireKnownCardSaid : Prop := Claim7.holds Tryd.pinned (.plain (OpenSpec.ofChange wireKnownSpec)) wireKnownCard

/-- THE TIED CARD OF 'taprootlaw23.WireBack'. -/
def wireBackCard : Claim7 := { stood := { row := wireBackRow, standIns := [], harness := (true, "0e0ca7a08a8911a6990bcf149778facd67272fd39328614c86f67c7c554da781"), looks := true }, kinds := [], alts := [], laidByText := true, laidKinds := [.handle], laidTests := true, laidLooks := .later }
def WireBackCardSaid : Prop := Claim7.holds Tryd.pinned (.plain (OpenSpec.ofChange wireBackSpec)) wireBackCard

/-- THE TIED CARD OF 'taprootlaw7.LogKnown'. -/
def logKnownCard : Claim7 := { stood := { row := logKnownRow, standIns := [], harness := (true, "0e0ca7a08a8911a6990bcf149778facd67272fd39328614c86f67c7c554da781"), looks := true }, kinds := [], alts := [], laidByText := true, laidKinds := [.handle], laidTests := true, laidLooks := .later }
def LogKnownCardSaid : Prop := Claim7.holds Tryd.pinned (.plain (OpenSpec.ofChange logKnownSpec)) logKnownCard

/-- THE TIED CARD OF 'taprootlaw8.RootKnown'. -/
def rootKnownCard : Claim7 := { stood := { row := rootKnownRow, standIns := [], harness := (true, "0e0ca7a08a8911a6990bcf149778facd67272fd39328614c86f67c7c554da781"), looks := true }, kinds := [], alts := [], laidByText := true, laidKinds := [.handle], laidTests := true, laidLooks := .later }
def RootKnownCardSaid : Prop := Claim7.holds Tryd.pinned (.plain (OpenSpec.ofChange rootKnownSpec)) rootKnownCard

/-- THE TIED CARD OF 'taprootlaw8.RootCodes'. -/
def rootCodesCard : Claim7 := { stood := { row := rootCodesRow, standIns := [], harness := (true, "0e0ca7a08a8911a6990bcf149778facd67272fd39328614c86f67c7c554da781"), looks := true }, kinds := [], alts := [], laidByText := true, laidKinds := [.handle], laidTests := true, laidLooks := .later }
def RootCodesCardSaid : Prop := Claim7.holds Tryd.pinned (.plain (OpenSpec.ofChange rootCodesSpec)) rootCodesCard

/-- THE TIED CARD OF 'taprootlaw8.RootWhole'. -/
def rootWholeCard : Claim7 := { stood := { row := rootWholeRow, standIns := [], harness := (true, "0e0ca7a08a8911a6990bcf149778facd67272fd39328614c86f67c7c554da781"), looks := true }, kinds := [], alts := [], laidByText := true, laidKinds := [.handle], laidTests := true, laidLooks := .later }
def RootWholeCardSaid : Prop := Claim7.holds Tryd.pinned (.plain (OpenSpec.ofChange rootWholeSpec)) rootWholeCard

/-- THE TIED CARD OF 'taprootlaw6.DiskRoom'. -/
def diskRoomCard : Claim7 := { stood := { row := diskRoomRow, standIns := [], harness := (true, "0e0ca7a08a8911a6990bcf149778facd67272fd39328614c86f67c7c554da781"), looks := true }, kinds := [], alts := [], laidByText := true, laidKinds := [.handle], laidTests := true, laidLooks := .later }
def DiskRoomCardSaid : Prop := Claim7.holds Tryd.pinned (.plain (OpenSpec.ofChange diskRoomSpec)) diskRoomCard

/-- THE TIED CARD OF 'taprootlaw6.DiskKnown'. -/
def diskKnownCard : Claim7 := { stood := { row := diskKnownRow, standIns := [], harness := (true, "0e0ca7a08a8911a6990bcf149778facd67272fd39328614c86f67c7c554da781"), looks := true }, kinds := [], alts := [], laidByText := true, laidKinds := [.handle], laidTests := true, laidLooks := .later }
def DiskKnownCardSaid : Prop := Claim7.holds Tryd.pinned (.plain (OpenSpec.ofChange diskKnownSpec)) diskKnownCard

/-- THE SECOND FORM's CARD OF 'taprootlaw23.WireTurns'. -/
def wireTurnsUptoCard : Claim7 := { stood := { row := wireTurnsUptoRow, standIns := [], harness := (true, "0e0ca7a08a8911a6990bcf149778facd67272fd39328614c86f67c7c554da781"), looks := true }, kinds := [], alts := [], laidByText := true, laidKinds := [.handle], laidTests := true, laidLooks := .later }
def WireTurnsUptoCardSaid : Prop := Claim7.holds Tryd.pinned (.plain (OpenSpec.upto wireTurnsSpec)) wireTurnsUptoCard

/-- THE SECOND FORM's CARD OF 'taprootlaw23.WireSizes'. -/
def wireSizesUptoCard : Claim7 := { stood := { row := wireSizesUptoRow, standIns := [], harness := (true, "0e0ca7a08a8911a6990bcf149778facd67272fd39328614c86f67c7c554da781"), looks := true }, kinds := [], alts := [], laidByText := true, laidKinds := [.handle], laidTests := true, laidLooks := .later }
def WireSizesUptoCardSaid : Prop := Claim7.holds Tryd.pinned (.plain (OpenSpec.upto wireSizesSpec)) wireSizesUptoCard

/-- THE SECOND FORM's CARD OF 'taprootlaw23.WireKnown'. -/
def wireKnownUptoCard : Claim7 := { stood := { row := wireKnownUptoRow, standIns := [], harness := (true, "0e0ca7a08a8911a6990bcf149778facd67272fd39328614c86f67c7c554da781"), looks := true }, kinds := [], alts := [], laidByText := true, laidKinds := [.handle], laidTests := true, laidLooks := .later }
def WireKnownUptoCardSaid : Prop := Claim7.holds Tryd.pinned (.plain (OpenSpec.upto wireKnownSpec)) wireKnownUptoCard

/-- THE SECOND FORM's CARD OF 'taprootlaw23.WireBack'. -/
def wireBackUptoCard : Claim7 := { stood := { row := wireBackUptoRow, standIns := [], harness := (true, "0e0ca7a08a8911a6990bcf149778facd67272fd39328614c86f67c7c554da781"), looks := true }, kinds := [], alts := [], laidByText := true, laidKinds := [.handle], laidTests := true, laidLooks := .later }
def WireBackUptoCardSaid : Prop := Claim7.holds Tryd.pinned (.plain (OpenSpec.upto wireBackSpec)) wireBackUptoCard

/-- THE SECOND FORM's CARD OF 'taprootlaw7.LogKnown'. -/
def logKnownUptoCard : Claim7 := { stood := { row := logKnownUptoRow, standIns := [], harness := (true, "0e0ca7a08a8911a6990bcf149778facd67272fd39328614c86f67c7c554da781"), looks := true }, kinds := [], alts := [], laidByText := true, laidKinds := [.handle], laidTests := true, laidLooks := .later }
def LogKnownUptoCardSaid : Prop := Claim7.holds Tryd.pinned (.plain (OpenSpec.upto logKnownSpec)) logKnownUptoCard

/-- THE SECOND FORM's CARD OF 'taprootlaw8.RootKnown'. -/
def rootKnownUptoCard : Claim7 := { stood := { row := rootKnownUptoRow, standIns := [], harness := (true, "0e0ca7a08a8911a6990bcf149778facd67272fd39328614c86f67c7c554da781"), looks := true }, kinds := [], alts := [], laidByText := true, laidKinds := [.handle], laidTests := true, laidLooks := .later }
def RootKnownUptoCardSaid : Prop := Claim7.holds Tryd.pinned (.plain (OpenSpec.upto rootKnownSpec)) rootKnownUptoCard

/-- THE SECOND FORM's CARD OF 'taprootlaw8.RootCodes'. -/
def rootCodesUptoCard : Claim7 := { stood := { row := rootCodesUptoRow, standIns := [], harness := (true, "0e0ca7a08a8911a6990bcf149778facd67272fd39328614c86f67c7c554da781"), looks := true }, kinds := [], alts := [], laidByText := true, laidKinds := [.handle], laidTests := true, laidLooks := .later }
def RootCodesUptoCardSaid : Prop := Claim7.holds Tryd.pinned (.plain (OpenSpec.upto rootCodesSpec)) rootCodesUptoCard

/-- THE SECOND FORM's CARD OF 'taprootlaw8.RootWhole'. -/
def rootWholeUptoCard : Claim7 := { stood := { row := rootWholeUptoRow, standIns := [], harness := (true, "0e0ca7a08a8911a6990bcf149778facd67272fd39328614c86f67c7c554da781"), looks := true }, kinds := [], alts := [], laidByText := true, laidKinds := [.handle], laidTests := true, laidLooks := .later }
def RootWholeUptoCardSaid : Prop := Claim7.holds Tryd.pinned (.plain (OpenSpec.upto rootWholeSpec)) rootWholeUptoCard

/-- THE SECOND FORM's CARD OF 'taprootlaw6.DiskRoom'. -/
def diskRoomUptoCard : Claim7 := { stood := { row := diskRoomUptoRow, standIns := [], harness := (true, "0e0ca7a08a8911a6990bcf149778facd67272fd39328614c86f67c7c554da781"), looks := true }, kinds := [], alts := [], laidByText := true, laidKinds := [.handle], laidTests := true, laidLooks := .later }
def DiskRoomUptoCardSaid : Prop := Claim7.holds Tryd.pinned (.plain (OpenSpec.upto diskRoomSpec)) diskRoomUptoCard

/-- THE SECOND FORM's CARD OF 'taprootlaw6.DiskKnown'. -/
def diskKnownUptoCard : Claim7 := { stood := { row := diskKnownUptoRow, standIns := [], harness := (true, "0e0ca7a08a8911a6990bcf149778facd67272fd39328614c86f67c7c554da781"), looks := true }, kinds := [], alts := [], laidByText := true, laidKinds := [.handle], laidTests := true, laidLooks := .later }
def DiskKnownUptoCardSaid : Prop := Claim7.holds Tryd.pinned (.plain (OpenSpec.upto diskKnownSpec)) diskKnownUptoCard
end Rows
end Go.Proofs.YtgkbgponednfjaaDoor
