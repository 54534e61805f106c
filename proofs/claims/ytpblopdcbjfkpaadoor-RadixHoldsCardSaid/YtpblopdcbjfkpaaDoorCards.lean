/-
  DERIVED. GIVEN WITH THE SEED: THE CARDS: each row of YtpblopdcbjfkpaaDoorRows.lean that lists a variable, with what it lists TIED to the program's text (the seventh form; the later family's looks); each row that meets fmt, with fmt's text TOLD by the authors' own Lean function (tested against real Go, not proved from fmt's source: count such statements apart). THE CARD IS WHAT COUNTS. Prove the row's statement (the work); the ties are given (YtpblopdcbjfkpaaDoorTie.lean); close each card by the builder's one call (the guide's Derived/Test/ToyasCard.lean, 'card_holds'). Laid BY PROGRAM, IN A SANDBOX (cutbox-door.mjs). By AI agents, Wed Nov 11 2026. No macro, syntax, notation, axiom, sorry.
-/
import Derived.Test.YtpblopdcbjfkpaaDoorRows
import GoSem.ClaimSeven
namespace Go.Proofs.YtpblopdcbjfkpaaDoor
namespace Rows

/-- THE TIED CARD OF 'taprootlaw9.RadixHolds'. -/
def radixHoldsCard : Claim7 := { stood := { row := radixHoldsRow, standIns := [], harness := (true, "02f1a1f6e4027b83559c6e91a6f740d42d7025dbf80b7ebf2e46e62744ed3cff"), looks := true }, kinds := [], alts := [], laidByText := true, laidKinds := [.handle], laidTests := true, laidLooks := .later }
def RadixHoldsCardSaid : Prop := Claim7.holds Tryd.pinned (.plain (OpenSpec.ofChange radixHoldsSpec)) radixHoldsCard

/-- THE TIED CARD OF 'taprootlaw23.WireTurns'. -/
def wireTurnsCard : Claim7 := { stood := { row := wireTurnsRow, standIns := [], harness := (true, "02f1a1f6e4027b83559c6e91a6f740d42d7025dbf80b7ebf2e46e62744ed3cff"), looks := true }, kinds := [], alts := [], laidByText := true, laidKinds := [.handle], laidTests := true, laidLooks := .later }
def WireTurnsCardSaid : Prop := Claim7.holds Tryd.pinned (.plain (OpenSpec.ofChange wireTurnsSpec)) wireTurnsCard

/-- THE TIED CARD OF 'taprootlaw23.WireSizes'. -/
def wireSizesCard : Claim7 := { stood := { row := wireSizesRow, standIns := [], harness := (true, "02f1a1f6e4027b83559c6e91a6f740d42d7025dbf80b7ebf2e46e62744ed3cff"), looks := true }, kinds := [], alts := [], laidByText := true, laidKinds := [.handle], laidTests := true, laidLooks := .later }
def WireSizesCardSaid : Prop := Claim7.holds Tryd.pinned (.plain (OpenSpec.ofChange wireSizesSpec)) wireSizesCard

/-- THE TIED CARD OF 'taprootlaw23.WireBack'. -/
def wireBackCard : Claim7 := { stood := { row := wireBackRow, standIns := [], harness := (true, "02f1a1f6e4027b83559c6e91a6f740d42d7025dbf80b7ebf2e46e62744ed3cff"), looks := true }, kinds := [], alts := [], laidByText := true, laidKinds := [.handle], laidTests := true, laidLooks := .later }
def WireBackCardSaid : Prop := Claim7.holds Tryd.pinned (.plain (OpenSpec.ofChange wireBackSpec)) wireBackCard

/-- THE TIED CARD OF 'taprootlaw9.RadixKnown'. -/
def radixKnownCard : Claim7 := { stood := { row := radixKnownRow, standIns := [], harness := (true, "02f1a1f6e4027b83559c6e91a6f740d42d7025dbf80b7ebf2e46e62744ed3cff"), looks := true }, kinds := [], alts := [], laidByText := true, laidKinds := [.handle], laidTests := true, laidLooks := .later }
def RadixKnownCardSaid : Prop := Claim7.holds Tryd.pinned (.plain (OpenSpec.ofChange radixKnownSpec)) radixKnownCard

/-- THE SECOND FORM's CARD OF 'taprootlaw9.RadixHolds'. -/
def radixHoldsUptoCard : Claim7 := { stood := { row := radixHoldsUptoRow, standIns := [], harness := (true, "02f1a1f6e4027b83559c6e91a6f740d42d7025dbf80b7ebf2e46e62744ed3cff"), looks := true }, kinds := [], alts := [], laidByText := true, laidKinds := [.handle], laidTests := true, laidLooks := .later }
def RadixHoldsUptoCardSaid : Prop := Claim7.holds Tryd.pinned (.plain (OpenSpec.upto radixHoldsSpec)) radixHoldsUptoCard

/-- THE SECOND FORM's CARD OF 'taprootlaw23.WireTurns'. -/
def wireTurnsUptoCard : Claim7 := { stood := { row := wireTurnsUptoRow, standIns := [], harness := (true, "02f1a1f6e4027b83559c6e91a6f740d42d7025dbf80b7ebf2e46e62744ed3cff"), looks := true }, kinds := [], alts := [], laidByText := true, laidKinds := [.handle], laidTests := true, laidLooks := .later }
def WireTurnsUptoCardSaid : Prop := Claim7.holds Tryd.pinned (.plain (OpenSpec.upto wireTurnsSpec)) wireTurnsUptoCard

/-- THE SECOND FORM's CARD OF 'taprootlaw23.WireSizes'. -/
def wireSizesUptoCard : Claim7 := { stood := { row := wireSizesUptoRow, standIns := [], harness := (true, "02f1a1f6e4027b83559c6e91a6f740d42d7025dbf80b7ebf2e46e62744ed3cff"), looks := true }, kinds := [], alts := [], laidByText := true, laidKinds := [.handle], laidTests := true, laidLooks := .later }
def WireSizesUptoCardSaid : Prop := Claim7.holds Tryd.pinned (.plain (OpenSpec.upto wireSizesSpec)) wireSizesUptoCard

/-- THE SECOND FORM's CARD OF 'taprootlaw23.WireBack'. -/
def wireBackUptoCard : Claim7 := { stood := { row := wireBackUptoRow, standIns := [], harness := (true, "02f1a1f6e4027b83559c6e91a6f740d42d7025dbf80b7ebf2e46e62744ed3cff"), looks := true }, kinds := [], alts := [], laidByText := true, laidKinds := [.handle], laidTests := true, laidLooks := .later }
def WireBackUptoCardSaid : Prop := Claim7.holds Tryd.pinned (.plain (OpenSpec.upto wireBackSpec)) wireBackUptoCard

/-- THE SECOND FORM's CARD OF 'taprootlaw9.RadixKnown'. -/
def radixKnownUptoCard : Claim7 := { stood := { row := radixKnownUptoRow, standIns := [], harness := (true, "02f1a1f6e4027b83559c6e91a6f740d42d7025dbf80b7ebf2e46e62744ed3cff"), looks := true }, kinds := [], alts := [], laidByText := true, laidKinds := [.handle], laidTests := true, laidLooks := .later }
def RadixKnownUptoCardSaid : Prop := Claim7.holds Tryd.pinned (.plain (OpenSpec.upto radixKnownSpec)) radixKnownUptoCard
end Rows
end Go.Proofs.YtpblopdcbjfkpaaDoor
