/-
  DERIVED. GIVEN WITH THE SEED: THE CARDS: each row of YtogmbpepdemdkaaDoorRows.lean that lists a variable, with what it lists TIED to the program's text (the seventh form; the later family's looks); each row that meets fmt, with fmt's text TOLD by the authors' own Lean function (tested against real Go, not proved from fmt's source: count such statements apart). THE CARD IS WHAT COUNTS. Prove the row's statement (the work); the ties are given (YtogmbpepdemdkaaDoorTie.lean); close each card by the builder's one call (the guide's Derived/Test/ToyasCard.lean, 'card_holds'). Laid BY PROGRAM, IN A SANDBOX (cutbox-door.mjs). By AI agents, Wed Nov 11 2026. No macro, syntax, notation, axiom, sorry.
-/
import Derived.Test.YtogmbpepdemdkaaDoorRows
import GoSem.ClaimSeven
namespace Go.Proofs.YtogmbpepdemdkaaDoor
namespace Rows

/-- THE TIED CARD OF 'typedholeslaw1.TextPlaces'. -/
def textPlacesCard : Claim7 := { stood := { row := textPlacesRow, standIns := [], harness := (true, "4bb5c0573899e0ce280f119a2b61bc201542d40aa52149c5976da3178bff4923"), looks := true }, kinds := [], alts := [], laidByText := true, laidKinds := [.data, .data, .data, .data, .pinned], laidTests := true, laidLooks := .later }
def TextPlacesCardSaid : Prop := Claim7.holds Tryd.pinned (.plain (OpenSpec.ofChange textPlacesSpec)) textPlacesCard

/-- THE TIED CARD OF 'typedholeslaw1.TextLines'. -/
def textLinesCard : Claim7 := { stood := { row := textLinesRow, standIns := [], harness := (true, "4bb5c0573899e0ce280f119a2b61bc201542d40aa52149c5976da3178bff4923"), looks := true }, kinds := [], alts := [], laidByText := true, laidKinds := [.data, .data, .data, .data, .pinned], laidTests := true, laidLooks := .later }
def TextLinesCardSaid : Prop := Claim7.holds Tryd.pinned (.plain (OpenSpec.ofChange textLinesSpec)) textLinesCard

/-- THE TIED CARD OF 'typedholeslaw1.TextNumbers'. -/
def textNumbersCard : Claim7 := { stood := { row := textNumbersRow, standIns := [], harness := (true, "4bb5c0573899e0ce280f119a2b61bc201542d40aa52149c5976da3178bff4923"), looks := true }, kinds := [], alts := [], laidByText := true, laidKinds := [.data, .data, .data, .data, .pinned], laidTests := true, laidLooks := .later }
def TextNumbersCardSaid : Prop := Claim7.holds Tryd.pinned (.plain (OpenSpec.ofChange textNumbersSpec)) textNumbersCard

/-- THE TIED CARD OF 'typedholeslaw1.TextDescribes'. -/
def textDescribesCard : Claim7 := { stood := { row := textDescribesRow, standIns := [], harness := (true, "4bb5c0573899e0ce280f119a2b61bc201542d40aa52149c5976da3178bff4923"), looks := true }, kinds := [], alts := [], laidByText := true, laidKinds := [.data, .data, .data, .data, .pinned], laidTests := true, laidLooks := .later }
def TextDescribesCardSaid : Prop := Claim7.holds Tryd.pinned (.plain (OpenSpec.ofChange textDescribesSpec)) textDescribesCard

/-- THE TIED CARD OF 'typedholeslaw1.TextOffsets'. -/
def textOffsetsCard : Claim7 := { stood := { row := textOffsetsRow, standIns := [], harness := (true, "4bb5c0573899e0ce280f119a2b61bc201542d40aa52149c5976da3178bff4923"), looks := true }, kinds := [], alts := [], laidByText := true, laidKinds := [.data, .data, .data, .data, .pinned], laidTests := true, laidLooks := .later }
def TextOffsetsCardSaid : Prop := Claim7.holds Tryd.pinned (.plain (OpenSpec.ofChange textOffsetsSpec)) textOffsetsCard

/-- THE TIED CARD OF 'typedholeslaw1.TextReturns'. -/
def textReturnsCard : Claim7 := { stood := { row := textReturnsRow, standIns := [], harness := (true, "4bb5c0573899e0ce280f119a2b61bc201542d40aa52149c5976da3178bff4923"), looks := true }, kinds := [], alts := [], laidByText := true, laidKinds := [.data, .data, .data, .data, .pinned], laidTests := true, laidLooks := .later }
def TextReturnsCardSaid : Prop := Claim7.holds Tryd.pinned (.plain (OpenSpec.ofChange textReturnsSpec)) textReturnsCard

/-- THE TIED CARD OF 'typedholeslaw37.CommandParses'. -/
def commandParsesCard : Claim7 := { stood := { row := commandParsesRow, standIns := [], harness := (true, "4bb5c0573899e0ce280f119a2b61bc201542d40aa52149c5976da3178bff4923"), looks := true }, kinds := [], alts := [], laidByText := true, laidKinds := [.data, .data, .data, .sentinel, .sentinel], laidTests := true, laidLooks := .later }
def CommandParsesCardSaid : Prop := Claim7.holds Tryd.pinned (.plain (OpenSpec.ofChange commandParsesSpec)) commandParsesCard

/-- THE TIED CARD OF 'typedholeslaw37.CommandFormats'. -/
def commandFormatsCard : Claim7 := { stood := { row := commandFormatsRow, standIns := [], harness := (true, "4bb5c0573899e0ce280f119a2b61bc201542d40aa52149c5976da3178bff4923"), looks := true }, kinds := [], alts := [], laidByText := true, laidKinds := [.data, .data, .data, .sentinel, .sentinel], laidTests := true, laidLooks := .later }
def CommandFormatsCardSaid : Prop := Claim7.holds Tryd.pinned (.plain (OpenSpec.ofChange commandFormatsSpec)) commandFormatsCard

/-- THE TIED CARD OF 'typedholeslaw37.CommandLong'. -/
def commandLongCard : Claim7 := { stood := { row := commandLongRow, standIns := [], harness := (true, "4bb5c0573899e0ce280f119a2b61bc201542d40aa52149c5976da3178bff4923"), looks := true }, kinds := [], alts := [], laidByText := true, laidKinds := [.data, .data, .data, .sentinel, .sentinel], laidTests := true, laidLooks := .later }
def CommandLongCardSaid : Prop := Claim7.holds Tryd.pinned (.plain (OpenSpec.ofChange commandLongSpec)) commandLongCard

/-- THE SECOND FORM's CARD OF 'typedholeslaw1.TextPlaces'. -/
def textPlacesUptoCard : Claim7 := { stood := { row := textPlacesUptoRow, standIns := [], harness := (true, "4bb5c0573899e0ce280f119a2b61bc201542d40aa52149c5976da3178bff4923"), looks := true }, kinds := [], alts := [], laidByText := true, laidKinds := [.data, .data, .data, .data, .pinned], laidTests := true, laidLooks := .later }
def TextPlacesUptoCardSaid : Prop := Claim7.holds Tryd.pinned (.plain (OpenSpec.upto textPlacesSpec)) textPlacesUptoCard

/-- THE SECOND FORM's CARD OF 'typedholeslaw1.TextLines'. -/
def textLinesUptoCard : Claim7 := { stood := { row := textLinesUptoRow, standIns := [], harness := (true, "4bb5c0573899e0ce280f119a2b61bc201542d40aa52149c5976da3178bff4923"), looks := true }, kinds := [], alts := [], laidByText := true, laidKinds := [.data, .data, .data, .data, .pinned], laidTests := true, laidLooks := .later }
def TextLinesUptoCardSaid : Prop := Claim7.holds Tryd.pinned (.plain (OpenSpec.upto textLinesSpec)) textLinesUptoCard

/-- THE SECOND FORM's CARD OF 'typedholeslaw1.TextNumbers'. -/
def textNumbersUptoCard : Claim7 := { stood := { row := textNumbersUptoRow, standIns := [], harness := (true, "4bb5c0573899e0ce280f119a2b61bc201542d40aa52149c5976da3178bff4923"), looks := true }, kinds := [], alts := [], laidByText := true, laidKinds := [.data, .data, .data, .data, .pinned], laidTests := true, laidLooks := .later }
def TextNumbersUptoCardSaid : Prop := Claim7.holds Tryd.pinned (.plain (OpenSpec.upto textNumbersSpec)) textNumbersUptoCard

/-- THE SECOND FORM's CARD OF 'typedholeslaw1.TextDescribes'. -/
def textDescribesUptoCard : Claim7 := { stood := { row := textDescribesUptoRow, standIns := [], harness := (true, "4bb5c0573899e0ce280f119a2b61bc201542d40aa52149c5976da3178bff4923"), looks := true }, kinds := [], alts := [], laidByText := true, laidKinds := [.data, .data, .data, .data, .pinned], laidTests := true, laidLooks := .later }
def TextDescribesUptoCardSaid : Prop := Claim7.holds Tryd.pinned (.plain (OpenSpec.upto textDescribesSpec)) textDescribesUptoCard

/-- THE SECOND FORM's CARD OF 'typedholeslaw1.TextOffsets'. -/
def textOffsetsUptoCard : Claim7 := { stood := { row := textOffsetsUptoRow, standIns := [], harness := (true, "4bb5c0573899e0ce280f119a2b61bc201542d40aa52149c5976da3178bff4923"), looks := true }, kinds := [], alts := [], laidByText := true, laidKinds := [.data, .data, .data, .data, .pinned], laidTests := true, laidLooks := .later }
def TextOffsetsUptoCardSaid : Prop := Claim7.holds Tryd.pinned (.plain (OpenSpec.upto textOffsetsSpec)) textOffsetsUptoCard

/-- THE SECOND FORM's CARD OF 'typedholeslaw1.TextReturns'. -/
def textReturnsUptoCard : Claim7 := { stood := { row := textReturnsUptoRow, standIns := [], harness := (true, "4bb5c0573899e0ce280f119a2b61bc201542d40aa52149c5976da3178bff4923"), looks := true }, kinds := [], alts := [], laidByText := true, laidKinds := [.data, .data, .data, .data, .pinned], laidTests := true, laidLooks := .later }
def TextReturnsUptoCardSaid : Prop := Claim7.holds Tryd.pinned (.plain (OpenSpec.upto textReturnsSpec)) textReturnsUptoCard

/-- THE SECOND FORM's CARD OF 'typedholeslaw37.CommandParses'. -/
def commandParsesUptoCard : Claim7 := { stood := { row := commandParsesUptoRow, standIns := [], harness := (true, "4bb5c0573899e0ce280f119a2b61bc201542d40aa52149c5976da3178bff4923"), looks := true }, kinds := [], alts := [], laidByText := true, laidKinds := [.data, .data, .data, .sentinel, .sentinel], laidTests := true, laidLooks := .later }
def CommandParsesUptoCardSaid : Prop := Claim7.holds Tryd.pinned (.plain (OpenSpec.upto commandParsesSpec)) commandParsesUptoCard

/-- THE SECOND FORM's CARD OF 'typedholeslaw37.CommandFormats'. -/
def commandFormatsUptoCard : Claim7 := { stood := { row := commandFormatsUptoRow, standIns := [], harness := (true, "4bb5c0573899e0ce280f119a2b61bc201542d40aa52149c5976da3178bff4923"), looks := true }, kinds := [], alts := [], laidByText := true, laidKinds := [.data, .data, .data, .sentinel, .sentinel], laidTests := true, laidLooks := .later }
def CommandFormatsUptoCardSaid : Prop := Claim7.holds Tryd.pinned (.plain (OpenSpec.upto commandFormatsSpec)) commandFormatsUptoCard

/-- THE SECOND FORM's CARD OF 'typedholeslaw37.CommandLong'. -/
def commandLongUptoCard : Claim7 := { stood := { row := commandLongUptoRow, standIns := [], harness := (true, "4bb5c0573899e0ce280f119a2b61bc201542d40aa52149c5976da3178bff4923"), looks := true }, kinds := [], alts := [], laidByText := true, laidKinds := [.data, .data, .data, .sentinel, .sentinel], laidTests := true, laidLooks := .later }
def CommandLongUptoCardSaid : Prop := Claim7.holds Tryd.pinned (.plain (OpenSpec.upto commandLongSpec)) commandLongUptoCard
end Rows
end Go.Proofs.YtogmbpepdemdkaaDoor
