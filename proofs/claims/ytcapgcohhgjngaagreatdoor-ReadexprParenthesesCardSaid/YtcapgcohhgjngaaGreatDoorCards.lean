/-
  DERIVED. GIVEN WITH THE SEED: THE CARDS: each row of YtcapgcohhgjngaaGreatDoorRows.lean that lists a variable, with what it lists TIED to the program's text (the seventh form; the later family's looks); each row that meets fmt, with fmt's text TOLD by the authors' own Lean function (tested against real Go, not proved from fmt's source: count such statements apart). THE CARD IS WHAT COUNTS. Prove the row's statement (the work); the ties are given (YtcapgcohhgjngaaGreatDoorTie.lean); close each card by the builder's one call (the guide's Derived/Test/ToyasCard.lean, 'card_holds'). Laid BY PROGRAM, IN A SANDBOX (cutbox-door.mjs). By AI agents, Wed Nov 11 2026. No macro, syntax, notation, axiom, sorry.
-/
import Derived.Test.YtcapgcohhgjngaaGreatDoorRows
import GoSem.ClaimSeven
namespace Go.Proofs.YtcapgcohhgjngaaGreatDoor
namespace Rows

/-- THE TIED CARD OF 'typedholeslaw6.ReadexprTexts'. -/
def readexprTextsCard : Claim7 := { stood := { row := readexprTextsRow, standIns := [], harness := (true, "9c35d4d67c4f3fa08da9355a3276ff4ac749ec6800d60492ca4e6020da0a10b0"), looks := true }, kinds := [], alts := [], laidByText := true, laidKinds := [.data, .data, .data, .handle, .sentinel, .sentinel], laidTests := true, laidLooks := .later }
def ReadexprTextsCardSaid : Prop := Claim7.holds Tryz.pinned (.plain (OpenSpec.ofChange readexprTextsSpec)) readexprTextsCard

/-- THE TIED CARD OF 'typedholeslaw6.ReadexprParentheses'. -/
def readexprParenthesesCard : Claim7 := { stood := { row := readexprParenthesesRow, standIns := [], harness := (true, "9c35d4d67c4f3fa08da9355a3276ff4ac749ec6800d60492ca4e6020da0a10b0"), looks := true }, kinds := [], alts := [], laidByText := true, laidKinds := [.data, .data, .data, .handle, .sentinel, .sentinel], laidTests := true, laidLooks := .later }
def ReadexprParenthesesCardSaid : Prop := Claim7.holds Tryz.pinned (.plain (OpenSpec.ofChange readexprParenthesesSpec)) readexprParenthesesCard

/-- THE TIED CARD OF 'typedholeslaw7.ReadprogramAny'. -/
def readprogramAnyCard : Claim7 := { stood := { row := readprogramAnyRow, standIns := [], harness := (true, "9c35d4d67c4f3fa08da9355a3276ff4ac749ec6800d60492ca4e6020da0a10b0"), looks := true }, kinds := [], alts := [], laidByText := true, laidKinds := [.data, .data, .data, .data, .handle, .sentinel, .sentinel, .pinned], laidTests := true, laidLooks := .later }
def ReadprogramAnyCardSaid : Prop := Claim7.holds Tryz.pinned (.plain (OpenSpec.ofChange readprogramAnySpec)) readprogramAnyCard

/-- THE TIED CARD OF 'typedholeslaw7.ReadprogramLimits'. -/
def readprogramLimitsCard : Claim7 := { stood := { row := readprogramLimitsRow, standIns := [], harness := (true, "9c35d4d67c4f3fa08da9355a3276ff4ac749ec6800d60492ca4e6020da0a10b0"), looks := true }, kinds := [], alts := [], laidByText := true, laidKinds := [.data, .data, .data, .data, .handle, .sentinel, .sentinel, .pinned], laidTests := true, laidLooks := .later }
def ReadprogramLimitsCardSaid : Prop := Claim7.holds Tryz.pinned (.plain (OpenSpec.ofChange readprogramLimitsSpec)) readprogramLimitsCard

/-- THE TIED CARD OF 'typedholeslaw7.ReadprogramDeep'. -/
def readprogramDeepCard : Claim7 := { stood := { row := readprogramDeepRow, standIns := [], harness := (true, "9c35d4d67c4f3fa08da9355a3276ff4ac749ec6800d60492ca4e6020da0a10b0"), looks := true }, kinds := [], alts := [], laidByText := true, laidKinds := [.data, .data, .data, .data, .handle, .sentinel, .sentinel, .pinned], laidTests := true, laidLooks := .later }
def ReadprogramDeepCardSaid : Prop := Claim7.holds Tryz.pinned (.plain (OpenSpec.ofChange readprogramDeepSpec)) readprogramDeepCard

/-- THE TIED CARD OF 'typedholeslaw7.ReadprogramExpr'. -/
def readprogramExprCard : Claim7 := { stood := { row := readprogramExprRow, standIns := [], harness := (true, "9c35d4d67c4f3fa08da9355a3276ff4ac749ec6800d60492ca4e6020da0a10b0"), looks := true }, kinds := [], alts := [], laidByText := true, laidKinds := [.data, .data, .data, .data, .handle, .sentinel, .sentinel, .pinned], laidTests := true, laidLooks := .later }
def ReadprogramExprCardSaid : Prop := Claim7.holds Tryz.pinned (.plain (OpenSpec.ofChange readprogramExprSpec)) readprogramExprCard

/-- THE SECOND FORM's CARD OF 'typedholeslaw6.ReadexprTexts'. -/
def readexprTextsUptoCard : Claim7 := { stood := { row := readexprTextsUptoRow, standIns := [], harness := (true, "9c35d4d67c4f3fa08da9355a3276ff4ac749ec6800d60492ca4e6020da0a10b0"), looks := true }, kinds := [], alts := [], laidByText := true, laidKinds := [.data, .data, .data, .handle, .sentinel, .sentinel], laidTests := true, laidLooks := .later }
def ReadexprTextsUptoCardSaid : Prop := Claim7.holds Tryz.pinned (.plain (OpenSpec.upto readexprTextsSpec)) readexprTextsUptoCard

/-- THE SECOND FORM's CARD OF 'typedholeslaw6.ReadexprParentheses'. -/
def readexprParenthesesUptoCard : Claim7 := { stood := { row := readexprParenthesesUptoRow, standIns := [], harness := (true, "9c35d4d67c4f3fa08da9355a3276ff4ac749ec6800d60492ca4e6020da0a10b0"), looks := true }, kinds := [], alts := [], laidByText := true, laidKinds := [.data, .data, .data, .handle, .sentinel, .sentinel], laidTests := true, laidLooks := .later }
def ReadexprParenthesesUptoCardSaid : Prop := Claim7.holds Tryz.pinned (.plain (OpenSpec.upto readexprParenthesesSpec)) readexprParenthesesUptoCard

/-- THE SECOND FORM's CARD OF 'typedholeslaw7.ReadprogramAny'. -/
def readprogramAnyUptoCard : Claim7 := { stood := { row := readprogramAnyUptoRow, standIns := [], harness := (true, "9c35d4d67c4f3fa08da9355a3276ff4ac749ec6800d60492ca4e6020da0a10b0"), looks := true }, kinds := [], alts := [], laidByText := true, laidKinds := [.data, .data, .data, .data, .handle, .sentinel, .sentinel, .pinned], laidTests := true, laidLooks := .later }
def ReadprogramAnyUptoCardSaid : Prop := Claim7.holds Tryz.pinned (.plain (OpenSpec.upto readprogramAnySpec)) readprogramAnyUptoCard

/-- THE SECOND FORM's CARD OF 'typedholeslaw7.ReadprogramLimits'. -/
def readprogramLimitsUptoCard : Claim7 := { stood := { row := readprogramLimitsUptoRow, standIns := [], harness := (true, "9c35d4d67c4f3fa08da9355a3276ff4ac749ec6800d60492ca4e6020da0a10b0"), looks := true }, kinds := [], alts := [], laidByText := true, laidKinds := [.data, .data, .data, .data, .handle, .sentinel, .sentinel, .pinned], laidTests := true, laidLooks := .later }
def ReadprogramLimitsUptoCardSaid : Prop := Claim7.holds Tryz.pinned (.plain (OpenSpec.upto readprogramLimitsSpec)) readprogramLimitsUptoCard

/-- THE SECOND FORM's CARD OF 'typedholeslaw7.ReadprogramDeep'. -/
def readprogramDeepUptoCard : Claim7 := { stood := { row := readprogramDeepUptoRow, standIns := [], harness := (true, "9c35d4d67c4f3fa08da9355a3276ff4ac749ec6800d60492ca4e6020da0a10b0"), looks := true }, kinds := [], alts := [], laidByText := true, laidKinds := [.data, .data, .data, .data, .handle, .sentinel, .sentinel, .pinned], laidTests := true, laidLooks := .later }
def ReadprogramDeepUptoCardSaid : Prop := Claim7.holds Tryz.pinned (.plain (OpenSpec.upto readprogramDeepSpec)) readprogramDeepUptoCard

/-- THE SECOND FORM's CARD OF 'typedholeslaw7.ReadprogramExpr'. -/
def readprogramExprUptoCard : Claim7 := { stood := { row := readprogramExprUptoRow, standIns := [], harness := (true, "9c35d4d67c4f3fa08da9355a3276ff4ac749ec6800d60492ca4e6020da0a10b0"), looks := true }, kinds := [], alts := [], laidByText := true, laidKinds := [.data, .data, .data, .data, .handle, .sentinel, .sentinel, .pinned], laidTests := true, laidLooks := .later }
def ReadprogramExprUptoCardSaid : Prop := Claim7.holds Tryz.pinned (.plain (OpenSpec.upto readprogramExprSpec)) readprogramExprUptoCard
end Rows
end Go.Proofs.YtcapgcohhgjngaaGreatDoor
