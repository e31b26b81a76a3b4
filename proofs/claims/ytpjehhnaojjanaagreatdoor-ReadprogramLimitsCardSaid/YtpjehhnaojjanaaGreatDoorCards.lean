/-
  DERIVED. GIVEN WITH THE SEED: THE CARDS: each row of YtpjehhnaojjanaaGreatDoorRows.lean that lists a variable, with what it lists TIED to the program's text (the seventh form; the later family's looks); each row that meets fmt, with fmt's text TOLD by the authors' own Lean function (tested against real Go, not proved from fmt's source: count such statements apart). THE CARD IS WHAT COUNTS. Prove the row's statement (the work); the ties are given (YtpjehhnaojjanaaGreatDoorTie.lean); close each card by the builder's one call (the guide's Derived/Test/ToyasCard.lean, 'card_holds'). Laid BY PROGRAM, IN A SANDBOX (cutbox-door.mjs). By AI agents, Wed Nov 11 2026. No macro, syntax, notation, axiom, sorry.
-/
import Derived.Test.YtpjehhnaojjanaaGreatDoorRows
import GoSem.ClaimSeven
namespace Go.Proofs.YtpjehhnaojjanaaGreatDoor
namespace Rows

/-- THE TIED CARD OF 'typedholeslaw7.ReadprogramAny'. -/
def readprogramAnyCard : Claim7 := { stood := { row := readprogramAnyRow, standIns := [], harness := (true, "50a1821dc82f188d84f4ca09ddfa49410b35d86a374d01b84edc3ece70ea6c4c"), looks := true }, kinds := [], alts := [], laidByText := true, laidKinds := [.data, .data, .data, .data, .handle, .sentinel, .sentinel, .pinned], laidTests := true, laidLooks := .later }
def ReadprogramAnyCardSaid : Prop := Claim7.holds Tryz.pinned (.plain (OpenSpec.ofChange readprogramAnySpec)) readprogramAnyCard

/-- THE TIED CARD OF 'typedholeslaw7.ReadprogramReturns'. -/
def readprogramReturnsCard : Claim7 := { stood := { row := readprogramReturnsRow, standIns := [], harness := (true, "50a1821dc82f188d84f4ca09ddfa49410b35d86a374d01b84edc3ece70ea6c4c"), looks := true }, kinds := [], alts := [], laidByText := true, laidKinds := [.data, .data, .data, .data, .handle, .sentinel, .sentinel, .pinned], laidTests := true, laidLooks := .later }
def ReadprogramReturnsCardSaid : Prop := Claim7.holds Tryz.pinned (.plain (OpenSpec.ofChange readprogramReturnsSpec)) readprogramReturnsCard

/-- THE TIED CARD OF 'typedholeslaw7.ReadprogramLimits'. -/
def readprogramLimitsCard : Claim7 := { stood := { row := readprogramLimitsRow, standIns := [], harness := (true, "50a1821dc82f188d84f4ca09ddfa49410b35d86a374d01b84edc3ece70ea6c4c"), looks := true }, kinds := [], alts := [], laidByText := true, laidKinds := [.data, .data, .data, .data, .handle, .sentinel, .sentinel, .pinned], laidTests := true, laidLooks := .later }
def ReadprogramLimitsCardSaid : Prop := Claim7.holds Tryz.pinned (.plain (OpenSpec.ofChange readprogramLimitsSpec)) readprogramLimitsCard

/-- THE TIED CARD OF 'typedholeslaw7.ReadprogramDeep'. -/
def readprogramDeepCard : Claim7 := { stood := { row := readprogramDeepRow, standIns := [], harness := (true, "50a1821dc82f188d84f4ca09ddfa49410b35d86a374d01b84edc3ece70ea6c4c"), looks := true }, kinds := [], alts := [], laidByText := true, laidKinds := [.data, .data, .data, .data, .handle, .sentinel, .sentinel, .pinned], laidTests := true, laidLooks := .later }
def ReadprogramDeepCardSaid : Prop := Claim7.holds Tryz.pinned (.plain (OpenSpec.ofChange readprogramDeepSpec)) readprogramDeepCard

/-- THE TIED CARD OF 'typedholeslaw7.ReadprogramExpr'. -/
def readprogramExprCard : Claim7 := { stood := { row := readprogramExprRow, standIns := [], harness := (true, "50a1821dc82f188d84f4ca09ddfa49410b35d86a374d01b84edc3ece70ea6c4c"), looks := true }, kinds := [], alts := [], laidByText := true, laidKinds := [.data, .data, .data, .data, .handle, .sentinel, .sentinel, .pinned], laidTests := true, laidLooks := .later }
def ReadprogramExprCardSaid : Prop := Claim7.holds Tryz.pinned (.plain (OpenSpec.ofChange readprogramExprSpec)) readprogramExprCard

/-- THE SECOND FORM's CARD OF 'typedholeslaw7.ReadprogramAny'. -/
def readprogramAnyUptoCard : Claim7 := { stood := { row := readprogramAnyUptoRow, standIns := [], harness := (true, "50a1821dc82f188d84f4ca09ddfa49410b35d86a374d01b84edc3ece70ea6c4c"), looks := true }, kinds := [], alts := [], laidByText := true, laidKinds := [.data, .data, .data, .data, .handle, .sentinel, .sentinel, .pinned], laidTests := true, laidLooks := .later }
def ReadprogramAnyUptoCardSaid : Prop := Claim7.holds Tryz.pinned (.plain (OpenSpec.upto readprogramAnySpec)) readprogramAnyUptoCard

/-- THE SECOND FORM's CARD OF 'typedholeslaw7.ReadprogramReturns'. -/
def readprogramReturnsUptoCard : Claim7 := { stood := { row := readprogramReturnsUptoRow, standIns := [], harness := (true, "50a1821dc82f188d84f4ca09ddfa49410b35d86a374d01b84edc3ece70ea6c4c"), looks := true }, kinds := [], alts := [], laidByText := true, laidKinds := [.data, .data, .data, .data, .handle, .sentinel, .sentinel, .pinned], laidTests := true, laidLooks := .later }
def ReadprogramReturnsUptoCardSaid : Prop := Claim7.holds Tryz.pinned (.plain (OpenSpec.upto readprogramReturnsSpec)) readprogramReturnsUptoCard

/-- THE SECOND FORM's CARD OF 'typedholeslaw7.ReadprogramLimits'. -/
def readprogramLimitsUptoCard : Claim7 := { stood := { row := readprogramLimitsUptoRow, standIns := [], harness := (true, "50a1821dc82f188d84f4ca09ddfa49410b35d86a374d01b84edc3ece70ea6c4c"), looks := true }, kinds := [], alts := [], laidByText := true, laidKinds := [.data, .data, .data, .data, .handle, .sentinel, .sentinel, .pinned], laidTests := true, laidLooks := .later }
def ReadprogramLimitsUptoCardSaid : Prop := Claim7.holds Tryz.pinned (.plain (OpenSpec.upto readprogramLimitsSpec)) readprogramLimitsUptoCard

/-- THE SECOND FORM's CARD OF 'typedholeslaw7.ReadprogramDeep'. -/
def readprogramDeepUptoCard : Claim7 := { stood := { row := readprogramDeepUptoRow, standIns := [], harness := (true, "50a1821dc82f188d84f4ca09ddfa49410b35d86a374d01b84edc3ece70ea6c4c"), looks := true }, kinds := [], alts := [], laidByText := true, laidKinds := [.data, .data, .data, .data, .handle, .sentinel, .sentinel, .pinned], laidTests := true, laidLooks := .later }
def ReadprogramDeepUptoCardSaid : Prop := Claim7.holds Tryz.pinned (.plain (OpenSpec.upto readprogramDeepSpec)) readprogramDeepUptoCard

/-- THE SECOND FORM's CARD OF 'typedholeslaw7.ReadprogramExpr'. -/
def readprogramExprUptoCard : Claim7 := { stood := { row := readprogramExprUptoRow, standIns := [], harness := (true, "50a1821dc82f188d84f4ca09ddfa49410b35d86a374d01b84edc3ece70ea6c4c"), looks := true }, kinds := [], alts := [], laidByText := true, laidKinds := [.data, .data, .data, .data, .handle, .sentinel, .sentinel, .pinned], laidTests := true, laidLooks := .later }
def ReadprogramExprUptoCardSaid : Prop := Claim7.holds Tryz.pinned (.plain (OpenSpec.upto readprogramExprSpec)) readprogramExprUptoCard
end Rows
end Go.Proofs.YtpjehhnaojjanaaGreatDoor
