/-
  DERIVED. GIVEN WITH THE SEED: THE CARDS: each row of YtjiommnmkokldaaDoorRows.lean that lists a variable, with what it lists TIED to the program's text (the seventh form; the later family's looks); each row that meets fmt, with fmt's text TOLD by the authors' own Lean function (tested against real Go, not proved from fmt's source: count such statements apart). THE CARD IS WHAT COUNTS. Prove the row's statement (the work); the ties are given (YtjiommnmkokldaaDoorTie.lean); close each card by the builder's one call (the guide's Derived/Test/ToyasCard.lean, 'card_holds'). Laid BY PROGRAM, IN A SANDBOX (cutbox-door.mjs). By AI agents, Wed Nov 11 2026. No macro, syntax, notation, axiom, sorry.
-/
import Derived.Test.YtjiommnmkokldaaDoorRows
import GoSem.ClaimSeven
namespace Go.Proofs.YtjiommnmkokldaaDoor
namespace Rows

/-- THE TIED CARD OF 'typedholeslaw5.ReadtypeReturns'. -/
def readtypeReturnsCard : Claim7 := { stood := { row := readtypeReturnsRow, standIns := [], harness := (true, "a2296bcdff4d0bcb50d7f6b6cc3e438dfc22b27d1115525d9dad5a237cb67003"), looks := true }, kinds := [], alts := [], laidByText := true, laidKinds := [.handle], laidTests := true, laidLooks := .later }
def ReadtypeReturnsCardSaid : Prop := Claim7.holds Tryd.pinned (.plain (OpenSpec.ofChange readtypeReturnsSpec)) readtypeReturnsCard

/-- THE TIED CARD OF 'typedholeslaw5.ReadtypeStarts'. -/
def readtypeStartsCard : Claim7 := { stood := { row := readtypeStartsRow, standIns := [], harness := (true, "a2296bcdff4d0bcb50d7f6b6cc3e438dfc22b27d1115525d9dad5a237cb67003"), looks := true }, kinds := [], alts := [], laidByText := true, laidKinds := [.handle], laidTests := true, laidLooks := .later }
def ReadtypeStartsCardSaid : Prop := Claim7.holds Tryd.pinned (.plain (OpenSpec.ofChange readtypeStartsSpec)) readtypeStartsCard

/-- THE TIED CARD OF 'typedholeslaw5.ReadtypeAny'. -/
def readtypeAnyCard : Claim7 := { stood := { row := readtypeAnyRow, standIns := [], harness := (true, "a2296bcdff4d0bcb50d7f6b6cc3e438dfc22b27d1115525d9dad5a237cb67003"), looks := true }, kinds := [], alts := [], laidByText := true, laidKinds := [.handle], laidTests := true, laidLooks := .later }
def ReadtypeAnyCardSaid : Prop := Claim7.holds Tryd.pinned (.plain (OpenSpec.ofChange readtypeAnySpec)) readtypeAnyCard

/-- THE TIED CARD OF 'typedholeslaw5.ReadtypeParentheses'. -/
def readtypeParenthesesCard : Claim7 := { stood := { row := readtypeParenthesesRow, standIns := [], harness := (true, "a2296bcdff4d0bcb50d7f6b6cc3e438dfc22b27d1115525d9dad5a237cb67003"), looks := true }, kinds := [], alts := [], laidByText := true, laidKinds := [.handle], laidTests := true, laidLooks := .later }
def ReadtypeParenthesesCardSaid : Prop := Claim7.holds Tryd.pinned (.plain (OpenSpec.ofChange readtypeParenthesesSpec)) readtypeParenthesesCard

/-- THE TIED CARD OF 'typedholeslaw2.TokenScans'. -/
def tokenScansCard : Claim7 := { stood := { row := tokenScansRow, standIns := [], harness := (true, "a2296bcdff4d0bcb50d7f6b6cc3e438dfc22b27d1115525d9dad5a237cb67003"), looks := true }, kinds := [], alts := [], laidByText := true, laidKinds := [.data, .pinned], laidTests := true, laidLooks := .later }
def TokenScansCardSaid : Prop := Claim7.holds Tryd.pinned (.plain (OpenSpec.ofChange tokenScansSpec)) tokenScansCard

/-- THE TIED CARD OF 'typedholeslaw2.TokenLong'. -/
def tokenLongCard : Claim7 := { stood := { row := tokenLongRow, standIns := [], harness := (true, "a2296bcdff4d0bcb50d7f6b6cc3e438dfc22b27d1115525d9dad5a237cb67003"), looks := true }, kinds := [], alts := [], laidByText := true, laidKinds := [.data, .pinned], laidTests := true, laidLooks := .later }
def TokenLongCardSaid : Prop := Claim7.holds Tryd.pinned (.plain (OpenSpec.ofChange tokenLongSpec)) tokenLongCard

/-- THE TIED CARD OF 'typedholeslaw2.TokenSpaces'. -/
def tokenSpacesCard : Claim7 := { stood := { row := tokenSpacesRow, standIns := [], harness := (true, "a2296bcdff4d0bcb50d7f6b6cc3e438dfc22b27d1115525d9dad5a237cb67003"), looks := true }, kinds := [], alts := [], laidByText := true, laidKinds := [.data, .pinned], laidTests := true, laidLooks := .later }
def TokenSpacesCardSaid : Prop := Claim7.holds Tryd.pinned (.plain (OpenSpec.ofChange tokenSpacesSpec)) tokenSpacesCard

/-- THE TIED CARD OF 'typedholeslaw2.TokenJoins'. -/
def tokenJoinsCard : Claim7 := { stood := { row := tokenJoinsRow, standIns := [], harness := (true, "a2296bcdff4d0bcb50d7f6b6cc3e438dfc22b27d1115525d9dad5a237cb67003"), looks := true }, kinds := [], alts := [], laidByText := true, laidKinds := [.data, .pinned], laidTests := true, laidLooks := .later }
def TokenJoinsCardSaid : Prop := Claim7.holds Tryd.pinned (.plain (OpenSpec.ofChange tokenJoinsSpec)) tokenJoinsCard

/-- THE SECOND FORM's CARD OF 'typedholeslaw5.ReadtypeReturns'. -/
def readtypeReturnsUptoCard : Claim7 := { stood := { row := readtypeReturnsUptoRow, standIns := [], harness := (true, "a2296bcdff4d0bcb50d7f6b6cc3e438dfc22b27d1115525d9dad5a237cb67003"), looks := true }, kinds := [], alts := [], laidByText := true, laidKinds := [.handle], laidTests := true, laidLooks := .later }
def ReadtypeReturnsUptoCardSaid : Prop := Claim7.holds Tryd.pinned (.plain (OpenSpec.upto readtypeReturnsSpec)) readtypeReturnsUptoCard

/-- THE SECOND FORM's CARD OF 'typedholeslaw5.ReadtypeStarts'. -/
def readtypeStartsUptoCard : Claim7 := { stood := { row := readtypeStartsUptoRow, standIns := [], harness := (true, "a2296bcdff4d0bcb50d7f6b6cc3e438dfc22b27d1115525d9dad5a237cb67003"), looks := true }, kinds := [], alts := [], laidByText := true, laidKinds := [.handle], laidTests := true, laidLooks := .later }
def ReadtypeStartsUptoCardSaid : Prop := Claim7.holds Tryd.pinned (.plain (OpenSpec.upto readtypeStartsSpec)) readtypeStartsUptoCard

/-- THE SECOND FORM's CARD OF 'typedholeslaw5.ReadtypeAny'. -/
def readtypeAnyUptoCard : Claim7 := { stood := { row := readtypeAnyUptoRow, standIns := [], harness := (true, "a2296bcdff4d0bcb50d7f6b6cc3e438dfc22b27d1115525d9dad5a237cb67003"), looks := true }, kinds := [], alts := [], laidByText := true, laidKinds := [.handle], laidTests := true, laidLooks := .later }
def ReadtypeAnyUptoCardSaid : Prop := Claim7.holds Tryd.pinned (.plain (OpenSpec.upto readtypeAnySpec)) readtypeAnyUptoCard

/-- THE SECOND FORM's CARD OF 'typedholeslaw5.ReadtypeParentheses'. -/
def readtypeParenthesesUptoCard : Claim7 := { stood := { row := readtypeParenthesesUptoRow, standIns := [], harness := (true, "a2296bcdff4d0bcb50d7f6b6cc3e438dfc22b27d1115525d9dad5a237cb67003"), looks := true }, kinds := [], alts := [], laidByText := true, laidKinds := [.handle], laidTests := true, laidLooks := .later }
def ReadtypeParenthesesUptoCardSaid : Prop := Claim7.holds Tryd.pinned (.plain (OpenSpec.upto readtypeParenthesesSpec)) readtypeParenthesesUptoCard

/-- THE SECOND FORM's CARD OF 'typedholeslaw2.TokenScans'. -/
def tokenScansUptoCard : Claim7 := { stood := { row := tokenScansUptoRow, standIns := [], harness := (true, "a2296bcdff4d0bcb50d7f6b6cc3e438dfc22b27d1115525d9dad5a237cb67003"), looks := true }, kinds := [], alts := [], laidByText := true, laidKinds := [.data, .pinned], laidTests := true, laidLooks := .later }
def TokenScansUptoCardSaid : Prop := Claim7.holds Tryd.pinned (.plain (OpenSpec.upto tokenScansSpec)) tokenScansUptoCard

/-- THE SECOND FORM's CARD OF 'typedholeslaw2.TokenLong'. -/
def tokenLongUptoCard : Claim7 := { stood := { row := tokenLongUptoRow, standIns := [], harness := (true, "a2296bcdff4d0bcb50d7f6b6cc3e438dfc22b27d1115525d9dad5a237cb67003"), looks := true }, kinds := [], alts := [], laidByText := true, laidKinds := [.data, .pinned], laidTests := true, laidLooks := .later }
def TokenLongUptoCardSaid : Prop := Claim7.holds Tryd.pinned (.plain (OpenSpec.upto tokenLongSpec)) tokenLongUptoCard

/-- THE SECOND FORM's CARD OF 'typedholeslaw2.TokenSpaces'. -/
def tokenSpacesUptoCard : Claim7 := { stood := { row := tokenSpacesUptoRow, standIns := [], harness := (true, "a2296bcdff4d0bcb50d7f6b6cc3e438dfc22b27d1115525d9dad5a237cb67003"), looks := true }, kinds := [], alts := [], laidByText := true, laidKinds := [.data, .pinned], laidTests := true, laidLooks := .later }
def TokenSpacesUptoCardSaid : Prop := Claim7.holds Tryd.pinned (.plain (OpenSpec.upto tokenSpacesSpec)) tokenSpacesUptoCard

/-- THE SECOND FORM's CARD OF 'typedholeslaw2.TokenJoins'. -/
def tokenJoinsUptoCard : Claim7 := { stood := { row := tokenJoinsUptoRow, standIns := [], harness := (true, "a2296bcdff4d0bcb50d7f6b6cc3e438dfc22b27d1115525d9dad5a237cb67003"), looks := true }, kinds := [], alts := [], laidByText := true, laidKinds := [.data, .pinned], laidTests := true, laidLooks := .later }
def TokenJoinsUptoCardSaid : Prop := Claim7.holds Tryd.pinned (.plain (OpenSpec.upto tokenJoinsSpec)) tokenJoinsUptoCard
end Rows
end Go.Proofs.YtjiommnmkokldaaDoor
