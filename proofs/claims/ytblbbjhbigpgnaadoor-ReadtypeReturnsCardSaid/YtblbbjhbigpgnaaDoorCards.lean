/-
  DERIVED. GIVEN WITH THE SEED: THE CARDS: each row of YtblbbjhbigpgnaaDoorRows.lean that lists a variable, with what it lists TIED to the program's text (the seventh form; the later family's looks); each row that meets fmt, with fmt's text TOLD by the authors' own Lean function (tested against real Go, not proved from fmt's source: count such statements apart). THE CARD IS WHAT COUNTS. Prove the row's statement (the work); the ties are given (YtblbbjhbigpgnaaDoorTie.lean); close each card by the builder's one call (the guide's Derived/Test/ToyasCard.lean, 'card_holds'). Laid BY PROGRAM, IN A SANDBOX (cutbox-door.mjs). By AI agents, Wed Nov 11 2026. No macro, syntax, notation, axiom, sorry.
-/
import Derived.Test.YtblbbjhbigpgnaaDoorRows
import GoSem.ClaimSeven
namespace Go.Proofs.YtblbbjhbigpgnaaDoor
namespace Rows

/-- THE TIED CARD OF 'typedholeslaw5.ReadtypeReturns'. -/
def readtypeReturnsCard : Claim7 := { stood := { row := readtypeReturnsRow, standIns := [], harness := (true, "4fe21e4db8aac4f81ab2c2b8a64283278bc8255a9d7bc97a189f3d7f04a8bddf"), looks := true }, kinds := [], alts := [], laidByText := true, laidKinds := [.handle], laidTests := true, laidLooks := .later }
def ReadtypeReturnsCardSaid : Prop := Claim7.holds Tryd.pinned (.plain (OpenSpec.ofChange readtypeReturnsSpec)) readtypeReturnsCard

/-- THE TIED CARD OF 'typedholeslaw5.ReadtypeStarts'. -/
def readtypeStartsCard : Claim7 := { stood := { row := readtypeStartsRow, standIns := [], harness := (true, "4fe21e4db8aac4f81ab2c2b8a64283278bc8255a9d7bc97a189f3d7f04a8bddf"), looks := true }, kinds := [], alts := [], laidByText := true, laidKinds := [.handle], laidTests := true, laidLooks := .later }
def ReadtypeStartsCardSaid : Prop := Claim7.holds Tryd.pinned (.plain (OpenSpec.ofChange readtypeStartsSpec)) readtypeStartsCard

/-- THE TIED CARD OF 'typedholeslaw5.ReadtypeAny'. -/
def readtypeAnyCard : Claim7 := { stood := { row := readtypeAnyRow, standIns := [], harness := (true, "4fe21e4db8aac4f81ab2c2b8a64283278bc8255a9d7bc97a189f3d7f04a8bddf"), looks := true }, kinds := [], alts := [], laidByText := true, laidKinds := [.handle], laidTests := true, laidLooks := .later }
def ReadtypeAnyCardSaid : Prop := Claim7.holds Tryd.pinned (.plain (OpenSpec.ofChange readtypeAnySpec)) readtypeAnyCard

/-- THE TIED CARD OF 'typedholeslaw5.ReadtypeParentheses'. -/
def readtypeParenthesesCard : Claim7 := { stood := { row := readtypeParenthesesRow, standIns := [], harness := (true, "4fe21e4db8aac4f81ab2c2b8a64283278bc8255a9d7bc97a189f3d7f04a8bddf"), looks := true }, kinds := [], alts := [], laidByText := true, laidKinds := [.handle], laidTests := true, laidLooks := .later }
def ReadtypeParenthesesCardSaid : Prop := Claim7.holds Tryd.pinned (.plain (OpenSpec.ofChange readtypeParenthesesSpec)) readtypeParenthesesCard

/-- THE SECOND FORM's CARD OF 'typedholeslaw5.ReadtypeReturns'. -/
def readtypeReturnsUptoCard : Claim7 := { stood := { row := readtypeReturnsUptoRow, standIns := [], harness := (true, "4fe21e4db8aac4f81ab2c2b8a64283278bc8255a9d7bc97a189f3d7f04a8bddf"), looks := true }, kinds := [], alts := [], laidByText := true, laidKinds := [.handle], laidTests := true, laidLooks := .later }
def ReadtypeReturnsUptoCardSaid : Prop := Claim7.holds Tryd.pinned (.plain (OpenSpec.upto readtypeReturnsSpec)) readtypeReturnsUptoCard

/-- THE SECOND FORM's CARD OF 'typedholeslaw5.ReadtypeStarts'. -/
def readtypeStartsUptoCard : Claim7 := { stood := { row := readtypeStartsUptoRow, standIns := [], harness := (true, "4fe21e4db8aac4f81ab2c2b8a64283278bc8255a9d7bc97a189f3d7f04a8bddf"), looks := true }, kinds := [], alts := [], laidByText := true, laidKinds := [.handle], laidTests := true, laidLooks := .later }
def ReadtypeStartsUptoCardSaid : Prop := Claim7.holds Tryd.pinned (.plain (OpenSpec.upto readtypeStartsSpec)) readtypeStartsUptoCard

/-- THE SECOND FORM's CARD OF 'typedholeslaw5.ReadtypeAny'. -/
def readtypeAnyUptoCard : Claim7 := { stood := { row := readtypeAnyUptoRow, standIns := [], harness := (true, "4fe21e4db8aac4f81ab2c2b8a64283278bc8255a9d7bc97a189f3d7f04a8bddf"), looks := true }, kinds := [], alts := [], laidByText := true, laidKinds := [.handle], laidTests := true, laidLooks := .later }
def ReadtypeAnyUptoCardSaid : Prop := Claim7.holds Tryd.pinned (.plain (OpenSpec.upto readtypeAnySpec)) readtypeAnyUptoCard

/-- THE SECOND FORM's CARD OF 'typedholeslaw5.ReadtypeParentheses'. -/
def readtypeParenthesesUptoCard : Claim7 := { stood := { row := readtypeParenthesesUptoRow, standIns := [], harness := (true, "4fe21e4db8aac4f81ab2c2b8a64283278bc8255a9d7bc97a189f3d7f04a8bddf"), looks := true }, kinds := [], alts := [], laidByText := true, laidKinds := [.handle], laidTests := true, laidLooks := .later }
def ReadtypeParenthesesUptoCardSaid : Prop := Claim7.holds Tryd.pinned (.plain (OpenSpec.upto readtypeParenthesesSpec)) readtypeParenthesesUptoCard
end Rows
end Go.Proofs.YtblbbjhbigpgnaaDoor
