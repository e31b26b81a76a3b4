/-
  DERIVED. GIVEN WITH THE SEED: THE CARDS: each row of YtlnjfkfojkgiiaaGreatDoorRows.lean that lists a variable, with what it lists TIED to the program's text (the seventh form; the later family's looks); each row that meets fmt, with fmt's text TOLD by the authors' own Lean function (tested against real Go, not proved from fmt's source: count such statements apart). THE CARD IS WHAT COUNTS. Prove the row's statement (the work); the ties are given (YtlnjfkfojkgiiaaGreatDoorTie.lean); close each card by the builder's one call (the guide's Derived/Test/ToyasCard.lean, 'card_holds'). Laid BY PROGRAM, IN A SANDBOX (cutbox-door.mjs). By AI agents, Wed Nov 11 2026. No macro, syntax, notation, axiom, sorry.
-/
import Derived.Test.YtlnjfkfojkgiiaaGreatDoorRows
import GoSem.ClaimSeven
namespace Go.Proofs.YtlnjfkfojkgiiaaGreatDoor
namespace Rows

/-- THE TIED CARD OF 'typedholeslaw7.ReadprogramReturns'. -/
def readprogramReturnsCard : Claim7 := { stood := { row := readprogramReturnsRow, standIns := [], harness := (true, "09f4ae2bf580b281503e163b28c5b69519996425a53cca9e7da654f52e271f88"), looks := true }, kinds := [], alts := [], laidByText := true, laidKinds := [.data, .data, .data, .data, .handle, .sentinel, .sentinel, .pinned], laidTests := true, laidLooks := .later }
def ReadprogramReturnsCardSaid : Prop := Claim7.holds Tryz.pinned (.plain (OpenSpec.ofChange readprogramReturnsSpec)) readprogramReturnsCard

/-- THE SECOND FORM's CARD OF 'typedholeslaw7.ReadprogramReturns'. -/
def readprogramReturnsUptoCard : Claim7 := { stood := { row := readprogramReturnsUptoRow, standIns := [], harness := (true, "09f4ae2bf580b281503e163b28c5b69519996425a53cca9e7da654f52e271f88"), looks := true }, kinds := [], alts := [], laidByText := true, laidKinds := [.data, .data, .data, .data, .handle, .sentinel, .sentinel, .pinned], laidTests := true, laidLooks := .later }
def ReadprogramReturnsUptoCardSaid : Prop := Claim7.holds Tryz.pinned (.plain (OpenSpec.upto readprogramReturnsSpec)) readprogramReturnsUptoCard
end Rows
end Go.Proofs.YtlnjfkfojkgiiaaGreatDoor
