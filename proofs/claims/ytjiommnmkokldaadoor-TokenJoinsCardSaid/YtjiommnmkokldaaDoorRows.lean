/-
  NARROWER THAN 'FOR EVERY INPUT', by the rows' own cells (each row's printed sentence says how): ReadtypeReturns: laid · ReadtypeStarts: laid · ReadtypeAny: laid · ReadtypeParentheses: laid · TokenScans: laid · TokenLong: laid · TokenSpaces: laid · TokenJoins: laid.
  DERIVED. THE GIVEN ROWS OF THIS SEAT. 8 by the template 'for every input the law returns true; each argument reads behind the call as it read before'; 0 by the template 'total and deterministic' (their statements: YtjiommnmkokldaaDoorTotals.lean).
  GIVEN WITH THE SEED: the statements are not yours to turn. If you find one false, say at which input.
  Laid BY PROGRAM, IN A SANDBOX (cutbox-rows.mjs): the forced cells as the released guide's own fill.sh prints them over the translation f5d3fa449f68af8d… (all of the seat's roots in one cut). By AI agents, Wed Nov 11 2026. No macro, syntax, notation, axiom, sorry.
-/
import Derived.Test.YtjiommnmkokldaaDoorChecked
import GoSem.PinnedTables
import GoSem.Claim
import GoSem.ClaimJoined
import GoSem.ClaimMapViews
import Derived.JoinedTies
import Derived.KernelRfl
namespace Go.Proofs.YtjiommnmkokldaaDoor
/- THE CELL 'sum', in the pinned program and in every row, IS THE sha256 OF THE DUMP (.gsa) THAT YtjiommnmkokldaaDoorProg.lean LOADS. Nothing in Lean hashes anything: it is a label: what it is worth is what the hold of that sum in a sandbox is worth. -/
noncomputable def Tryd.pinned : Pinned := { name := "ytjiommnmkokldaadoor", sum := "f5d3fa449f68af8d2d1f7663c5fc591d879d707e66e8718af064656ebc9ec057", checked := Tryd.checked }
namespace Rows
def none {H : Type} : Left H := { results := [], args := [] }

/- WHAT THE LISTED PACKAGE-LEVEL VARIABLES READ AS WHEN THE CALL BEGINS. Each datum BY PROGRAM (the guide's laid-datum.mjs) off the statement by which the dump's own 'gosem.cut.vars' lays the variable. In a bare row this is a premise. The card (YtjiommnmkokldaaDoorCards.lean) ties it to the program's text. -/
def laid_errors_errorType {H : Type} : DataW H := .iface "internal/reflectlite.rtype" (.agg [.ptr (.lit (.string [101, 114, 114, 111, 114]))])
def laid_unicode_utf8_acceptRanges {H : Type} : DataW H := .agg [.agg [.lit (.int .u8 128), .lit (.int .u8 191)], .agg [.lit (.int .u8 160), .lit (.int .u8 191)], .agg [.lit (.int .u8 128), .lit (.int .u8 159)], .agg [.lit (.int .u8 144), .lit (.int .u8 191)], .agg [.lit (.int .u8 128), .lit (.int .u8 143)], .agg [.lit (.int .u8 0), .lit (.int .u8 0)], .agg [.lit (.int .u8 0), .lit (.int .u8 0)], .agg [.lit (.int .u8 0), .lit (.int .u8 0)], .agg [.lit (.int .u8 0), .lit (.int .u8 0)], .agg [.lit (.int .u8 0), .lit (.int .u8 0)], .agg [.lit (.int .u8 0), .lit (.int .u8 0)], .agg [.lit (.int .u8 0), .lit (.int .u8 0)], .agg [.lit (.int .u8 0), .lit (.int .u8 0)], .agg [.lit (.int .u8 0), .lit (.int .u8 0)], .agg [.lit (.int .u8 0), .lit (.int .u8 0)], .agg [.lit (.int .u8 0), .lit (.int .u8 0)]]
/-- One of Go's own tables, pinned by name: the form's constant. -/
def laid_unicode_utf8_first : DataW Unit := Go.Pinned.utf8First

/-- 'typedholeslaw5.ReadtypeReturns': WHATEVER THE INPUT: true; the input reads as it did. -/
def readtypeReturnsSpec : ChangeSpec := { name := "readtypeReturns", fn := fun _ => fun
  | [d1, d2, d3] => { results := [.lit (.bool true)], args := [d1, d2, d3] }
  | _ => none }
def readtypeReturnsRow : OpenClaim := { program := "ytjiommnmkokldaadoor", sum := "f5d3fa449f68af8d2d1f7663c5fc591d879d707e66e8718af064656ebc9ec057", func := "typedholes/typedholeslaw5.ReadtypeReturns", spec := "readtypeReturns", inPlace := ["internal/reflectlite.ValueOf", "(internal/reflectlite.Value).Type", "(internal/reflectlite.Value).IsNil", "internal/reflectlite.TypeOf", "(internal/reflectlite.Value).Elem", "(internal/reflectlite.Value).Set"], unfollowed := true, recurses := true, named := ["errors.errorType"], apart := false, laid := [("errors.errorType", laid_errors_errorType)] }
def ReadtypeReturnsSaid : Prop := readtypeReturnsRow.holds Tryd.pinned (OpenSpec.ofChange readtypeReturnsSpec)

/-- ITS FALSE NEIGHBOUR: 'it returns false'. Refute it at one input. -/
def readtypeReturnsWrong : ChangeSpec := { name := "readtypeReturns", fn := fun _ => fun
  | [d1, d2, d3] => { results := [.lit (.bool false)], args := [d1, d2, d3] }
  | _ => none }
def ReadtypeReturnsWrongFalsely : Prop := readtypeReturnsRow.holds Tryd.pinned (OpenSpec.ofChange readtypeReturnsWrong)

/-- 'typedholeslaw5.ReadtypeStarts': WHATEVER THE INPUT: true; the input reads as it did. -/
def readtypeStartsSpec : ChangeSpec := { name := "readtypeStarts", fn := fun _ => fun
  | [d1, d2, d3] => { results := [.lit (.bool true)], args := [d1, d2, d3] }
  | _ => none }
def readtypeStartsRow : OpenClaim := { program := "ytjiommnmkokldaadoor", sum := "f5d3fa449f68af8d2d1f7663c5fc591d879d707e66e8718af064656ebc9ec057", func := "typedholes/typedholeslaw5.ReadtypeStarts", spec := "readtypeStarts", inPlace := ["internal/reflectlite.ValueOf", "(internal/reflectlite.Value).Type", "(internal/reflectlite.Value).IsNil", "internal/reflectlite.TypeOf", "(internal/reflectlite.Value).Elem", "(internal/reflectlite.Value).Set"], unfollowed := true, recurses := true, named := ["errors.errorType"], apart := false, laid := [("errors.errorType", laid_errors_errorType)] }
def ReadtypeStartsSaid : Prop := readtypeStartsRow.holds Tryd.pinned (OpenSpec.ofChange readtypeStartsSpec)

/-- ITS FALSE NEIGHBOUR: 'it returns false'. Refute it at one input. -/
def readtypeStartsWrong : ChangeSpec := { name := "readtypeStarts", fn := fun _ => fun
  | [d1, d2, d3] => { results := [.lit (.bool false)], args := [d1, d2, d3] }
  | _ => none }
def ReadtypeStartsWrongFalsely : Prop := readtypeStartsRow.holds Tryd.pinned (OpenSpec.ofChange readtypeStartsWrong)

/-- 'typedholeslaw5.ReadtypeAny': WHATEVER THE INPUT: true; the input reads as it did. -/
def readtypeAnySpec : ChangeSpec := { name := "readtypeAny", fn := fun _ => fun
  | [d1, d2, d3] => { results := [.lit (.bool true)], args := [d1, d2, d3] }
  | _ => none }
def readtypeAnyRow : OpenClaim := { program := "ytjiommnmkokldaadoor", sum := "f5d3fa449f68af8d2d1f7663c5fc591d879d707e66e8718af064656ebc9ec057", func := "typedholes/typedholeslaw5.ReadtypeAny", spec := "readtypeAny", inPlace := ["internal/reflectlite.ValueOf", "(internal/reflectlite.Value).Type", "(internal/reflectlite.Value).IsNil", "internal/reflectlite.TypeOf", "(internal/reflectlite.Value).Elem", "(internal/reflectlite.Value).Set"], unfollowed := true, recurses := true, named := ["errors.errorType"], apart := false, laid := [("errors.errorType", laid_errors_errorType)] }
def ReadtypeAnySaid : Prop := readtypeAnyRow.holds Tryd.pinned (OpenSpec.ofChange readtypeAnySpec)

/-- ITS FALSE NEIGHBOUR: 'it returns false'. Refute it at one input. -/
def readtypeAnyWrong : ChangeSpec := { name := "readtypeAny", fn := fun _ => fun
  | [d1, d2, d3] => { results := [.lit (.bool false)], args := [d1, d2, d3] }
  | _ => none }
def ReadtypeAnyWrongFalsely : Prop := readtypeAnyRow.holds Tryd.pinned (OpenSpec.ofChange readtypeAnyWrong)

/-- 'typedholeslaw5.ReadtypeParentheses': WHATEVER THE INPUT: true; the input reads as it did. -/
def readtypeParenthesesSpec : ChangeSpec := { name := "readtypeParentheses", fn := fun _ => fun
  | [d1, d2, d3] => { results := [.lit (.bool true)], args := [d1, d2, d3] }
  | _ => none }
def readtypeParenthesesRow : OpenClaim := { program := "ytjiommnmkokldaadoor", sum := "f5d3fa449f68af8d2d1f7663c5fc591d879d707e66e8718af064656ebc9ec057", func := "typedholes/typedholeslaw5.ReadtypeParentheses", spec := "readtypeParentheses", inPlace := ["internal/reflectlite.ValueOf", "(internal/reflectlite.Value).Type", "(internal/reflectlite.Value).IsNil", "internal/reflectlite.TypeOf", "(internal/reflectlite.Value).Elem", "(internal/reflectlite.Value).Set"], unfollowed := true, recurses := true, named := ["errors.errorType"], apart := false, laid := [("errors.errorType", laid_errors_errorType)] }
def ReadtypeParenthesesSaid : Prop := readtypeParenthesesRow.holds Tryd.pinned (OpenSpec.ofChange readtypeParenthesesSpec)

/-- ITS FALSE NEIGHBOUR: 'it returns false'. Refute it at one input. -/
def readtypeParenthesesWrong : ChangeSpec := { name := "readtypeParentheses", fn := fun _ => fun
  | [d1, d2, d3] => { results := [.lit (.bool false)], args := [d1, d2, d3] }
  | _ => none }
def ReadtypeParenthesesWrongFalsely : Prop := readtypeParenthesesRow.holds Tryd.pinned (OpenSpec.ofChange readtypeParenthesesWrong)

/-- 'typedholeslaw2.TokenScans': WHATEVER THE INPUT: true; the input reads as it did. -/
def tokenScansSpec : ChangeSpec := { name := "tokenScans", fn := fun _ => fun
  | [d1, d2] => { results := [.lit (.bool true)], args := [d1, d2] }
  | _ => none }
def tokenScansRow : OpenClaim := { program := "ytjiommnmkokldaadoor", sum := "f5d3fa449f68af8d2d1f7663c5fc591d879d707e66e8718af064656ebc9ec057", func := "typedholes/typedholeslaw2.TokenScans", spec := "tokenScans", inPlace := ["internal/bytealg.IndexByteString", "internal/bytealg.IndexString"], named := ["unicode/utf8.first", "unicode/utf8.acceptRanges", "internal/bytealg.MaxLen"], apart := false, laid := [("unicode/utf8.acceptRanges", laid_unicode_utf8_acceptRanges), ("unicode/utf8.first", laid_unicode_utf8_first)] }
def TokenScansSaid : Prop := tokenScansRow.holds Tryd.pinned (OpenSpec.ofChange tokenScansSpec)

/-- ITS FALSE NEIGHBOUR: 'it returns false'. Refute it at one input. -/
def tokenScansWrong : ChangeSpec := { name := "tokenScans", fn := fun _ => fun
  | [d1, d2] => { results := [.lit (.bool false)], args := [d1, d2] }
  | _ => none }
def TokenScansWrongFalsely : Prop := tokenScansRow.holds Tryd.pinned (OpenSpec.ofChange tokenScansWrong)

/-- 'typedholeslaw2.TokenLong': WHATEVER THE INPUT: true; the input reads as it did. -/
def tokenLongSpec : ChangeSpec := { name := "tokenLong", fn := fun _ => fun
  | [d1, d2] => { results := [.lit (.bool true)], args := [d1, d2] }
  | _ => none }
def tokenLongRow : OpenClaim := { program := "ytjiommnmkokldaadoor", sum := "f5d3fa449f68af8d2d1f7663c5fc591d879d707e66e8718af064656ebc9ec057", func := "typedholes/typedholeslaw2.TokenLong", spec := "tokenLong", inPlace := ["internal/bytealg.IndexByteString", "internal/bytealg.IndexString"], named := ["unicode/utf8.first", "unicode/utf8.acceptRanges", "internal/bytealg.MaxLen"], apart := false, laid := [("unicode/utf8.acceptRanges", laid_unicode_utf8_acceptRanges), ("unicode/utf8.first", laid_unicode_utf8_first)] }
def TokenLongSaid : Prop := tokenLongRow.holds Tryd.pinned (OpenSpec.ofChange tokenLongSpec)

/-- ITS FALSE NEIGHBOUR: 'it returns false'. Refute it at one input. -/
def tokenLongWrong : ChangeSpec := { name := "tokenLong", fn := fun _ => fun
  | [d1, d2] => { results := [.lit (.bool false)], args := [d1, d2] }
  | _ => none }
def TokenLongWrongFalsely : Prop := tokenLongRow.holds Tryd.pinned (OpenSpec.ofChange tokenLongWrong)

/-- 'typedholeslaw2.TokenSpaces': WHATEVER THE INPUT: true; the input reads as it did. -/
def tokenSpacesSpec : ChangeSpec := { name := "tokenSpaces", fn := fun _ => fun
  | [d1, d2] => { results := [.lit (.bool true)], args := [d1, d2] }
  | _ => none }
def tokenSpacesRow : OpenClaim := { program := "ytjiommnmkokldaadoor", sum := "f5d3fa449f68af8d2d1f7663c5fc591d879d707e66e8718af064656ebc9ec057", func := "typedholes/typedholeslaw2.TokenSpaces", spec := "tokenSpaces", inPlace := ["internal/bytealg.IndexByteString", "internal/bytealg.IndexString"], named := ["unicode/utf8.first", "unicode/utf8.acceptRanges", "internal/bytealg.MaxLen"], apart := false, laid := [("unicode/utf8.acceptRanges", laid_unicode_utf8_acceptRanges), ("unicode/utf8.first", laid_unicode_utf8_first)] }
def TokenSpacesSaid : Prop := tokenSpacesRow.holds Tryd.pinned (OpenSpec.ofChange tokenSpacesSpec)

/-- ITS FALSE NEIGHBOUR: 'it returns false'. Refute it at one input. -/
def tokenSpacesWrong : ChangeSpec := { name := "tokenSpaces", fn := fun _ => fun
  | [d1, d2] => { results := [.lit (.bool false)], args := [d1, d2] }
  | _ => none }
def TokenSpacesWrongFalsely : Prop := tokenSpacesRow.holds Tryd.pinned (OpenSpec.ofChange tokenSpacesWrong)

/-- 'typedholeslaw2.TokenJoins': WHATEVER THE INPUT: true; the input reads as it did. -/
def tokenJoinsSpec : ChangeSpec := { name := "tokenJoins", fn := fun _ => fun
  | [d] => { results := [.lit (.bool true)], args := [d] }
  | _ => none }
def tokenJoinsRow : OpenClaim := { program := "ytjiommnmkokldaadoor", sum := "f5d3fa449f68af8d2d1f7663c5fc591d879d707e66e8718af064656ebc9ec057", func := "typedholes/typedholeslaw2.TokenJoins", spec := "tokenJoins", inPlace := ["internal/bytealg.IndexByteString", "internal/bytealg.IndexString", "internal/abi.NoEscape", "internal/bytealg.MakeNoZero"], named := ["unicode/utf8.first", "unicode/utf8.acceptRanges", "internal/bytealg.MaxLen"], apart := false, laid := [("unicode/utf8.acceptRanges", laid_unicode_utf8_acceptRanges), ("unicode/utf8.first", laid_unicode_utf8_first)] }
def TokenJoinsSaid : Prop := tokenJoinsRow.holds Tryd.pinned (OpenSpec.ofChange tokenJoinsSpec)

/-- ITS FALSE NEIGHBOUR: 'it returns false'. Refute it at one input. -/
def tokenJoinsWrong : ChangeSpec := { name := "tokenJoins", fn := fun _ => fun
  | [d] => { results := [.lit (.bool false)], args := [d] }
  | _ => none }
def TokenJoinsWrongFalsely : Prop := tokenJoinsRow.holds Tryd.pinned (OpenSpec.ofChange tokenJoinsWrong)

/- THE SECOND FORM. 'bulk': how many values and letters a reading holds, each counted each time it is reached (what is shared counts as often as it is met; a slice's spare places count too). A statement '..UptoSaid' is the law's where the arguments, and the package variables that the reading takes, are together of bulk at most 1048576: NARROWER than '..Said'. Prove '..Said' where nothing that the law and all that it calls make is longer than what came in: it says more and counts as full. Else prove '..UptoSaid'. A law counts once. -/
mutual
def uptoBulk {H : Type} : DataW H → Nat
  | .lit (.string bytes) => bytes.length + 1
  | .lit _ => 1
  | .nil => 1
  | .ptr d => uptoBulk d + 1
  | .slice elems spare => uptoBulkAll elems + uptoBulkAll spare + 1
  | .agg parts => uptoBulkAll parts + 1
  | .iface _ d => uptoBulk d + 1
  | .map entries => uptoBulkEntries entries + 1
  | .held _ => 1
def uptoBulkAll {H : Type} : List (DataW H) → Nat
  | [] => 0
  | d :: r => uptoBulk d + uptoBulkAll r
def uptoBulkEntries {H : Type} : List (Lit × DataW H) → Nat
  | [] => 0
  | x :: r => uptoBulkEntry x + uptoBulkEntries r
def uptoBulkEntry {H : Type} : Lit × DataW H → Nat
  | (.string bytes, d) => bytes.length + uptoBulk d + 1
  | (_, d) => uptoBulk d + 1
 end
def uptoSmall : (H : Type) → List (DataW H) → Bool := fun _ ds => decide (uptoBulkAll ds ≤ 1048576)
def OpenSpec.upto (s : _root_.Go.ChangeSpec) : _root_.Go.OpenSpec := { _root_.Go.OpenSpec.ofChange s with cond := some uptoSmall }

/-- 'typedholeslaw5.ReadtypeReturns', WHERE WHAT IT READS IS OF BULK AT MOST 1048576: true; the input reads as it did. -/
def readtypeReturnsUptoRow : OpenClaim := { program := "ytjiommnmkokldaadoor", sum := "f5d3fa449f68af8d2d1f7663c5fc591d879d707e66e8718af064656ebc9ec057", func := "typedholes/typedholeslaw5.ReadtypeReturns", spec := "readtypeReturns", inPlace := ["internal/reflectlite.ValueOf", "(internal/reflectlite.Value).Type", "(internal/reflectlite.Value).IsNil", "internal/reflectlite.TypeOf", "(internal/reflectlite.Value).Elem", "(internal/reflectlite.Value).Set"], unfollowed := true, recurses := true, named := ["errors.errorType"], apart := false, laid := [("errors.errorType", laid_errors_errorType)], narrowed := true }
def ReadtypeReturnsUptoSaid : Prop := readtypeReturnsUptoRow.holds Tryd.pinned (OpenSpec.upto readtypeReturnsSpec)

/-- 'typedholeslaw5.ReadtypeStarts', WHERE WHAT IT READS IS OF BULK AT MOST 1048576: true; the input reads as it did. -/
def readtypeStartsUptoRow : OpenClaim := { program := "ytjiommnmkokldaadoor", sum := "f5d3fa449f68af8d2d1f7663c5fc591d879d707e66e8718af064656ebc9ec057", func := "typedholes/typedholeslaw5.ReadtypeStarts", spec := "readtypeStarts", inPlace := ["internal/reflectlite.ValueOf", "(internal/reflectlite.Value).Type", "(internal/reflectlite.Value).IsNil", "internal/reflectlite.TypeOf", "(internal/reflectlite.Value).Elem", "(internal/reflectlite.Value).Set"], unfollowed := true, recurses := true, named := ["errors.errorType"], apart := false, laid := [("errors.errorType", laid_errors_errorType)], narrowed := true }
def ReadtypeStartsUptoSaid : Prop := readtypeStartsUptoRow.holds Tryd.pinned (OpenSpec.upto readtypeStartsSpec)

/-- 'typedholeslaw5.ReadtypeAny', WHERE WHAT IT READS IS OF BULK AT MOST 1048576: true; the input reads as it did. -/
def readtypeAnyUptoRow : OpenClaim := { program := "ytjiommnmkokldaadoor", sum := "f5d3fa449f68af8d2d1f7663c5fc591d879d707e66e8718af064656ebc9ec057", func := "typedholes/typedholeslaw5.ReadtypeAny", spec := "readtypeAny", inPlace := ["internal/reflectlite.ValueOf", "(internal/reflectlite.Value).Type", "(internal/reflectlite.Value).IsNil", "internal/reflectlite.TypeOf", "(internal/reflectlite.Value).Elem", "(internal/reflectlite.Value).Set"], unfollowed := true, recurses := true, named := ["errors.errorType"], apart := false, laid := [("errors.errorType", laid_errors_errorType)], narrowed := true }
def ReadtypeAnyUptoSaid : Prop := readtypeAnyUptoRow.holds Tryd.pinned (OpenSpec.upto readtypeAnySpec)

/-- 'typedholeslaw5.ReadtypeParentheses', WHERE WHAT IT READS IS OF BULK AT MOST 1048576: true; the input reads as it did. -/
def readtypeParenthesesUptoRow : OpenClaim := { program := "ytjiommnmkokldaadoor", sum := "f5d3fa449f68af8d2d1f7663c5fc591d879d707e66e8718af064656ebc9ec057", func := "typedholes/typedholeslaw5.ReadtypeParentheses", spec := "readtypeParentheses", inPlace := ["internal/reflectlite.ValueOf", "(internal/reflectlite.Value).Type", "(internal/reflectlite.Value).IsNil", "internal/reflectlite.TypeOf", "(internal/reflectlite.Value).Elem", "(internal/reflectlite.Value).Set"], unfollowed := true, recurses := true, named := ["errors.errorType"], apart := false, laid := [("errors.errorType", laid_errors_errorType)], narrowed := true }
def ReadtypeParenthesesUptoSaid : Prop := readtypeParenthesesUptoRow.holds Tryd.pinned (OpenSpec.upto readtypeParenthesesSpec)

/-- 'typedholeslaw2.TokenScans', WHERE WHAT IT READS IS OF BULK AT MOST 1048576: true; the input reads as it did. -/
def tokenScansUptoRow : OpenClaim := { program := "ytjiommnmkokldaadoor", sum := "f5d3fa449f68af8d2d1f7663c5fc591d879d707e66e8718af064656ebc9ec057", func := "typedholes/typedholeslaw2.TokenScans", spec := "tokenScans", inPlace := ["internal/bytealg.IndexByteString", "internal/bytealg.IndexString"], named := ["unicode/utf8.first", "unicode/utf8.acceptRanges", "internal/bytealg.MaxLen"], apart := false, laid := [("unicode/utf8.acceptRanges", laid_unicode_utf8_acceptRanges), ("unicode/utf8.first", laid_unicode_utf8_first)], narrowed := true }
def TokenScansUptoSaid : Prop := tokenScansUptoRow.holds Tryd.pinned (OpenSpec.upto tokenScansSpec)

/-- 'typedholeslaw2.TokenLong', WHERE WHAT IT READS IS OF BULK AT MOST 1048576: true; the input reads as it did. -/
def tokenLongUptoRow : OpenClaim := { program := "ytjiommnmkokldaadoor", sum := "f5d3fa449f68af8d2d1f7663c5fc591d879d707e66e8718af064656ebc9ec057", func := "typedholes/typedholeslaw2.TokenLong", spec := "tokenLong", inPlace := ["internal/bytealg.IndexByteString", "internal/bytealg.IndexString"], named := ["unicode/utf8.first", "unicode/utf8.acceptRanges", "internal/bytealg.MaxLen"], apart := false, laid := [("unicode/utf8.acceptRanges", laid_unicode_utf8_acceptRanges), ("unicode/utf8.first", laid_unicode_utf8_first)], narrowed := true }
def TokenLongUptoSaid : Prop := tokenLongUptoRow.holds Tryd.pinned (OpenSpec.upto tokenLongSpec)

/-- 'typedholeslaw2.TokenSpaces', WHERE WHAT IT READS IS OF BULK AT MOST 1048576: true; the input reads as it did. -/
def tokenSpacesUptoRow : OpenClaim := { program := "ytjiommnmkokldaadoor", sum := "f5d3fa449f68af8d2d1f7663c5fc591d879d707e66e8718af064656ebc9ec057", func := "typedholes/typedholeslaw2.TokenSpaces", spec := "tokenSpaces", inPlace := ["internal/bytealg.IndexByteString", "internal/bytealg.IndexString"], named := ["unicode/utf8.first", "unicode/utf8.acceptRanges", "internal/bytealg.MaxLen"], apart := false, laid := [("unicode/utf8.acceptRanges", laid_unicode_utf8_acceptRanges), ("unicode/utf8.first", laid_unicode_utf8_first)], narrowed := true }
def TokenSpacesUptoSaid : Prop := tokenSpacesUptoRow.holds Tryd.pinned (OpenSpec.upto tokenSpacesSpec)

/-- 'typedholeslaw2.TokenJoins', WHERE WHAT IT READS IS OF BULK AT MOST 1048576: true; the input reads as it did. -/
def tokenJoinsUptoRow : OpenClaim := { program := "ytjiommnmkokldaadoor", sum := "f5d3fa449f68af8d2d1f7663c5fc591d879d707e66e8718af064656ebc9ec057", func := "typedholes/typedholeslaw2.TokenJoins", spec := "tokenJoins", inPlace := ["internal/bytealg.IndexByteString", "internal/bytealg.IndexString", "internal/abi.NoEscape", "internal/bytealg.MakeNoZero"], named := ["unicode/utf8.first", "unicode/utf8.acceptRanges", "internal/bytealg.MaxLen"], apart := false, laid := [("unicode/utf8.acceptRanges", laid_unicode_utf8_acceptRanges), ("unicode/utf8.first", laid_unicode_utf8_first)], narrowed := true }
def TokenJoinsUptoSaid : Prop := tokenJoinsUptoRow.holds Tryd.pinned (OpenSpec.upto tokenJoinsSpec)

end Rows
end Go.Proofs.YtjiommnmkokldaaDoor
