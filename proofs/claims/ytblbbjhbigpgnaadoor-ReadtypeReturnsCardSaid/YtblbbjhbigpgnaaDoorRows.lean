/-
  NARROWER THAN 'FOR EVERY INPUT', by the rows' own cells (each row's printed sentence says how): ReadtypeReturns: laid · ReadtypeStarts: laid · ReadtypeAny: laid · ReadtypeParentheses: laid.
  DERIVED. THE GIVEN ROWS OF THIS SEAT. 4 by the template 'for every input the law returns true; each argument reads behind the call as it read before'; 0 by the template 'total and deterministic' (their statements: YtblbbjhbigpgnaaDoorTotals.lean).
  GIVEN WITH THE SEED: the statements are not yours to turn. If you find one false, say at which input.
  Laid BY PROGRAM, IN A SANDBOX (cutbox-rows.mjs): the forced cells as the released guide's own fill.sh prints them over the translation a16c6df5665c59ec… (all of the seat's roots in one cut). By AI agents, Wed Nov 11 2026. No macro, syntax, notation, axiom, sorry.
-/
import Derived.Test.YtblbbjhbigpgnaaDoorChecked
import GoSem.Claim
import GoSem.ClaimJoined
import GoSem.ClaimMapViews
import Derived.JoinedTies
import Derived.KernelRfl
namespace Go.Proofs.YtblbbjhbigpgnaaDoor
/- THE CELL 'sum', in the pinned program and in every row, IS THE sha256 OF THE DUMP (.gsa) THAT YtblbbjhbigpgnaaDoorProg.lean LOADS. Nothing in Lean hashes anything: it is a label: what it is worth is what the hold of that sum in a sandbox is worth. -/
noncomputable def Tryd.pinned : Pinned := { name := "ytblbbjhbigpgnaadoor", sum := "a16c6df5665c59ecb6914b1bff0911480652c9a41de845199e05cc1d1f734301", checked := Tryd.checked }
namespace Rows
def none {H : Type} : Left H := { results := [], args := [] }

/- WHAT THE LISTED PACKAGE-LEVEL VARIABLES READ AS WHEN THE CALL BEGINS. Each datum BY PROGRAM (the guide's laid-datum.mjs) off the statement by which the dump's own 'gosem.cut.vars' lays the variable. In a bare row this is a premise. The card (YtblbbjhbigpgnaaDoorCards.lean) ties it to the program's text. -/
def laid_errors_errorType {H : Type} : DataW H := .iface "internal/reflectlite.rtype" (.agg [.ptr (.lit (.string [101, 114, 114, 111, 114]))])

/-- 'typedholeslaw5.ReadtypeReturns': WHATEVER THE INPUT: true; the input reads as it did. -/
def readtypeReturnsSpec : ChangeSpec := { name := "readtypeReturns", fn := fun _ => fun
  | [d1, d2, d3] => { results := [.lit (.bool true)], args := [d1, d2, d3] }
  | _ => none }
def readtypeReturnsRow : OpenClaim := { program := "ytblbbjhbigpgnaadoor", sum := "a16c6df5665c59ecb6914b1bff0911480652c9a41de845199e05cc1d1f734301", func := "typedholes/typedholeslaw5.ReadtypeReturns", spec := "readtypeReturns", inPlace := ["internal/reflectlite.ValueOf", "(internal/reflectlite.Value).Type", "(internal/reflectlite.Value).IsNil", "internal/reflectlite.TypeOf", "(internal/reflectlite.Value).Elem", "(internal/reflectlite.Value).Set"], unfollowed := true, recurses := true, named := ["errors.errorType"], apart := false, laid := [("errors.errorType", laid_errors_errorType)] }
def ReadtypeReturnsSaid : Prop := readtypeReturnsRow.holds Tryd.pinned (OpenSpec.ofChange readtypeReturnsSpec)

/-- ITS FALSE NEIGHBOUR: 'it returns false'. Refute it at one input. -/
def readtypeReturnsWrong : ChangeSpec := { name := "readtypeReturns", fn := fun _ => fun
  | [d1, d2, d3] => { results := [.lit (.bool false)], args := [d1, d2, d3] }
  | _ => none }
def ReadtypeReturnsWrongFalsely : Prop := readtypeReturnsRow.holds Tryd.pinned (OpenSpec.ofChange readtypeReturnsWrong)

/-- 'typedholeslaw5.ReadtypeStarts': WHATEVER THE INPUT: true; the input reads as it did. -/
def readtypeStartsSpec : ChangeSpec := { name := "readtypeStarts", fn := fun _ => fun
  | [d1, d2, d3] => { results := [.lit (.bool true)], args := [d1, d2, d3] }
  | _ => none }
def readtypeStartsRow : OpenClaim := { program := "ytblbbjhbigpgnaadoor", sum := "a16c6df5665c59ecb6914b1bff0911480652c9a41de845199e05cc1d1f734301", func := "typedholes/typedholeslaw5.ReadtypeStarts", spec := "readtypeStarts", inPlace := ["internal/reflectlite.ValueOf", "(internal/reflectlite.Value).Type", "(internal/reflectlite.Value).IsNil", "internal/reflectlite.TypeOf", "(internal/reflectlite.Value).Elem", "(internal/reflectlite.Value).Set"], unfollowed := true, recurses := true, named := ["errors.errorType"], apart := false, laid := [("errors.errorType", laid_errors_errorType)] }
def ReadtypeStartsSaid : Prop := readtypeStartsRow.holds Tryd.pinned (OpenSpec.ofChange readtypeStartsSpec)

/-- ITS FALSE NEIGHBOUR: 'it returns false'. Refute it at one input. -/
def readtypeStartsWrong : ChangeSpec := { name := "readtypeStarts", fn := fun _ => fun
  | [d1, d2, d3] => { results := [.lit (.bool false)], args := [d1, d2, d3] }
  | _ => none }
def ReadtypeStartsWrongFalsely : Prop := readtypeStartsRow.holds Tryd.pinned (OpenSpec.ofChange readtypeStartsWrong)

/-- 'typedholeslaw5.ReadtypeAny': WHATEVER THE INPUT: true; the input reads as it did. -/
def readtypeAnySpec : ChangeSpec := { name := "readtypeAny", fn := fun _ => fun
  | [d1, d2, d3] => { results := [.lit (.bool true)], args := [d1, d2, d3] }
  | _ => none }
def readtypeAnyRow : OpenClaim := { program := "ytblbbjhbigpgnaadoor", sum := "a16c6df5665c59ecb6914b1bff0911480652c9a41de845199e05cc1d1f734301", func := "typedholes/typedholeslaw5.ReadtypeAny", spec := "readtypeAny", inPlace := ["internal/reflectlite.ValueOf", "(internal/reflectlite.Value).Type", "(internal/reflectlite.Value).IsNil", "internal/reflectlite.TypeOf", "(internal/reflectlite.Value).Elem", "(internal/reflectlite.Value).Set"], unfollowed := true, recurses := true, named := ["errors.errorType"], apart := false, laid := [("errors.errorType", laid_errors_errorType)] }
def ReadtypeAnySaid : Prop := readtypeAnyRow.holds Tryd.pinned (OpenSpec.ofChange readtypeAnySpec)

/-- ITS FALSE NEIGHBOUR: 'it returns false'. Refute it at one input. -/
def readtypeAnyWrong : ChangeSpec := { name := "readtypeAny", fn := fun _ => fun
  | [d1, d2, d3] => { results := [.lit (.bool false)], args := [d1, d2, d3] }
  | _ => none }
def ReadtypeAnyWrongFalsely : Prop := readtypeAnyRow.holds Tryd.pinned (OpenSpec.ofChange readtypeAnyWrong)

/-- 'typedholeslaw5.ReadtypeParentheses': WHATEVER THE INPUT: true; the input reads as it did. -/
def readtypeParenthesesSpec : ChangeSpec := { name := "readtypeParentheses", fn := fun _ => fun
  | [d1, d2, d3] => { results := [.lit (.bool true)], args := [d1, d2, d3] }
  | _ => none }
def readtypeParenthesesRow : OpenClaim := { program := "ytblbbjhbigpgnaadoor", sum := "a16c6df5665c59ecb6914b1bff0911480652c9a41de845199e05cc1d1f734301", func := "typedholes/typedholeslaw5.ReadtypeParentheses", spec := "readtypeParentheses", inPlace := ["internal/reflectlite.ValueOf", "(internal/reflectlite.Value).Type", "(internal/reflectlite.Value).IsNil", "internal/reflectlite.TypeOf", "(internal/reflectlite.Value).Elem", "(internal/reflectlite.Value).Set"], unfollowed := true, recurses := true, named := ["errors.errorType"], apart := false, laid := [("errors.errorType", laid_errors_errorType)] }
def ReadtypeParenthesesSaid : Prop := readtypeParenthesesRow.holds Tryd.pinned (OpenSpec.ofChange readtypeParenthesesSpec)

/-- ITS FALSE NEIGHBOUR: 'it returns false'. Refute it at one input. -/
def readtypeParenthesesWrong : ChangeSpec := { name := "readtypeParentheses", fn := fun _ => fun
  | [d1, d2, d3] => { results := [.lit (.bool false)], args := [d1, d2, d3] }
  | _ => none }
def ReadtypeParenthesesWrongFalsely : Prop := readtypeParenthesesRow.holds Tryd.pinned (OpenSpec.ofChange readtypeParenthesesWrong)

/- THE SECOND FORM. 'bulk': how many values and letters a reading holds, each counted each time it is reached (what is shared counts as often as it is met; a slice's spare places count too). A statement '..UptoSaid' is the law's where the arguments, and the package variables that the reading takes, are together of bulk at most 1048576: NARROWER than '..Said'. Prove '..Said' where nothing that the law and all that it calls make is longer than what came in: it says more and counts as full. Else prove '..UptoSaid'. A law counts once. -/
mutual
def uptoBulk {H : Type} : DataW H → Nat
  | .lit (.string bytes) => bytes.length + 1
  | .lit _ => 1
  | .nil => 1
  | .ptr d => uptoBulk d + 1
  | .slice elems spare => uptoBulkAll elems + uptoBulkAll spare + 1
  | .agg parts => uptoBulkAll parts + 1
  | .iface _ d => uptoBulk d + 1
  | .map entries => uptoBulkEntries entries + 1
  | .held _ => 1
def uptoBulkAll {H : Type} : List (DataW H) → Nat
  | [] => 0
  | d :: r => uptoBulk d + uptoBulkAll r
def uptoBulkEntries {H : Type} : List (Lit × DataW H) → Nat
  | [] => 0
  | x :: r => uptoBulkEntry x + uptoBulkEntries r
def uptoBulkEntry {H : Type} : Lit × DataW H → Nat
  | (.string bytes, d) => bytes.length + uptoBulk d + 1
  | (_, d) => uptoBulk d + 1
 end
def uptoSmall : (H : Type) → List (DataW H) → Bool := fun _ ds => decide (uptoBulkAll ds ≤ 1048576)
def OpenSpec.upto (s : _root_.Go.ChangeSpec) : _root_.Go.OpenSpec := { _root_.Go.OpenSpec.ofChange s with cond := some uptoSmall }

/-- 'typedholeslaw5.ReadtypeReturns', WHERE WHAT IT READS IS OF BULK AT MOST 1048576: true; the input reads as it did. -/
def readtypeReturnsUptoRow : OpenClaim := { program := "ytblbbjhbigpgnaadoor", sum := "a16c6df5665c59ecb6914b1bff0911480652c9a41de845199e05cc1d1f734301", func := "typedholes/typedholeslaw5.ReadtypeReturns", spec := "readtypeReturns", inPlace := ["internal/reflectlite.ValueOf", "(internal/reflectlite.Value).Type", "(internal/reflectlite.Value).IsNil", "internal/reflectlite.TypeOf", "(internal/reflectlite.Value).Elem", "(internal/reflectlite.Value).Set"], unfollowed := true, recurses := true, named := ["errors.errorType"], apart := false, laid := [("errors.errorType", laid_errors_errorType)], narrowed := true }
def ReadtypeReturnsUptoSaid : Prop := readtypeReturnsUptoRow.holds Tryd.pinned (OpenSpec.upto readtypeReturnsSpec)

/-- 'typedholeslaw5.ReadtypeStarts', WHERE WHAT IT READS IS OF BULK AT MOST 1048576: true; the input reads as it did. -/
def readtypeStartsUptoRow : OpenClaim := { program := "ytblbbjhbigpgnaadoor", sum := "a16c6df5665c59ecb6914b1bff0911480652c9a41de845199e05cc1d1f734301", func := "typedholes/typedholeslaw5.ReadtypeStarts", spec := "readtypeStarts", inPlace := ["internal/reflectlite.ValueOf", "(internal/reflectlite.Value).Type", "(internal/reflectlite.Value).IsNil", "internal/reflectlite.TypeOf", "(internal/reflectlite.Value).Elem", "(internal/reflectlite.Value).Set"], unfollowed := true, recurses := true, named := ["errors.errorType"], apart := false, laid := [("errors.errorType", laid_errors_errorType)], narrowed := true }
def ReadtypeStartsUptoSaid : Prop := readtypeStartsUptoRow.holds Tryd.pinned (OpenSpec.upto readtypeStartsSpec)

/-- 'typedholeslaw5.ReadtypeAny', WHERE WHAT IT READS IS OF BULK AT MOST 1048576: true; the input reads as it did. -/
def readtypeAnyUptoRow : OpenClaim := { program := "ytblbbjhbigpgnaadoor", sum := "a16c6df5665c59ecb6914b1bff0911480652c9a41de845199e05cc1d1f734301", func := "typedholes/typedholeslaw5.ReadtypeAny", spec := "readtypeAny", inPlace := ["internal/reflectlite.ValueOf", "(internal/reflectlite.Value).Type", "(internal/reflectlite.Value).IsNil", "internal/reflectlite.TypeOf", "(internal/reflectlite.Value).Elem", "(internal/reflectlite.Value).Set"], unfollowed := true, recurses := true, named := ["errors.errorType"], apart := false, laid := [("errors.errorType", laid_errors_errorType)], narrowed := true }
def ReadtypeAnyUptoSaid : Prop := readtypeAnyUptoRow.holds Tryd.pinned (OpenSpec.upto readtypeAnySpec)

/-- 'typedholeslaw5.ReadtypeParentheses', WHERE WHAT IT READS IS OF BULK AT MOST 1048576: true; the input reads as it did. -/
def readtypeParenthesesUptoRow : OpenClaim := { program := "ytblbbjhbigpgnaadoor", sum := "a16c6df5665c59ecb6914b1bff0911480652c9a41de845199e05cc1d1f734301", func := "typedholes/typedholeslaw5.ReadtypeParentheses", spec := "readtypeParentheses", inPlace := ["internal/reflectlite.ValueOf", "(internal/reflectlite.Value).Type", "(internal/reflectlite.Value).IsNil", "internal/reflectlite.TypeOf", "(internal/reflectlite.Value).Elem", "(internal/reflectlite.Value).Set"], unfollowed := true, recurses := true, named := ["errors.errorType"], apart := false, laid := [("errors.errorType", laid_errors_errorType)], narrowed := true }
def ReadtypeParenthesesUptoSaid : Prop := readtypeParenthesesUptoRow.holds Tryd.pinned (OpenSpec.upto readtypeParenthesesSpec)

end Rows
end Go.Proofs.YtblbbjhbigpgnaaDoor
