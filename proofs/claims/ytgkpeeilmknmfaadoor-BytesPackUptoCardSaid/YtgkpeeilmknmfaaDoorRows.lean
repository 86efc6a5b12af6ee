/-
  NARROWER THAN 'FOR EVERY INPUT', by the rows' own cells (each row's printed sentence says how): BytesPut: laid · BytesFlags: laid · BytesRuns: laid · ValueQuotes: laid · BytesPack: laid.
  DERIVED. THE GIVEN ROWS OF THIS SEAT. 5 by the template 'for every input the law returns true; each argument reads behind the call as it read before'; 0 by the template 'total and deterministic' (their statements: YtgkpeeilmknmfaaDoorTotals.lean).
  GIVEN WITH THE SEED: the statements are not yours to turn. If you find one false, say at which input.
  Laid BY PROGRAM, IN A SANDBOX (cutbox-rows.mjs): the forced cells as the released guide's own fill.sh prints them over the translation f764349cd1732f05… (all of the seat's roots in one cut). By AI agents, Wed Nov 11 2026. No macro, syntax, notation, axiom, sorry.
-/
import Derived.Test.YtgkpeeilmknmfaaDoorChecked
import GoSem.Claim
import GoSem.ClaimJoined
import GoSem.ClaimMapViews
import Derived.JoinedTies
import Derived.KernelRfl
namespace Go.Proofs.YtgkpeeilmknmfaaDoor
/- THE CELL 'sum', in the pinned program and in every row, IS THE sha256 OF THE DUMP (.gsa) THAT YtgkpeeilmknmfaaDoorProg.lean LOADS. Nothing in Lean hashes anything: it is a label: what it is worth is what the hold of that sum in a sandbox is worth. -/
noncomputable def Tryd.pinned : Pinned := { name := "ytgkpeeilmknmfaadoor", sum := "f764349cd1732f0508afc33f909cf4a44314f6526a31dfa5c8ab98aaa20d3dd5", checked := Tryd.checked }
namespace Rows
def none {H : Type} : Left H := { results := [], args := [] }

/- WHAT THE LISTED PACKAGE-LEVEL VARIABLES READ AS WHEN THE CALL BEGINS. Each datum BY PROGRAM (the guide's laid-datum.mjs) off the statement by which the dump's own 'gosem.cut.vars' lays the variable. In a bare row this is a premise. The card (YtgkpeeilmknmfaaDoorCards.lean) ties it to the program's text. -/
def laid_errors_errorType {H : Type} : DataW H := .iface "internal/reflectlite.rtype" (.agg [.ptr (.lit (.string [101, 114, 114, 111, 114]))])

/-- 'booklaw1.BytesPut': WHATEVER THE INPUT: true; the input reads as it did. -/
def bytesPutSpec : ChangeSpec := { name := "bytesPut", fn := fun _ => fun
  | [d1, d2, d3] => { results := [.lit (.bool true)], args := [d1, d2, d3] }
  | _ => none }
def bytesPutRow : OpenClaim := { program := "ytgkpeeilmknmfaadoor", sum := "f764349cd1732f0508afc33f909cf4a44314f6526a31dfa5c8ab98aaa20d3dd5", func := "commonbook/booklaw1.BytesPut", spec := "bytesPut", inPlace := ["internal/reflectlite.ValueOf", "(internal/reflectlite.Value).Type", "(internal/reflectlite.Value).IsNil", "internal/reflectlite.TypeOf", "(internal/reflectlite.Value).Elem", "(internal/reflectlite.Value).Set"], unfollowed := true, recurses := true, named := ["errors.errorType"], apart := false, laid := [("errors.errorType", laid_errors_errorType)] }
def BytesPutSaid : Prop := bytesPutRow.holds Tryd.pinned (OpenSpec.ofChange bytesPutSpec)

/-- ITS FALSE NEIGHBOUR: 'it returns false'. Refute it at one input. -/
def bytesPutWrong : ChangeSpec := { name := "bytesPut", fn := fun _ => fun
  | [d1, d2, d3] => { results := [.lit (.bool false)], args := [d1, d2, d3] }
  | _ => none }
def BytesPutWrongFalsely : Prop := bytesPutRow.holds Tryd.pinned (OpenSpec.ofChange bytesPutWrong)

/-- 'booklaw1.BytesFlags': WHATEVER THE INPUT: true; the input reads as it did. -/
def bytesFlagsSpec : ChangeSpec := { name := "bytesFlags", fn := fun _ => fun
  | [d1, d2] => { results := [.lit (.bool true)], args := [d1, d2] }
  | _ => none }
def bytesFlagsRow : OpenClaim := { program := "ytgkpeeilmknmfaadoor", sum := "f764349cd1732f0508afc33f909cf4a44314f6526a31dfa5c8ab98aaa20d3dd5", func := "commonbook/booklaw1.BytesFlags", spec := "bytesFlags", inPlace := ["internal/reflectlite.ValueOf", "(internal/reflectlite.Value).Type", "(internal/reflectlite.Value).IsNil", "internal/reflectlite.TypeOf", "(internal/reflectlite.Value).Elem", "(internal/reflectlite.Value).Set"], unfollowed := true, recurses := true, named := ["errors.errorType"], apart := false, laid := [("errors.errorType", laid_errors_errorType)] }
def BytesFlagsSaid : Prop := bytesFlagsRow.holds Tryd.pinned (OpenSpec.ofChange bytesFlagsSpec)

/-- ITS FALSE NEIGHBOUR: 'it returns false'. Refute it at one input. -/
def bytesFlagsWrong : ChangeSpec := { name := "bytesFlags", fn := fun _ => fun
  | [d1, d2] => { results := [.lit (.bool false)], args := [d1, d2] }
  | _ => none }
def BytesFlagsWrongFalsely : Prop := bytesFlagsRow.holds Tryd.pinned (OpenSpec.ofChange bytesFlagsWrong)

/-- 'booklaw1.BytesRuns': WHATEVER THE INPUT: true; the input reads as it did. -/
def bytesRunsSpec : ChangeSpec := { name := "bytesRuns", fn := fun _ => fun
  | [d1, d2] => { results := [.lit (.bool true)], args := [d1, d2] }
  | _ => none }
def bytesRunsRow : OpenClaim := { program := "ytgkpeeilmknmfaadoor", sum := "f764349cd1732f0508afc33f909cf4a44314f6526a31dfa5c8ab98aaa20d3dd5", func := "commonbook/booklaw1.BytesRuns", spec := "bytesRuns", inPlace := ["internal/reflectlite.ValueOf", "(internal/reflectlite.Value).Type", "(internal/reflectlite.Value).IsNil", "internal/reflectlite.TypeOf", "(internal/reflectlite.Value).Elem", "(internal/reflectlite.Value).Set"], unfollowed := true, recurses := true, named := ["errors.errorType"], apart := false, laid := [("errors.errorType", laid_errors_errorType)] }
def BytesRunsSaid : Prop := bytesRunsRow.holds Tryd.pinned (OpenSpec.ofChange bytesRunsSpec)

/-- ITS FALSE NEIGHBOUR: 'it returns false'. Refute it at one input. -/
def bytesRunsWrong : ChangeSpec := { name := "bytesRuns", fn := fun _ => fun
  | [d1, d2] => { results := [.lit (.bool false)], args := [d1, d2] }
  | _ => none }
def BytesRunsWrongFalsely : Prop := bytesRunsRow.holds Tryd.pinned (OpenSpec.ofChange bytesRunsWrong)

/-- 'booklaw1.ValueQuotes': WHATEVER THE INPUT: true; the input reads as it did. -/
def valueQuotesSpec : ChangeSpec := { name := "valueQuotes", fn := fun _ => fun
  | [d1, d2] => { results := [.lit (.bool true)], args := [d1, d2] }
  | _ => none }
def valueQuotesRow : OpenClaim := { program := "ytgkpeeilmknmfaadoor", sum := "f764349cd1732f0508afc33f909cf4a44314f6526a31dfa5c8ab98aaa20d3dd5", func := "commonbook/booklaw1.ValueQuotes", spec := "valueQuotes", inPlace := ["internal/abi.NoEscape", "internal/bytealg.IndexByteString", "internal/reflectlite.ValueOf", "(internal/reflectlite.Value).Type", "(internal/reflectlite.Value).IsNil", "internal/reflectlite.TypeOf", "(internal/reflectlite.Value).Elem", "(internal/reflectlite.Value).Set"], unfollowed := true, recurses := true, named := ["errors.errorType"], apart := false, laid := [("errors.errorType", laid_errors_errorType)] }
def ValueQuotesSaid : Prop := valueQuotesRow.holds Tryd.pinned (OpenSpec.ofChange valueQuotesSpec)

/-- ITS FALSE NEIGHBOUR: 'it returns false'. Refute it at one input. -/
def valueQuotesWrong : ChangeSpec := { name := "valueQuotes", fn := fun _ => fun
  | [d1, d2] => { results := [.lit (.bool false)], args := [d1, d2] }
  | _ => none }
def ValueQuotesWrongFalsely : Prop := valueQuotesRow.holds Tryd.pinned (OpenSpec.ofChange valueQuotesWrong)

/-- 'booklaw1.BytesPack': WHATEVER THE INPUT: true; the input reads as it did. -/
def bytesPackSpec : ChangeSpec := { name := "bytesPack", fn := fun _ => fun
  | [d1, d2] => { results := [.lit (.bool true)], args := [d1, d2] }
  | _ => none }
def bytesPackRow : OpenClaim := { program := "ytgkpeeilmknmfaadoor", sum := "f764349cd1732f0508afc33f909cf4a44314f6526a31dfa5c8ab98aaa20d3dd5", func := "commonbook/booklaw1.BytesPack", spec := "bytesPack", inPlace := ["internal/reflectlite.ValueOf", "(internal/reflectlite.Value).Type", "(internal/reflectlite.Value).IsNil", "internal/reflectlite.TypeOf", "(internal/reflectlite.Value).Elem", "(internal/reflectlite.Value).Set"], unfollowed := true, recurses := true, named := ["errors.errorType"], apart := false, laid := [("errors.errorType", laid_errors_errorType)] }
def BytesPackSaid : Prop := bytesPackRow.holds Tryd.pinned (OpenSpec.ofChange bytesPackSpec)

/-- ITS FALSE NEIGHBOUR: 'it returns false'. Refute it at one input. -/
def bytesPackWrong : ChangeSpec := { name := "bytesPack", fn := fun _ => fun
  | [d1, d2] => { results := [.lit (.bool false)], args := [d1, d2] }
  | _ => none }
def BytesPackWrongFalsely : Prop := bytesPackRow.holds Tryd.pinned (OpenSpec.ofChange bytesPackWrong)

/- THE SECOND FORM. 'bulk': how many values and letters a reading holds, each counted each time it is reached (what is shared counts as often as it is met; a slice's spare places count too). A statement '..UptoSaid' is the law's where the arguments, and the package variables that the reading takes, are together of bulk at most 1048576: NARROWER than '..Said'. Prove '..Said' where nothing that the law and all that it calls make is longer than what came in: it says more and counts as full. Else prove '..UptoSaid'. A law counts once. -/
mutual
def uptoBulk {H : Type} : DataW H → Nat
  | .lit (.string bytes) => bytes.length + 1
  | .lit _ => 1
  | .nil => 1
  | .ptr d => uptoBulk d + 1
  | .slice elems spare => uptoBulkAll elems + uptoBulkAll spare + 1
  | .agg parts => uptoBulkAll parts + 1
  | .iface _ d => uptoBulk d + 1
  | .map entries => uptoBulkEntries entries + 1
  | .held _ => 1
def uptoBulkAll {H : Type} : List (DataW H) → Nat
  | [] => 0
  | d :: r => uptoBulk d + uptoBulkAll r
def uptoBulkEntries {H : Type} : List (Lit × DataW H) → Nat
  | [] => 0
  | x :: r => uptoBulkEntry x + uptoBulkEntries r
def uptoBulkEntry {H : Type} : Lit × DataW H → Nat
  | (.string bytes, d) => bytes.length + uptoBulk d + 1
  | (_, d) => uptoBulk d + 1
 end
def uptoSmall : (H : Type) → List (DataW H) → Bool := fun _ ds => decide (uptoBulkAll ds ≤ 1048576)
def OpenSpec.upto (s : _root_.Go.ChangeSpec) : _root_.Go.OpenSpec := { _root_.Go.OpenSpec.ofChange s with cond := some uptoSmall }

/-- 'booklaw1.BytesPut', WHERE WHAT IT READS IS OF BULK AT MOST 1048576: true; the input reads as it did. -/
def bytesPutUptoRow : OpenClaim := { program := "ytgkpeeilmknmfaadoor", sum := "f764349cd1732f0508afc33f909cf4a44314f6526a31dfa5c8ab98aaa20d3dd5", func := "commonbook/booklaw1.BytesPut", spec := "bytesPut", inPlace := ["internal/reflectlite.ValueOf", "(internal/reflectlite.Value).Type", "(internal/reflectlite.Value).IsNil", "internal/reflectlite.TypeOf", "(internal/reflectlite.Value).Elem", "(internal/reflectlite.Value).Set"], unfollowed := true, recurses := true, named := ["errors.errorType"], apart := false, laid := [("errors.errorType", laid_errors_errorType)], narrowed := true }
def BytesPutUptoSaid : Prop := bytesPutUptoRow.holds Tryd.pinned (OpenSpec.upto bytesPutSpec)

/-- 'booklaw1.BytesFlags', WHERE WHAT IT READS IS OF BULK AT MOST 1048576: true; the input reads as it did. -/
def bytesFlagsUptoRow : OpenClaim := { program := "ytgkpeeilmknmfaadoor", sum := "f764349cd1732f0508afc33f909cf4a44314f6526a31dfa5c8ab98aaa20d3dd5", func := "commonbook/booklaw1.BytesFlags", spec := "bytesFlags", inPlace := ["internal/reflectlite.ValueOf", "(internal/reflectlite.Value).Type", "(internal/reflectlite.Value).IsNil", "internal/reflectlite.TypeOf", "(internal/reflectlite.Value).Elem", "(internal/reflectlite.Value).Set"], unfollowed := true, recurses := true, named := ["errors.errorType"], apart := false, laid := [("errors.errorType", laid_errors_errorType)], narrowed := true }
def BytesFlagsUptoSaid : Prop := bytesFlagsUptoRow.holds Tryd.pinned (OpenSpec.upto bytesFlagsSpec)

/-- 'booklaw1.BytesRuns', WHERE WHAT IT READS IS OF BULK AT MOST 1048576: true; the input reads as it did. -/
def bytesRunsUptoRow : OpenClaim := { program := "ytgkpeeilmknmfaadoor", sum := "f764349cd1732f0508afc33f909cf4a44314f6526a31dfa5c8ab98aaa20d3dd5", func := "commonbook/booklaw1.BytesRuns", spec := "bytesRuns", inPlace := ["internal/reflectlite.ValueOf", "(internal/reflectlite.Value).Type", "(internal/reflectlite.Value).IsNil", "internal/reflectlite.TypeOf", "(internal/reflectlite.Value).Elem", "(internal/reflectlite.Value).Set"], unfollowed := true, recurses := true, named := ["errors.errorType"], apart := false, laid := [("errors.errorType", laid_errors_errorType)], narrowed := true }
def BytesRunsUptoSaid : Prop := bytesRunsUptoRow.holds Tryd.pinned (OpenSpec.upto bytesRunsSpec)

/-- 'booklaw1.ValueQuotes', WHERE WHAT IT READS IS OF BULK AT MOST 1048576: true; the input reads as it did. -/
def valueQuotesUptoRow : OpenClaim := { program := "ytgkpeeilmknmfaadoor", sum := "f764349cd1732f0508afc33f909cf4a44314f6526a31dfa5c8ab98aaa20d3dd5", func := "commonbook/booklaw1.ValueQuotes", spec := "valueQuotes", inPlace := ["internal/abi.NoEscape", "internal/bytealg.IndexByteString", "internal/reflectlite.ValueOf", "(internal/reflectlite.Value).Type", "(internal/reflectlite.Value).IsNil", "internal/reflectlite.TypeOf", "(internal/reflectlite.Value).Elem", "(internal/reflectlite.Value).Set"], unfollowed := true, recurses := true, named := ["errors.errorType"], apart := false, laid := [("errors.errorType", laid_errors_errorType)], narrowed := true }
def ValueQuotesUptoSaid : Prop := valueQuotesUptoRow.holds Tryd.pinned (OpenSpec.upto valueQuotesSpec)

/-- 'booklaw1.BytesPack', WHERE WHAT IT READS IS OF BULK AT MOST 1048576: true; the input reads as it did. -/
def bytesPackUptoRow : OpenClaim := { program := "ytgkpeeilmknmfaadoor", sum := "f764349cd1732f0508afc33f909cf4a44314f6526a31dfa5c8ab98aaa20d3dd5", func := "commonbook/booklaw1.BytesPack", spec := "bytesPack", inPlace := ["internal/reflectlite.ValueOf", "(internal/reflectlite.Value).Type", "(internal/reflectlite.Value).IsNil", "internal/reflectlite.TypeOf", "(internal/reflectlite.Value).Elem", "(internal/reflectlite.Value).Set"], unfollowed := true, recurses := true, named := ["errors.errorType"], apart := false, laid := [("errors.errorType", laid_errors_errorType)], narrowed := true }
def BytesPackUptoSaid : Prop := bytesPackUptoRow.holds Tryd.pinned (OpenSpec.upto bytesPackSpec)

end Rows
end Go.Proofs.YtgkpeeilmknmfaaDoor
