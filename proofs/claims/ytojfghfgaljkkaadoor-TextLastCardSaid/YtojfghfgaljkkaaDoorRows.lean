/-
  NARROWER THAN 'FOR EVERY INPUT', by the rows' own cells (each row's printed sentence says how): TextMatchesReference: laid · TextParses: laid · TextValues: laid · TextLast: laid.
  DERIVED. THE GIVEN ROWS OF THIS SEAT. 4 by the template 'for every input the law returns true; each argument reads behind the call as it read before'; 0 by the template 'total and deterministic' (their statements: YtojfghfgaljkkaaDoorTotals.lean).
  GIVEN WITH THE SEED: the statements are not yours to turn. If you find one false, say at which input.
  Laid BY PROGRAM, IN A SANDBOX (cutbox-rows.mjs): the forced cells as the released guide's own fill.sh prints them over the translation 39d7b47bc44ce5e8… (all of the seat's roots in one cut). By AI agents, Wed Nov 11 2026. No macro, syntax, notation, axiom, sorry.
-/
import Derived.Test.YtojfghfgaljkkaaDoorChecked
import GoSem.Claim
import GoSem.ClaimJoined
import GoSem.ClaimMapViews
import Derived.JoinedTies
import Derived.KernelRfl
namespace Go.Proofs.YtojfghfgaljkkaaDoor
/- THE CELL 'sum', in the pinned program and in every row, IS THE sha256 OF THE DUMP (.gsa) THAT YtojfghfgaljkkaaDoorProg.lean LOADS. Nothing in Lean hashes anything: it is a label: what it is worth is what the hold of that sum in a sandbox is worth. -/
noncomputable def Tryd.pinned : Pinned := { name := "ytojfghfgaljkkaadoor", sum := "39d7b47bc44ce5e88c9b61afb1bb88f5029c3f9e5d532963a11b43f76d177962", checked := Tryd.checked }
namespace Rows
def none {H : Type} : Left H := { results := [], args := [] }

/- WHAT THE LISTED PACKAGE-LEVEL VARIABLES READ AS WHEN THE CALL BEGINS. Each datum BY PROGRAM (the guide's laid-datum.mjs) off the statement by which the dump's own 'gosem.cut.vars' lays the variable. In a bare row this is a premise. The card (YtojfghfgaljkkaaDoorCards.lean) ties it to the program's text. -/
def laid_errors_errorType {H : Type} : DataW H := .iface "internal/reflectlite.rtype" (.agg [.ptr (.lit (.string [101, 114, 114, 111, 114]))])
def laid_mooring_text_ranges {H : Type} : DataW H := .agg [.agg [.lit (.int .i64 65), .lit (.int .i64 26), .lit (.int .i64 0)], .agg [.lit (.int .i64 97), .lit (.int .i64 26), .lit (.int .i64 26)], .agg [.lit (.int .i64 48), .lit (.int .i64 10), .lit (.int .i64 52)], .agg [.lit (.int .i64 43), .lit (.int .i64 1), .lit (.int .i64 62)], .agg [.lit (.int .i64 47), .lit (.int .i64 1), .lit (.int .i64 63)]]

/-- 'mooringlaw14.TextMatchesReference': WHATEVER THE INPUT: true; the input reads as it did. -/
def textMatchesReferenceSpec : ChangeSpec := { name := "textMatchesReference", fn := fun _ => fun
  | [d] => { results := [.lit (.bool true)], args := [d] }
  | _ => none }
def textMatchesReferenceRow : OpenClaim := { program := "ytojfghfgaljkkaadoor", sum := "39d7b47bc44ce5e88c9b61afb1bb88f5029c3f9e5d532963a11b43f76d177962", func := "mooring/mooringlaw14.TextMatchesReference", spec := "textMatchesReference", inPlace := ["internal/reflectlite.ValueOf", "(internal/reflectlite.Value).Type", "(internal/reflectlite.Value).IsNil", "internal/reflectlite.TypeOf", "(internal/reflectlite.Value).Elem", "(internal/reflectlite.Value).Set"], unfollowed := true, recurses := true, named := ["mooring/text.ranges", "errors.errorType"], apart := false, laid := [("errors.errorType", laid_errors_errorType), ("mooring/text.ranges", laid_mooring_text_ranges)] }
def TextMatchesReferenceSaid : Prop := textMatchesReferenceRow.holds Tryd.pinned (OpenSpec.ofChange textMatchesReferenceSpec)

/-- ITS FALSE NEIGHBOUR: 'it returns false'. Refute it at one input. -/
def textMatchesReferenceWrong : ChangeSpec := { name := "textMatchesReference", fn := fun _ => fun
  | [d] => { results := [.lit (.bool false)], args := [d] }
  | _ => none }
def TextMatchesReferenceWrongFalsely : Prop := textMatchesReferenceRow.holds Tryd.pinned (OpenSpec.ofChange textMatchesReferenceWrong)

/-- 'mooringlaw14.TextParses': WHATEVER THE INPUT: true; the input reads as it did. -/
def textParsesSpec : ChangeSpec := { name := "textParses", fn := fun _ => fun
  | [d] => { results := [.lit (.bool true)], args := [d] }
  | _ => none }
def textParsesRow : OpenClaim := { program := "ytojfghfgaljkkaadoor", sum := "39d7b47bc44ce5e88c9b61afb1bb88f5029c3f9e5d532963a11b43f76d177962", func := "mooring/mooringlaw14.TextParses", spec := "textParses", inPlace := ["internal/reflectlite.ValueOf", "(internal/reflectlite.Value).Type", "(internal/reflectlite.Value).IsNil", "internal/reflectlite.TypeOf", "(internal/reflectlite.Value).Elem", "(internal/reflectlite.Value).Set"], unfollowed := true, recurses := true, named := ["mooring/text.ranges", "errors.errorType"], apart := false, laid := [("errors.errorType", laid_errors_errorType), ("mooring/text.ranges", laid_mooring_text_ranges)] }
def TextParsesSaid : Prop := textParsesRow.holds Tryd.pinned (OpenSpec.ofChange textParsesSpec)

/-- ITS FALSE NEIGHBOUR: 'it returns false'. Refute it at one input. -/
def textParsesWrong : ChangeSpec := { name := "textParses", fn := fun _ => fun
  | [d] => { results := [.lit (.bool false)], args := [d] }
  | _ => none }
def TextParsesWrongFalsely : Prop := textParsesRow.holds Tryd.pinned (OpenSpec.ofChange textParsesWrong)

/-- 'mooringlaw14.TextValues': WHATEVER THE INPUT: true; the input reads as it did. -/
def textValuesSpec : ChangeSpec := { name := "textValues", fn := fun _ => fun
  | [d1, d2] => { results := [.lit (.bool true)], args := [d1, d2] }
  | _ => none }
def textValuesRow : OpenClaim := { program := "ytojfghfgaljkkaadoor", sum := "39d7b47bc44ce5e88c9b61afb1bb88f5029c3f9e5d532963a11b43f76d177962", func := "mooring/mooringlaw14.TextValues", spec := "textValues", inPlace := ["internal/reflectlite.ValueOf", "(internal/reflectlite.Value).Type", "(internal/reflectlite.Value).IsNil", "internal/reflectlite.TypeOf", "(internal/reflectlite.Value).Elem", "(internal/reflectlite.Value).Set"], unfollowed := true, recurses := true, named := ["mooring/text.ranges", "errors.errorType"], apart := false, laid := [("errors.errorType", laid_errors_errorType), ("mooring/text.ranges", laid_mooring_text_ranges)] }
def TextValuesSaid : Prop := textValuesRow.holds Tryd.pinned (OpenSpec.ofChange textValuesSpec)

/-- ITS FALSE NEIGHBOUR: 'it returns false'. Refute it at one input. -/
def textValuesWrong : ChangeSpec := { name := "textValues", fn := fun _ => fun
  | [d1, d2] => { results := [.lit (.bool false)], args := [d1, d2] }
  | _ => none }
def TextValuesWrongFalsely : Prop := textValuesRow.holds Tryd.pinned (OpenSpec.ofChange textValuesWrong)

/-- 'mooringlaw14.TextLast': WHATEVER THE INPUT: true; the input reads as it did. -/
def textLastSpec : ChangeSpec := { name := "textLast", fn := fun _ => fun
  | [d1, d2] => { results := [.lit (.bool true)], args := [d1, d2] }
  | _ => none }
def textLastRow : OpenClaim := { program := "ytojfghfgaljkkaadoor", sum := "39d7b47bc44ce5e88c9b61afb1bb88f5029c3f9e5d532963a11b43f76d177962", func := "mooring/mooringlaw14.TextLast", spec := "textLast", inPlace := ["internal/reflectlite.ValueOf", "(internal/reflectlite.Value).Type", "(internal/reflectlite.Value).IsNil", "internal/reflectlite.TypeOf", "(internal/reflectlite.Value).Elem", "(internal/reflectlite.Value).Set"], unfollowed := true, recurses := true, named := ["mooring/text.ranges", "errors.errorType"], apart := false, laid := [("errors.errorType", laid_errors_errorType), ("mooring/text.ranges", laid_mooring_text_ranges)] }
def TextLastSaid : Prop := textLastRow.holds Tryd.pinned (OpenSpec.ofChange textLastSpec)

/-- ITS FALSE NEIGHBOUR: 'it returns false'. Refute it at one input. -/
def textLastWrong : ChangeSpec := { name := "textLast", fn := fun _ => fun
  | [d1, d2] => { results := [.lit (.bool false)], args := [d1, d2] }
  | _ => none }
def TextLastWrongFalsely : Prop := textLastRow.holds Tryd.pinned (OpenSpec.ofChange textLastWrong)

/- THE SECOND FORM. 'bulk': how many values and letters a reading holds, each counted each time it is reached (what is shared counts as often as it is met; a slice's spare places count too). A statement '..UptoSaid' is the law's where the arguments, and the package variables that the reading takes, are together of bulk at most 1048576: NARROWER than '..Said'. Prove '..Said' where nothing that the law and all that it calls make is longer than what came in: it says more and counts as full. Else prove '..UptoSaid'. A law counts once. -/
mutual
def uptoBulk {H : Type} : DataW H → Nat
  | .lit (.string bytes) => bytes.length + 1
  | .lit _ => 1
  | .nil => 1
  | .ptr d => uptoBulk d + 1
  | .slice elems spare => uptoBulkAll elems + uptoBulkAll spare + 1
  | .agg parts => uptoBulkAll parts + 1
  | .iface _ d => uptoBulk d + 1
  | .map entries => uptoBulkEntries entries + 1
  | .held _ => 1
def uptoBulkAll {H : Type} : List (DataW H) → Nat
  | [] => 0
  | d :: r => uptoBulk d + uptoBulkAll r
def uptoBulkEntries {H : Type} : List (Lit × DataW H) → Nat
  | [] => 0
  | x :: r => uptoBulkEntry x + uptoBulkEntries r
def uptoBulkEntry {H : Type} : Lit × DataW H → Nat
  | (.string bytes, d) => bytes.length + uptoBulk d + 1
  | (_, d) => uptoBulk d + 1
 end
def uptoSmall : (H : Type) → List (DataW H) → Bool := fun _ ds => decide (uptoBulkAll ds ≤ 1048576)
def OpenSpec.upto (s : _root_.Go.ChangeSpec) : _root_.Go.OpenSpec := { _root_.Go.OpenSpec.ofChange s with cond := some uptoSmall }

/-- 'mooringlaw14.TextMatchesReference', WHERE WHAT IT READS IS OF BULK AT MOST 1048576: true; the input reads as it did. -/
def textMatchesReferenceUptoRow : OpenClaim := { program := "ytojfghfgaljkkaadoor", sum := "39d7b47bc44ce5e88c9b61afb1bb88f5029c3f9e5d532963a11b43f76d177962", func := "mooring/mooringlaw14.TextMatchesReference", spec := "textMatchesReference", inPlace := ["internal/reflectlite.ValueOf", "(internal/reflectlite.Value).Type", "(internal/reflectlite.Value).IsNil", "internal/reflectlite.TypeOf", "(internal/reflectlite.Value).Elem", "(internal/reflectlite.Value).Set"], unfollowed := true, recurses := true, named := ["mooring/text.ranges", "errors.errorType"], apart := false, laid := [("errors.errorType", laid_errors_errorType), ("mooring/text.ranges", laid_mooring_text_ranges)], narrowed := true }
def TextMatchesReferenceUptoSaid : Prop := textMatchesReferenceUptoRow.holds Tryd.pinned (OpenSpec.upto textMatchesReferenceSpec)

/-- 'mooringlaw14.TextParses', WHERE WHAT IT READS IS OF BULK AT MOST 1048576: true; the input reads as it did. -/
def textParsesUptoRow : OpenClaim := { program := "ytojfghfgaljkkaadoor", sum := "39d7b47bc44ce5e88c9b61afb1bb88f5029c3f9e5d532963a11b43f76d177962", func := "mooring/mooringlaw14.TextParses", spec := "textParses", inPlace := ["internal/reflectlite.ValueOf", "(internal/reflectlite.Value).Type", "(internal/reflectlite.Value).IsNil", "internal/reflectlite.TypeOf", "(internal/reflectlite.Value).Elem", "(internal/reflectlite.Value).Set"], unfollowed := true, recurses := true, named := ["mooring/text.ranges", "errors.errorType"], apart := false, laid := [("errors.errorType", laid_errors_errorType), ("mooring/text.ranges", laid_mooring_text_ranges)], narrowed := true }
def TextParsesUptoSaid : Prop := textParsesUptoRow.holds Tryd.pinned (OpenSpec.upto textParsesSpec)

/-- 'mooringlaw14.TextValues', WHERE WHAT IT READS IS OF BULK AT MOST 1048576: true; the input reads as it did. -/
def textValuesUptoRow : OpenClaim := { program := "ytojfghfgaljkkaadoor", sum := "39d7b47bc44ce5e88c9b61afb1bb88f5029c3f9e5d532963a11b43f76d177962", func := "mooring/mooringlaw14.TextValues", spec := "textValues", inPlace := ["internal/reflectlite.ValueOf", "(internal/reflectlite.Value).Type", "(internal/reflectlite.Value).IsNil", "internal/reflectlite.TypeOf", "(internal/reflectlite.Value).Elem", "(internal/reflectlite.Value).Set"], unfollowed := true, recurses := true, named := ["mooring/text.ranges", "errors.errorType"], apart := false, laid := [("errors.errorType", laid_errors_errorType), ("mooring/text.ranges", laid_mooring_text_ranges)], narrowed := true }
def TextValuesUptoSaid : Prop := textValuesUptoRow.holds Tryd.pinned (OpenSpec.upto textValuesSpec)

/-- 'mooringlaw14.TextLast', WHERE WHAT IT READS IS OF BULK AT MOST 1048576: true; the input reads as it did. -/
def textLastUptoRow : OpenClaim := { program := "ytojfghfgaljkkaadoor", sum := "39d7b47bc44ce5e88c9b61afb1bb88f5029c3f9e5d532963a11b43f76d177962", func := "mooring/mooringlaw14.TextLast", spec := "textLast", inPlace := ["internal/reflectlite.ValueOf", "(internal/reflectlite.Value).Type", "(internal/reflectlite.Value).IsNil", "internal/reflectlite.TypeOf", "(internal/reflectlite.Value).Elem", "(internal/reflectlite.Value).Set"], unfollowed := true, recurses := true, named := ["mooring/text.ranges", "errors.errorType"], apart := false, laid := [("errors.errorType", laid_errors_errorType), ("mooring/text.ranges", laid_mooring_text_ranges)], narrowed := true }
def TextLastUptoSaid : Prop := textLastUptoRow.holds Tryd.pinned (OpenSpec.upto textLastSpec)

end Rows
end Go.Proofs.YtojfghfgaljkkaaDoor
