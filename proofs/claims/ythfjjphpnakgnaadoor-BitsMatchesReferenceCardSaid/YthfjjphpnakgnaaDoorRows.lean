/-
  NARROWER THAN 'FOR EVERY INPUT', by the rows' own cells (each row's printed sentence says how): BitsMatchesReference: laid · BitsNumbers: laid · BitsRotates: laid · BitsXors: laid · BitsZeros: laid.
  DERIVED. THE GIVEN ROWS OF THIS SEAT. 5 by the template 'for every input the law returns true; each argument reads behind the call as it read before'; 0 by the template 'total and deterministic' (their statements: YthfjjphpnakgnaaDoorTotals.lean).
  GIVEN WITH THE SEED: the statements are not yours to turn. If you find one false, say at which input.
  Laid BY PROGRAM, IN A SANDBOX (cutbox-rows.mjs): the forced cells as the released guide's own fill.sh prints them over the translation 92330ce5fc65c47c… (all of the seat's roots in one cut). By AI agents, Wed Nov 11 2026. No macro, syntax, notation, axiom, sorry.
-/
import Derived.Test.YthfjjphpnakgnaaDoorChecked
import GoSem.Claim
import GoSem.ClaimJoined
import GoSem.ClaimMapViews
import Derived.JoinedTies
import Derived.KernelRfl
namespace Go.Proofs.YthfjjphpnakgnaaDoor
/- THE CELL 'sum', in the pinned program and in every row, IS THE sha256 OF THE DUMP (.gsa) THAT YthfjjphpnakgnaaDoorProg.lean LOADS. Nothing in Lean hashes anything: it is a label: what it is worth is what the hold of that sum in a sandbox is worth. -/
noncomputable def Tryd.pinned : Pinned := { name := "ythfjjphpnakgnaadoor", sum := "92330ce5fc65c47c02c433c833fda51574d2af6fdefd9d87b04da777415bb837", checked := Tryd.checked }
namespace Rows
def none {H : Type} : Left H := { results := [], args := [] }

/- WHAT THE LISTED PACKAGE-LEVEL VARIABLES READ AS WHEN THE CALL BEGINS. Each datum BY PROGRAM (the guide's laid-datum.mjs) off the statement by which the dump's own 'gosem.cut.vars' lays the variable. In a bare row this is a premise. The card (YthfjjphpnakgnaaDoorCards.lean) ties it to the program's text. -/
def laid_math_bits_deBruijn64tab {H : Type} : DataW H := .agg [.lit (.int .u8 0), .lit (.int .u8 1), .lit (.int .u8 56), .lit (.int .u8 2), .lit (.int .u8 57), .lit (.int .u8 49), .lit (.int .u8 28), .lit (.int .u8 3), .lit (.int .u8 61), .lit (.int .u8 58), .lit (.int .u8 42), .lit (.int .u8 50), .lit (.int .u8 38), .lit (.int .u8 29), .lit (.int .u8 17), .lit (.int .u8 4), .lit (.int .u8 62), .lit (.int .u8 47), .lit (.int .u8 59), .lit (.int .u8 36), .lit (.int .u8 45), .lit (.int .u8 43), .lit (.int .u8 51), .lit (.int .u8 22), .lit (.int .u8 53), .lit (.int .u8 39), .lit (.int .u8 33), .lit (.int .u8 30), .lit (.int .u8 24), .lit (.int .u8 18), .lit (.int .u8 12), .lit (.int .u8 5), .lit (.int .u8 63), .lit (.int .u8 55), .lit (.int .u8 48), .lit (.int .u8 27), .lit (.int .u8 60), .lit (.int .u8 41), .lit (.int .u8 37), .lit (.int .u8 16), .lit (.int .u8 46), .lit (.int .u8 35), .lit (.int .u8 44), .lit (.int .u8 21), .lit (.int .u8 52), .lit (.int .u8 32), .lit (.int .u8 23), .lit (.int .u8 11), .lit (.int .u8 54), .lit (.int .u8 26), .lit (.int .u8 40), .lit (.int .u8 15), .lit (.int .u8 34), .lit (.int .u8 20), .lit (.int .u8 31), .lit (.int .u8 10), .lit (.int .u8 25), .lit (.int .u8 14), .lit (.int .u8 19), .lit (.int .u8 9), .lit (.int .u8 13), .lit (.int .u8 8), .lit (.int .u8 7), .lit (.int .u8 6)]

/-- 'mooringlaw01.BitsMatchesReference': WHATEVER THE INPUT: true; the input reads as it did. -/
def bitsMatchesReferenceSpec : ChangeSpec := { name := "bitsMatchesReference", fn := fun _ => fun
  | [d] => { results := [.lit (.bool true)], args := [d] }
  | _ => none }
def bitsMatchesReferenceRow : OpenClaim := { program := "ythfjjphpnakgnaadoor", sum := "92330ce5fc65c47c02c433c833fda51574d2af6fdefd9d87b04da777415bb837", func := "mooring/mooringlaw01.BitsMatchesReference", spec := "bitsMatchesReference", named := ["math/bits.deBruijn64tab"], apart := false, laid := [("math/bits.deBruijn64tab", laid_math_bits_deBruijn64tab)] }
def BitsMatchesReferenceSaid : Prop := bitsMatchesReferenceRow.holds Tryd.pinned (OpenSpec.ofChange bitsMatchesReferenceSpec)

/-- ITS FALSE NEIGHBOUR: 'it returns false'. Refute it at one input. -/
def bitsMatchesReferenceWrong : ChangeSpec := { name := "bitsMatchesReference", fn := fun _ => fun
  | [d] => { results := [.lit (.bool false)], args := [d] }
  | _ => none }
def BitsMatchesReferenceWrongFalsely : Prop := bitsMatchesReferenceRow.holds Tryd.pinned (OpenSpec.ofChange bitsMatchesReferenceWrong)

/-- 'mooringlaw01.BitsNumbers': WHATEVER THE INPUT: true; the input reads as it did. -/
def bitsNumbersSpec : ChangeSpec := { name := "bitsNumbers", fn := fun _ => fun
  | [d1, d2] => { results := [.lit (.bool true)], args := [d1, d2] }
  | _ => none }
def bitsNumbersRow : OpenClaim := { program := "ythfjjphpnakgnaadoor", sum := "92330ce5fc65c47c02c433c833fda51574d2af6fdefd9d87b04da777415bb837", func := "mooring/mooringlaw01.BitsNumbers", spec := "bitsNumbers", named := ["math/bits.deBruijn64tab"], apart := false, laid := [("math/bits.deBruijn64tab", laid_math_bits_deBruijn64tab)] }
def BitsNumbersSaid : Prop := bitsNumbersRow.holds Tryd.pinned (OpenSpec.ofChange bitsNumbersSpec)

/-- ITS FALSE NEIGHBOUR: 'it returns false'. Refute it at one input. -/
def bitsNumbersWrong : ChangeSpec := { name := "bitsNumbers", fn := fun _ => fun
  | [d1, d2] => { results := [.lit (.bool false)], args := [d1, d2] }
  | _ => none }
def BitsNumbersWrongFalsely : Prop := bitsNumbersRow.holds Tryd.pinned (OpenSpec.ofChange bitsNumbersWrong)

/-- 'mooringlaw01.BitsRotates': WHATEVER THE INPUT: true; the input reads as it did. -/
def bitsRotatesSpec : ChangeSpec := { name := "bitsRotates", fn := fun _ => fun
  | [d1, d2, d3] => { results := [.lit (.bool true)], args := [d1, d2, d3] }
  | _ => none }
def bitsRotatesRow : OpenClaim := { program := "ythfjjphpnakgnaadoor", sum := "92330ce5fc65c47c02c433c833fda51574d2af6fdefd9d87b04da777415bb837", func := "mooring/mooringlaw01.BitsRotates", spec := "bitsRotates", named := ["math/bits.deBruijn64tab"], apart := false, laid := [("math/bits.deBruijn64tab", laid_math_bits_deBruijn64tab)] }
def BitsRotatesSaid : Prop := bitsRotatesRow.holds Tryd.pinned (OpenSpec.ofChange bitsRotatesSpec)

/-- ITS FALSE NEIGHBOUR: 'it returns false'. Refute it at one input. -/
def bitsRotatesWrong : ChangeSpec := { name := "bitsRotates", fn := fun _ => fun
  | [d1, d2, d3] => { results := [.lit (.bool false)], args := [d1, d2, d3] }
  | _ => none }
def BitsRotatesWrongFalsely : Prop := bitsRotatesRow.holds Tryd.pinned (OpenSpec.ofChange bitsRotatesWrong)

/-- 'mooringlaw01.BitsXors': WHATEVER THE INPUT: true; the input reads as it did. -/
def bitsXorsSpec : ChangeSpec := { name := "bitsXors", fn := fun _ => fun
  | [d1, d2] => { results := [.lit (.bool true)], args := [d1, d2] }
  | _ => none }
def bitsXorsRow : OpenClaim := { program := "ythfjjphpnakgnaadoor", sum := "92330ce5fc65c47c02c433c833fda51574d2af6fdefd9d87b04da777415bb837", func := "mooring/mooringlaw01.BitsXors", spec := "bitsXors", named := ["math/bits.deBruijn64tab"], apart := false, laid := [("math/bits.deBruijn64tab", laid_math_bits_deBruijn64tab)] }
def BitsXorsSaid : Prop := bitsXorsRow.holds Tryd.pinned (OpenSpec.ofChange bitsXorsSpec)

/-- ITS FALSE NEIGHBOUR: 'it returns false'. Refute it at one input. -/
def bitsXorsWrong : ChangeSpec := { name := "bitsXors", fn := fun _ => fun
  | [d1, d2] => { results := [.lit (.bool false)], args := [d1, d2] }
  | _ => none }
def BitsXorsWrongFalsely : Prop := bitsXorsRow.holds Tryd.pinned (OpenSpec.ofChange bitsXorsWrong)

/-- 'mooringlaw01.BitsZeros': WHATEVER THE INPUT: true; the input reads as it did. -/
def bitsZerosSpec : ChangeSpec := { name := "bitsZeros", fn := fun _ => fun
  | [d1, d2, d3] => { results := [.lit (.bool true)], args := [d1, d2, d3] }
  | _ => none }
def bitsZerosRow : OpenClaim := { program := "ythfjjphpnakgnaadoor", sum := "92330ce5fc65c47c02c433c833fda51574d2af6fdefd9d87b04da777415bb837", func := "mooring/mooringlaw01.BitsZeros", spec := "bitsZeros", named := ["math/bits.deBruijn64tab"], apart := false, laid := [("math/bits.deBruijn64tab", laid_math_bits_deBruijn64tab)] }
def BitsZerosSaid : Prop := bitsZerosRow.holds Tryd.pinned (OpenSpec.ofChange bitsZerosSpec)

/-- ITS FALSE NEIGHBOUR: 'it returns false'. Refute it at one input. -/
def bitsZerosWrong : ChangeSpec := { name := "bitsZeros", fn := fun _ => fun
  | [d1, d2, d3] => { results := [.lit (.bool false)], args := [d1, d2, d3] }
  | _ => none }
def BitsZerosWrongFalsely : Prop := bitsZerosRow.holds Tryd.pinned (OpenSpec.ofChange bitsZerosWrong)

/- THE SECOND FORM. 'bulk': how many values and letters a reading holds, each counted each time it is reached (what is shared counts as often as it is met; a slice's spare places count too). A statement '..UptoSaid' is the law's where the arguments, and the package variables that the reading takes, are together of bulk at most 1048576: NARROWER than '..Said'. Prove '..Said' where nothing that the law and all that it calls make is longer than what came in: it says more and counts as full. Else prove '..UptoSaid'. A law counts once. -/
mutual
def uptoBulk {H : Type} : DataW H → Nat
  | .lit (.string bytes) => bytes.length + 1
  | .lit _ => 1
  | .nil => 1
  | .ptr d => uptoBulk d + 1
  | .slice elems spare => uptoBulkAll elems + uptoBulkAll spare + 1
  | .agg parts => uptoBulkAll parts + 1
  | .iface _ d => uptoBulk d + 1
  | .map entries => uptoBulkEntries entries + 1
  | .held _ => 1
def uptoBulkAll {H : Type} : List (DataW H) → Nat
  | [] => 0
  | d :: r => uptoBulk d + uptoBulkAll r
def uptoBulkEntries {H : Type} : List (Lit × DataW H) → Nat
  | [] => 0
  | x :: r => uptoBulkEntry x + uptoBulkEntries r
def uptoBulkEntry {H : Type} : Lit × DataW H → Nat
  | (.string bytes, d) => bytes.length + uptoBulk d + 1
  | (_, d) => uptoBulk d + 1
 end
def uptoSmall : (H : Type) → List (DataW H) → Bool := fun _ ds => decide (uptoBulkAll ds ≤ 1048576)
def OpenSpec.upto (s : _root_.Go.ChangeSpec) : _root_.Go.OpenSpec := { _root_.Go.OpenSpec.ofChange s with cond := some uptoSmall }

/-- 'mooringlaw01.BitsMatchesReference', WHERE WHAT IT READS IS OF BULK AT MOST 1048576: true; the input reads as it did. -/
def bitsMatchesReferenceUptoRow : OpenClaim := { program := "ythfjjphpnakgnaadoor", sum := "92330ce5fc65c47c02c433c833fda51574d2af6fdefd9d87b04da777415bb837", func := "mooring/mooringlaw01.BitsMatchesReference", spec := "bitsMatchesReference", named := ["math/bits.deBruijn64tab"], apart := false, laid := [("math/bits.deBruijn64tab", laid_math_bits_deBruijn64tab)], narrowed := true }
def BitsMatchesReferenceUptoSaid : Prop := bitsMatchesReferenceUptoRow.holds Tryd.pinned (OpenSpec.upto bitsMatchesReferenceSpec)

/-- 'mooringlaw01.BitsNumbers', WHERE WHAT IT READS IS OF BULK AT MOST 1048576: true; the input reads as it did. -/
def bitsNumbersUptoRow : OpenClaim := { program := "ythfjjphpnakgnaadoor", sum := "92330ce5fc65c47c02c433c833fda51574d2af6fdefd9d87b04da777415bb837", func := "mooring/mooringlaw01.BitsNumbers", spec := "bitsNumbers", named := ["math/bits.deBruijn64tab"], apart := false, laid := [("math/bits.deBruijn64tab", laid_math_bits_deBruijn64tab)], narrowed := true }
def BitsNumbersUptoSaid : Prop := bitsNumbersUptoRow.holds Tryd.pinned (OpenSpec.upto bitsNumbersSpec)

/-- 'mooringlaw01.BitsRotates', WHERE WHAT IT READS IS OF BULK AT MOST 1048576: true; the input reads as it did. -/
def bitsRotatesUptoRow : OpenClaim := { program := "ythfjjphpnakgnaadoor", sum := "92330ce5fc65c47c02c433c833fda51574d2af6fdefd9d87b04da777415bb837", func := "mooring/mooringlaw01.BitsRotates", spec := "bitsRotates", named := ["math/bits.deBruijn64tab"], apart := false, laid := [("math/bits.deBruijn64tab", laid_math_bits_deBruijn64tab)], narrowed := true }
def BitsRotatesUptoSaid : Prop := bitsRotatesUptoRow.holds Tryd.pinned (OpenSpec.upto bitsRotatesSpec)

/-- 'mooringlaw01.BitsXors', WHERE WHAT IT READS IS OF BULK AT MOST 1048576: true; the input reads as it did. -/
def bitsXorsUptoRow : OpenClaim := { program := "ythfjjphpnakgnaadoor", sum := "92330ce5fc65c47c02c433c833fda51574d2af6fdefd9d87b04da777415bb837", func := "mooring/mooringlaw01.BitsXors", spec := "bitsXors", named := ["math/bits.deBruijn64tab"], apart := false, laid := [("math/bits.deBruijn64tab", laid_math_bits_deBruijn64tab)], narrowed := true }
def BitsXorsUptoSaid : Prop := bitsXorsUptoRow.holds Tryd.pinned (OpenSpec.upto bitsXorsSpec)

/-- 'mooringlaw01.BitsZeros', WHERE WHAT IT READS IS OF BULK AT MOST 1048576: true; the input reads as it did. -/
def bitsZerosUptoRow : OpenClaim := { program := "ythfjjphpnakgnaadoor", sum := "92330ce5fc65c47c02c433c833fda51574d2af6fdefd9d87b04da777415bb837", func := "mooring/mooringlaw01.BitsZeros", spec := "bitsZeros", named := ["math/bits.deBruijn64tab"], apart := false, laid := [("math/bits.deBruijn64tab", laid_math_bits_deBruijn64tab)], narrowed := true }
def BitsZerosUptoSaid : Prop := bitsZerosUptoRow.holds Tryd.pinned (OpenSpec.upto bitsZerosSpec)

end Rows
end Go.Proofs.YthfjjphpnakgnaaDoor
