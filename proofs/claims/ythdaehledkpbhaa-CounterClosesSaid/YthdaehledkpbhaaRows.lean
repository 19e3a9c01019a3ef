/-
  No cell of these rows narrows 'for every input' (looked for: loops, veiled, ifaces, maps, wideKeys, modest, calm, conditions, laid).
  DERIVED. THE GIVEN ROWS OF THIS SEAT. 5 by the template 'for every input the law returns true; each argument reads behind the call as it read before'; 0 by the template 'total and deterministic' (their statements: YthdaehledkpbhaaTotals.lean).
  GIVEN WITH THE SEED: the statements are not yours to turn. If you find one false, say at which input.
  Laid BY PROGRAM, IN A SANDBOX (cutbox-rows.mjs): the forced cells as the released guide's own fill.sh prints them over the translation 075e078444fad2dd… (all of the seat's roots in one cut). By AI agents, Wed Nov 11 2026. No macro, syntax, notation, axiom, sorry.
-/
import Derived.Test.YthdaehledkpbhaaChecked
import GoSem.Claim
import GoSem.ClaimJoined
import GoSem.ClaimMapViews
import Derived.JoinedTies
import Derived.KernelRfl
namespace Go.Proofs.Ythdaehledkpbhaa
/- THE CELL 'sum', in the pinned program and in every row, IS THE sha256 OF THE DUMP (.gsa) THAT YthdaehledkpbhaaProg.lean LOADS. Nothing in Lean hashes anything: it is a label: what it is worth is what the hold of that sum in a sandbox is worth. -/
noncomputable def Try.pinned : Pinned := { name := "ythdaehledkpbhaa", sum := "075e078444fad2ddcb609faa6374bc0659a907cebf26aed4af92b1ca6e1531ef", checked := Try.checked }
namespace Rows
def none {H : Type} : Left H := { results := [], args := [] }

/-- 'mooringlaw18.CounterRises': WHATEVER THE INPUT: true; the input reads as it did. -/
def counterRisesSpec : ChangeSpec := { name := "counterRises", fn := fun _ => fun
  | [d1, d2] => { results := [.lit (.bool true)], args := [d1, d2] }
  | _ => none }
def counterRisesRow : OpenClaim := { program := "ythdaehledkpbhaa", sum := "075e078444fad2ddcb609faa6374bc0659a907cebf26aed4af92b1ca6e1531ef", func := "mooring/mooringlaw18.CounterRises", spec := "counterRises", unfollowed := true, recurses := true, apart := false }
def CounterRisesSaid : Prop := counterRisesRow.holds Try.pinned (OpenSpec.ofChange counterRisesSpec)

/-- ITS FALSE NEIGHBOUR: 'it returns false'. Refute it at one input. -/
def counterRisesWrong : ChangeSpec := { name := "counterRises", fn := fun _ => fun
  | [d1, d2] => { results := [.lit (.bool false)], args := [d1, d2] }
  | _ => none }
def CounterRisesWrongFalsely : Prop := counterRisesRow.holds Try.pinned (OpenSpec.ofChange counterRisesWrong)

/-- 'mooringlaw18.CounterPeeks': WHATEVER THE INPUT: true; the input reads as it did. -/
def counterPeeksSpec : ChangeSpec := { name := "counterPeeks", fn := fun _ => fun
  | [d1, d2] => { results := [.lit (.bool true)], args := [d1, d2] }
  | _ => none }
def counterPeeksRow : OpenClaim := { program := "ythdaehledkpbhaa", sum := "075e078444fad2ddcb609faa6374bc0659a907cebf26aed4af92b1ca6e1531ef", func := "mooring/mooringlaw18.CounterPeeks", spec := "counterPeeks", unfollowed := true, recurses := true, apart := false }
def CounterPeeksSaid : Prop := counterPeeksRow.holds Try.pinned (OpenSpec.ofChange counterPeeksSpec)

/-- ITS FALSE NEIGHBOUR: 'it returns false'. Refute it at one input. -/
def counterPeeksWrong : ChangeSpec := { name := "counterPeeks", fn := fun _ => fun
  | [d1, d2] => { results := [.lit (.bool false)], args := [d1, d2] }
  | _ => none }
def CounterPeeksWrongFalsely : Prop := counterPeeksRow.holds Try.pinned (OpenSpec.ofChange counterPeeksWrong)

/-- 'mooringlaw18.CounterMatchesReference': WHATEVER THE INPUT: true; the input reads as it did. -/
def counterMatchesReferenceSpec : ChangeSpec := { name := "counterMatchesReference", fn := fun _ => fun
  | [d1, d2] => { results := [.lit (.bool true)], args := [d1, d2] }
  | _ => none }
def counterMatchesReferenceRow : OpenClaim := { program := "ythdaehledkpbhaa", sum := "075e078444fad2ddcb609faa6374bc0659a907cebf26aed4af92b1ca6e1531ef", func := "mooring/mooringlaw18.CounterMatchesReference", spec := "counterMatchesReference", unfollowed := true, recurses := true, apart := false }
def CounterMatchesReferenceSaid : Prop := counterMatchesReferenceRow.holds Try.pinned (OpenSpec.ofChange counterMatchesReferenceSpec)

/-- ITS FALSE NEIGHBOUR: 'it returns false'. Refute it at one input. -/
def counterMatchesReferenceWrong : ChangeSpec := { name := "counterMatchesReference", fn := fun _ => fun
  | [d1, d2] => { results := [.lit (.bool false)], args := [d1, d2] }
  | _ => none }
def CounterMatchesReferenceWrongFalsely : Prop := counterMatchesReferenceRow.holds Try.pinned (OpenSpec.ofChange counterMatchesReferenceWrong)

/-- 'mooringlaw18.CounterLarge': WHATEVER THE INPUT: true; the input reads as it did. -/
def counterLargeSpec : ChangeSpec := { name := "counterLarge", fn := fun _ => fun
  | [d] => { results := [.lit (.bool true)], args := [d] }
  | _ => none }
def counterLargeRow : OpenClaim := { program := "ythdaehledkpbhaa", sum := "075e078444fad2ddcb609faa6374bc0659a907cebf26aed4af92b1ca6e1531ef", func := "mooring/mooringlaw18.CounterLarge", spec := "counterLarge", unfollowed := true, recurses := true, apart := false }
def CounterLargeSaid : Prop := counterLargeRow.holds Try.pinned (OpenSpec.ofChange counterLargeSpec)

/-- ITS FALSE NEIGHBOUR: 'it returns false'. Refute it at one input. -/
def counterLargeWrong : ChangeSpec := { name := "counterLarge", fn := fun _ => fun
  | [d] => { results := [.lit (.bool false)], args := [d] }
  | _ => none }
def CounterLargeWrongFalsely : Prop := counterLargeRow.holds Try.pinned (OpenSpec.ofChange counterLargeWrong)

/-- 'mooringlaw18.CounterCloses': WHATEVER THE INPUT: true; the input reads as it did. -/
def counterClosesSpec : ChangeSpec := { name := "counterCloses", fn := fun _ => fun
  | [d1, d2] => { results := [.lit (.bool true)], args := [d1, d2] }
  | _ => none }
def counterClosesRow : OpenClaim := { program := "ythdaehledkpbhaa", sum := "075e078444fad2ddcb609faa6374bc0659a907cebf26aed4af92b1ca6e1531ef", func := "mooring/mooringlaw18.CounterCloses", spec := "counterCloses", unfollowed := true, recurses := true, apart := false }
def CounterClosesSaid : Prop := counterClosesRow.holds Try.pinned (OpenSpec.ofChange counterClosesSpec)

/-- ITS FALSE NEIGHBOUR: 'it returns false'. Refute it at one input. -/
def counterClosesWrong : ChangeSpec := { name := "counterCloses", fn := fun _ => fun
  | [d1, d2] => { results := [.lit (.bool false)], args := [d1, d2] }
  | _ => none }
def CounterClosesWrongFalsely : Prop := counterClosesRow.holds Try.pinned (OpenSpec.ofChange counterClosesWrong)

/- THE SECOND FORM. 'bulk': how many values and letters a reading holds, each counted each time it is reached (what is shared counts as often as it is met; a slice's spare places count too). A statement '..UptoSaid' is the law's where the arguments, and the package variables that the reading takes, are together of bulk at most 1048576: NARROWER than '..Said'. Prove '..Said' where nothing that the law and all that it calls make is longer than what came in: it says more and counts as full. Else prove '..UptoSaid'. A law counts once. -/
mutual
def uptoBulk {H : Type} : DataW H → Nat
  | .lit (.string bytes) => bytes.length + 1
  | .lit _ => 1
  | .nil => 1
  | .ptr d => uptoBulk d + 1
  | .slice elems spare => uptoBulkAll elems + uptoBulkAll spare + 1
  | .agg parts => uptoBulkAll parts + 1
  | .iface _ d => uptoBulk d + 1
  | .map entries => uptoBulkEntries entries + 1
  | .held _ => 1
def uptoBulkAll {H : Type} : List (DataW H) → Nat
  | [] => 0
  | d :: r => uptoBulk d + uptoBulkAll r
def uptoBulkEntries {H : Type} : List (Lit × DataW H) → Nat
  | [] => 0
  | x :: r => uptoBulkEntry x + uptoBulkEntries r
def uptoBulkEntry {H : Type} : Lit × DataW H → Nat
  | (.string bytes, d) => bytes.length + uptoBulk d + 1
  | (_, d) => uptoBulk d + 1
 end
def uptoSmall : (H : Type) → List (DataW H) → Bool := fun _ ds => decide (uptoBulkAll ds ≤ 1048576)
def OpenSpec.upto (s : _root_.Go.ChangeSpec) : _root_.Go.OpenSpec := { _root_.Go.OpenSpec.ofChange s with cond := some uptoSmall }

/-- 'mooringlaw18.CounterRises', WHERE WHAT IT READS IS OF BULK AT MOST 1048576: true; the input reads as it did. -/
def counterRisesUptoRow : OpenClaim := { program := "ythdaehledkpbhaa", sum := "075e078444fad2ddcb609faa6374bc0659a907cebf26aed4af92b1ca6e1531ef", func := "mooring/mooringlaw18.CounterRises", spec := "counterRises", unfollowed := true, recurses := true, apart := false, narrowed := true }
def CounterRisesUptoSaid : Prop := counterRisesUptoRow.holds Try.pinned (OpenSpec.upto counterRisesSpec)

/-- 'mooringlaw18.CounterPeeks', WHERE WHAT IT READS IS OF BULK AT MOST 1048576: true; the input reads as it did. -/
def counterPeeksUptoRow : OpenClaim := { program := "ythdaehledkpbhaa", sum := "075e078444fad2ddcb609faa6374bc0659a907cebf26aed4af92b1ca6e1531ef", func := "mooring/mooringlaw18.CounterPeeks", spec := "counterPeeks", unfollowed := true, recurses := true, apart := false, narrowed := true }
def CounterPeeksUptoSaid : Prop := counterPeeksUptoRow.holds Try.pinned (OpenSpec.upto counterPeeksSpec)

/-- 'mooringlaw18.CounterMatchesReference', WHERE WHAT IT READS IS OF BULK AT MOST 1048576: true; the input reads as it did. -/
def counterMatchesReferenceUptoRow : OpenClaim := { program := "ythdaehledkpbhaa", sum := "075e078444fad2ddcb609faa6374bc0659a907cebf26aed4af92b1ca6e1531ef", func := "mooring/mooringlaw18.CounterMatchesReference", spec := "counterMatchesReference", unfollowed := true, recurses := true, apart := false, narrowed := true }
def CounterMatchesReferenceUptoSaid : Prop := counterMatchesReferenceUptoRow.holds Try.pinned (OpenSpec.upto counterMatchesReferenceSpec)

/-- 'mooringlaw18.CounterLarge', WHERE WHAT IT READS IS OF BULK AT MOST 1048576: true; the input reads as it did. -/
def counterLargeUptoRow : OpenClaim := { program := "ythdaehledkpbhaa", sum := "075e078444fad2ddcb609faa6374bc0659a907cebf26aed4af92b1ca6e1531ef", func := "mooring/mooringlaw18.CounterLarge", spec := "counterLarge", unfollowed := true, recurses := true, apart := false, narrowed := true }
def CounterLargeUptoSaid : Prop := counterLargeUptoRow.holds Try.pinned (OpenSpec.upto counterLargeSpec)

/-- 'mooringlaw18.CounterCloses', WHERE WHAT IT READS IS OF BULK AT MOST 1048576: true; the input reads as it did. -/
def counterClosesUptoRow : OpenClaim := { program := "ythdaehledkpbhaa", sum := "075e078444fad2ddcb609faa6374bc0659a907cebf26aed4af92b1ca6e1531ef", func := "mooring/mooringlaw18.CounterCloses", spec := "counterCloses", unfollowed := true, recurses := true, apart := false, narrowed := true }
def CounterClosesUptoSaid : Prop := counterClosesUptoRow.holds Try.pinned (OpenSpec.upto counterClosesSpec)

end Rows
end Go.Proofs.Ythdaehledkpbhaa
