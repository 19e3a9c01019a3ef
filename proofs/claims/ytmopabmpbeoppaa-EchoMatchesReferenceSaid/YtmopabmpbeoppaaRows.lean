/-
  No cell of these rows narrows 'for every input' (looked for: loops, veiled, ifaces, maps, wideKeys, modest, calm, conditions, laid).
  DERIVED. THE GIVEN ROWS OF THIS SEAT. 5 by the template 'for every input the law returns true; each argument reads behind the call as it read before'; 0 by the template 'total and deterministic' (their statements: YtmopabmpbeoppaaTotals.lean).
  GIVEN WITH THE SEED: the statements are not yours to turn. If you find one false, say at which input.
  Laid BY PROGRAM, IN A SANDBOX (cutbox-rows.mjs): the forced cells as the released guide's own fill.sh prints them over the translation eaf10e6318da3285… (all of the seat's roots in one cut). By AI agents, Wed Nov 11 2026. No macro, syntax, notation, axiom, sorry.
-/
import Derived.Test.YtmopabmpbeoppaaChecked
import GoSem.Claim
import GoSem.ClaimJoined
import GoSem.ClaimMapViews
import Derived.JoinedTies
import Derived.KernelRfl
namespace Go.Proofs.Ytmopabmpbeoppaa
/- THE CELL 'sum', in the pinned program and in every row, IS THE sha256 OF THE DUMP (.gsa) THAT YtmopabmpbeoppaaProg.lean LOADS. Nothing in Lean hashes anything: it is a label: what it is worth is what the hold of that sum in a sandbox is worth. -/
noncomputable def Try.pinned : Pinned := { name := "ytmopabmpbeoppaa", sum := "eaf10e6318da3285f504f1b89e8175f01f2cb5d2dccebad2ce73b81f3f5e1951", checked := Try.checked }
namespace Rows
def none {H : Type} : Left H := { results := [], args := [] }

/-- 'mooringlaw20.EchoMatchesReference': WHATEVER THE INPUT: true; the input reads as it did. -/
def echoMatchesReferenceSpec : ChangeSpec := { name := "echoMatchesReference", fn := fun _ => fun
  | [d1, d2] => { results := [.lit (.bool true)], args := [d1, d2] }
  | _ => none }
def echoMatchesReferenceRow : OpenClaim := { program := "ytmopabmpbeoppaa", sum := "eaf10e6318da3285f504f1b89e8175f01f2cb5d2dccebad2ce73b81f3f5e1951", func := "mooring/mooringlaw20.EchoMatchesReference", spec := "echoMatchesReference", apart := false }
def EchoMatchesReferenceSaid : Prop := echoMatchesReferenceRow.holds Try.pinned (OpenSpec.ofChange echoMatchesReferenceSpec)

/-- ITS FALSE NEIGHBOUR: 'it returns false'. Refute it at one input. -/
def echoMatchesReferenceWrong : ChangeSpec := { name := "echoMatchesReference", fn := fun _ => fun
  | [d1, d2] => { results := [.lit (.bool false)], args := [d1, d2] }
  | _ => none }
def EchoMatchesReferenceWrongFalsely : Prop := echoMatchesReferenceRow.holds Try.pinned (OpenSpec.ofChange echoMatchesReferenceWrong)

/-- 'mooringlaw20.EchoOnce': WHATEVER THE INPUT: true; the input reads as it did. -/
def echoOnceSpec : ChangeSpec := { name := "echoOnce", fn := fun _ => fun
  | [d1, d2, d3] => { results := [.lit (.bool true)], args := [d1, d2, d3] }
  | _ => none }
def echoOnceRow : OpenClaim := { program := "ytmopabmpbeoppaa", sum := "eaf10e6318da3285f504f1b89e8175f01f2cb5d2dccebad2ce73b81f3f5e1951", func := "mooring/mooringlaw20.EchoOnce", spec := "echoOnce", apart := false }
def EchoOnceSaid : Prop := echoOnceRow.holds Try.pinned (OpenSpec.ofChange echoOnceSpec)

/-- ITS FALSE NEIGHBOUR: 'it returns false'. Refute it at one input. -/
def echoOnceWrong : ChangeSpec := { name := "echoOnce", fn := fun _ => fun
  | [d1, d2, d3] => { results := [.lit (.bool false)], args := [d1, d2, d3] }
  | _ => none }
def EchoOnceWrongFalsely : Prop := echoOnceRow.holds Try.pinned (OpenSpec.ofChange echoOnceWrong)

/-- 'mooringlaw20.EchoSamples': WHATEVER THE INPUT: true; the input reads as it did. -/
def echoSamplesSpec : ChangeSpec := { name := "echoSamples", fn := fun _ => fun
  | [d] => { results := [.lit (.bool true)], args := [d] }
  | _ => none }
def echoSamplesRow : OpenClaim := { program := "ytmopabmpbeoppaa", sum := "eaf10e6318da3285f504f1b89e8175f01f2cb5d2dccebad2ce73b81f3f5e1951", func := "mooring/mooringlaw20.EchoSamples", spec := "echoSamples", apart := false }
def EchoSamplesSaid : Prop := echoSamplesRow.holds Try.pinned (OpenSpec.ofChange echoSamplesSpec)

/-- ITS FALSE NEIGHBOUR: 'it returns false'. Refute it at one input. -/
def echoSamplesWrong : ChangeSpec := { name := "echoSamples", fn := fun _ => fun
  | [d] => { results := [.lit (.bool false)], args := [d] }
  | _ => none }
def EchoSamplesWrongFalsely : Prop := echoSamplesRow.holds Try.pinned (OpenSpec.ofChange echoSamplesWrong)

/-- 'mooringlaw20.EchoBounds': WHATEVER THE INPUT: true; the input reads as it did. -/
def echoBoundsSpec : ChangeSpec := { name := "echoBounds", fn := fun _ => fun
  | [d] => { results := [.lit (.bool true)], args := [d] }
  | _ => none }
def echoBoundsRow : OpenClaim := { program := "ytmopabmpbeoppaa", sum := "eaf10e6318da3285f504f1b89e8175f01f2cb5d2dccebad2ce73b81f3f5e1951", func := "mooring/mooringlaw20.EchoBounds", spec := "echoBounds", apart := false }
def EchoBoundsSaid : Prop := echoBoundsRow.holds Try.pinned (OpenSpec.ofChange echoBoundsSpec)

/-- ITS FALSE NEIGHBOUR: 'it returns false'. Refute it at one input. -/
def echoBoundsWrong : ChangeSpec := { name := "echoBounds", fn := fun _ => fun
  | [d] => { results := [.lit (.bool false)], args := [d] }
  | _ => none }
def EchoBoundsWrongFalsely : Prop := echoBoundsRow.holds Try.pinned (OpenSpec.ofChange echoBoundsWrong)

/-- 'mooringlaw20.EchoLatest': WHATEVER THE INPUT: true; the input reads as it did. -/
def echoLatestSpec : ChangeSpec := { name := "echoLatest", fn := fun _ => fun
  | [d1, d2, d3] => { results := [.lit (.bool true)], args := [d1, d2, d3] }
  | _ => none }
def echoLatestRow : OpenClaim := { program := "ytmopabmpbeoppaa", sum := "eaf10e6318da3285f504f1b89e8175f01f2cb5d2dccebad2ce73b81f3f5e1951", func := "mooring/mooringlaw20.EchoLatest", spec := "echoLatest", apart := false }
def EchoLatestSaid : Prop := echoLatestRow.holds Try.pinned (OpenSpec.ofChange echoLatestSpec)

/-- ITS FALSE NEIGHBOUR: 'it returns false'. Refute it at one input. -/
def echoLatestWrong : ChangeSpec := { name := "echoLatest", fn := fun _ => fun
  | [d1, d2, d3] => { results := [.lit (.bool false)], args := [d1, d2, d3] }
  | _ => none }
def EchoLatestWrongFalsely : Prop := echoLatestRow.holds Try.pinned (OpenSpec.ofChange echoLatestWrong)

/- THE SECOND FORM. 'bulk': how many values and letters a reading holds, each counted each time it is reached (what is shared counts as often as it is met; a slice's spare places count too). A statement '..UptoSaid' is the law's where the arguments, and the package variables that the reading takes, are together of bulk at most 1048576: NARROWER than '..Said'. Prove '..Said' where nothing that the law and all that it calls make is longer than what came in: it says more and counts as full. Else prove '..UptoSaid'. A law counts once. -/
mutual
def uptoBulk {H : Type} : DataW H → Nat
  | .lit (.string bytes) => bytes.length + 1
  | .lit _ => 1
  | .nil => 1
  | .ptr d => uptoBulk d + 1
  | .slice elems spare => uptoBulkAll elems + uptoBulkAll spare + 1
  | .agg parts => uptoBulkAll parts + 1
  | .iface _ d => uptoBulk d + 1
  | .map entries => uptoBulkEntries entries + 1
  | .held _ => 1
def uptoBulkAll {H : Type} : List (DataW H) → Nat
  | [] => 0
  | d :: r => uptoBulk d + uptoBulkAll r
def uptoBulkEntries {H : Type} : List (Lit × DataW H) → Nat
  | [] => 0
  | x :: r => uptoBulkEntry x + uptoBulkEntries r
def uptoBulkEntry {H : Type} : Lit × DataW H → Nat
  | (.string bytes, d) => bytes.length + uptoBulk d + 1
  | (_, d) => uptoBulk d + 1
 end
def uptoSmall : (H : Type) → List (DataW H) → Bool := fun _ ds => decide (uptoBulkAll ds ≤ 1048576)
def OpenSpec.upto (s : _root_.Go.ChangeSpec) : _root_.Go.OpenSpec := { _root_.Go.OpenSpec.ofChange s with cond := some uptoSmall }

/-- 'mooringlaw20.EchoMatchesReference', WHERE WHAT IT READS IS OF BULK AT MOST 1048576: true; the input reads as it did. -/
def echoMatchesReferenceUptoRow : OpenClaim := { program := "ytmopabmpbeoppaa", sum := "eaf10e6318da3285f504f1b89e8175f01f2cb5d2dccebad2ce73b81f3f5e1951", func := "mooring/mooringlaw20.EchoMatchesReference", spec := "echoMatchesReference", apart := false, narrowed := true }
def EchoMatchesReferenceUptoSaid : Prop := echoMatchesReferenceUptoRow.holds Try.pinned (OpenSpec.upto echoMatchesReferenceSpec)

/-- 'mooringlaw20.EchoOnce', WHERE WHAT IT READS IS OF BULK AT MOST 1048576: true; the input reads as it did. -/
def echoOnceUptoRow : OpenClaim := { program := "ytmopabmpbeoppaa", sum := "eaf10e6318da3285f504f1b89e8175f01f2cb5d2dccebad2ce73b81f3f5e1951", func := "mooring/mooringlaw20.EchoOnce", spec := "echoOnce", apart := false, narrowed := true }
def EchoOnceUptoSaid : Prop := echoOnceUptoRow.holds Try.pinned (OpenSpec.upto echoOnceSpec)

/-- 'mooringlaw20.EchoSamples', WHERE WHAT IT READS IS OF BULK AT MOST 1048576: true; the input reads as it did. -/
def echoSamplesUptoRow : OpenClaim := { program := "ytmopabmpbeoppaa", sum := "eaf10e6318da3285f504f1b89e8175f01f2cb5d2dccebad2ce73b81f3f5e1951", func := "mooring/mooringlaw20.EchoSamples", spec := "echoSamples", apart := false, narrowed := true }
def EchoSamplesUptoSaid : Prop := echoSamplesUptoRow.holds Try.pinned (OpenSpec.upto echoSamplesSpec)

/-- 'mooringlaw20.EchoBounds', WHERE WHAT IT READS IS OF BULK AT MOST 1048576: true; the input reads as it did. -/
def echoBoundsUptoRow : OpenClaim := { program := "ytmopabmpbeoppaa", sum := "eaf10e6318da3285f504f1b89e8175f01f2cb5d2dccebad2ce73b81f3f5e1951", func := "mooring/mooringlaw20.EchoBounds", spec := "echoBounds", apart := false, narrowed := true }
def EchoBoundsUptoSaid : Prop := echoBoundsUptoRow.holds Try.pinned (OpenSpec.upto echoBoundsSpec)

/-- 'mooringlaw20.EchoLatest', WHERE WHAT IT READS IS OF BULK AT MOST 1048576: true; the input reads as it did. -/
def echoLatestUptoRow : OpenClaim := { program := "ytmopabmpbeoppaa", sum := "eaf10e6318da3285f504f1b89e8175f01f2cb5d2dccebad2ce73b81f3f5e1951", func := "mooring/mooringlaw20.EchoLatest", spec := "echoLatest", apart := false, narrowed := true }
def EchoLatestUptoSaid : Prop := echoLatestUptoRow.holds Try.pinned (OpenSpec.upto echoLatestSpec)

end Rows
end Go.Proofs.Ytmopabmpbeoppaa
