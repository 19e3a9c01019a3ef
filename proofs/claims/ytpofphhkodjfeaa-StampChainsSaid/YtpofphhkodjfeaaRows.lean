/-
  No cell of these rows narrows 'for every input' (looked for: loops, veiled, ifaces, maps, wideKeys, modest, calm, conditions, laid).
  DERIVED. THE GIVEN ROWS OF THIS SEAT. 6 by the template 'for every input the law returns true; each argument reads behind the call as it read before'; 0 by the template 'total and deterministic' (their statements: YtpofphhkodjfeaaTotals.lean).
  GIVEN WITH THE SEED: the statements are not yours to turn. If you find one false, say at which input.
  Laid BY PROGRAM, IN A SANDBOX (cutbox-rows.mjs): the forced cells as the released guide's own fill.sh prints them over the translation eede49b41a78d7b9… (all of the seat's roots in one cut). By AI agents, Wed Nov 11 2026. No macro, syntax, notation, axiom, sorry.
-/
import Derived.Test.YtpofphhkodjfeaaChecked
import GoSem.Claim
import GoSem.ClaimJoined
import GoSem.ClaimMapViews
import Derived.JoinedTies
import Derived.KernelRfl
namespace Go.Proofs.Ytpofphhkodjfeaa
/- THE CELL 'sum', in the pinned program and in every row, IS THE sha256 OF THE DUMP (.gsa) THAT YtpofphhkodjfeaaProg.lean LOADS. Nothing in Lean hashes anything: it is a label: what it is worth is what the hold of that sum in a sandbox is worth. -/
noncomputable def Try.pinned : Pinned := { name := "ytpofphhkodjfeaa", sum := "eede49b41a78d7b957316aa86457d5090b9eeec8af01c77491b5a5f57ce36ec7", checked := Try.checked }
namespace Rows
def none {H : Type} : Left H := { results := [], args := [] }

/-- 'mooringlaw16.StampMatchesReference': WHATEVER THE INPUT: true; the input reads as it did. -/
def stampMatchesReferenceSpec : ChangeSpec := { name := "stampMatchesReference", fn := fun _ => fun
  | [d1, d2] => { results := [.lit (.bool true)], args := [d1, d2] }
  | _ => none }
def stampMatchesReferenceRow : OpenClaim := { program := "ytpofphhkodjfeaa", sum := "eede49b41a78d7b957316aa86457d5090b9eeec8af01c77491b5a5f57ce36ec7", func := "mooring/mooringlaw16.StampMatchesReference", spec := "stampMatchesReference", unfollowed := true, recurses := true, apart := false }
def StampMatchesReferenceSaid : Prop := stampMatchesReferenceRow.holds Try.pinned (OpenSpec.ofChange stampMatchesReferenceSpec)

/-- ITS FALSE NEIGHBOUR: 'it returns false'. Refute it at one input. -/
def stampMatchesReferenceWrong : ChangeSpec := { name := "stampMatchesReference", fn := fun _ => fun
  | [d1, d2] => { results := [.lit (.bool false)], args := [d1, d2] }
  | _ => none }
def StampMatchesReferenceWrongFalsely : Prop := stampMatchesReferenceRow.holds Try.pinned (OpenSpec.ofChange stampMatchesReferenceWrong)

/-- 'mooringlaw16.StampAdds': WHATEVER THE INPUT: true; the input reads as it did. -/
def stampAddsSpec : ChangeSpec := { name := "stampAdds", fn := fun _ => fun
  | [d1, d2] => { results := [.lit (.bool true)], args := [d1, d2] }
  | _ => none }
def stampAddsRow : OpenClaim := { program := "ytpofphhkodjfeaa", sum := "eede49b41a78d7b957316aa86457d5090b9eeec8af01c77491b5a5f57ce36ec7", func := "mooring/mooringlaw16.StampAdds", spec := "stampAdds", unfollowed := true, recurses := true, apart := false }
def StampAddsSaid : Prop := stampAddsRow.holds Try.pinned (OpenSpec.ofChange stampAddsSpec)

/-- ITS FALSE NEIGHBOUR: 'it returns false'. Refute it at one input. -/
def stampAddsWrong : ChangeSpec := { name := "stampAdds", fn := fun _ => fun
  | [d1, d2] => { results := [.lit (.bool false)], args := [d1, d2] }
  | _ => none }
def StampAddsWrongFalsely : Prop := stampAddsRow.holds Try.pinned (OpenSpec.ofChange stampAddsWrong)

/-- 'mooringlaw16.StampEchoes': WHATEVER THE INPUT: true; the input reads as it did. -/
def stampEchoesSpec : ChangeSpec := { name := "stampEchoes", fn := fun _ => fun
  | [d1, d2] => { results := [.lit (.bool true)], args := [d1, d2] }
  | _ => none }
def stampEchoesRow : OpenClaim := { program := "ytpofphhkodjfeaa", sum := "eede49b41a78d7b957316aa86457d5090b9eeec8af01c77491b5a5f57ce36ec7", func := "mooring/mooringlaw16.StampEchoes", spec := "stampEchoes", unfollowed := true, recurses := true, apart := false }
def StampEchoesSaid : Prop := stampEchoesRow.holds Try.pinned (OpenSpec.ofChange stampEchoesSpec)

/-- ITS FALSE NEIGHBOUR: 'it returns false'. Refute it at one input. -/
def stampEchoesWrong : ChangeSpec := { name := "stampEchoes", fn := fun _ => fun
  | [d1, d2] => { results := [.lit (.bool false)], args := [d1, d2] }
  | _ => none }
def StampEchoesWrongFalsely : Prop := stampEchoesRow.holds Try.pinned (OpenSpec.ofChange stampEchoesWrong)

/-- 'mooringlaw16.StampSamples': WHATEVER THE INPUT: true; the input reads as it did. -/
def stampSamplesSpec : ChangeSpec := { name := "stampSamples", fn := fun _ => fun
  | [d1, d2, d3] => { results := [.lit (.bool true)], args := [d1, d2, d3] }
  | _ => none }
def stampSamplesRow : OpenClaim := { program := "ytpofphhkodjfeaa", sum := "eede49b41a78d7b957316aa86457d5090b9eeec8af01c77491b5a5f57ce36ec7", func := "mooring/mooringlaw16.StampSamples", spec := "stampSamples", unfollowed := true, recurses := true, apart := false }
def StampSamplesSaid : Prop := stampSamplesRow.holds Try.pinned (OpenSpec.ofChange stampSamplesSpec)

/-- ITS FALSE NEIGHBOUR: 'it returns false'. Refute it at one input. -/
def stampSamplesWrong : ChangeSpec := { name := "stampSamples", fn := fun _ => fun
  | [d1, d2, d3] => { results := [.lit (.bool false)], args := [d1, d2, d3] }
  | _ => none }
def StampSamplesWrongFalsely : Prop := stampSamplesRow.holds Try.pinned (OpenSpec.ofChange stampSamplesWrong)

/-- 'mooringlaw16.StampBefore': WHATEVER THE INPUT: true; the input reads as it did. -/
def stampBeforeSpec : ChangeSpec := { name := "stampBefore", fn := fun _ => fun
  | [d1, d2, d3, d4] => { results := [.lit (.bool true)], args := [d1, d2, d3, d4] }
  | _ => none }
def stampBeforeRow : OpenClaim := { program := "ytpofphhkodjfeaa", sum := "eede49b41a78d7b957316aa86457d5090b9eeec8af01c77491b5a5f57ce36ec7", func := "mooring/mooringlaw16.StampBefore", spec := "stampBefore", unfollowed := true, recurses := true, apart := false }
def StampBeforeSaid : Prop := stampBeforeRow.holds Try.pinned (OpenSpec.ofChange stampBeforeSpec)

/-- ITS FALSE NEIGHBOUR: 'it returns false'. Refute it at one input. -/
def stampBeforeWrong : ChangeSpec := { name := "stampBefore", fn := fun _ => fun
  | [d1, d2, d3, d4] => { results := [.lit (.bool false)], args := [d1, d2, d3, d4] }
  | _ => none }
def StampBeforeWrongFalsely : Prop := stampBeforeRow.holds Try.pinned (OpenSpec.ofChange stampBeforeWrong)

/-- 'mooringlaw16.StampChains': WHATEVER THE INPUT: true; the input reads as it did. -/
def stampChainsSpec : ChangeSpec := { name := "stampChains", fn := fun _ => fun
  | [d1, d2, d3] => { results := [.lit (.bool true)], args := [d1, d2, d3] }
  | _ => none }
def stampChainsRow : OpenClaim := { program := "ytpofphhkodjfeaa", sum := "eede49b41a78d7b957316aa86457d5090b9eeec8af01c77491b5a5f57ce36ec7", func := "mooring/mooringlaw16.StampChains", spec := "stampChains", unfollowed := true, recurses := true, apart := false }
def StampChainsSaid : Prop := stampChainsRow.holds Try.pinned (OpenSpec.ofChange stampChainsSpec)

/-- ITS FALSE NEIGHBOUR: 'it returns false'. Refute it at one input. -/
def stampChainsWrong : ChangeSpec := { name := "stampChains", fn := fun _ => fun
  | [d1, d2, d3] => { results := [.lit (.bool false)], args := [d1, d2, d3] }
  | _ => none }
def StampChainsWrongFalsely : Prop := stampChainsRow.holds Try.pinned (OpenSpec.ofChange stampChainsWrong)

/- THE SECOND FORM. 'bulk': how many values and letters a reading holds, each counted each time it is reached (what is shared counts as often as it is met; a slice's spare places count too). A statement '..UptoSaid' is the law's where the arguments, and the package variables that the reading takes, are together of bulk at most 1048576: NARROWER than '..Said'. Prove '..Said' where nothing that the law and all that it calls make is longer than what came in: it says more and counts as full. Else prove '..UptoSaid'. A law counts once. -/
mutual
def uptoBulk {H : Type} : DataW H → Nat
  | .lit (.string bytes) => bytes.length + 1
  | .lit _ => 1
  | .nil => 1
  | .ptr d => uptoBulk d + 1
  | .slice elems spare => uptoBulkAll elems + uptoBulkAll spare + 1
  | .agg parts => uptoBulkAll parts + 1
  | .iface _ d => uptoBulk d + 1
  | .map entries => uptoBulkEntries entries + 1
  | .held _ => 1
def uptoBulkAll {H : Type} : List (DataW H) → Nat
  | [] => 0
  | d :: r => uptoBulk d + uptoBulkAll r
def uptoBulkEntries {H : Type} : List (Lit × DataW H) → Nat
  | [] => 0
  | x :: r => uptoBulkEntry x + uptoBulkEntries r
def uptoBulkEntry {H : Type} : Lit × DataW H → Nat
  | (.string bytes, d) => bytes.length + uptoBulk d + 1
  | (_, d) => uptoBulk d + 1
 end
def uptoSmall : (H : Type) → List (DataW H) → Bool := fun _ ds => decide (uptoBulkAll ds ≤ 1048576)
def OpenSpec.upto (s : _root_.Go.ChangeSpec) : _root_.Go.OpenSpec := { _root_.Go.OpenSpec.ofChange s with cond := some uptoSmall }

/-- 'mooringlaw16.StampMatchesReference', WHERE WHAT IT READS IS OF BULK AT MOST 1048576: true; the input reads as it did. -/
def stampMatchesReferenceUptoRow : OpenClaim := { program := "ytpofphhkodjfeaa", sum := "eede49b41a78d7b957316aa86457d5090b9eeec8af01c77491b5a5f57ce36ec7", func := "mooring/mooringlaw16.StampMatchesReference", spec := "stampMatchesReference", unfollowed := true, recurses := true, apart := false, narrowed := true }
def StampMatchesReferenceUptoSaid : Prop := stampMatchesReferenceUptoRow.holds Try.pinned (OpenSpec.upto stampMatchesReferenceSpec)

/-- 'mooringlaw16.StampAdds', WHERE WHAT IT READS IS OF BULK AT MOST 1048576: true; the input reads as it did. -/
def stampAddsUptoRow : OpenClaim := { program := "ytpofphhkodjfeaa", sum := "eede49b41a78d7b957316aa86457d5090b9eeec8af01c77491b5a5f57ce36ec7", func := "mooring/mooringlaw16.StampAdds", spec := "stampAdds", unfollowed := true, recurses := true, apart := false, narrowed := true }
def StampAddsUptoSaid : Prop := stampAddsUptoRow.holds Try.pinned (OpenSpec.upto stampAddsSpec)

/-- 'mooringlaw16.StampEchoes', WHERE WHAT IT READS IS OF BULK AT MOST 1048576: true; the input reads as it did. -/
def stampEchoesUptoRow : OpenClaim := { program := "ytpofphhkodjfeaa", sum := "eede49b41a78d7b957316aa86457d5090b9eeec8af01c77491b5a5f57ce36ec7", func := "mooring/mooringlaw16.StampEchoes", spec := "stampEchoes", unfollowed := true, recurses := true, apart := false, narrowed := true }
def StampEchoesUptoSaid : Prop := stampEchoesUptoRow.holds Try.pinned (OpenSpec.upto stampEchoesSpec)

/-- 'mooringlaw16.StampSamples', WHERE WHAT IT READS IS OF BULK AT MOST 1048576: true; the input reads as it did. -/
def stampSamplesUptoRow : OpenClaim := { program := "ytpofphhkodjfeaa", sum := "eede49b41a78d7b957316aa86457d5090b9eeec8af01c77491b5a5f57ce36ec7", func := "mooring/mooringlaw16.StampSamples", spec := "stampSamples", unfollowed := true, recurses := true, apart := false, narrowed := true }
def StampSamplesUptoSaid : Prop := stampSamplesUptoRow.holds Try.pinned (OpenSpec.upto stampSamplesSpec)

/-- 'mooringlaw16.StampBefore', WHERE WHAT IT READS IS OF BULK AT MOST 1048576: true; the input reads as it did. -/
def stampBeforeUptoRow : OpenClaim := { program := "ytpofphhkodjfeaa", sum := "eede49b41a78d7b957316aa86457d5090b9eeec8af01c77491b5a5f57ce36ec7", func := "mooring/mooringlaw16.StampBefore", spec := "stampBefore", unfollowed := true, recurses := true, apart := false, narrowed := true }
def StampBeforeUptoSaid : Prop := stampBeforeUptoRow.holds Try.pinned (OpenSpec.upto stampBeforeSpec)

/-- 'mooringlaw16.StampChains', WHERE WHAT IT READS IS OF BULK AT MOST 1048576: true; the input reads as it did. -/
def stampChainsUptoRow : OpenClaim := { program := "ytpofphhkodjfeaa", sum := "eede49b41a78d7b957316aa86457d5090b9eeec8af01c77491b5a5f57ce36ec7", func := "mooring/mooringlaw16.StampChains", spec := "stampChains", unfollowed := true, recurses := true, apart := false, narrowed := true }
def StampChainsUptoSaid : Prop := stampChainsUptoRow.holds Try.pinned (OpenSpec.upto stampChainsSpec)

end Rows
end Go.Proofs.Ytpofphhkodjfeaa
