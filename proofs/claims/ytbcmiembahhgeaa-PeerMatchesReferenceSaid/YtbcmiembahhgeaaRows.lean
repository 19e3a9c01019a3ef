/-
  No cell of these rows narrows 'for every input' (looked for: loops, veiled, ifaces, maps, wideKeys, modest, calm, conditions, laid).
  DERIVED. THE GIVEN ROWS OF THIS SEAT. 4 by the template 'for every input the law returns true; each argument reads behind the call as it read before'; 0 by the template 'total and deterministic' (their statements: YtbcmiembahhgeaaTotals.lean).
  GIVEN WITH THE SEED: the statements are not yours to turn. If you find one false, say at which input.
  Laid BY PROGRAM, IN A SANDBOX (cutbox-rows.mjs): the forced cells as the released guide's own fill.sh prints them over the translation 6fde14fde1c9d5f9… (all of the seat's roots in one cut). By AI agents, Wed Nov 11 2026. No macro, syntax, notation, axiom, sorry.
-/
import Derived.Test.YtbcmiembahhgeaaChecked
import GoSem.Claim
import GoSem.ClaimJoined
import GoSem.ClaimMapViews
import Derived.JoinedTies
import Derived.KernelRfl
namespace Go.Proofs.Ytbcmiembahhgeaa
/- THE CELL 'sum', in the pinned program and in every row, IS THE sha256 OF THE DUMP (.gsa) THAT YtbcmiembahhgeaaProg.lean LOADS. Nothing in Lean hashes anything: it is a label: what it is worth is what the hold of that sum in a sandbox is worth. -/
noncomputable def Try.pinned : Pinned := { name := "ytbcmiembahhgeaa", sum := "6fde14fde1c9d5f937bbbe9e7f3c937e003b75d86614e61e862a741bf74c8b57", checked := Try.checked }
namespace Rows
def none {H : Type} : Left H := { results := [], args := [] }

/-- 'mooringlaw21.PeerMatchesReference': WHATEVER THE INPUT: true; the input reads as it did. -/
def peerMatchesReferenceSpec : ChangeSpec := { name := "peerMatchesReference", fn := fun _ => fun
  | [d1, d2, d3] => { results := [.lit (.bool true)], args := [d1, d2, d3] }
  | _ => none }
def peerMatchesReferenceRow : OpenClaim := { program := "ytbcmiembahhgeaa", sum := "6fde14fde1c9d5f937bbbe9e7f3c937e003b75d86614e61e862a741bf74c8b57", func := "mooring/mooringlaw21.PeerMatchesReference", spec := "peerMatchesReference", inPlace := ["internal/bytealg.IndexByteString", "internal/bytealg.IndexString"], unfollowed := true, recurses := true, named := ["internal/bytealg.MaxLen"], plainKeys := false, apart := false }
def PeerMatchesReferenceSaid : Prop := peerMatchesReferenceRow.holds Try.pinned (OpenSpec.ofChange peerMatchesReferenceSpec)

/-- ITS FALSE NEIGHBOUR: 'it returns false'. Refute it at one input. -/
def peerMatchesReferenceWrong : ChangeSpec := { name := "peerMatchesReference", fn := fun _ => fun
  | [d1, d2, d3] => { results := [.lit (.bool false)], args := [d1, d2, d3] }
  | _ => none }
def PeerMatchesReferenceWrongFalsely : Prop := peerMatchesReferenceRow.holds Try.pinned (OpenSpec.ofChange peerMatchesReferenceWrong)

/-- 'mooringlaw21.PeerRights': WHATEVER THE INPUT: true; the input reads as it did. -/
def peerRightsSpec : ChangeSpec := { name := "peerRights", fn := fun _ => fun
  | [d1, d2] => { results := [.lit (.bool true)], args := [d1, d2] }
  | _ => none }
def peerRightsRow : OpenClaim := { program := "ytbcmiembahhgeaa", sum := "6fde14fde1c9d5f937bbbe9e7f3c937e003b75d86614e61e862a741bf74c8b57", func := "mooring/mooringlaw21.PeerRights", spec := "peerRights", inPlace := ["internal/bytealg.IndexByteString", "internal/bytealg.IndexString"], unfollowed := true, recurses := true, named := ["internal/bytealg.MaxLen"], plainKeys := false, apart := false }
def PeerRightsSaid : Prop := peerRightsRow.holds Try.pinned (OpenSpec.ofChange peerRightsSpec)

/-- ITS FALSE NEIGHBOUR: 'it returns false'. Refute it at one input. -/
def peerRightsWrong : ChangeSpec := { name := "peerRights", fn := fun _ => fun
  | [d1, d2] => { results := [.lit (.bool false)], args := [d1, d2] }
  | _ => none }
def PeerRightsWrongFalsely : Prop := peerRightsRow.holds Try.pinned (OpenSpec.ofChange peerRightsWrong)

/-- 'mooringlaw21.PeerLong': WHATEVER THE INPUT: true; the input reads as it did. -/
def peerLongSpec : ChangeSpec := { name := "peerLong", fn := fun _ => fun
  | [d] => { results := [.lit (.bool true)], args := [d] }
  | _ => none }
def peerLongRow : OpenClaim := { program := "ytbcmiembahhgeaa", sum := "6fde14fde1c9d5f937bbbe9e7f3c937e003b75d86614e61e862a741bf74c8b57", func := "mooring/mooringlaw21.PeerLong", spec := "peerLong", inPlace := ["internal/bytealg.IndexByteString", "internal/bytealg.IndexString"], unfollowed := true, recurses := true, named := ["internal/bytealg.MaxLen"], plainKeys := false, apart := false }
def PeerLongSaid : Prop := peerLongRow.holds Try.pinned (OpenSpec.ofChange peerLongSpec)

/-- ITS FALSE NEIGHBOUR: 'it returns false'. Refute it at one input. -/
def peerLongWrong : ChangeSpec := { name := "peerLong", fn := fun _ => fun
  | [d] => { results := [.lit (.bool false)], args := [d] }
  | _ => none }
def PeerLongWrongFalsely : Prop := peerLongRow.holds Try.pinned (OpenSpec.ofChange peerLongWrong)

/-- 'mooringlaw21.PeerNil': WHATEVER THE INPUT: true; the input reads as it did. -/
def peerNilSpec : ChangeSpec := { name := "peerNil", fn := fun _ => fun
  | [d] => { results := [.lit (.bool true)], args := [d] }
  | _ => none }
def peerNilRow : OpenClaim := { program := "ytbcmiembahhgeaa", sum := "6fde14fde1c9d5f937bbbe9e7f3c937e003b75d86614e61e862a741bf74c8b57", func := "mooring/mooringlaw21.PeerNil", spec := "peerNil", inPlace := ["internal/bytealg.IndexByteString", "internal/bytealg.IndexString"], unfollowed := true, recurses := true, named := ["internal/bytealg.MaxLen"], plainKeys := false, apart := false }
def PeerNilSaid : Prop := peerNilRow.holds Try.pinned (OpenSpec.ofChange peerNilSpec)

/-- ITS FALSE NEIGHBOUR: 'it returns false'. Refute it at one input. -/
def peerNilWrong : ChangeSpec := { name := "peerNil", fn := fun _ => fun
  | [d] => { results := [.lit (.bool false)], args := [d] }
  | _ => none }
def PeerNilWrongFalsely : Prop := peerNilRow.holds Try.pinned (OpenSpec.ofChange peerNilWrong)

/- THE SECOND FORM. 'bulk': how many values and letters a reading holds, each counted each time it is reached (what is shared counts as often as it is met; a slice's spare places count too). A statement '..UptoSaid' is the law's where the arguments, and the package variables that the reading takes, are together of bulk at most 1048576: NARROWER than '..Said'. Prove '..Said' where nothing that the law and all that it calls make is longer than what came in: it says more and counts as full. Else prove '..UptoSaid'. A law counts once. -/
mutual
def uptoBulk {H : Type} : DataW H → Nat
  | .lit (.string bytes) => bytes.length + 1
  | .lit _ => 1
  | .nil => 1
  | .ptr d => uptoBulk d + 1
  | .slice elems spare => uptoBulkAll elems + uptoBulkAll spare + 1
  | .agg parts => uptoBulkAll parts + 1
  | .iface _ d => uptoBulk d + 1
  | .map entries => uptoBulkEntries entries + 1
  | .held _ => 1
def uptoBulkAll {H : Type} : List (DataW H) → Nat
  | [] => 0
  | d :: r => uptoBulk d + uptoBulkAll r
def uptoBulkEntries {H : Type} : List (Lit × DataW H) → Nat
  | [] => 0
  | x :: r => uptoBulkEntry x + uptoBulkEntries r
def uptoBulkEntry {H : Type} : Lit × DataW H → Nat
  | (.string bytes, d) => bytes.length + uptoBulk d + 1
  | (_, d) => uptoBulk d + 1
 end
def uptoSmall : (H : Type) → List (DataW H) → Bool := fun _ ds => decide (uptoBulkAll ds ≤ 1048576)
def OpenSpec.upto (s : _root_.Go.ChangeSpec) : _root_.Go.OpenSpec := { _root_.Go.OpenSpec.ofChange s with cond := some uptoSmall }

/-- 'mooringlaw21.PeerMatchesReference', WHERE WHAT IT READS IS OF BULK AT MOST 1048576: true; the input reads as it did. -/
def peerMatchesReferenceUptoRow : OpenClaim := { program := "ytbcmiembahhgeaa", sum := "6fde14fde1c9d5f937bbbe9e7f3c937e003b75d86614e61e862a741bf74c8b57", func := "mooring/mooringlaw21.PeerMatchesReference", spec := "peerMatchesReference", inPlace := ["internal/bytealg.IndexByteString", "internal/bytealg.IndexString"], unfollowed := true, recurses := true, named := ["internal/bytealg.MaxLen"], plainKeys := false, apart := false, narrowed := true }
def PeerMatchesReferenceUptoSaid : Prop := peerMatchesReferenceUptoRow.holds Try.pinned (OpenSpec.upto peerMatchesReferenceSpec)

/-- 'mooringlaw21.PeerRights', WHERE WHAT IT READS IS OF BULK AT MOST 1048576: true; the input reads as it did. -/
def peerRightsUptoRow : OpenClaim := { program := "ytbcmiembahhgeaa", sum := "6fde14fde1c9d5f937bbbe9e7f3c937e003b75d86614e61e862a741bf74c8b57", func := "mooring/mooringlaw21.PeerRights", spec := "peerRights", inPlace := ["internal/bytealg.IndexByteString", "internal/bytealg.IndexString"], unfollowed := true, recurses := true, named := ["internal/bytealg.MaxLen"], plainKeys := false, apart := false, narrowed := true }
def PeerRightsUptoSaid : Prop := peerRightsUptoRow.holds Try.pinned (OpenSpec.upto peerRightsSpec)

/-- 'mooringlaw21.PeerLong', WHERE WHAT IT READS IS OF BULK AT MOST 1048576: true; the input reads as it did. -/
def peerLongUptoRow : OpenClaim := { program := "ytbcmiembahhgeaa", sum := "6fde14fde1c9d5f937bbbe9e7f3c937e003b75d86614e61e862a741bf74c8b57", func := "mooring/mooringlaw21.PeerLong", spec := "peerLong", inPlace := ["internal/bytealg.IndexByteString", "internal/bytealg.IndexString"], unfollowed := true, recurses := true, named := ["internal/bytealg.MaxLen"], plainKeys := false, apart := false, narrowed := true }
def PeerLongUptoSaid : Prop := peerLongUptoRow.holds Try.pinned (OpenSpec.upto peerLongSpec)

/-- 'mooringlaw21.PeerNil', WHERE WHAT IT READS IS OF BULK AT MOST 1048576: true; the input reads as it did. -/
def peerNilUptoRow : OpenClaim := { program := "ytbcmiembahhgeaa", sum := "6fde14fde1c9d5f937bbbe9e7f3c937e003b75d86614e61e862a741bf74c8b57", func := "mooring/mooringlaw21.PeerNil", spec := "peerNil", inPlace := ["internal/bytealg.IndexByteString", "internal/bytealg.IndexString"], unfollowed := true, recurses := true, named := ["internal/bytealg.MaxLen"], plainKeys := false, apart := false, narrowed := true }
def PeerNilUptoSaid : Prop := peerNilUptoRow.holds Try.pinned (OpenSpec.upto peerNilSpec)

end Rows
end Go.Proofs.Ytbcmiembahhgeaa
