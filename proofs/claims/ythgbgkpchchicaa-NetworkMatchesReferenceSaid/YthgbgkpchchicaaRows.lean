/-
  No cell of these rows narrows 'for every input' (looked for: loops, veiled, ifaces, maps, wideKeys, modest, calm, conditions, laid).
  DERIVED. THE GIVEN ROWS OF THIS SEAT. 5 by the template 'for every input the law returns true; each argument reads behind the call as it read before'; 0 by the template 'total and deterministic' (their statements: YthgbgkpchchicaaTotals.lean).
  GIVEN WITH THE SEED: the statements are not yours to turn. If you find one false, say at which input.
  Laid BY PROGRAM, IN A SANDBOX (cutbox-rows.mjs): the forced cells as the released guide's own fill.sh prints them over the translation 4efbf6a7169f06e8… (all of the seat's roots in one cut). By AI agents, Wed Nov 11 2026. No macro, syntax, notation, axiom, sorry.
-/
import Derived.Test.YthgbgkpchchicaaChecked
import GoSem.Claim
import GoSem.ClaimJoined
import GoSem.ClaimMapViews
import Derived.JoinedTies
import Derived.KernelRfl
namespace Go.Proofs.Ythgbgkpchchicaa
/- THE CELL 'sum', in the pinned program and in every row, IS THE sha256 OF THE DUMP (.gsa) THAT YthgbgkpchchicaaProg.lean LOADS. Nothing in Lean hashes anything: it is a label: what it is worth is what the hold of that sum in a sandbox is worth. -/
noncomputable def Try.pinned : Pinned := { name := "ythgbgkpchchicaa", sum := "4efbf6a7169f06e880133218dc4bd2c3133c271ba1890a3cb67dfb696319c3d4", checked := Try.checked }
namespace Rows
def none {H : Type} : Left H := { results := [], args := [] }

/-- 'mooringlaw23.NetworkFirst': WHATEVER THE INPUT: true; the input reads as it did. -/
def networkFirstSpec : ChangeSpec := { name := "networkFirst", fn := fun _ => fun
  | [d] => { results := [.lit (.bool true)], args := [d] }
  | _ => none }
def networkFirstRow : OpenClaim := { program := "ythgbgkpchchicaa", sum := "4efbf6a7169f06e880133218dc4bd2c3133c271ba1890a3cb67dfb696319c3d4", func := "mooring/mooringlaw23.NetworkFirst", spec := "networkFirst", unfollowed := true, recurses := true, apart := false }
def NetworkFirstSaid : Prop := networkFirstRow.holds Try.pinned (OpenSpec.ofChange networkFirstSpec)

/-- ITS FALSE NEIGHBOUR: 'it returns false'. Refute it at one input. -/
def networkFirstWrong : ChangeSpec := { name := "networkFirst", fn := fun _ => fun
  | [d] => { results := [.lit (.bool false)], args := [d] }
  | _ => none }
def NetworkFirstWrongFalsely : Prop := networkFirstRow.holds Try.pinned (OpenSpec.ofChange networkFirstWrong)

/-- 'mooringlaw23.NetworkMatchesReference': WHATEVER THE INPUT: true; the input reads as it did. -/
def networkMatchesReferenceSpec : ChangeSpec := { name := "networkMatchesReference", fn := fun _ => fun
  | [d] => { results := [.lit (.bool true)], args := [d] }
  | _ => none }
def networkMatchesReferenceRow : OpenClaim := { program := "ythgbgkpchchicaa", sum := "4efbf6a7169f06e880133218dc4bd2c3133c271ba1890a3cb67dfb696319c3d4", func := "mooring/mooringlaw23.NetworkMatchesReference", spec := "networkMatchesReference", unfollowed := true, recurses := true, apart := false }
def NetworkMatchesReferenceSaid : Prop := networkMatchesReferenceRow.holds Try.pinned (OpenSpec.ofChange networkMatchesReferenceSpec)

/-- ITS FALSE NEIGHBOUR: 'it returns false'. Refute it at one input. -/
def networkMatchesReferenceWrong : ChangeSpec := { name := "networkMatchesReference", fn := fun _ => fun
  | [d] => { results := [.lit (.bool false)], args := [d] }
  | _ => none }
def NetworkMatchesReferenceWrongFalsely : Prop := networkMatchesReferenceRow.holds Try.pinned (OpenSpec.ofChange networkMatchesReferenceWrong)

/-- 'mooringlaw23.NetworkIDs': WHATEVER THE INPUT: true; the input reads as it did. -/
def networkIDsSpec : ChangeSpec := { name := "networkIDs", fn := fun _ => fun
  | [d] => { results := [.lit (.bool true)], args := [d] }
  | _ => none }
def networkIDsRow : OpenClaim := { program := "ythgbgkpchchicaa", sum := "4efbf6a7169f06e880133218dc4bd2c3133c271ba1890a3cb67dfb696319c3d4", func := "mooring/mooringlaw23.NetworkIDs", spec := "networkIDs", unfollowed := true, recurses := true, apart := false }
def NetworkIDsSaid : Prop := networkIDsRow.holds Try.pinned (OpenSpec.ofChange networkIDsSpec)

/-- ITS FALSE NEIGHBOUR: 'it returns false'. Refute it at one input. -/
def networkIDsWrong : ChangeSpec := { name := "networkIDs", fn := fun _ => fun
  | [d] => { results := [.lit (.bool false)], args := [d] }
  | _ => none }
def NetworkIDsWrongFalsely : Prop := networkIDsRow.holds Try.pinned (OpenSpec.ofChange networkIDsWrong)

/-- 'mooringlaw23.NetworkCounts': WHATEVER THE INPUT: true; the input reads as it did. -/
def networkCountsSpec : ChangeSpec := { name := "networkCounts", fn := fun _ => fun
  | [d] => { results := [.lit (.bool true)], args := [d] }
  | _ => none }
def networkCountsRow : OpenClaim := { program := "ythgbgkpchchicaa", sum := "4efbf6a7169f06e880133218dc4bd2c3133c271ba1890a3cb67dfb696319c3d4", func := "mooring/mooringlaw23.NetworkCounts", spec := "networkCounts", unfollowed := true, recurses := true, apart := false }
def NetworkCountsSaid : Prop := networkCountsRow.holds Try.pinned (OpenSpec.ofChange networkCountsSpec)

/-- ITS FALSE NEIGHBOUR: 'it returns false'. Refute it at one input. -/
def networkCountsWrong : ChangeSpec := { name := "networkCounts", fn := fun _ => fun
  | [d] => { results := [.lit (.bool false)], args := [d] }
  | _ => none }
def NetworkCountsWrongFalsely : Prop := networkCountsRow.holds Try.pinned (OpenSpec.ofChange networkCountsWrong)

/-- 'mooringlaw23.NetworkKeeps': WHATEVER THE INPUT: true; the input reads as it did. -/
def networkKeepsSpec : ChangeSpec := { name := "networkKeeps", fn := fun _ => fun
  | [d] => { results := [.lit (.bool true)], args := [d] }
  | _ => none }
def networkKeepsRow : OpenClaim := { program := "ythgbgkpchchicaa", sum := "4efbf6a7169f06e880133218dc4bd2c3133c271ba1890a3cb67dfb696319c3d4", func := "mooring/mooringlaw23.NetworkKeeps", spec := "networkKeeps", unfollowed := true, recurses := true, apart := false }
def NetworkKeepsSaid : Prop := networkKeepsRow.holds Try.pinned (OpenSpec.ofChange networkKeepsSpec)

/-- ITS FALSE NEIGHBOUR: 'it returns false'. Refute it at one input. -/
def networkKeepsWrong : ChangeSpec := { name := "networkKeeps", fn := fun _ => fun
  | [d] => { results := [.lit (.bool false)], args := [d] }
  | _ => none }
def NetworkKeepsWrongFalsely : Prop := networkKeepsRow.holds Try.pinned (OpenSpec.ofChange networkKeepsWrong)

/- THE SECOND FORM. 'bulk': how many values and letters a reading holds, each counted each time it is reached (what is shared counts as often as it is met; a slice's spare places count too). A statement '..UptoSaid' is the law's where the arguments, and the package variables that the reading takes, are together of bulk at most 1048576: NARROWER than '..Said'. Prove '..Said' where nothing that the law and all that it calls make is longer than what came in: it says more and counts as full. Else prove '..UptoSaid'. A law counts once. -/
mutual
def uptoBulk {H : Type} : DataW H → Nat
  | .lit (.string bytes) => bytes.length + 1
  | .lit _ => 1
  | .nil => 1
  | .ptr d => uptoBulk d + 1
  | .slice elems spare => uptoBulkAll elems + uptoBulkAll spare + 1
  | .agg parts => uptoBulkAll parts + 1
  | .iface _ d => uptoBulk d + 1
  | .map entries => uptoBulkEntries entries + 1
  | .held _ => 1
def uptoBulkAll {H : Type} : List (DataW H) → Nat
  | [] => 0
  | d :: r => uptoBulk d + uptoBulkAll r
def uptoBulkEntries {H : Type} : List (Lit × DataW H) → Nat
  | [] => 0
  | x :: r => uptoBulkEntry x + uptoBulkEntries r
def uptoBulkEntry {H : Type} : Lit × DataW H → Nat
  | (.string bytes, d) => bytes.length + uptoBulk d + 1
  | (_, d) => uptoBulk d + 1
 end
def uptoSmall : (H : Type) → List (DataW H) → Bool := fun _ ds => decide (uptoBulkAll ds ≤ 1048576)
def OpenSpec.upto (s : _root_.Go.ChangeSpec) : _root_.Go.OpenSpec := { _root_.Go.OpenSpec.ofChange s with cond := some uptoSmall }

/-- 'mooringlaw23.NetworkFirst', WHERE WHAT IT READS IS OF BULK AT MOST 1048576: true; the input reads as it did. -/
def networkFirstUptoRow : OpenClaim := { program := "ythgbgkpchchicaa", sum := "4efbf6a7169f06e880133218dc4bd2c3133c271ba1890a3cb67dfb696319c3d4", func := "mooring/mooringlaw23.NetworkFirst", spec := "networkFirst", unfollowed := true, recurses := true, apart := false, narrowed := true }
def NetworkFirstUptoSaid : Prop := networkFirstUptoRow.holds Try.pinned (OpenSpec.upto networkFirstSpec)

/-- 'mooringlaw23.NetworkMatchesReference', WHERE WHAT IT READS IS OF BULK AT MOST 1048576: true; the input reads as it did. -/
def networkMatchesReferenceUptoRow : OpenClaim := { program := "ythgbgkpchchicaa", sum := "4efbf6a7169f06e880133218dc4bd2c3133c271ba1890a3cb67dfb696319c3d4", func := "mooring/mooringlaw23.NetworkMatchesReference", spec := "networkMatchesReference", unfollowed := true, recurses := true, apart := false, narrowed := true }
def NetworkMatchesReferenceUptoSaid : Prop := networkMatchesReferenceUptoRow.holds Try.pinned (OpenSpec.upto networkMatchesReferenceSpec)

/-- 'mooringlaw23.NetworkIDs', WHERE WHAT IT READS IS OF BULK AT MOST 1048576: true; the input reads as it did. -/
def networkIDsUptoRow : OpenClaim := { program := "ythgbgkpchchicaa", sum := "4efbf6a7169f06e880133218dc4bd2c3133c271ba1890a3cb67dfb696319c3d4", func := "mooring/mooringlaw23.NetworkIDs", spec := "networkIDs", unfollowed := true, recurses := true, apart := false, narrowed := true }
def NetworkIDsUptoSaid : Prop := networkIDsUptoRow.holds Try.pinned (OpenSpec.upto networkIDsSpec)

/-- 'mooringlaw23.NetworkCounts', WHERE WHAT IT READS IS OF BULK AT MOST 1048576: true; the input reads as it did. -/
def networkCountsUptoRow : OpenClaim := { program := "ythgbgkpchchicaa", sum := "4efbf6a7169f06e880133218dc4bd2c3133c271ba1890a3cb67dfb696319c3d4", func := "mooring/mooringlaw23.NetworkCounts", spec := "networkCounts", unfollowed := true, recurses := true, apart := false, narrowed := true }
def NetworkCountsUptoSaid : Prop := networkCountsUptoRow.holds Try.pinned (OpenSpec.upto networkCountsSpec)

/-- 'mooringlaw23.NetworkKeeps', WHERE WHAT IT READS IS OF BULK AT MOST 1048576: true; the input reads as it did. -/
def networkKeepsUptoRow : OpenClaim := { program := "ythgbgkpchchicaa", sum := "4efbf6a7169f06e880133218dc4bd2c3133c271ba1890a3cb67dfb696319c3d4", func := "mooring/mooringlaw23.NetworkKeeps", spec := "networkKeeps", unfollowed := true, recurses := true, apart := false, narrowed := true }
def NetworkKeepsUptoSaid : Prop := networkKeepsUptoRow.holds Try.pinned (OpenSpec.upto networkKeepsSpec)

end Rows
end Go.Proofs.Ythgbgkpchchicaa
