/-
  No cell of these rows narrows 'for every input' (looked for: loops, veiled, ifaces, maps, wideKeys, modest, calm, conditions, laid).
  DERIVED. THE GIVEN ROWS OF THIS SEAT. 5 by the template 'for every input the law returns true; each argument reads behind the call as it read before'; 0 by the template 'total and deterministic' (their statements: YtdggedgailkceaaTotals.lean).
  GIVEN WITH THE SEED: the statements are not yours to turn. If you find one false, say at which input.
  Laid BY PROGRAM, IN A SANDBOX (cutbox-rows.mjs): the forced cells as the released guide's own fill.sh prints them over the translation 2d038a26dee910e7… (all of the seat's roots in one cut). By AI agents, Wed Nov 11 2026. No macro, syntax, notation, axiom, sorry.
-/
import Derived.Test.YtdggedgailkceaaChecked
import GoSem.Claim
import GoSem.ClaimJoined
import GoSem.ClaimMapViews
import Derived.JoinedTies
import Derived.KernelRfl
namespace Go.Proofs.Ytdggedgailkceaa
/- THE CELL 'sum', in the pinned program and in every row, IS THE sha256 OF THE DUMP (.gsa) THAT YtdggedgailkceaaProg.lean LOADS. Nothing in Lean hashes anything: it is a label: what it is worth is what the hold of that sum in a sandbox is worth. -/
noncomputable def Try.pinned : Pinned := { name := "ytdggedgailkceaa", sum := "2d038a26dee910e7c8405291d97d35fd1812f6a3adce7577941d80edcf50cbc4", checked := Try.checked }
namespace Rows
def none {H : Type} : Left H := { results := [], args := [] }

/-- 'mooringlaw08.BlockShifts': WHATEVER THE INPUT: true; the input reads as it did. -/
def blockShiftsSpec : ChangeSpec := { name := "blockShifts", fn := fun _ => fun
  | [d1, d2] => { results := [.lit (.bool true)], args := [d1, d2] }
  | _ => none }
def blockShiftsRow : OpenClaim := { program := "ytdggedgailkceaa", sum := "2d038a26dee910e7c8405291d97d35fd1812f6a3adce7577941d80edcf50cbc4", func := "mooring/mooringlaw08.BlockShifts", spec := "blockShifts", unfollowed := true, recurses := true, apart := false }
def BlockShiftsSaid : Prop := blockShiftsRow.holds Try.pinned (OpenSpec.ofChange blockShiftsSpec)

/-- ITS FALSE NEIGHBOUR: 'it returns false'. Refute it at one input. -/
def blockShiftsWrong : ChangeSpec := { name := "blockShifts", fn := fun _ => fun
  | [d1, d2] => { results := [.lit (.bool false)], args := [d1, d2] }
  | _ => none }
def BlockShiftsWrongFalsely : Prop := blockShiftsRow.holds Try.pinned (OpenSpec.ofChange blockShiftsWrong)

/-- 'mooringlaw08.BlockSplits': WHATEVER THE INPUT: true; the input reads as it did. -/
def blockSplitsSpec : ChangeSpec := { name := "blockSplits", fn := fun _ => fun
  | [d1, d2] => { results := [.lit (.bool true)], args := [d1, d2] }
  | _ => none }
def blockSplitsRow : OpenClaim := { program := "ytdggedgailkceaa", sum := "2d038a26dee910e7c8405291d97d35fd1812f6a3adce7577941d80edcf50cbc4", func := "mooring/mooringlaw08.BlockSplits", spec := "blockSplits", unfollowed := true, recurses := true, apart := false }
def BlockSplitsSaid : Prop := blockSplitsRow.holds Try.pinned (OpenSpec.ofChange blockSplitsSpec)

/-- ITS FALSE NEIGHBOUR: 'it returns false'. Refute it at one input. -/
def blockSplitsWrong : ChangeSpec := { name := "blockSplits", fn := fun _ => fun
  | [d1, d2] => { results := [.lit (.bool false)], args := [d1, d2] }
  | _ => none }
def BlockSplitsWrongFalsely : Prop := blockSplitsRow.holds Try.pinned (OpenSpec.ofChange blockSplitsWrong)

/-- 'mooringlaw08.BlockPads': WHATEVER THE INPUT: true; the input reads as it did. -/
def blockPadsSpec : ChangeSpec := { name := "blockPads", fn := fun _ => fun
  | [d] => { results := [.lit (.bool true)], args := [d] }
  | _ => none }
def blockPadsRow : OpenClaim := { program := "ytdggedgailkceaa", sum := "2d038a26dee910e7c8405291d97d35fd1812f6a3adce7577941d80edcf50cbc4", func := "mooring/mooringlaw08.BlockPads", spec := "blockPads", unfollowed := true, recurses := true, apart := false }
def BlockPadsSaid : Prop := blockPadsRow.holds Try.pinned (OpenSpec.ofChange blockPadsSpec)

/-- ITS FALSE NEIGHBOUR: 'it returns false'. Refute it at one input. -/
def blockPadsWrong : ChangeSpec := { name := "blockPads", fn := fun _ => fun
  | [d] => { results := [.lit (.bool false)], args := [d] }
  | _ => none }
def BlockPadsWrongFalsely : Prop := blockPadsRow.holds Try.pinned (OpenSpec.ofChange blockPadsWrong)

/-- 'mooringlaw08.BlockUnpads': WHATEVER THE INPUT: true; the input reads as it did. -/
def blockUnpadsSpec : ChangeSpec := { name := "blockUnpads", fn := fun _ => fun
  | [d] => { results := [.lit (.bool true)], args := [d] }
  | _ => none }
def blockUnpadsRow : OpenClaim := { program := "ytdggedgailkceaa", sum := "2d038a26dee910e7c8405291d97d35fd1812f6a3adce7577941d80edcf50cbc4", func := "mooring/mooringlaw08.BlockUnpads", spec := "blockUnpads", unfollowed := true, recurses := true, apart := false }
def BlockUnpadsSaid : Prop := blockUnpadsRow.holds Try.pinned (OpenSpec.ofChange blockUnpadsSpec)

/-- ITS FALSE NEIGHBOUR: 'it returns false'. Refute it at one input. -/
def blockUnpadsWrong : ChangeSpec := { name := "blockUnpads", fn := fun _ => fun
  | [d] => { results := [.lit (.bool false)], args := [d] }
  | _ => none }
def BlockUnpadsWrongFalsely : Prop := blockUnpadsRow.holds Try.pinned (OpenSpec.ofChange blockUnpadsWrong)

/-- 'mooringlaw08.BlockMatchesReference': WHATEVER THE INPUT: true; the input reads as it did. -/
def blockMatchesReferenceSpec : ChangeSpec := { name := "blockMatchesReference", fn := fun _ => fun
  | [d1, d2] => { results := [.lit (.bool true)], args := [d1, d2] }
  | _ => none }
def blockMatchesReferenceRow : OpenClaim := { program := "ytdggedgailkceaa", sum := "2d038a26dee910e7c8405291d97d35fd1812f6a3adce7577941d80edcf50cbc4", func := "mooring/mooringlaw08.BlockMatchesReference", spec := "blockMatchesReference", unfollowed := true, recurses := true, apart := false }
def BlockMatchesReferenceSaid : Prop := blockMatchesReferenceRow.holds Try.pinned (OpenSpec.ofChange blockMatchesReferenceSpec)

/-- ITS FALSE NEIGHBOUR: 'it returns false'. Refute it at one input. -/
def blockMatchesReferenceWrong : ChangeSpec := { name := "blockMatchesReference", fn := fun _ => fun
  | [d1, d2] => { results := [.lit (.bool false)], args := [d1, d2] }
  | _ => none }
def BlockMatchesReferenceWrongFalsely : Prop := blockMatchesReferenceRow.holds Try.pinned (OpenSpec.ofChange blockMatchesReferenceWrong)

/- THE SECOND FORM. 'bulk': how many values and letters a reading holds, each counted each time it is reached (what is shared counts as often as it is met; a slice's spare places count too). A statement '..UptoSaid' is the law's where the arguments, and the package variables that the reading takes, are together of bulk at most 1048576: NARROWER than '..Said'. Prove '..Said' where nothing that the law and all that it calls make is longer than what came in: it says more and counts as full. Else prove '..UptoSaid'. A law counts once. -/
mutual
def uptoBulk {H : Type} : DataW H → Nat
  | .lit (.string bytes) => bytes.length + 1
  | .lit _ => 1
  | .nil => 1
  | .ptr d => uptoBulk d + 1
  | .slice elems spare => uptoBulkAll elems + uptoBulkAll spare + 1
  | .agg parts => uptoBulkAll parts + 1
  | .iface _ d => uptoBulk d + 1
  | .map entries => uptoBulkEntries entries + 1
  | .held _ => 1
def uptoBulkAll {H : Type} : List (DataW H) → Nat
  | [] => 0
  | d :: r => uptoBulk d + uptoBulkAll r
def uptoBulkEntries {H : Type} : List (Lit × DataW H) → Nat
  | [] => 0
  | x :: r => uptoBulkEntry x + uptoBulkEntries r
def uptoBulkEntry {H : Type} : Lit × DataW H → Nat
  | (.string bytes, d) => bytes.length + uptoBulk d + 1
  | (_, d) => uptoBulk d + 1
 end
def uptoSmall : (H : Type) → List (DataW H) → Bool := fun _ ds => decide (uptoBulkAll ds ≤ 1048576)
def OpenSpec.upto (s : _root_.Go.ChangeSpec) : _root_.Go.OpenSpec := { _root_.Go.OpenSpec.ofChange s with cond := some uptoSmall }

/-- 'mooringlaw08.BlockShifts', WHERE WHAT IT READS IS OF BULK AT MOST 1048576: true; the input reads as it did. -/
def blockShiftsUptoRow : OpenClaim := { program := "ytdggedgailkceaa", sum := "2d038a26dee910e7c8405291d97d35fd1812f6a3adce7577941d80edcf50cbc4", func := "mooring/mooringlaw08.BlockShifts", spec := "blockShifts", unfollowed := true, recurses := true, apart := false, narrowed := true }
def BlockShiftsUptoSaid : Prop := blockShiftsUptoRow.holds Try.pinned (OpenSpec.upto blockShiftsSpec)

/-- 'mooringlaw08.BlockSplits', WHERE WHAT IT READS IS OF BULK AT MOST 1048576: true; the input reads as it did. -/
def blockSplitsUptoRow : OpenClaim := { program := "ytdggedgailkceaa", sum := "2d038a26dee910e7c8405291d97d35fd1812f6a3adce7577941d80edcf50cbc4", func := "mooring/mooringlaw08.BlockSplits", spec := "blockSplits", unfollowed := true, recurses := true, apart := false, narrowed := true }
def BlockSplitsUptoSaid : Prop := blockSplitsUptoRow.holds Try.pinned (OpenSpec.upto blockSplitsSpec)

/-- 'mooringlaw08.BlockPads', WHERE WHAT IT READS IS OF BULK AT MOST 1048576: true; the input reads as it did. -/
def blockPadsUptoRow : OpenClaim := { program := "ytdggedgailkceaa", sum := "2d038a26dee910e7c8405291d97d35fd1812f6a3adce7577941d80edcf50cbc4", func := "mooring/mooringlaw08.BlockPads", spec := "blockPads", unfollowed := true, recurses := true, apart := false, narrowed := true }
def BlockPadsUptoSaid : Prop := blockPadsUptoRow.holds Try.pinned (OpenSpec.upto blockPadsSpec)

/-- 'mooringlaw08.BlockUnpads', WHERE WHAT IT READS IS OF BULK AT MOST 1048576: true; the input reads as it did. -/
def blockUnpadsUptoRow : OpenClaim := { program := "ytdggedgailkceaa", sum := "2d038a26dee910e7c8405291d97d35fd1812f6a3adce7577941d80edcf50cbc4", func := "mooring/mooringlaw08.BlockUnpads", spec := "blockUnpads", unfollowed := true, recurses := true, apart := false, narrowed := true }
def BlockUnpadsUptoSaid : Prop := blockUnpadsUptoRow.holds Try.pinned (OpenSpec.upto blockUnpadsSpec)

/-- 'mooringlaw08.BlockMatchesReference', WHERE WHAT IT READS IS OF BULK AT MOST 1048576: true; the input reads as it did. -/
def blockMatchesReferenceUptoRow : OpenClaim := { program := "ytdggedgailkceaa", sum := "2d038a26dee910e7c8405291d97d35fd1812f6a3adce7577941d80edcf50cbc4", func := "mooring/mooringlaw08.BlockMatchesReference", spec := "blockMatchesReference", unfollowed := true, recurses := true, apart := false, narrowed := true }
def BlockMatchesReferenceUptoSaid : Prop := blockMatchesReferenceUptoRow.holds Try.pinned (OpenSpec.upto blockMatchesReferenceSpec)

end Rows
end Go.Proofs.Ytdggedgailkceaa
