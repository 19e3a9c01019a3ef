/-
  No cell of these rows narrows 'for every input' (looked for: loops, veiled, ifaces, maps, wideKeys, modest, calm, conditions, laid).
  DERIVED. THE GIVEN ROWS OF THIS SEAT. 5 by the template 'for every input the law returns true; each argument reads behind the call as it read before'; 0 by the template 'total and deterministic' (their statements: YtjnnobdkidkagaaTotals.lean).
  GIVEN WITH THE SEED: the statements are not yours to turn. If you find one false, say at which input.
  Laid BY PROGRAM, IN A SANDBOX (cutbox-rows.mjs): the forced cells as the released guide's own fill.sh prints them over the translation 49db03cc741ff720… (all of the seat's roots in one cut). By AI agents, Wed Nov 11 2026. No macro, syntax, notation, axiom, sorry.
-/
import Derived.Test.YtjnnobdkidkagaaChecked
import GoSem.Claim
import GoSem.ClaimJoined
import GoSem.ClaimMapViews
import Derived.JoinedTies
import Derived.KernelRfl
namespace Go.Proofs.Ytjnnobdkidkagaa
/- THE CELL 'sum', in the pinned program and in every row, IS THE sha256 OF THE DUMP (.gsa) THAT YtjnnobdkidkagaaProg.lean LOADS. Nothing in Lean hashes anything: it is a label: what it is worth is what the hold of that sum in a sandbox is worth. -/
noncomputable def Try.pinned : Pinned := { name := "ytjnnobdkidkagaa", sum := "49db03cc741ff720105438a2afddae259377850152385874d157d3185ffa3367", checked := Try.checked }
namespace Rows
def none {H : Type} : Left H := { results := [], args := [] }

/-- 'mooringlaw19.FilterMatchesReference': WHATEVER THE INPUT: true; the input reads as it did. -/
def filterMatchesReferenceSpec : ChangeSpec := { name := "filterMatchesReference", fn := fun _ => fun
  | [d1, d2] => { results := [.lit (.bool true)], args := [d1, d2] }
  | _ => none }
def filterMatchesReferenceRow : OpenClaim := { program := "ytjnnobdkidkagaa", sum := "49db03cc741ff720105438a2afddae259377850152385874d157d3185ffa3367", func := "mooring/mooringlaw19.FilterMatchesReference", spec := "filterMatchesReference", apart := false }
def FilterMatchesReferenceSaid : Prop := filterMatchesReferenceRow.holds Try.pinned (OpenSpec.ofChange filterMatchesReferenceSpec)

/-- ITS FALSE NEIGHBOUR: 'it returns false'. Refute it at one input. -/
def filterMatchesReferenceWrong : ChangeSpec := { name := "filterMatchesReference", fn := fun _ => fun
  | [d1, d2] => { results := [.lit (.bool false)], args := [d1, d2] }
  | _ => none }
def FilterMatchesReferenceWrongFalsely : Prop := filterMatchesReferenceRow.holds Try.pinned (OpenSpec.ofChange filterMatchesReferenceWrong)

/-- 'mooringlaw19.FilterRises': WHATEVER THE INPUT: true; the input reads as it did. -/
def filterRisesSpec : ChangeSpec := { name := "filterRises", fn := fun _ => fun
  | [d] => { results := [.lit (.bool true)], args := [d] }
  | _ => none }
def filterRisesRow : OpenClaim := { program := "ytjnnobdkidkagaa", sum := "49db03cc741ff720105438a2afddae259377850152385874d157d3185ffa3367", func := "mooring/mooringlaw19.FilterRises", spec := "filterRises", apart := false }
def FilterRisesSaid : Prop := filterRisesRow.holds Try.pinned (OpenSpec.ofChange filterRisesSpec)

/-- ITS FALSE NEIGHBOUR: 'it returns false'. Refute it at one input. -/
def filterRisesWrong : ChangeSpec := { name := "filterRises", fn := fun _ => fun
  | [d] => { results := [.lit (.bool false)], args := [d] }
  | _ => none }
def FilterRisesWrongFalsely : Prop := filterRisesRow.holds Try.pinned (OpenSpec.ofChange filterRisesWrong)

/-- 'mooringlaw19.FilterAfter': WHATEVER THE INPUT: true; the input reads as it did. -/
def filterAfterSpec : ChangeSpec := { name := "filterAfter", fn := fun _ => fun
  | [d1, d2] => { results := [.lit (.bool true)], args := [d1, d2] }
  | _ => none }
def filterAfterRow : OpenClaim := { program := "ytjnnobdkidkagaa", sum := "49db03cc741ff720105438a2afddae259377850152385874d157d3185ffa3367", func := "mooring/mooringlaw19.FilterAfter", spec := "filterAfter", apart := false }
def FilterAfterSaid : Prop := filterAfterRow.holds Try.pinned (OpenSpec.ofChange filterAfterSpec)

/-- ITS FALSE NEIGHBOUR: 'it returns false'. Refute it at one input. -/
def filterAfterWrong : ChangeSpec := { name := "filterAfter", fn := fun _ => fun
  | [d1, d2] => { results := [.lit (.bool false)], args := [d1, d2] }
  | _ => none }
def FilterAfterWrongFalsely : Prop := filterAfterRow.holds Try.pinned (OpenSpec.ofChange filterAfterWrong)

/-- 'mooringlaw19.FilterRefuses': WHATEVER THE INPUT: true; the input reads as it did. -/
def filterRefusesSpec : ChangeSpec := { name := "filterRefuses", fn := fun _ => fun
  | [d1, d2, d3] => { results := [.lit (.bool true)], args := [d1, d2, d3] }
  | _ => none }
def filterRefusesRow : OpenClaim := { program := "ytjnnobdkidkagaa", sum := "49db03cc741ff720105438a2afddae259377850152385874d157d3185ffa3367", func := "mooring/mooringlaw19.FilterRefuses", spec := "filterRefuses", apart := false }
def FilterRefusesSaid : Prop := filterRefusesRow.holds Try.pinned (OpenSpec.ofChange filterRefusesSpec)

/-- ITS FALSE NEIGHBOUR: 'it returns false'. Refute it at one input. -/
def filterRefusesWrong : ChangeSpec := { name := "filterRefuses", fn := fun _ => fun
  | [d1, d2, d3] => { results := [.lit (.bool false)], args := [d1, d2, d3] }
  | _ => none }
def FilterRefusesWrongFalsely : Prop := filterRefusesRow.holds Try.pinned (OpenSpec.ofChange filterRefusesWrong)

/-- 'mooringlaw19.FilterSkips': WHATEVER THE INPUT: true; the input reads as it did. -/
def filterSkipsSpec : ChangeSpec := { name := "filterSkips", fn := fun _ => fun
  | [d] => { results := [.lit (.bool true)], args := [d] }
  | _ => none }
def filterSkipsRow : OpenClaim := { program := "ytjnnobdkidkagaa", sum := "49db03cc741ff720105438a2afddae259377850152385874d157d3185ffa3367", func := "mooring/mooringlaw19.FilterSkips", spec := "filterSkips", apart := false }
def FilterSkipsSaid : Prop := filterSkipsRow.holds Try.pinned (OpenSpec.ofChange filterSkipsSpec)

/-- ITS FALSE NEIGHBOUR: 'it returns false'. Refute it at one input. -/
def filterSkipsWrong : ChangeSpec := { name := "filterSkips", fn := fun _ => fun
  | [d] => { results := [.lit (.bool false)], args := [d] }
  | _ => none }
def FilterSkipsWrongFalsely : Prop := filterSkipsRow.holds Try.pinned (OpenSpec.ofChange filterSkipsWrong)

/- THE SECOND FORM. 'bulk': how many values and letters a reading holds, each counted each time it is reached (what is shared counts as often as it is met; a slice's spare places count too). A statement '..UptoSaid' is the law's where the arguments, and the package variables that the reading takes, are together of bulk at most 1048576: NARROWER than '..Said'. Prove '..Said' where nothing that the law and all that it calls make is longer than what came in: it says more and counts as full. Else prove '..UptoSaid'. A law counts once. -/
mutual
def uptoBulk {H : Type} : DataW H → Nat
  | .lit (.string bytes) => bytes.length + 1
  | .lit _ => 1
  | .nil => 1
  | .ptr d => uptoBulk d + 1
  | .slice elems spare => uptoBulkAll elems + uptoBulkAll spare + 1
  | .agg parts => uptoBulkAll parts + 1
  | .iface _ d => uptoBulk d + 1
  | .map entries => uptoBulkEntries entries + 1
  | .held _ => 1
def uptoBulkAll {H : Type} : List (DataW H) → Nat
  | [] => 0
  | d :: r => uptoBulk d + uptoBulkAll r
def uptoBulkEntries {H : Type} : List (Lit × DataW H) → Nat
  | [] => 0
  | x :: r => uptoBulkEntry x + uptoBulkEntries r
def uptoBulkEntry {H : Type} : Lit × DataW H → Nat
  | (.string bytes, d) => bytes.length + uptoBulk d + 1
  | (_, d) => uptoBulk d + 1
 end
def uptoSmall : (H : Type) → List (DataW H) → Bool := fun _ ds => decide (uptoBulkAll ds ≤ 1048576)
def OpenSpec.upto (s : _root_.Go.ChangeSpec) : _root_.Go.OpenSpec := { _root_.Go.OpenSpec.ofChange s with cond := some uptoSmall }

/-- 'mooringlaw19.FilterMatchesReference', WHERE WHAT IT READS IS OF BULK AT MOST 1048576: true; the input reads as it did. -/
def filterMatchesReferenceUptoRow : OpenClaim := { program := "ytjnnobdkidkagaa", sum := "49db03cc741ff720105438a2afddae259377850152385874d157d3185ffa3367", func := "mooring/mooringlaw19.FilterMatchesReference", spec := "filterMatchesReference", apart := false, narrowed := true }
def FilterMatchesReferenceUptoSaid : Prop := filterMatchesReferenceUptoRow.holds Try.pinned (OpenSpec.upto filterMatchesReferenceSpec)

/-- 'mooringlaw19.FilterRises', WHERE WHAT IT READS IS OF BULK AT MOST 1048576: true; the input reads as it did. -/
def filterRisesUptoRow : OpenClaim := { program := "ytjnnobdkidkagaa", sum := "49db03cc741ff720105438a2afddae259377850152385874d157d3185ffa3367", func := "mooring/mooringlaw19.FilterRises", spec := "filterRises", apart := false, narrowed := true }
def FilterRisesUptoSaid : Prop := filterRisesUptoRow.holds Try.pinned (OpenSpec.upto filterRisesSpec)

/-- 'mooringlaw19.FilterAfter', WHERE WHAT IT READS IS OF BULK AT MOST 1048576: true; the input reads as it did. -/
def filterAfterUptoRow : OpenClaim := { program := "ytjnnobdkidkagaa", sum := "49db03cc741ff720105438a2afddae259377850152385874d157d3185ffa3367", func := "mooring/mooringlaw19.FilterAfter", spec := "filterAfter", apart := false, narrowed := true }
def FilterAfterUptoSaid : Prop := filterAfterUptoRow.holds Try.pinned (OpenSpec.upto filterAfterSpec)

/-- 'mooringlaw19.FilterRefuses', WHERE WHAT IT READS IS OF BULK AT MOST 1048576: true; the input reads as it did. -/
def filterRefusesUptoRow : OpenClaim := { program := "ytjnnobdkidkagaa", sum := "49db03cc741ff720105438a2afddae259377850152385874d157d3185ffa3367", func := "mooring/mooringlaw19.FilterRefuses", spec := "filterRefuses", apart := false, narrowed := true }
def FilterRefusesUptoSaid : Prop := filterRefusesUptoRow.holds Try.pinned (OpenSpec.upto filterRefusesSpec)

/-- 'mooringlaw19.FilterSkips', WHERE WHAT IT READS IS OF BULK AT MOST 1048576: true; the input reads as it did. -/
def filterSkipsUptoRow : OpenClaim := { program := "ytjnnobdkidkagaa", sum := "49db03cc741ff720105438a2afddae259377850152385874d157d3185ffa3367", func := "mooring/mooringlaw19.FilterSkips", spec := "filterSkips", apart := false, narrowed := true }
def FilterSkipsUptoSaid : Prop := filterSkipsUptoRow.holds Try.pinned (OpenSpec.upto filterSkipsSpec)

end Rows
end Go.Proofs.Ytjnnobdkidkagaa
