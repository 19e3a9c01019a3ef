/-
  DERIVED. GIVEN WITH THE SEED: THE CARDS: each row of YtgnegllehcpdpaaDoorRows.lean that lists a variable, with what it lists TIED to the program's text (the seventh form; the later family's looks); each row that meets fmt, with fmt's text TOLD by the authors' own Lean function (tested against real Go, not proved from fmt's source: count such statements apart). THE CARD IS WHAT COUNTS. Prove the row's statement (the work); the ties are given (YtgnegllehcpdpaaDoorTie.lean); close each card by the builder's one call (the guide's Derived/Test/ToyasCard.lean, 'card_holds'). Laid BY PROGRAM, IN A SANDBOX (cutbox-door.mjs). By AI agents, Wed Nov 11 2026. No macro, syntax, notation, axiom, sorry.
-/
import Derived.Test.YtgnegllehcpdpaaDoorRows
import GoSem.ClaimSeven
namespace Go.Proofs.YtgnegllehcpdpaaDoor
namespace Rows

/-- THE TIED CARD OF 'mooringlaw24.EventMatchesReference'. -/
def eventMatchesReferenceCard : Claim7 := { stood := { row := eventMatchesReferenceRow, standIns := [], harness := (true, "7250aafe2bab14f4b6fc9c3fa4b10c0439cf151fd71de21fc0c7743ae83ac681"), looks := false }, kinds := [], alts := [], laidByText := true, laidKinds := [.data, .data, .data, .data, .data, .data], laidTests := true, laidLooks := .later }
def EventMatchesReferenceCardSaid : Prop := Claim7.holds Tryd.pinned (.plain (OpenSpec.ofChange eventMatchesReferenceSpec)) eventMatchesReferenceCard

/-- THE TIED CARD OF 'mooringlaw24.EventChecks'. -/
def eventChecksCard : Claim7 := { stood := { row := eventChecksRow, standIns := [], harness := (true, "7250aafe2bab14f4b6fc9c3fa4b10c0439cf151fd71de21fc0c7743ae83ac681"), looks := false }, kinds := [], alts := [], laidByText := true, laidKinds := [.data, .data, .data, .data, .data, .data], laidTests := true, laidLooks := .later }
def EventChecksCardSaid : Prop := Claim7.holds Tryd.pinned (.plain (OpenSpec.ofChange eventChecksSpec)) eventChecksCard

/-- THE TIED CARD OF 'mooringlaw24.EventChooses'. -/
def eventChoosesCard : Claim7 := { stood := { row := eventChoosesRow, standIns := [], harness := (true, "7250aafe2bab14f4b6fc9c3fa4b10c0439cf151fd71de21fc0c7743ae83ac681"), looks := false }, kinds := [], alts := [], laidByText := true, laidKinds := [.data, .data, .data, .data, .data, .data], laidTests := true, laidLooks := .later }
def EventChoosesCardSaid : Prop := Claim7.holds Tryd.pinned (.plain (OpenSpec.ofChange eventChoosesSpec)) eventChoosesCard

/-- THE TIED CARD OF 'mooringlaw24.EventCodes'. -/
def eventCodesCard : Claim7 := { stood := { row := eventCodesRow, standIns := [], harness := (true, "7250aafe2bab14f4b6fc9c3fa4b10c0439cf151fd71de21fc0c7743ae83ac681"), looks := false }, kinds := [], alts := [], laidByText := true, laidKinds := [.data, .data, .data, .data, .data, .data], laidTests := true, laidLooks := .later }
def EventCodesCardSaid : Prop := Claim7.holds Tryd.pinned (.plain (OpenSpec.ofChange eventCodesSpec)) eventCodesCard

/-- THE TIED CARD OF 'mooringlaw24.EventBegins'. -/
def eventBeginsCard : Claim7 := { stood := { row := eventBeginsRow, standIns := [], harness := (true, "7250aafe2bab14f4b6fc9c3fa4b10c0439cf151fd71de21fc0c7743ae83ac681"), looks := false }, kinds := [], alts := [], laidByText := true, laidKinds := [.data, .data, .data, .data, .data, .data], laidTests := true, laidLooks := .later }
def EventBeginsCardSaid : Prop := Claim7.holds Tryd.pinned (.plain (OpenSpec.ofChange eventBeginsSpec)) eventBeginsCard

/-- THE SECOND FORM's CARD OF 'mooringlaw24.EventMatchesReference'. -/
def eventMatchesReferenceUptoCard : Claim7 := { stood := { row := eventMatchesReferenceUptoRow, standIns := [], harness := (true, "7250aafe2bab14f4b6fc9c3fa4b10c0439cf151fd71de21fc0c7743ae83ac681"), looks := false }, kinds := [], alts := [], laidByText := true, laidKinds := [.data, .data, .data, .data, .data, .data], laidTests := true, laidLooks := .later }
def EventMatchesReferenceUptoCardSaid : Prop := Claim7.holds Tryd.pinned (.plain (OpenSpec.upto eventMatchesReferenceSpec)) eventMatchesReferenceUptoCard

/-- THE SECOND FORM's CARD OF 'mooringlaw24.EventChecks'. -/
def eventChecksUptoCard : Claim7 := { stood := { row := eventChecksUptoRow, standIns := [], harness := (true, "7250aafe2bab14f4b6fc9c3fa4b10c0439cf151fd71de21fc0c7743ae83ac681"), looks := false }, kinds := [], alts := [], laidByText := true, laidKinds := [.data, .data, .data, .data, .data, .data], laidTests := true, laidLooks := .later }
def EventChecksUptoCardSaid : Prop := Claim7.holds Tryd.pinned (.plain (OpenSpec.upto eventChecksSpec)) eventChecksUptoCard

/-- THE SECOND FORM's CARD OF 'mooringlaw24.EventChooses'. -/
def eventChoosesUptoCard : Claim7 := { stood := { row := eventChoosesUptoRow, standIns := [], harness := (true, "7250aafe2bab14f4b6fc9c3fa4b10c0439cf151fd71de21fc0c7743ae83ac681"), looks := false }, kinds := [], alts := [], laidByText := true, laidKinds := [.data, .data, .data, .data, .data, .data], laidTests := true, laidLooks := .later }
def EventChoosesUptoCardSaid : Prop := Claim7.holds Tryd.pinned (.plain (OpenSpec.upto eventChoosesSpec)) eventChoosesUptoCard

/-- THE SECOND FORM's CARD OF 'mooringlaw24.EventCodes'. -/
def eventCodesUptoCard : Claim7 := { stood := { row := eventCodesUptoRow, standIns := [], harness := (true, "7250aafe2bab14f4b6fc9c3fa4b10c0439cf151fd71de21fc0c7743ae83ac681"), looks := false }, kinds := [], alts := [], laidByText := true, laidKinds := [.data, .data, .data, .data, .data, .data], laidTests := true, laidLooks := .later }
def EventCodesUptoCardSaid : Prop := Claim7.holds Tryd.pinned (.plain (OpenSpec.upto eventCodesSpec)) eventCodesUptoCard

/-- THE SECOND FORM's CARD OF 'mooringlaw24.EventBegins'. -/
def eventBeginsUptoCard : Claim7 := { stood := { row := eventBeginsUptoRow, standIns := [], harness := (true, "7250aafe2bab14f4b6fc9c3fa4b10c0439cf151fd71de21fc0c7743ae83ac681"), looks := false }, kinds := [], alts := [], laidByText := true, laidKinds := [.data, .data, .data, .data, .data, .data], laidTests := true, laidLooks := .later }
def EventBeginsUptoCardSaid : Prop := Claim7.holds Tryd.pinned (.plain (OpenSpec.upto eventBeginsSpec)) eventBeginsUptoCard
end Rows
end Go.Proofs.YtgnegllehcpdpaaDoor
