/-
  DERIVED. GIVEN WITH THE SEED: THE CARDS: each row of YtojfghfgaljkkaaDoorRows.lean that lists a variable, with what it lists TIED to the program's text (the seventh form; the later family's looks); each row that meets fmt, with fmt's text TOLD by the authors' own Lean function (tested against real Go, not proved from fmt's source: count such statements apart). THE CARD IS WHAT COUNTS. Prove the row's statement (the work); the ties are given (YtojfghfgaljkkaaDoorTie.lean); close each card by the builder's one call (the guide's Derived/Test/ToyasCard.lean, 'card_holds'). Laid BY PROGRAM, IN A SANDBOX (cutbox-door.mjs). By AI agents, Wed Nov 11 2026. No macro, syntax, notation, axiom, sorry.
-/
import Derived.Test.YtojfghfgaljkkaaDoorRows
import GoSem.ClaimSeven
namespace Go.Proofs.YtojfghfgaljkkaaDoor
namespace Rows

/-- THE TIED CARD OF 'mooringlaw14.TextMatchesReference'. -/
def textMatchesReferenceCard : Claim7 := { stood := { row := textMatchesReferenceRow, standIns := [], harness := (true, "b60f61c655db733ee6a689e7a697cbc4ba6f1e700e2c10a557544e48c0724d65"), looks := true }, kinds := [], alts := [], laidByText := true, laidKinds := [.handle, .data], laidTests := true, laidLooks := .later }
def TextMatchesReferenceCardSaid : Prop := Claim7.holds Tryd.pinned (.plain (OpenSpec.ofChange textMatchesReferenceSpec)) textMatchesReferenceCard

/-- THE TIED CARD OF 'mooringlaw14.TextParses'. -/
def textParsesCard : Claim7 := { stood := { row := textParsesRow, standIns := [], harness := (true, "b60f61c655db733ee6a689e7a697cbc4ba6f1e700e2c10a557544e48c0724d65"), looks := true }, kinds := [], alts := [], laidByText := true, laidKinds := [.handle, .data], laidTests := true, laidLooks := .later }
def TextParsesCardSaid : Prop := Claim7.holds Tryd.pinned (.plain (OpenSpec.ofChange textParsesSpec)) textParsesCard

/-- THE TIED CARD OF 'mooringlaw14.TextValues'. -/
def textValuesCard : Claim7 := { stood := { row := textValuesRow, standIns := [], harness := (true, "b60f61c655db733ee6a689e7a697cbc4ba6f1e700e2c10a557544e48c0724d65"), looks := true }, kinds := [], alts := [], laidByText := true, laidKinds := [.handle, .data], laidTests := true, laidLooks := .later }
def TextValuesCardSaid : Prop := Claim7.holds Tryd.pinned (.plain (OpenSpec.ofChange textValuesSpec)) textValuesCard

/-- THE TIED CARD OF 'mooringlaw14.TextLast'. -/
def textLastCard : Claim7 := { stood := { row := textLastRow, standIns := [], harness := (true, "b60f61c655db733ee6a689e7a697cbc4ba6f1e700e2c10a557544e48c0724d65"), looks := true }, kinds := [], alts := [], laidByText := true, laidKinds := [.handle, .data], laidTests := true, laidLooks := .later }
def TextLastCardSaid : Prop := Claim7.holds Tryd.pinned (.plain (OpenSpec.ofChange textLastSpec)) textLastCard

/-- THE SECOND FORM's CARD OF 'mooringlaw14.TextMatchesReference'. -/
def textMatchesReferenceUptoCard : Claim7 := { stood := { row := textMatchesReferenceUptoRow, standIns := [], harness := (true, "b60f61c655db733ee6a689e7a697cbc4ba6f1e700e2c10a557544e48c0724d65"), looks := true }, kinds := [], alts := [], laidByText := true, laidKinds := [.handle, .data], laidTests := true, laidLooks := .later }
def TextMatchesReferenceUptoCardSaid : Prop := Claim7.holds Tryd.pinned (.plain (OpenSpec.upto textMatchesReferenceSpec)) textMatchesReferenceUptoCard

/-- THE SECOND FORM's CARD OF 'mooringlaw14.TextParses'. -/
def textParsesUptoCard : Claim7 := { stood := { row := textParsesUptoRow, standIns := [], harness := (true, "b60f61c655db733ee6a689e7a697cbc4ba6f1e700e2c10a557544e48c0724d65"), looks := true }, kinds := [], alts := [], laidByText := true, laidKinds := [.handle, .data], laidTests := true, laidLooks := .later }
def TextParsesUptoCardSaid : Prop := Claim7.holds Tryd.pinned (.plain (OpenSpec.upto textParsesSpec)) textParsesUptoCard

/-- THE SECOND FORM's CARD OF 'mooringlaw14.TextValues'. -/
def textValuesUptoCard : Claim7 := { stood := { row := textValuesUptoRow, standIns := [], harness := (true, "b60f61c655db733ee6a689e7a697cbc4ba6f1e700e2c10a557544e48c0724d65"), looks := true }, kinds := [], alts := [], laidByText := true, laidKinds := [.handle, .data], laidTests := true, laidLooks := .later }
def TextValuesUptoCardSaid : Prop := Claim7.holds Tryd.pinned (.plain (OpenSpec.upto textValuesSpec)) textValuesUptoCard

/-- THE SECOND FORM's CARD OF 'mooringlaw14.TextLast'. -/
def textLastUptoCard : Claim7 := { stood := { row := textLastUptoRow, standIns := [], harness := (true, "b60f61c655db733ee6a689e7a697cbc4ba6f1e700e2c10a557544e48c0724d65"), looks := true }, kinds := [], alts := [], laidByText := true, laidKinds := [.handle, .data], laidTests := true, laidLooks := .later }
def TextLastUptoCardSaid : Prop := Claim7.holds Tryd.pinned (.plain (OpenSpec.upto textLastSpec)) textLastUptoCard
end Rows
end Go.Proofs.YtojfghfgaljkkaaDoor
