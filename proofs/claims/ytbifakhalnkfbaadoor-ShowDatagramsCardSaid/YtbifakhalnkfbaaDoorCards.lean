/-
  DERIVED. GIVEN WITH THE SEED: THE CARDS: each row of YtbifakhalnkfbaaDoorRows.lean that lists a variable, with what it lists TIED to the program's text (the seventh form; the later family's looks); each row that meets fmt, with fmt's text TOLD by the authors' own Lean function (tested against real Go, not proved from fmt's source: count such statements apart). THE CARD IS WHAT COUNTS. Prove the row's statement (the work); the ties are given (YtbifakhalnkfbaaDoorTie.lean); close each card by the builder's one call (the guide's Derived/Test/ToyasCard.lean, 'card_holds'). Laid BY PROGRAM, IN A SANDBOX (cutbox-door.mjs). By AI agents, Wed Nov 11 2026. No macro, syntax, notation, axiom, sorry.
-/
import Derived.Test.YtbifakhalnkfbaaDoorRows
import GoSem.ClaimSeven
namespace Go.Proofs.YtbifakhalnkfbaaDoor
namespace Rows

/-- THE TIED CARD OF 'mooringlaw27.ShowMatchesReference'. -/
def showMatchesReferenceCard : Claim7 := { stood := { row := showMatchesReferenceRow, standIns := [], harness := (true, "bad1a9fc8e37cd71ad2d69f75a94848a6c0bbb180bdc79eab884bddd6a64388b"), looks := true }, kinds := [], alts := [], laidByText := true, laidKinds := [.data, .data, .data, .data, .sentinel, .sentinel, .pinned], laidTests := true, laidLooks := .later }
def ShowMatchesReferenceCardSaid : Prop := Claim7.holds Tryd.pinned (.plain (OpenSpec.ofChange showMatchesReferenceSpec)) showMatchesReferenceCard

/-- THE TIED CARD OF 'mooringlaw27.ShowParses'. -/
def showParsesCard : Claim7 := { stood := { row := showParsesRow, standIns := [], harness := (true, "bad1a9fc8e37cd71ad2d69f75a94848a6c0bbb180bdc79eab884bddd6a64388b"), looks := true }, kinds := [], alts := [], laidByText := true, laidKinds := [.data, .data, .data, .data, .sentinel, .sentinel, .pinned], laidTests := true, laidLooks := .later }
def ShowParsesCardSaid : Prop := Claim7.holds Tryd.pinned (.plain (OpenSpec.ofChange showParsesSpec)) showParsesCard

/-- THE TIED CARD OF 'mooringlaw27.ShowDatagrams'. -/
def showDatagramsCard : Claim7 := { stood := { row := showDatagramsRow, standIns := [], harness := (true, "bad1a9fc8e37cd71ad2d69f75a94848a6c0bbb180bdc79eab884bddd6a64388b"), looks := true }, kinds := [], alts := [], laidByText := true, laidKinds := [.data, .data, .data, .data, .sentinel, .sentinel, .pinned], laidTests := true, laidLooks := .later }
def ShowDatagramsCardSaid : Prop := Claim7.holds Tryd.pinned (.plain (OpenSpec.ofChange showDatagramsSpec)) showDatagramsCard

/-- THE TIED CARD OF 'mooringlaw27.ShowDecimals'. -/
def showDecimalsCard : Claim7 := { stood := { row := showDecimalsRow, standIns := [], harness := (true, "bad1a9fc8e37cd71ad2d69f75a94848a6c0bbb180bdc79eab884bddd6a64388b"), looks := true }, kinds := [], alts := [], laidByText := true, laidKinds := [.data, .data, .data, .data, .sentinel, .sentinel, .pinned], laidTests := true, laidLooks := .later }
def ShowDecimalsCardSaid : Prop := Claim7.holds Tryd.pinned (.plain (OpenSpec.ofChange showDecimalsSpec)) showDecimalsCard

/-- THE TIED CARD OF 'mooringlaw27.ShowApart'. -/
def showApartCard : Claim7 := { stood := { row := showApartRow, standIns := [], harness := (true, "bad1a9fc8e37cd71ad2d69f75a94848a6c0bbb180bdc79eab884bddd6a64388b"), looks := true }, kinds := [], alts := [], laidByText := true, laidKinds := [.data, .data, .data, .data, .sentinel, .sentinel, .pinned], laidTests := true, laidLooks := .later }
def ShowApartCardSaid : Prop := Claim7.holds Tryd.pinned (.plain (OpenSpec.ofChange showApartSpec)) showApartCard

/-- THE SECOND FORM's CARD OF 'mooringlaw27.ShowMatchesReference'. -/
def showMatchesReferenceUptoCard : Claim7 := { stood := { row := showMatchesReferenceUptoRow, standIns := [], harness := (true, "bad1a9fc8e37cd71ad2d69f75a94848a6c0bbb180bdc79eab884bddd6a64388b"), looks := true }, kinds := [], alts := [], laidByText := true, laidKinds := [.data, .data, .data, .data, .sentinel, .sentinel, .pinned], laidTests := true, laidLooks := .later }
def ShowMatchesReferenceUptoCardSaid : Prop := Claim7.holds Tryd.pinned (.plain (OpenSpec.upto showMatchesReferenceSpec)) showMatchesReferenceUptoCard

/-- THE SECOND FORM's CARD OF 'mooringlaw27.ShowParses'. -/
def showParsesUptoCard : Claim7 := { stood := { row := showParsesUptoRow, standIns := [], harness := (true, "bad1a9fc8e37cd71ad2d69f75a94848a6c0bbb180bdc79eab884bddd6a64388b"), looks := true }, kinds := [], alts := [], laidByText := true, laidKinds := [.data, .data, .data, .data, .sentinel, .sentinel, .pinned], laidTests := true, laidLooks := .later }
def ShowParsesUptoCardSaid : Prop := Claim7.holds Tryd.pinned (.plain (OpenSpec.upto showParsesSpec)) showParsesUptoCard

/-- THE SECOND FORM's CARD OF 'mooringlaw27.ShowDatagrams'. -/
def showDatagramsUptoCard : Claim7 := { stood := { row := showDatagramsUptoRow, standIns := [], harness := (true, "bad1a9fc8e37cd71ad2d69f75a94848a6c0bbb180bdc79eab884bddd6a64388b"), looks := true }, kinds := [], alts := [], laidByText := true, laidKinds := [.data, .data, .data, .data, .sentinel, .sentinel, .pinned], laidTests := true, laidLooks := .later }
def ShowDatagramsUptoCardSaid : Prop := Claim7.holds Tryd.pinned (.plain (OpenSpec.upto showDatagramsSpec)) showDatagramsUptoCard

/-- THE SECOND FORM's CARD OF 'mooringlaw27.ShowDecimals'. -/
def showDecimalsUptoCard : Claim7 := { stood := { row := showDecimalsUptoRow, standIns := [], harness := (true, "bad1a9fc8e37cd71ad2d69f75a94848a6c0bbb180bdc79eab884bddd6a64388b"), looks := true }, kinds := [], alts := [], laidByText := true, laidKinds := [.data, .data, .data, .data, .sentinel, .sentinel, .pinned], laidTests := true, laidLooks := .later }
def ShowDecimalsUptoCardSaid : Prop := Claim7.holds Tryd.pinned (.plain (OpenSpec.upto showDecimalsSpec)) showDecimalsUptoCard

/-- THE SECOND FORM's CARD OF 'mooringlaw27.ShowApart'. -/
def showApartUptoCard : Claim7 := { stood := { row := showApartUptoRow, standIns := [], harness := (true, "bad1a9fc8e37cd71ad2d69f75a94848a6c0bbb180bdc79eab884bddd6a64388b"), looks := true }, kinds := [], alts := [], laidByText := true, laidKinds := [.data, .data, .data, .data, .sentinel, .sentinel, .pinned], laidTests := true, laidLooks := .later }
def ShowApartUptoCardSaid : Prop := Claim7.holds Tryd.pinned (.plain (OpenSpec.upto showApartSpec)) showApartUptoCard
end Rows
end Go.Proofs.YtbifakhalnkfbaaDoor
