/-
  DERIVED. GIVEN WITH THE SEED: THE CARDS: each row of YthfjjphpnakgnaaDoorRows.lean that lists a variable, with what it lists TIED to the program's text (the seventh form; the later family's looks); each row that meets fmt, with fmt's text TOLD by the authors' own Lean function (tested against real Go, not proved from fmt's source: count such statements apart). THE CARD IS WHAT COUNTS. Prove the row's statement (the work); the ties are given (YthfjjphpnakgnaaDoorTie.lean); close each card by the builder's one call (the guide's Derived/Test/ToyasCard.lean, 'card_holds'). Laid BY PROGRAM, IN A SANDBOX (cutbox-door.mjs). By AI agents, Wed Nov 11 2026. No macro, syntax, notation, axiom, sorry.
-/
import Derived.Test.YthfjjphpnakgnaaDoorRows
import GoSem.ClaimSeven
namespace Go.Proofs.YthfjjphpnakgnaaDoor
namespace Rows

/-- THE TIED CARD OF 'mooringlaw01.BitsMatchesReference'. -/
def bitsMatchesReferenceCard : Claim7 := { stood := { row := bitsMatchesReferenceRow, standIns := [], harness := (true, "bda8055a487f6eb7a586a7aac85224853608d33c31a18ed0c3269880458a29b8"), looks := false }, kinds := [], alts := [], laidByText := true, laidKinds := [.data], laidTests := true, laidLooks := .later }
def BitsMatchesReferenceCardSaid : Prop := Claim7.holds Tryd.pinned (.plain (OpenSpec.ofChange bitsMatchesReferenceSpec)) bitsMatchesReferenceCard

/-- THE TIED CARD OF 'mooringlaw01.BitsNumbers'. -/
def bitsNumbersCard : Claim7 := { stood := { row := bitsNumbersRow, standIns := [], harness := (true, "bda8055a487f6eb7a586a7aac85224853608d33c31a18ed0c3269880458a29b8"), looks := false }, kinds := [], alts := [], laidByText := true, laidKinds := [.data], laidTests := true, laidLooks := .later }
def BitsNumbersCardSaid : Prop := Claim7.holds Tryd.pinned (.plain (OpenSpec.ofChange bitsNumbersSpec)) bitsNumbersCard

/-- THE TIED CARD OF 'mooringlaw01.BitsRotates'. -/
def bitsRotatesCard : Claim7 := { stood := { row := bitsRotatesRow, standIns := [], harness := (true, "bda8055a487f6eb7a586a7aac85224853608d33c31a18ed0c3269880458a29b8"), looks := false }, kinds := [], alts := [], laidByText := true, laidKinds := [.data], laidTests := true, laidLooks := .later }
def BitsRotatesCardSaid : Prop := Claim7.holds Tryd.pinned (.plain (OpenSpec.ofChange bitsRotatesSpec)) bitsRotatesCard

/-- THE TIED CARD OF 'mooringlaw01.BitsXors'. -/
def bitsXorsCard : Claim7 := { stood := { row := bitsXorsRow, standIns := [], harness := (true, "bda8055a487f6eb7a586a7aac85224853608d33c31a18ed0c3269880458a29b8"), looks := false }, kinds := [], alts := [], laidByText := true, laidKinds := [.data], laidTests := true, laidLooks := .later }
def BitsXorsCardSaid : Prop := Claim7.holds Tryd.pinned (.plain (OpenSpec.ofChange bitsXorsSpec)) bitsXorsCard

/-- THE TIED CARD OF 'mooringlaw01.BitsZeros'. -/
def bitsZerosCard : Claim7 := { stood := { row := bitsZerosRow, standIns := [], harness := (true, "bda8055a487f6eb7a586a7aac85224853608d33c31a18ed0c3269880458a29b8"), looks := false }, kinds := [], alts := [], laidByText := true, laidKinds := [.data], laidTests := true, laidLooks := .later }
def BitsZerosCardSaid : Prop := Claim7.holds Tryd.pinned (.plain (OpenSpec.ofChange bitsZerosSpec)) bitsZerosCard

/-- THE SECOND FORM's CARD OF 'mooringlaw01.BitsMatchesReference'. -/
def bitsMatchesReferenceUptoCard : Claim7 := { stood := { row := bitsMatchesReferenceUptoRow, standIns := [], harness := (true, "bda8055a487f6eb7a586a7aac85224853608d33c31a18ed0c3269880458a29b8"), looks := false }, kinds := [], alts := [], laidByText := true, laidKinds := [.data], laidTests := true, laidLooks := .later }
def BitsMatchesReferenceUptoCardSaid : Prop := Claim7.holds Tryd.pinned (.plain (OpenSpec.upto bitsMatchesReferenceSpec)) bitsMatchesReferenceUptoCard

/-- THE SECOND FORM's CARD OF 'mooringlaw01.BitsNumbers'. -/
def bitsNumbersUptoCard : Claim7 := { stood := { row := bitsNumbersUptoRow, standIns := [], harness := (true, "bda8055a487f6eb7a586a7aac85224853608d33c31a18ed0c3269880458a29b8"), looks := false }, kinds := [], alts := [], laidByText := true, laidKinds := [.data], laidTests := true, laidLooks := .later }
def BitsNumbersUptoCardSaid : Prop := Claim7.holds Tryd.pinned (.plain (OpenSpec.upto bitsNumbersSpec)) bitsNumbersUptoCard

/-- THE SECOND FORM's CARD OF 'mooringlaw01.BitsRotates'. -/
def bitsRotatesUptoCard : Claim7 := { stood := { row := bitsRotatesUptoRow, standIns := [], harness := (true, "bda8055a487f6eb7a586a7aac85224853608d33c31a18ed0c3269880458a29b8"), looks := false }, kinds := [], alts := [], laidByText := true, laidKinds := [.data], laidTests := true, laidLooks := .later }
def BitsRotatesUptoCardSaid : Prop := Claim7.holds Tryd.pinned (.plain (OpenSpec.upto bitsRotatesSpec)) bitsRotatesUptoCard

/-- THE SECOND FORM's CARD OF 'mooringlaw01.BitsXors'. -/
def bitsXorsUptoCard : Claim7 := { stood := { row := bitsXorsUptoRow, standIns := [], harness := (true, "bda8055a487f6eb7a586a7aac85224853608d33c31a18ed0c3269880458a29b8"), looks := false }, kinds := [], alts := [], laidByText := true, laidKinds := [.data], laidTests := true, laidLooks := .later }
def BitsXorsUptoCardSaid : Prop := Claim7.holds Tryd.pinned (.plain (OpenSpec.upto bitsXorsSpec)) bitsXorsUptoCard

/-- THE SECOND FORM's CARD OF 'mooringlaw01.BitsZeros'. -/
def bitsZerosUptoCard : Claim7 := { stood := { row := bitsZerosUptoRow, standIns := [], harness := (true, "bda8055a487f6eb7a586a7aac85224853608d33c31a18ed0c3269880458a29b8"), looks := false }, kinds := [], alts := [], laidByText := true, laidKinds := [.data], laidTests := true, laidLooks := .later }
def BitsZerosUptoCardSaid : Prop := Claim7.holds Tryd.pinned (.plain (OpenSpec.upto bitsZerosSpec)) bitsZerosUptoCard
end Rows
end Go.Proofs.YthfjjphpnakgnaaDoor
