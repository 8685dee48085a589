/-
  DERIVED. GIVEN WITH THE SEED: THE CARDS: each row of YtnadgednadlcdaaDoorRows.lean that lists a variable, with what it lists TIED to the program's text (the seventh form; the later family's looks); each row that meets fmt, with fmt's text TOLD by the authors' own Lean function (tested against real Go, not proved from fmt's source: count such statements apart). THE CARD IS WHAT COUNTS. Prove the row's statement (the work); the ties are given (YtnadgednadlcdaaDoorTie.lean); close each card by the builder's one call (the guide's Derived/Test/ToyasCard.lean, 'card_holds'). Laid BY PROGRAM, IN A SANDBOX (cutbox-door.mjs). By AI agents, Wed Nov 11 2026. No macro, syntax, notation, axiom, sorry.
-/
import Derived.Test.YtnadgednadlcdaaDoorRows
import GoSem.ClaimSeven
namespace Go.Proofs.YtnadgednadlcdaaDoor
namespace Rows

/-- THE TIED CARD OF 'backstitchlaw04.SignsTells'. -/
def signsTellsCard : Claim7 := { stood := { row := signsTellsRow, standIns := [], harness := (true, "065a69ca1ea91a18cf88b61d6ef24cc804c62e8b2b7b719aaa79cfade03e898a"), looks := false }, kinds := [], alts := [], laidByText := true, laidKinds := [.data, .data, .data], laidTests := true, laidLooks := .later }
def SignsTellsCardSaid : Prop := Claim7.holds Tryd.pinned (.plain (OpenSpec.ofChange signsTellsSpec)) signsTellsCard

/-- THE TIED CARD OF 'backstitchlaw04.SignsBack'. -/
def signsBackCard : Claim7 := { stood := { row := signsBackRow, standIns := [], harness := (true, "065a69ca1ea91a18cf88b61d6ef24cc804c62e8b2b7b719aaa79cfade03e898a"), looks := false }, kinds := [], alts := [], laidByText := true, laidKinds := [.data, .data, .data], laidTests := true, laidLooks := .later }
def SignsBackCardSaid : Prop := Claim7.holds Tryd.pinned (.plain (OpenSpec.ofChange signsBackSpec)) signsBackCard

/-- THE TIED CARD OF 'backstitchlaw04.SignsGaps'. -/
def signsGapsCard : Claim7 := { stood := { row := signsGapsRow, standIns := [], harness := (true, "065a69ca1ea91a18cf88b61d6ef24cc804c62e8b2b7b719aaa79cfade03e898a"), looks := false }, kinds := [], alts := [], laidByText := true, laidKinds := [.data, .data, .data], laidTests := true, laidLooks := .later }
def SignsGapsCardSaid : Prop := Claim7.holds Tryd.pinned (.plain (OpenSpec.ofChange signsGapsSpec)) signsGapsCard

/-- THE TIED CARD OF 'backstitchlaw04.SignsFirst'. -/
def signsFirstCard : Claim7 := { stood := { row := signsFirstRow, standIns := [], harness := (true, "065a69ca1ea91a18cf88b61d6ef24cc804c62e8b2b7b719aaa79cfade03e898a"), looks := false }, kinds := [], alts := [], laidByText := true, laidKinds := [.data, .data, .data], laidTests := true, laidLooks := .later }
def SignsFirstCardSaid : Prop := Claim7.holds Tryd.pinned (.plain (OpenSpec.ofChange signsFirstSpec)) signsFirstCard

/-- THE TIED CARD OF 'backstitchlaw04.SignsTexts'. -/
def signsTextsCard : Claim7 := { stood := { row := signsTextsRow, standIns := [], harness := (true, "065a69ca1ea91a18cf88b61d6ef24cc804c62e8b2b7b719aaa79cfade03e898a"), looks := false }, kinds := [], alts := [], laidByText := true, laidKinds := [.data, .data, .data], laidTests := true, laidLooks := .later }
def SignsTextsCardSaid : Prop := Claim7.holds Tryd.pinned (.plain (OpenSpec.ofChange signsTextsSpec)) signsTextsCard

/-- THE TIED CARD OF 'backstitchlaw26.ActionWords'. -/
def actionWordsCard : Claim7 := { stood := { row := actionWordsRow, standIns := [], harness := (true, "065a69ca1ea91a18cf88b61d6ef24cc804c62e8b2b7b719aaa79cfade03e898a"), looks := false }, kinds := [], alts := [], laidByText := true, laidKinds := [.data, .data, .data], laidTests := true, laidLooks := .later }
def ActionWordsCardSaid : Prop := Claim7.holds Tryd.pinned (.plain (OpenSpec.ofChange actionWordsSpec)) actionWordsCard

/-- THE TIED CARD OF 'backstitchlaw26.ActionTexts'. -/
def actionTextsCard : Claim7 := { stood := { row := actionTextsRow, standIns := [], harness := (true, "065a69ca1ea91a18cf88b61d6ef24cc804c62e8b2b7b719aaa79cfade03e898a"), looks := false }, kinds := [], alts := [], laidByText := true, laidKinds := [.data, .data, .data], laidTests := true, laidLooks := .later }
def ActionTextsCardSaid : Prop := Claim7.holds Tryd.pinned (.plain (OpenSpec.ofChange actionTextsSpec)) actionTextsCard

/-- THE TIED CARD OF 'backstitchlaw26.ActionBack'. -/
def actionBackCard : Claim7 := { stood := { row := actionBackRow, standIns := [], harness := (true, "065a69ca1ea91a18cf88b61d6ef24cc804c62e8b2b7b719aaa79cfade03e898a"), looks := false }, kinds := [], alts := [], laidByText := true, laidKinds := [.data, .data, .data], laidTests := true, laidLooks := .later }
def ActionBackCardSaid : Prop := Claim7.holds Tryd.pinned (.plain (OpenSpec.ofChange actionBackSpec)) actionBackCard

/-- THE TIED CARD OF 'backstitchlaw11.ListingPrints'. -/
def listingPrintsCard : Claim7 := { stood := { row := listingPrintsRow, standIns := [], harness := (true, "065a69ca1ea91a18cf88b61d6ef24cc804c62e8b2b7b719aaa79cfade03e898a"), looks := false }, kinds := [], alts := [], laidByText := true, laidKinds := [.data, .data, .data], laidTests := true, laidLooks := .later }
def ListingPrintsCardSaid : Prop := Claim7.holds Tryd.pinned (.plain (OpenSpec.ofChange listingPrintsSpec)) listingPrintsCard

/-- THE TIED CARD OF 'backstitchlaw11.ListingParses'. -/
def listingParsesCard : Claim7 := { stood := { row := listingParsesRow, standIns := [], harness := (true, "065a69ca1ea91a18cf88b61d6ef24cc804c62e8b2b7b719aaa79cfade03e898a"), looks := false }, kinds := [], alts := [], laidByText := true, laidKinds := [.data, .data, .data], laidTests := true, laidLooks := .later }
def ListingParsesCardSaid : Prop := Claim7.holds Tryd.pinned (.plain (OpenSpec.ofChange listingParsesSpec)) listingParsesCard

/-- THE TIED CARD OF 'backstitchlaw11.ListingBack'. -/
def listingBackCard : Claim7 := { stood := { row := listingBackRow, standIns := [], harness := (true, "065a69ca1ea91a18cf88b61d6ef24cc804c62e8b2b7b719aaa79cfade03e898a"), looks := false }, kinds := [], alts := [], laidByText := true, laidKinds := [.data, .data, .data], laidTests := true, laidLooks := .later }
def ListingBackCardSaid : Prop := Claim7.holds Tryd.pinned (.plain (OpenSpec.ofChange listingBackSpec)) listingBackCard

/-- THE TIED CARD OF 'backstitchlaw11.ListingLong'. -/
def listingLongCard : Claim7 := { stood := { row := listingLongRow, standIns := [], harness := (true, "065a69ca1ea91a18cf88b61d6ef24cc804c62e8b2b7b719aaa79cfade03e898a"), looks := false }, kinds := [], alts := [], laidByText := true, laidKinds := [.data, .data, .data], laidTests := true, laidLooks := .later }
def ListingLongCardSaid : Prop := Claim7.holds Tryd.pinned (.plain (OpenSpec.ofChange listingLongSpec)) listingLongCard

/-- THE SECOND FORM's CARD OF 'backstitchlaw04.SignsTells'. -/
def signsTellsUptoCard : Claim7 := { stood := { row := signsTellsUptoRow, standIns := [], harness := (true, "065a69ca1ea91a18cf88b61d6ef24cc804c62e8b2b7b719aaa79cfade03e898a"), looks := false }, kinds := [], alts := [], laidByText := true, laidKinds := [.data, .data, .data], laidTests := true, laidLooks := .later }
def SignsTellsUptoCardSaid : Prop := Claim7.holds Tryd.pinned (.plain (OpenSpec.upto signsTellsSpec)) signsTellsUptoCard

/-- THE SECOND FORM's CARD OF 'backstitchlaw04.SignsBack'. -/
def signsBackUptoCard : Claim7 := { stood := { row := signsBackUptoRow, standIns := [], harness := (true, "065a69ca1ea91a18cf88b61d6ef24cc804c62e8b2b7b719aaa79cfade03e898a"), looks := false }, kinds := [], alts := [], laidByText := true, laidKinds := [.data, .data, .data], laidTests := true, laidLooks := .later }
def SignsBackUptoCardSaid : Prop := Claim7.holds Tryd.pinned (.plain (OpenSpec.upto signsBackSpec)) signsBackUptoCard

/-- THE SECOND FORM's CARD OF 'backstitchlaw04.SignsGaps'. -/
def signsGapsUptoCard : Claim7 := { stood := { row := signsGapsUptoRow, standIns := [], harness := (true, "065a69ca1ea91a18cf88b61d6ef24cc804c62e8b2b7b719aaa79cfade03e898a"), looks := false }, kinds := [], alts := [], laidByText := true, laidKinds := [.data, .data, .data], laidTests := true, laidLooks := .later }
def SignsGapsUptoCardSaid : Prop := Claim7.holds Tryd.pinned (.plain (OpenSpec.upto signsGapsSpec)) signsGapsUptoCard

/-- THE SECOND FORM's CARD OF 'backstitchlaw04.SignsFirst'. -/
def signsFirstUptoCard : Claim7 := { stood := { row := signsFirstUptoRow, standIns := [], harness := (true, "065a69ca1ea91a18cf88b61d6ef24cc804c62e8b2b7b719aaa79cfade03e898a"), looks := false }, kinds := [], alts := [], laidByText := true, laidKinds := [.data, .data, .data], laidTests := true, laidLooks := .later }
def SignsFirstUptoCardSaid : Prop := Claim7.holds Tryd.pinned (.plain (OpenSpec.upto signsFirstSpec)) signsFirstUptoCard

/-- THE SECOND FORM's CARD OF 'backstitchlaw04.SignsTexts'. -/
def signsTextsUptoCard : Claim7 := { stood := { row := signsTextsUptoRow, standIns := [], harness := (true, "065a69ca1ea91a18cf88b61d6ef24cc804c62e8b2b7b719aaa79cfade03e898a"), looks := false }, kinds := [], alts := [], laidByText := true, laidKinds := [.data, .data, .data], laidTests := true, laidLooks := .later }
def SignsTextsUptoCardSaid : Prop := Claim7.holds Tryd.pinned (.plain (OpenSpec.upto signsTextsSpec)) signsTextsUptoCard

/-- THE SECOND FORM's CARD OF 'backstitchlaw26.ActionWords'. -/
def actionWordsUptoCard : Claim7 := { stood := { row := actionWordsUptoRow, standIns := [], harness := (true, "065a69ca1ea91a18cf88b61d6ef24cc804c62e8b2b7b719aaa79cfade03e898a"), looks := false }, kinds := [], alts := [], laidByText := true, laidKinds := [.data, .data, .data], laidTests := true, laidLooks := .later }
def ActionWordsUptoCardSaid : Prop := Claim7.holds Tryd.pinned (.plain (OpenSpec.upto actionWordsSpec)) actionWordsUptoCard

/-- THE SECOND FORM's CARD OF 'backstitchlaw26.ActionTexts'. -/
def actionTextsUptoCard : Claim7 := { stood := { row := actionTextsUptoRow, standIns := [], harness := (true, "065a69ca1ea91a18cf88b61d6ef24cc804c62e8b2b7b719aaa79cfade03e898a"), looks := false }, kinds := [], alts := [], laidByText := true, laidKinds := [.data, .data, .data], laidTests := true, laidLooks := .later }
def ActionTextsUptoCardSaid : Prop := Claim7.holds Tryd.pinned (.plain (OpenSpec.upto actionTextsSpec)) actionTextsUptoCard

/-- THE SECOND FORM's CARD OF 'backstitchlaw26.ActionBack'. -/
def actionBackUptoCard : Claim7 := { stood := { row := actionBackUptoRow, standIns := [], harness := (true, "065a69ca1ea91a18cf88b61d6ef24cc804c62e8b2b7b719aaa79cfade03e898a"), looks := false }, kinds := [], alts := [], laidByText := true, laidKinds := [.data, .data, .data], laidTests := true, laidLooks := .later }
def ActionBackUptoCardSaid : Prop := Claim7.holds Tryd.pinned (.plain (OpenSpec.upto actionBackSpec)) actionBackUptoCard

/-- THE SECOND FORM's CARD OF 'backstitchlaw11.ListingPrints'. -/
def listingPrintsUptoCard : Claim7 := { stood := { row := listingPrintsUptoRow, standIns := [], harness := (true, "065a69ca1ea91a18cf88b61d6ef24cc804c62e8b2b7b719aaa79cfade03e898a"), looks := false }, kinds := [], alts := [], laidByText := true, laidKinds := [.data, .data, .data], laidTests := true, laidLooks := .later }
def ListingPrintsUptoCardSaid : Prop := Claim7.holds Tryd.pinned (.plain (OpenSpec.upto listingPrintsSpec)) listingPrintsUptoCard

/-- THE SECOND FORM's CARD OF 'backstitchlaw11.ListingParses'. -/
def listingParsesUptoCard : Claim7 := { stood := { row := listingParsesUptoRow, standIns := [], harness := (true, "065a69ca1ea91a18cf88b61d6ef24cc804c62e8b2b7b719aaa79cfade03e898a"), looks := false }, kinds := [], alts := [], laidByText := true, laidKinds := [.data, .data, .data], laidTests := true, laidLooks := .later }
def ListingParsesUptoCardSaid : Prop := Claim7.holds Tryd.pinned (.plain (OpenSpec.upto listingParsesSpec)) listingParsesUptoCard

/-- THE SECOND FORM's CARD OF 'backstitchlaw11.ListingBack'. -/
def listingBackUptoCard : Claim7 := { stood := { row := listingBackUptoRow, standIns := [], harness := (true, "065a69ca1ea91a18cf88b61d6ef24cc804c62e8b2b7b719aaa79cfade03e898a"), looks := false }, kinds := [], alts := [], laidByText := true, laidKinds := [.data, .data, .data], laidTests := true, laidLooks := .later }
def ListingBackUptoCardSaid : Prop := Claim7.holds Tryd.pinned (.plain (OpenSpec.upto listingBackSpec)) listingBackUptoCard

/-- THE SECOND FORM's CARD OF 'backstitchlaw11.ListingLong'. -/
def listingLongUptoCard : Claim7 := { stood := { row := listingLongUptoRow, standIns := [], harness := (true, "065a69ca1ea91a18cf88b61d6ef24cc804c62e8b2b7b719aaa79cfade03e898a"), looks := false }, kinds := [], alts := [], laidByText := true, laidKinds := [.data, .data, .data], laidTests := true, laidLooks := .later }
def ListingLongUptoCardSaid : Prop := Claim7.holds Tryd.pinned (.plain (OpenSpec.upto listingLongSpec)) listingLongUptoCard
end Rows
end Go.Proofs.YtnadgednadlcdaaDoor
