/-
  DERIVED. GIVEN WITH THE SEED: THE CARDS: each row of YtbdihjmnbadfhaaGreatDoorRows.lean that lists a variable, with what it lists TIED to the program's text (the seventh form; the later family's looks); each row that meets fmt, with fmt's text TOLD by the authors' own Lean function (tested against real Go, not proved from fmt's source: count such statements apart). THE CARD IS WHAT COUNTS. Prove the row's statement (the work); the ties are given (YtbdihjmnbadfhaaGreatDoorTie.lean); close each card by the builder's one call (the guide's Derived/Test/ToyasCard.lean, 'card_holds'). Laid BY PROGRAM, IN A SANDBOX (cutbox-door.mjs). By AI agents, Wed Nov 11 2026. No macro, syntax, notation, axiom, sorry.
-/
import Derived.Test.YtbdihjmnbadfhaaGreatDoorRows
import GoSem.ClaimSeven
namespace Go.Proofs.YtbdihjmnbadfhaaGreatDoor
namespace Rows

/-- THE TIED CARD OF 'backstitchlaw38.ScriptBits'. -/
def scriptBitsCard : Claim7 := { stood := { row := scriptBitsRow, standIns := [], harness := (true, "f6ef74c11baed8804dd3858b09a0bb9430a1536e6569b59a0418093a1eeeba84"), looks := false }, kinds := [], alts := [], laidByText := true, laidKinds := [.data, .data, .data], laidTests := true, laidLooks := .later }
def ScriptBitsCardSaid : Prop := Claim7.holds Tryz.pinned (.plain (OpenSpec.ofChange scriptBitsSpec)) scriptBitsCard

/-- THE TIED CARD OF 'backstitchlaw38.ScriptParses'. -/
def scriptParsesCard : Claim7 := { stood := { row := scriptParsesRow, standIns := [], harness := (true, "f6ef74c11baed8804dd3858b09a0bb9430a1536e6569b59a0418093a1eeeba84"), looks := false }, kinds := [], alts := [], laidByText := true, laidKinds := [.data, .data, .data], laidTests := true, laidLooks := .later }
def ScriptParsesCardSaid : Prop := Claim7.holds Tryz.pinned (.plain (OpenSpec.ofChange scriptParsesSpec)) scriptParsesCard

/-- THE SECOND FORM's CARD OF 'backstitchlaw38.ScriptBits'. -/
def scriptBitsUptoCard : Claim7 := { stood := { row := scriptBitsUptoRow, standIns := [], harness := (true, "f6ef74c11baed8804dd3858b09a0bb9430a1536e6569b59a0418093a1eeeba84"), looks := false }, kinds := [], alts := [], laidByText := true, laidKinds := [.data, .data, .data], laidTests := true, laidLooks := .later }
def ScriptBitsUptoCardSaid : Prop := Claim7.holds Tryz.pinned (.plain (OpenSpec.upto scriptBitsSpec)) scriptBitsUptoCard

/-- THE SECOND FORM's CARD OF 'backstitchlaw38.ScriptParses'. -/
def scriptParsesUptoCard : Claim7 := { stood := { row := scriptParsesUptoRow, standIns := [], harness := (true, "f6ef74c11baed8804dd3858b09a0bb9430a1536e6569b59a0418093a1eeeba84"), looks := false }, kinds := [], alts := [], laidByText := true, laidKinds := [.data, .data, .data], laidTests := true, laidLooks := .later }
def ScriptParsesUptoCardSaid : Prop := Claim7.holds Tryz.pinned (.plain (OpenSpec.upto scriptParsesSpec)) scriptParsesUptoCard
end Rows
end Go.Proofs.YtbdihjmnbadfhaaGreatDoor
