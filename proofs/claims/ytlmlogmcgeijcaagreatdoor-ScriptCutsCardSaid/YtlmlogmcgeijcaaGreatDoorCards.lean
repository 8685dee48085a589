/-
  DERIVED. GIVEN WITH THE SEED: THE CARDS: each row of YtlmlogmcgeijcaaGreatDoorRows.lean that lists a variable, with what it lists TIED to the program's text (the seventh form; the later family's looks); each row that meets fmt, with fmt's text TOLD by the authors' own Lean function (tested against real Go, not proved from fmt's source: count such statements apart). THE CARD IS WHAT COUNTS. Prove the row's statement (the work); the ties are given (YtlmlogmcgeijcaaGreatDoorTie.lean); close each card by the builder's one call (the guide's Derived/Test/ToyasCard.lean, 'card_holds'). Laid BY PROGRAM, IN A SANDBOX (cutbox-door.mjs). By AI agents, Wed Nov 11 2026. No macro, syntax, notation, axiom, sorry.
-/
import Derived.Test.YtlmlogmcgeijcaaGreatDoorRows
import GoSem.ClaimSeven
namespace Go.Proofs.YtlmlogmcgeijcaaGreatDoor
namespace Rows

/-- THE TIED CARD OF 'backstitchlaw38.ScriptModes'. -/
def scriptModesCard : Claim7 := { stood := { row := scriptModesRow, standIns := [], harness := (true, "3f37177f75e5b765e6345231dd3ceada4b0fb71446761034968ac5d103fa5050"), looks := false }, kinds := [], alts := [], laidByText := true, laidKinds := [.data, .data, .data], laidTests := true, laidLooks := .later }
def ScriptModesCardSaid : Prop := Claim7.holds Tryz.pinned (.plain (OpenSpec.ofChange scriptModesSpec)) scriptModesCard

/-- THE TIED CARD OF 'backstitchlaw38.ScriptCuts'. -/
def scriptCutsCard : Claim7 := { stood := { row := scriptCutsRow, standIns := [], harness := (true, "3f37177f75e5b765e6345231dd3ceada4b0fb71446761034968ac5d103fa5050"), looks := false }, kinds := [], alts := [], laidByText := true, laidKinds := [.data, .data, .data], laidTests := true, laidLooks := .later }
def ScriptCutsCardSaid : Prop := Claim7.holds Tryz.pinned (.plain (OpenSpec.ofChange scriptCutsSpec)) scriptCutsCard

/-- THE SECOND FORM's CARD OF 'backstitchlaw38.ScriptModes'. -/
def scriptModesUptoCard : Claim7 := { stood := { row := scriptModesUptoRow, standIns := [], harness := (true, "3f37177f75e5b765e6345231dd3ceada4b0fb71446761034968ac5d103fa5050"), looks := false }, kinds := [], alts := [], laidByText := true, laidKinds := [.data, .data, .data], laidTests := true, laidLooks := .later }
def ScriptModesUptoCardSaid : Prop := Claim7.holds Tryz.pinned (.plain (OpenSpec.upto scriptModesSpec)) scriptModesUptoCard

/-- THE SECOND FORM's CARD OF 'backstitchlaw38.ScriptCuts'. -/
def scriptCutsUptoCard : Claim7 := { stood := { row := scriptCutsUptoRow, standIns := [], harness := (true, "3f37177f75e5b765e6345231dd3ceada4b0fb71446761034968ac5d103fa5050"), looks := false }, kinds := [], alts := [], laidByText := true, laidKinds := [.data, .data, .data], laidTests := true, laidLooks := .later }
def ScriptCutsUptoCardSaid : Prop := Claim7.holds Tryz.pinned (.plain (OpenSpec.upto scriptCutsSpec)) scriptCutsUptoCard
end Rows
end Go.Proofs.YtlmlogmcgeijcaaGreatDoor
