/-
  No cell of these rows narrows 'for every input' (looked for: loops, veiled, ifaces, maps, wideKeys, modest, calm, conditions, laid).
  DERIVED. THE GIVEN ROWS OF THIS SEAT. 5 by the template 'for every input the law returns true; each argument reads behind the call as it read before'; 0 by the template 'total and deterministic' (their statements: YtppoeoleehiemabTotals.lean).
  GIVEN WITH THE SEED: the statements are not yours to turn. If you find one false, say at which input.
  Laid BY PROGRAM, IN A SANDBOX (cutbox-rows.mjs): the forced cells as the released guide's own fill.sh prints them over the translation 6db4fe00065e7134… (all of the seat's roots in one cut). By AI agents, Wed Nov 11 2026. No macro, syntax, notation, axiom, sorry.
-/
import Derived.Test.YtppoeoleehiemabChecked
import GoSem.Claim
import GoSem.ClaimJoined
import GoSem.ClaimMapViews
import Derived.JoinedTies
import Derived.KernelRfl
namespace Go.Proofs.Ytppoeoleehiemab
/- THE CELL 'sum', in the pinned program and in every row, IS THE sha256 OF THE DUMP (.gsa) THAT YtppoeoleehiemabProg.lean LOADS. Nothing in Lean hashes anything: it is a label: what it is worth is what the hold of that sum in a sandbox is worth. -/
noncomputable def Try.pinned : Pinned := { name := "ytppoeoleehiemab", sum := "6db4fe00065e7134d984a2f13eec69aab75bc1bae93b00995f6f1a89571f6a2a", checked := Try.checked }
namespace Rows
def none {H : Type} : Left H := { results := [], args := [] }

/-- 'backstitchlaw09.SizeJoined': WHATEVER THE INPUT: true; the input reads as it did. -/
def sizeJoinedSpec : ChangeSpec := { name := "sizeJoined", fn := fun _ => fun
  | [d1, d2] => { results := [.lit (.bool true)], args := [d1, d2] }
  | _ => none }
def sizeJoinedRow : OpenClaim := { program := "ytppoeoleehiemab", sum := "6db4fe00065e7134d984a2f13eec69aab75bc1bae93b00995f6f1a89571f6a2a", func := "backstitch/backstitchlaw09.SizeJoined", spec := "sizeJoined", unfollowed := true, recurses := true, apart := false }
def SizeJoinedSaid : Prop := sizeJoinedRow.holds Try.pinned (OpenSpec.ofChange sizeJoinedSpec)

/-- ITS FALSE NEIGHBOUR: 'it returns false'. Refute it at one input. -/
def sizeJoinedWrong : ChangeSpec := { name := "sizeJoined", fn := fun _ => fun
  | [d1, d2] => { results := [.lit (.bool false)], args := [d1, d2] }
  | _ => none }
def SizeJoinedWrongFalsely : Prop := sizeJoinedRow.holds Try.pinned (OpenSpec.ofChange sizeJoinedWrong)

/-- 'backstitchlaw25.SlotsPlays': WHATEVER THE INPUT: true; the input reads as it did. -/
def slotsPlaysSpec : ChangeSpec := { name := "slotsPlays", fn := fun _ => fun
  | [d1, d2, d3, d4] => { results := [.lit (.bool true)], args := [d1, d2, d3, d4] }
  | _ => none }
def slotsPlaysRow : OpenClaim := { program := "ytppoeoleehiemab", sum := "6db4fe00065e7134d984a2f13eec69aab75bc1bae93b00995f6f1a89571f6a2a", func := "backstitch/backstitchlaw25.SlotsPlays", spec := "slotsPlays", unfollowed := true, recurses := true, apart := false }
def SlotsPlaysSaid : Prop := slotsPlaysRow.holds Try.pinned (OpenSpec.ofChange slotsPlaysSpec)

/-- ITS FALSE NEIGHBOUR: 'it returns false'. Refute it at one input. -/
def slotsPlaysWrong : ChangeSpec := { name := "slotsPlays", fn := fun _ => fun
  | [d1, d2, d3, d4] => { results := [.lit (.bool false)], args := [d1, d2, d3, d4] }
  | _ => none }
def SlotsPlaysWrongFalsely : Prop := slotsPlaysRow.holds Try.pinned (OpenSpec.ofChange slotsPlaysWrong)

/-- 'backstitchlaw25.SlotsMakes': WHATEVER THE INPUT: true; the input reads as it did. -/
def slotsMakesSpec : ChangeSpec := { name := "slotsMakes", fn := fun _ => fun
  | [d1, d2, d3, d4] => { results := [.lit (.bool true)], args := [d1, d2, d3, d4] }
  | _ => none }
def slotsMakesRow : OpenClaim := { program := "ytppoeoleehiemab", sum := "6db4fe00065e7134d984a2f13eec69aab75bc1bae93b00995f6f1a89571f6a2a", func := "backstitch/backstitchlaw25.SlotsMakes", spec := "slotsMakes", unfollowed := true, recurses := true, apart := false }
def SlotsMakesSaid : Prop := slotsMakesRow.holds Try.pinned (OpenSpec.ofChange slotsMakesSpec)

/-- ITS FALSE NEIGHBOUR: 'it returns false'. Refute it at one input. -/
def slotsMakesWrong : ChangeSpec := { name := "slotsMakes", fn := fun _ => fun
  | [d1, d2, d3, d4] => { results := [.lit (.bool false)], args := [d1, d2, d3, d4] }
  | _ => none }
def SlotsMakesWrongFalsely : Prop := slotsMakesRow.holds Try.pinned (OpenSpec.ofChange slotsMakesWrong)

/-- 'backstitchlaw25.SlotsKeep': WHATEVER THE INPUT: true; the input reads as it did. -/
def slotsKeepSpec : ChangeSpec := { name := "slotsKeep", fn := fun _ => fun
  | [d1, d2, d3, d4] => { results := [.lit (.bool true)], args := [d1, d2, d3, d4] }
  | _ => none }
def slotsKeepRow : OpenClaim := { program := "ytppoeoleehiemab", sum := "6db4fe00065e7134d984a2f13eec69aab75bc1bae93b00995f6f1a89571f6a2a", func := "backstitch/backstitchlaw25.SlotsKeep", spec := "slotsKeep", unfollowed := true, recurses := true, apart := false }
def SlotsKeepSaid : Prop := slotsKeepRow.holds Try.pinned (OpenSpec.ofChange slotsKeepSpec)

/-- ITS FALSE NEIGHBOUR: 'it returns false'. Refute it at one input. -/
def slotsKeepWrong : ChangeSpec := { name := "slotsKeep", fn := fun _ => fun
  | [d1, d2, d3, d4] => { results := [.lit (.bool false)], args := [d1, d2, d3, d4] }
  | _ => none }
def SlotsKeepWrongFalsely : Prop := slotsKeepRow.holds Try.pinned (OpenSpec.ofChange slotsKeepWrong)

/-- 'backstitchlaw25.SlotsAgain': WHATEVER THE INPUT: true; the input reads as it did. -/
def slotsAgainSpec : ChangeSpec := { name := "slotsAgain", fn := fun _ => fun
  | [d1, d2, d3, d4, d5] => { results := [.lit (.bool true)], args := [d1, d2, d3, d4, d5] }
  | _ => none }
def slotsAgainRow : OpenClaim := { program := "ytppoeoleehiemab", sum := "6db4fe00065e7134d984a2f13eec69aab75bc1bae93b00995f6f1a89571f6a2a", func := "backstitch/backstitchlaw25.SlotsAgain", spec := "slotsAgain", unfollowed := true, recurses := true, apart := false }
def SlotsAgainSaid : Prop := slotsAgainRow.holds Try.pinned (OpenSpec.ofChange slotsAgainSpec)

/-- ITS FALSE NEIGHBOUR: 'it returns false'. Refute it at one input. -/
def slotsAgainWrong : ChangeSpec := { name := "slotsAgain", fn := fun _ => fun
  | [d1, d2, d3, d4, d5] => { results := [.lit (.bool false)], args := [d1, d2, d3, d4, d5] }
  | _ => none }
def SlotsAgainWrongFalsely : Prop := slotsAgainRow.holds Try.pinned (OpenSpec.ofChange slotsAgainWrong)

/- THE SECOND FORM. 'bulk': how many values and letters a reading holds, each counted each time it is reached (what is shared counts as often as it is met; a slice's spare places count too). A statement '..UptoSaid' is the law's where the arguments, and the package variables that the reading takes, are together of bulk at most 1048576: NARROWER than '..Said'. Prove '..Said' where nothing that the law and all that it calls make is longer than what came in: it says more and counts as full. Else prove '..UptoSaid'. A law counts once. -/
mutual
def uptoBulk {H : Type} : DataW H → Nat
  | .lit (.string bytes) => bytes.length + 1
  | .lit _ => 1
  | .nil => 1
  | .ptr d => uptoBulk d + 1
  | .slice elems spare => uptoBulkAll elems + uptoBulkAll spare + 1
  | .agg parts => uptoBulkAll parts + 1
  | .iface _ d => uptoBulk d + 1
  | .map entries => uptoBulkEntries entries + 1
  | .held _ => 1
def uptoBulkAll {H : Type} : List (DataW H) → Nat
  | [] => 0
  | d :: r => uptoBulk d + uptoBulkAll r
def uptoBulkEntries {H : Type} : List (Lit × DataW H) → Nat
  | [] => 0
  | x :: r => uptoBulkEntry x + uptoBulkEntries r
def uptoBulkEntry {H : Type} : Lit × DataW H → Nat
  | (.string bytes, d) => bytes.length + uptoBulk d + 1
  | (_, d) => uptoBulk d + 1
 end
def uptoSmall : (H : Type) → List (DataW H) → Bool := fun _ ds => decide (uptoBulkAll ds ≤ 1048576)
def OpenSpec.upto (s : _root_.Go.ChangeSpec) : _root_.Go.OpenSpec := { _root_.Go.OpenSpec.ofChange s with cond := some uptoSmall }

/-- 'backstitchlaw09.SizeJoined', WHERE WHAT IT READS IS OF BULK AT MOST 1048576: true; the input reads as it did. -/
def sizeJoinedUptoRow : OpenClaim := { program := "ytppoeoleehiemab", sum := "6db4fe00065e7134d984a2f13eec69aab75bc1bae93b00995f6f1a89571f6a2a", func := "backstitch/backstitchlaw09.SizeJoined", spec := "sizeJoined", unfollowed := true, recurses := true, apart := false, narrowed := true }
def SizeJoinedUptoSaid : Prop := sizeJoinedUptoRow.holds Try.pinned (OpenSpec.upto sizeJoinedSpec)

/-- 'backstitchlaw25.SlotsPlays', WHERE WHAT IT READS IS OF BULK AT MOST 1048576: true; the input reads as it did. -/
def slotsPlaysUptoRow : OpenClaim := { program := "ytppoeoleehiemab", sum := "6db4fe00065e7134d984a2f13eec69aab75bc1bae93b00995f6f1a89571f6a2a", func := "backstitch/backstitchlaw25.SlotsPlays", spec := "slotsPlays", unfollowed := true, recurses := true, apart := false, narrowed := true }
def SlotsPlaysUptoSaid : Prop := slotsPlaysUptoRow.holds Try.pinned (OpenSpec.upto slotsPlaysSpec)

/-- 'backstitchlaw25.SlotsMakes', WHERE WHAT IT READS IS OF BULK AT MOST 1048576: true; the input reads as it did. -/
def slotsMakesUptoRow : OpenClaim := { program := "ytppoeoleehiemab", sum := "6db4fe00065e7134d984a2f13eec69aab75bc1bae93b00995f6f1a89571f6a2a", func := "backstitch/backstitchlaw25.SlotsMakes", spec := "slotsMakes", unfollowed := true, recurses := true, apart := false, narrowed := true }
def SlotsMakesUptoSaid : Prop := slotsMakesUptoRow.holds Try.pinned (OpenSpec.upto slotsMakesSpec)

/-- 'backstitchlaw25.SlotsKeep', WHERE WHAT IT READS IS OF BULK AT MOST 1048576: true; the input reads as it did. -/
def slotsKeepUptoRow : OpenClaim := { program := "ytppoeoleehiemab", sum := "6db4fe00065e7134d984a2f13eec69aab75bc1bae93b00995f6f1a89571f6a2a", func := "backstitch/backstitchlaw25.SlotsKeep", spec := "slotsKeep", unfollowed := true, recurses := true, apart := false, narrowed := true }
def SlotsKeepUptoSaid : Prop := slotsKeepUptoRow.holds Try.pinned (OpenSpec.upto slotsKeepSpec)

/-- 'backstitchlaw25.SlotsAgain', WHERE WHAT IT READS IS OF BULK AT MOST 1048576: true; the input reads as it did. -/
def slotsAgainUptoRow : OpenClaim := { program := "ytppoeoleehiemab", sum := "6db4fe00065e7134d984a2f13eec69aab75bc1bae93b00995f6f1a89571f6a2a", func := "backstitch/backstitchlaw25.SlotsAgain", spec := "slotsAgain", unfollowed := true, recurses := true, apart := false, narrowed := true }
def SlotsAgainUptoSaid : Prop := slotsAgainUptoRow.holds Try.pinned (OpenSpec.upto slotsAgainSpec)

end Rows
end Go.Proofs.Ytppoeoleehiemab
