/-
  No cell of these rows narrows 'for every input' (looked for: loops, veiled, ifaces, maps, wideKeys, modest, calm, conditions, laid).
  DERIVED. THE GIVEN ROWS OF THIS SEAT. 4 by the template 'for every input the law returns true; each argument reads behind the call as it read before'; 0 by the template 'total and deterministic' (their statements: YtojdfmmgihefkaaGreatTotals.lean).
  GIVEN WITH THE SEED: the statements are not yours to turn. If you find one false, say at which input.
  Laid BY PROGRAM, IN A SANDBOX (cutbox-rows.mjs): the forced cells as the released guide's own fill.sh prints them over the translation 8cabb8cd2eafb2d3… (all of the seat's roots in one cut). By AI agents, Wed Nov 11 2026. No macro, syntax, notation, axiom, sorry.
-/
import Derived.Test.YtojdfmmgihefkaaGreatChecked
import GoSem.Claim
import GoSem.ClaimJoined
import GoSem.ClaimMapViews
import Derived.JoinedTies
import Derived.KernelRfl
namespace Go.Proofs.YtojdfmmgihefkaaGreat
/- THE CELL 'sum', in the pinned program and in every row, IS THE sha256 OF THE DUMP (.gsa) THAT YtojdfmmgihefkaaGreatProg.lean LOADS. Nothing in Lean hashes anything: it is a label: what it is worth is what the hold of that sum in a sandbox is worth. -/
noncomputable def Tryz.pinned : Pinned := { name := "ytojdfmmgihefkaagreat", sum := "8cabb8cd2eafb2d3d44d1b20217a9ca49375b2a9e9ca57a1c7e0b981fbe1be01", checked := Tryz.checked }
namespace Rows
def none {H : Type} : Left H := { results := [], args := [] }

/-- 'backstitchlaw35.DrivePlays': WHATEVER THE INPUT: true; the input reads as it did. -/
def drivePlaysSpec : ChangeSpec := { name := "drivePlays", fn := fun _ => fun
  | [d1, d2] => { results := [.lit (.bool true)], args := [d1, d2] }
  | _ => none }
def drivePlaysRow : OpenClaim := { program := "ytojdfmmgihefkaagreat", sum := "8cabb8cd2eafb2d3d44d1b20217a9ca49375b2a9e9ca57a1c7e0b981fbe1be01", func := "backstitch/backstitchlaw35.DrivePlays", spec := "drivePlays", unfollowed := true, recurses := true, apart := false }
def DrivePlaysSaid : Prop := drivePlaysRow.holds Tryz.pinned (OpenSpec.ofChange drivePlaysSpec)

/-- ITS FALSE NEIGHBOUR: 'it returns false'. Refute it at one input. -/
def drivePlaysWrong : ChangeSpec := { name := "drivePlays", fn := fun _ => fun
  | [d1, d2] => { results := [.lit (.bool false)], args := [d1, d2] }
  | _ => none }
def DrivePlaysWrongFalsely : Prop := drivePlaysRow.holds Tryz.pinned (OpenSpec.ofChange drivePlaysWrong)

/-- 'backstitchlaw35.DriveNil': WHATEVER THE INPUT: true; the input reads as it did. -/
def driveNilSpec : ChangeSpec := { name := "driveNil", fn := fun _ => fun
  | [d] => { results := [.lit (.bool true)], args := [d] }
  | _ => none }
def driveNilRow : OpenClaim := { program := "ytojdfmmgihefkaagreat", sum := "8cabb8cd2eafb2d3d44d1b20217a9ca49375b2a9e9ca57a1c7e0b981fbe1be01", func := "backstitch/backstitchlaw35.DriveNil", spec := "driveNil", unfollowed := true, recurses := true, apart := false }
def DriveNilSaid : Prop := driveNilRow.holds Tryz.pinned (OpenSpec.ofChange driveNilSpec)

/-- ITS FALSE NEIGHBOUR: 'it returns false'. Refute it at one input. -/
def driveNilWrong : ChangeSpec := { name := "driveNil", fn := fun _ => fun
  | [d] => { results := [.lit (.bool false)], args := [d] }
  | _ => none }
def DriveNilWrongFalsely : Prop := driveNilRow.holds Tryz.pinned (OpenSpec.ofChange driveNilWrong)

/-- 'backstitchlaw35.DriveAgain': WHATEVER THE INPUT: true; the input reads as it did. -/
def driveAgainSpec : ChangeSpec := { name := "driveAgain", fn := fun _ => fun
  | [d1, d2, d3, d4, d5, d6] => { results := [.lit (.bool true)], args := [d1, d2, d3, d4, d5, d6] }
  | _ => none }
def driveAgainRow : OpenClaim := { program := "ytojdfmmgihefkaagreat", sum := "8cabb8cd2eafb2d3d44d1b20217a9ca49375b2a9e9ca57a1c7e0b981fbe1be01", func := "backstitch/backstitchlaw35.DriveAgain", spec := "driveAgain", unfollowed := true, recurses := true, apart := false }
def DriveAgainSaid : Prop := driveAgainRow.holds Tryz.pinned (OpenSpec.ofChange driveAgainSpec)

/-- ITS FALSE NEIGHBOUR: 'it returns false'. Refute it at one input. -/
def driveAgainWrong : ChangeSpec := { name := "driveAgain", fn := fun _ => fun
  | [d1, d2, d3, d4, d5, d6] => { results := [.lit (.bool false)], args := [d1, d2, d3, d4, d5, d6] }
  | _ => none }
def DriveAgainWrongFalsely : Prop := driveAgainRow.holds Tryz.pinned (OpenSpec.ofChange driveAgainWrong)

/-- 'backstitchlaw35.DriveOn': WHATEVER THE INPUT: true; the input reads as it did. -/
def driveOnSpec : ChangeSpec := { name := "driveOn", fn := fun _ => fun
  | [d1, d2, d3] => { results := [.lit (.bool true)], args := [d1, d2, d3] }
  | _ => none }
def driveOnRow : OpenClaim := { program := "ytojdfmmgihefkaagreat", sum := "8cabb8cd2eafb2d3d44d1b20217a9ca49375b2a9e9ca57a1c7e0b981fbe1be01", func := "backstitch/backstitchlaw35.DriveOn", spec := "driveOn", unfollowed := true, recurses := true, apart := false }
def DriveOnSaid : Prop := driveOnRow.holds Tryz.pinned (OpenSpec.ofChange driveOnSpec)

/-- ITS FALSE NEIGHBOUR: 'it returns false'. Refute it at one input. -/
def driveOnWrong : ChangeSpec := { name := "driveOn", fn := fun _ => fun
  | [d1, d2, d3] => { results := [.lit (.bool false)], args := [d1, d2, d3] }
  | _ => none }
def DriveOnWrongFalsely : Prop := driveOnRow.holds Tryz.pinned (OpenSpec.ofChange driveOnWrong)

/- THE SECOND FORM. 'bulk': how many values and letters a reading holds, each counted each time it is reached (what is shared counts as often as it is met; a slice's spare places count too). A statement '..UptoSaid' is the law's where the arguments, and the package variables that the reading takes, are together of bulk at most 1048576: NARROWER than '..Said'. Prove '..Said' where nothing that the law and all that it calls make is longer than what came in: it says more and counts as full. Else prove '..UptoSaid'. A law counts once. -/
mutual
def uptoBulk {H : Type} : DataW H → Nat
  | .lit (.string bytes) => bytes.length + 1
  | .lit _ => 1
  | .nil => 1
  | .ptr d => uptoBulk d + 1
  | .slice elems spare => uptoBulkAll elems + uptoBulkAll spare + 1
  | .agg parts => uptoBulkAll parts + 1
  | .iface _ d => uptoBulk d + 1
  | .map entries => uptoBulkEntries entries + 1
  | .held _ => 1
def uptoBulkAll {H : Type} : List (DataW H) → Nat
  | [] => 0
  | d :: r => uptoBulk d + uptoBulkAll r
def uptoBulkEntries {H : Type} : List (Lit × DataW H) → Nat
  | [] => 0
  | x :: r => uptoBulkEntry x + uptoBulkEntries r
def uptoBulkEntry {H : Type} : Lit × DataW H → Nat
  | (.string bytes, d) => bytes.length + uptoBulk d + 1
  | (_, d) => uptoBulk d + 1
 end
def uptoSmall : (H : Type) → List (DataW H) → Bool := fun _ ds => decide (uptoBulkAll ds ≤ 1048576)
def OpenSpec.upto (s : _root_.Go.ChangeSpec) : _root_.Go.OpenSpec := { _root_.Go.OpenSpec.ofChange s with cond := some uptoSmall }

/-- 'backstitchlaw35.DrivePlays', WHERE WHAT IT READS IS OF BULK AT MOST 1048576: true; the input reads as it did. -/
def drivePlaysUptoRow : OpenClaim := { program := "ytojdfmmgihefkaagreat", sum := "8cabb8cd2eafb2d3d44d1b20217a9ca49375b2a9e9ca57a1c7e0b981fbe1be01", func := "backstitch/backstitchlaw35.DrivePlays", spec := "drivePlays", unfollowed := true, recurses := true, apart := false, narrowed := true }
def DrivePlaysUptoSaid : Prop := drivePlaysUptoRow.holds Tryz.pinned (OpenSpec.upto drivePlaysSpec)

/-- 'backstitchlaw35.DriveNil', WHERE WHAT IT READS IS OF BULK AT MOST 1048576: true; the input reads as it did. -/
def driveNilUptoRow : OpenClaim := { program := "ytojdfmmgihefkaagreat", sum := "8cabb8cd2eafb2d3d44d1b20217a9ca49375b2a9e9ca57a1c7e0b981fbe1be01", func := "backstitch/backstitchlaw35.DriveNil", spec := "driveNil", unfollowed := true, recurses := true, apart := false, narrowed := true }
def DriveNilUptoSaid : Prop := driveNilUptoRow.holds Tryz.pinned (OpenSpec.upto driveNilSpec)

/-- 'backstitchlaw35.DriveAgain', WHERE WHAT IT READS IS OF BULK AT MOST 1048576: true; the input reads as it did. -/
def driveAgainUptoRow : OpenClaim := { program := "ytojdfmmgihefkaagreat", sum := "8cabb8cd2eafb2d3d44d1b20217a9ca49375b2a9e9ca57a1c7e0b981fbe1be01", func := "backstitch/backstitchlaw35.DriveAgain", spec := "driveAgain", unfollowed := true, recurses := true, apart := false, narrowed := true }
def DriveAgainUptoSaid : Prop := driveAgainUptoRow.holds Tryz.pinned (OpenSpec.upto driveAgainSpec)

/-- 'backstitchlaw35.DriveOn', WHERE WHAT IT READS IS OF BULK AT MOST 1048576: true; the input reads as it did. -/
def driveOnUptoRow : OpenClaim := { program := "ytojdfmmgihefkaagreat", sum := "8cabb8cd2eafb2d3d44d1b20217a9ca49375b2a9e9ca57a1c7e0b981fbe1be01", func := "backstitch/backstitchlaw35.DriveOn", spec := "driveOn", unfollowed := true, recurses := true, apart := false, narrowed := true }
def DriveOnUptoSaid : Prop := driveOnUptoRow.holds Tryz.pinned (OpenSpec.upto driveOnSpec)

end Rows
end Go.Proofs.YtojdfmmgihefkaaGreat
