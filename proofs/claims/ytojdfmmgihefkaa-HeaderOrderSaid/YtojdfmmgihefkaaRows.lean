/-
  No cell of these rows narrows 'for every input' (looked for: loops, veiled, ifaces, maps, wideKeys, modest, calm, conditions, laid).
  DERIVED. THE GIVEN ROWS OF THIS SEAT. 5 by the template 'for every input the law returns true; each argument reads behind the call as it read before'; 0 by the template 'total and deterministic' (their statements: YtojdfmmgihefkaaTotals.lean).
  GIVEN WITH THE SEED: the statements are not yours to turn. If you find one false, say at which input.
  Laid BY PROGRAM, IN A SANDBOX (cutbox-rows.mjs): the forced cells as the released guide's own fill.sh prints them over the translation 8bbc10c533572c22… (all of the seat's roots in one cut). By AI agents, Wed Nov 11 2026. No macro, syntax, notation, axiom, sorry.
-/
import Derived.Test.YtojdfmmgihefkaaChecked
import GoSem.Claim
import GoSem.ClaimJoined
import GoSem.ClaimMapViews
import Derived.JoinedTies
import Derived.KernelRfl
namespace Go.Proofs.Ytojdfmmgihefkaa
/- THE CELL 'sum', in the pinned program and in every row, IS THE sha256 OF THE DUMP (.gsa) THAT YtojdfmmgihefkaaProg.lean LOADS. Nothing in Lean hashes anything: it is a label: what it is worth is what the hold of that sum in a sandbox is worth. -/
noncomputable def Try.pinned : Pinned := { name := "ytojdfmmgihefkaa", sum := "8bbc10c533572c22e0c59a16dc00e06b2140ec45311d22257fa722b6a2f400ad", checked := Try.checked }
namespace Rows
def none {H : Type} : Left H := { results := [], args := [] }

/-- 'backstitchlaw33.HeaderChecks': WHATEVER THE INPUT: true; the input reads as it did. -/
def headerChecksSpec : ChangeSpec := { name := "headerChecks", fn := fun _ => fun
  | [d] => { results := [.lit (.bool true)], args := [d] }
  | _ => none }
def headerChecksRow : OpenClaim := { program := "ytojdfmmgihefkaa", sum := "8bbc10c533572c22e0c59a16dc00e06b2140ec45311d22257fa722b6a2f400ad", func := "backstitch/backstitchlaw33.HeaderChecks", spec := "headerChecks", unfollowed := true, recurses := true, apart := false }
def HeaderChecksSaid : Prop := headerChecksRow.holds Try.pinned (OpenSpec.ofChange headerChecksSpec)

/-- ITS FALSE NEIGHBOUR: 'it returns false'. Refute it at one input. -/
def headerChecksWrong : ChangeSpec := { name := "headerChecks", fn := fun _ => fun
  | [d] => { results := [.lit (.bool false)], args := [d] }
  | _ => none }
def HeaderChecksWrongFalsely : Prop := headerChecksRow.holds Try.pinned (OpenSpec.ofChange headerChecksWrong)

/-- 'backstitchlaw33.HeaderDecodes': WHATEVER THE INPUT: true; the input reads as it did. -/
def headerDecodesSpec : ChangeSpec := { name := "headerDecodes", fn := fun _ => fun
  | [d] => { results := [.lit (.bool true)], args := [d] }
  | _ => none }
def headerDecodesRow : OpenClaim := { program := "ytojdfmmgihefkaa", sum := "8bbc10c533572c22e0c59a16dc00e06b2140ec45311d22257fa722b6a2f400ad", func := "backstitch/backstitchlaw33.HeaderDecodes", spec := "headerDecodes", unfollowed := true, recurses := true, apart := false }
def HeaderDecodesSaid : Prop := headerDecodesRow.holds Try.pinned (OpenSpec.ofChange headerDecodesSpec)

/-- ITS FALSE NEIGHBOUR: 'it returns false'. Refute it at one input. -/
def headerDecodesWrong : ChangeSpec := { name := "headerDecodes", fn := fun _ => fun
  | [d] => { results := [.lit (.bool false)], args := [d] }
  | _ => none }
def HeaderDecodesWrongFalsely : Prop := headerDecodesRow.holds Try.pinned (OpenSpec.ofChange headerDecodesWrong)

/-- 'backstitchlaw33.HeaderPacks': WHATEVER THE INPUT: true; the input reads as it did. -/
def headerPacksSpec : ChangeSpec := { name := "headerPacks", fn := fun _ => fun
  | [d1, d2] => { results := [.lit (.bool true)], args := [d1, d2] }
  | _ => none }
def headerPacksRow : OpenClaim := { program := "ytojdfmmgihefkaa", sum := "8bbc10c533572c22e0c59a16dc00e06b2140ec45311d22257fa722b6a2f400ad", func := "backstitch/backstitchlaw33.HeaderPacks", spec := "headerPacks", unfollowed := true, recurses := true, apart := false }
def HeaderPacksSaid : Prop := headerPacksRow.holds Try.pinned (OpenSpec.ofChange headerPacksSpec)

/-- ITS FALSE NEIGHBOUR: 'it returns false'. Refute it at one input. -/
def headerPacksWrong : ChangeSpec := { name := "headerPacks", fn := fun _ => fun
  | [d1, d2] => { results := [.lit (.bool false)], args := [d1, d2] }
  | _ => none }
def HeaderPacksWrongFalsely : Prop := headerPacksRow.holds Try.pinned (OpenSpec.ofChange headerPacksWrong)

/-- 'backstitchlaw33.HeaderBack': WHATEVER THE INPUT: true; the input reads as it did. -/
def headerBackSpec : ChangeSpec := { name := "headerBack", fn := fun _ => fun
  | [d1, d2, d3] => { results := [.lit (.bool true)], args := [d1, d2, d3] }
  | _ => none }
def headerBackRow : OpenClaim := { program := "ytojdfmmgihefkaa", sum := "8bbc10c533572c22e0c59a16dc00e06b2140ec45311d22257fa722b6a2f400ad", func := "backstitch/backstitchlaw33.HeaderBack", spec := "headerBack", unfollowed := true, recurses := true, apart := false }
def HeaderBackSaid : Prop := headerBackRow.holds Try.pinned (OpenSpec.ofChange headerBackSpec)

/-- ITS FALSE NEIGHBOUR: 'it returns false'. Refute it at one input. -/
def headerBackWrong : ChangeSpec := { name := "headerBack", fn := fun _ => fun
  | [d1, d2, d3] => { results := [.lit (.bool false)], args := [d1, d2, d3] }
  | _ => none }
def HeaderBackWrongFalsely : Prop := headerBackRow.holds Try.pinned (OpenSpec.ofChange headerBackWrong)

/-- 'backstitchlaw33.HeaderOrder': WHATEVER THE INPUT: true; the input reads as it did. -/
def headerOrderSpec : ChangeSpec := { name := "headerOrder", fn := fun _ => fun
  | [d1, d2, d3] => { results := [.lit (.bool true)], args := [d1, d2, d3] }
  | _ => none }
def headerOrderRow : OpenClaim := { program := "ytojdfmmgihefkaa", sum := "8bbc10c533572c22e0c59a16dc00e06b2140ec45311d22257fa722b6a2f400ad", func := "backstitch/backstitchlaw33.HeaderOrder", spec := "headerOrder", unfollowed := true, recurses := true, apart := false }
def HeaderOrderSaid : Prop := headerOrderRow.holds Try.pinned (OpenSpec.ofChange headerOrderSpec)

/-- ITS FALSE NEIGHBOUR: 'it returns false'. Refute it at one input. -/
def headerOrderWrong : ChangeSpec := { name := "headerOrder", fn := fun _ => fun
  | [d1, d2, d3] => { results := [.lit (.bool false)], args := [d1, d2, d3] }
  | _ => none }
def HeaderOrderWrongFalsely : Prop := headerOrderRow.holds Try.pinned (OpenSpec.ofChange headerOrderWrong)

/- THE SECOND FORM. 'bulk': how many values and letters a reading holds, each counted each time it is reached (what is shared counts as often as it is met; a slice's spare places count too). A statement '..UptoSaid' is the law's where the arguments, and the package variables that the reading takes, are together of bulk at most 1048576: NARROWER than '..Said'. Prove '..Said' where nothing that the law and all that it calls make is longer than what came in: it says more and counts as full. Else prove '..UptoSaid'. A law counts once. -/
mutual
def uptoBulk {H : Type} : DataW H → Nat
  | .lit (.string bytes) => bytes.length + 1
  | .lit _ => 1
  | .nil => 1
  | .ptr d => uptoBulk d + 1
  | .slice elems spare => uptoBulkAll elems + uptoBulkAll spare + 1
  | .agg parts => uptoBulkAll parts + 1
  | .iface _ d => uptoBulk d + 1
  | .map entries => uptoBulkEntries entries + 1
  | .held _ => 1
def uptoBulkAll {H : Type} : List (DataW H) → Nat
  | [] => 0
  | d :: r => uptoBulk d + uptoBulkAll r
def uptoBulkEntries {H : Type} : List (Lit × DataW H) → Nat
  | [] => 0
  | x :: r => uptoBulkEntry x + uptoBulkEntries r
def uptoBulkEntry {H : Type} : Lit × DataW H → Nat
  | (.string bytes, d) => bytes.length + uptoBulk d + 1
  | (_, d) => uptoBulk d + 1
 end
def uptoSmall : (H : Type) → List (DataW H) → Bool := fun _ ds => decide (uptoBulkAll ds ≤ 1048576)
def OpenSpec.upto (s : _root_.Go.ChangeSpec) : _root_.Go.OpenSpec := { _root_.Go.OpenSpec.ofChange s with cond := some uptoSmall }

/-- 'backstitchlaw33.HeaderChecks', WHERE WHAT IT READS IS OF BULK AT MOST 1048576: true; the input reads as it did. -/
def headerChecksUptoRow : OpenClaim := { program := "ytojdfmmgihefkaa", sum := "8bbc10c533572c22e0c59a16dc00e06b2140ec45311d22257fa722b6a2f400ad", func := "backstitch/backstitchlaw33.HeaderChecks", spec := "headerChecks", unfollowed := true, recurses := true, apart := false, narrowed := true }
def HeaderChecksUptoSaid : Prop := headerChecksUptoRow.holds Try.pinned (OpenSpec.upto headerChecksSpec)

/-- 'backstitchlaw33.HeaderDecodes', WHERE WHAT IT READS IS OF BULK AT MOST 1048576: true; the input reads as it did. -/
def headerDecodesUptoRow : OpenClaim := { program := "ytojdfmmgihefkaa", sum := "8bbc10c533572c22e0c59a16dc00e06b2140ec45311d22257fa722b6a2f400ad", func := "backstitch/backstitchlaw33.HeaderDecodes", spec := "headerDecodes", unfollowed := true, recurses := true, apart := false, narrowed := true }
def HeaderDecodesUptoSaid : Prop := headerDecodesUptoRow.holds Try.pinned (OpenSpec.upto headerDecodesSpec)

/-- 'backstitchlaw33.HeaderPacks', WHERE WHAT IT READS IS OF BULK AT MOST 1048576: true; the input reads as it did. -/
def headerPacksUptoRow : OpenClaim := { program := "ytojdfmmgihefkaa", sum := "8bbc10c533572c22e0c59a16dc00e06b2140ec45311d22257fa722b6a2f400ad", func := "backstitch/backstitchlaw33.HeaderPacks", spec := "headerPacks", unfollowed := true, recurses := true, apart := false, narrowed := true }
def HeaderPacksUptoSaid : Prop := headerPacksUptoRow.holds Try.pinned (OpenSpec.upto headerPacksSpec)

/-- 'backstitchlaw33.HeaderBack', WHERE WHAT IT READS IS OF BULK AT MOST 1048576: true; the input reads as it did. -/
def headerBackUptoRow : OpenClaim := { program := "ytojdfmmgihefkaa", sum := "8bbc10c533572c22e0c59a16dc00e06b2140ec45311d22257fa722b6a2f400ad", func := "backstitch/backstitchlaw33.HeaderBack", spec := "headerBack", unfollowed := true, recurses := true, apart := false, narrowed := true }
def HeaderBackUptoSaid : Prop := headerBackUptoRow.holds Try.pinned (OpenSpec.upto headerBackSpec)

/-- 'backstitchlaw33.HeaderOrder', WHERE WHAT IT READS IS OF BULK AT MOST 1048576: true; the input reads as it did. -/
def headerOrderUptoRow : OpenClaim := { program := "ytojdfmmgihefkaa", sum := "8bbc10c533572c22e0c59a16dc00e06b2140ec45311d22257fa722b6a2f400ad", func := "backstitch/backstitchlaw33.HeaderOrder", spec := "headerOrder", unfollowed := true, recurses := true, apart := false, narrowed := true }
def HeaderOrderUptoSaid : Prop := headerOrderUptoRow.holds Try.pinned (OpenSpec.upto headerOrderSpec)

end Rows
end Go.Proofs.Ytojdfmmgihefkaa
