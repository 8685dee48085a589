/-
  No cell of these rows narrows 'for every input' (looked for: loops, veiled, ifaces, maps, wideKeys, modest, calm, conditions, laid).
  DERIVED. THE GIVEN ROWS OF THIS SEAT. 12 by the template 'for every input the law returns true; each argument reads behind the call as it read before'; 0 by the template 'total and deterministic' (their statements: YtppoeoleehiemaaTotals.lean).
  GIVEN WITH THE SEED: the statements are not yours to turn. If you find one false, say at which input.
  Laid BY PROGRAM, IN A SANDBOX (cutbox-rows.mjs): the forced cells as the released guide's own fill.sh prints them over the translation c9063d3f97db6f25… (all of the seat's roots in one cut). By AI agents, Wed Nov 11 2026. No macro, syntax, notation, axiom, sorry.
-/
import Derived.Test.YtppoeoleehiemaaChecked
import GoSem.Claim
import GoSem.ClaimJoined
import GoSem.ClaimMapViews
import Derived.JoinedTies
import Derived.KernelRfl
namespace Go.Proofs.Ytppoeoleehiemaa
/- THE CELL 'sum', in the pinned program and in every row, IS THE sha256 OF THE DUMP (.gsa) THAT YtppoeoleehiemaaProg.lean LOADS. Nothing in Lean hashes anything: it is a label: what it is worth is what the hold of that sum in a sandbox is worth. -/
noncomputable def Try.pinned : Pinned := { name := "ytppoeoleehiemaa", sum := "c9063d3f97db6f253b069b8c666b5715b9aa5005bf23275aa97e15700e286b7d", checked := Try.checked }
namespace Rows
def none {H : Type} : Left H := { results := [], args := [] }

/-- 'backstitchlaw19.MeterPlays': WHATEVER THE INPUT: true; the input reads as it did. -/
def meterPlaysSpec : ChangeSpec := { name := "meterPlays", fn := fun _ => fun
  | [d1, d2, d3, d4] => { results := [.lit (.bool true)], args := [d1, d2, d3, d4] }
  | _ => none }
def meterPlaysRow : OpenClaim := { program := "ytppoeoleehiemaa", sum := "c9063d3f97db6f253b069b8c666b5715b9aa5005bf23275aa97e15700e286b7d", func := "backstitch/backstitchlaw19.MeterPlays", spec := "meterPlays", apart := false }
def MeterPlaysSaid : Prop := meterPlaysRow.holds Try.pinned (OpenSpec.ofChange meterPlaysSpec)

/-- ITS FALSE NEIGHBOUR: 'it returns false'. Refute it at one input. -/
def meterPlaysWrong : ChangeSpec := { name := "meterPlays", fn := fun _ => fun
  | [d1, d2, d3, d4] => { results := [.lit (.bool false)], args := [d1, d2, d3, d4] }
  | _ => none }
def MeterPlaysWrongFalsely : Prop := meterPlaysRow.holds Try.pinned (OpenSpec.ofChange meterPlaysWrong)

/-- 'backstitchlaw19.MeterSides': WHATEVER THE INPUT: true; the input reads as it did. -/
def meterSidesSpec : ChangeSpec := { name := "meterSides", fn := fun _ => fun
  | [d1, d2] => { results := [.lit (.bool true)], args := [d1, d2] }
  | _ => none }
def meterSidesRow : OpenClaim := { program := "ytppoeoleehiemaa", sum := "c9063d3f97db6f253b069b8c666b5715b9aa5005bf23275aa97e15700e286b7d", func := "backstitch/backstitchlaw19.MeterSides", spec := "meterSides", apart := false }
def MeterSidesSaid : Prop := meterSidesRow.holds Try.pinned (OpenSpec.ofChange meterSidesSpec)

/-- ITS FALSE NEIGHBOUR: 'it returns false'. Refute it at one input. -/
def meterSidesWrong : ChangeSpec := { name := "meterSides", fn := fun _ => fun
  | [d1, d2] => { results := [.lit (.bool false)], args := [d1, d2] }
  | _ => none }
def MeterSidesWrongFalsely : Prop := meterSidesRow.holds Try.pinned (OpenSpec.ofChange meterSidesWrong)

/-- 'backstitchlaw19.MeterBack': WHATEVER THE INPUT: true; the input reads as it did. -/
def meterBackSpec : ChangeSpec := { name := "meterBack", fn := fun _ => fun
  | [d1, d2] => { results := [.lit (.bool true)], args := [d1, d2] }
  | _ => none }
def meterBackRow : OpenClaim := { program := "ytppoeoleehiemaa", sum := "c9063d3f97db6f253b069b8c666b5715b9aa5005bf23275aa97e15700e286b7d", func := "backstitch/backstitchlaw19.MeterBack", spec := "meterBack", apart := false }
def MeterBackSaid : Prop := meterBackRow.holds Try.pinned (OpenSpec.ofChange meterBackSpec)

/-- ITS FALSE NEIGHBOUR: 'it returns false'. Refute it at one input. -/
def meterBackWrong : ChangeSpec := { name := "meterBack", fn := fun _ => fun
  | [d1, d2] => { results := [.lit (.bool false)], args := [d1, d2] }
  | _ => none }
def MeterBackWrongFalsely : Prop := meterBackRow.holds Try.pinned (OpenSpec.ofChange meterBackWrong)

/-- 'backstitchlaw36.FreezeWords': WHATEVER THE INPUT: true; the input reads as it did. -/
def freezeWordsSpec : ChangeSpec := { name := "freezeWords", fn := fun _ => fun
  | [d1, d2, d3] => { results := [.lit (.bool true)], args := [d1, d2, d3] }
  | _ => none }
def freezeWordsRow : OpenClaim := { program := "ytppoeoleehiemaa", sum := "c9063d3f97db6f253b069b8c666b5715b9aa5005bf23275aa97e15700e286b7d", func := "backstitch/backstitchlaw36.FreezeWords", spec := "freezeWords", apart := false }
def FreezeWordsSaid : Prop := freezeWordsRow.holds Try.pinned (OpenSpec.ofChange freezeWordsSpec)

/-- ITS FALSE NEIGHBOUR: 'it returns false'. Refute it at one input. -/
def freezeWordsWrong : ChangeSpec := { name := "freezeWords", fn := fun _ => fun
  | [d1, d2, d3] => { results := [.lit (.bool false)], args := [d1, d2, d3] }
  | _ => none }
def FreezeWordsWrongFalsely : Prop := freezeWordsRow.holds Try.pinned (OpenSpec.ofChange freezeWordsWrong)

/-- 'backstitchlaw36.FreezeBack': WHATEVER THE INPUT: true; the input reads as it did. -/
def freezeBackSpec : ChangeSpec := { name := "freezeBack", fn := fun _ => fun
  | [d1, d2, d3, d4] => { results := [.lit (.bool true)], args := [d1, d2, d3, d4] }
  | _ => none }
def freezeBackRow : OpenClaim := { program := "ytppoeoleehiemaa", sum := "c9063d3f97db6f253b069b8c666b5715b9aa5005bf23275aa97e15700e286b7d", func := "backstitch/backstitchlaw36.FreezeBack", spec := "freezeBack", apart := false }
def FreezeBackSaid : Prop := freezeBackRow.holds Try.pinned (OpenSpec.ofChange freezeBackSpec)

/-- ITS FALSE NEIGHBOUR: 'it returns false'. Refute it at one input. -/
def freezeBackWrong : ChangeSpec := { name := "freezeBack", fn := fun _ => fun
  | [d1, d2, d3, d4] => { results := [.lit (.bool false)], args := [d1, d2, d3, d4] }
  | _ => none }
def FreezeBackWrongFalsely : Prop := freezeBackRow.holds Try.pinned (OpenSpec.ofChange freezeBackWrong)

/-- 'backstitchlaw18.ArenaApart': WHATEVER THE INPUT: true; the input reads as it did. -/
def arenaApartSpec : ChangeSpec := { name := "arenaApart", fn := fun _ => fun
  | [d1, d2, d3] => { results := [.lit (.bool true)], args := [d1, d2, d3] }
  | _ => none }
def arenaApartRow : OpenClaim := { program := "ytppoeoleehiemaa", sum := "c9063d3f97db6f253b069b8c666b5715b9aa5005bf23275aa97e15700e286b7d", func := "backstitch/backstitchlaw18.ArenaApart", spec := "arenaApart", unfollowed := true, recurses := true, apart := false }
def ArenaApartSaid : Prop := arenaApartRow.holds Try.pinned (OpenSpec.ofChange arenaApartSpec)

/-- ITS FALSE NEIGHBOUR: 'it returns false'. Refute it at one input. -/
def arenaApartWrong : ChangeSpec := { name := "arenaApart", fn := fun _ => fun
  | [d1, d2, d3] => { results := [.lit (.bool false)], args := [d1, d2, d3] }
  | _ => none }
def ArenaApartWrongFalsely : Prop := arenaApartRow.holds Try.pinned (OpenSpec.ofChange arenaApartWrong)

/-- 'backstitchlaw18.ArenaMakes': WHATEVER THE INPUT: true; the input reads as it did. -/
def arenaMakesSpec : ChangeSpec := { name := "arenaMakes", fn := fun _ => fun
  | [d1, d2] => { results := [.lit (.bool true)], args := [d1, d2] }
  | _ => none }
def arenaMakesRow : OpenClaim := { program := "ytppoeoleehiemaa", sum := "c9063d3f97db6f253b069b8c666b5715b9aa5005bf23275aa97e15700e286b7d", func := "backstitch/backstitchlaw18.ArenaMakes", spec := "arenaMakes", unfollowed := true, recurses := true, apart := false }
def ArenaMakesSaid : Prop := arenaMakesRow.holds Try.pinned (OpenSpec.ofChange arenaMakesSpec)

/-- ITS FALSE NEIGHBOUR: 'it returns false'. Refute it at one input. -/
def arenaMakesWrong : ChangeSpec := { name := "arenaMakes", fn := fun _ => fun
  | [d1, d2] => { results := [.lit (.bool false)], args := [d1, d2] }
  | _ => none }
def ArenaMakesWrongFalsely : Prop := arenaMakesRow.holds Try.pinned (OpenSpec.ofChange arenaMakesWrong)

/-- 'backstitchlaw18.ArenaNil': WHATEVER THE INPUT: true; the input reads as it did. -/
def arenaNilSpec : ChangeSpec := { name := "arenaNil", fn := fun _ => fun
  | [d1, d2] => { results := [.lit (.bool true)], args := [d1, d2] }
  | _ => none }
def arenaNilRow : OpenClaim := { program := "ytppoeoleehiemaa", sum := "c9063d3f97db6f253b069b8c666b5715b9aa5005bf23275aa97e15700e286b7d", func := "backstitch/backstitchlaw18.ArenaNil", spec := "arenaNil", unfollowed := true, recurses := true, apart := false }
def ArenaNilSaid : Prop := arenaNilRow.holds Try.pinned (OpenSpec.ofChange arenaNilSpec)

/-- ITS FALSE NEIGHBOUR: 'it returns false'. Refute it at one input. -/
def arenaNilWrong : ChangeSpec := { name := "arenaNil", fn := fun _ => fun
  | [d1, d2] => { results := [.lit (.bool false)], args := [d1, d2] }
  | _ => none }
def ArenaNilWrongFalsely : Prop := arenaNilRow.holds Try.pinned (OpenSpec.ofChange arenaNilWrong)

/-- 'backstitchlaw18.ArenaPlays': WHATEVER THE INPUT: true; the input reads as it did. -/
def arenaPlaysSpec : ChangeSpec := { name := "arenaPlays", fn := fun _ => fun
  | [d1, d2] => { results := [.lit (.bool true)], args := [d1, d2] }
  | _ => none }
def arenaPlaysRow : OpenClaim := { program := "ytppoeoleehiemaa", sum := "c9063d3f97db6f253b069b8c666b5715b9aa5005bf23275aa97e15700e286b7d", func := "backstitch/backstitchlaw18.ArenaPlays", spec := "arenaPlays", unfollowed := true, recurses := true, apart := false }
def ArenaPlaysSaid : Prop := arenaPlaysRow.holds Try.pinned (OpenSpec.ofChange arenaPlaysSpec)

/-- ITS FALSE NEIGHBOUR: 'it returns false'. Refute it at one input. -/
def arenaPlaysWrong : ChangeSpec := { name := "arenaPlays", fn := fun _ => fun
  | [d1, d2] => { results := [.lit (.bool false)], args := [d1, d2] }
  | _ => none }
def ArenaPlaysWrongFalsely : Prop := arenaPlaysRow.holds Try.pinned (OpenSpec.ofChange arenaPlaysWrong)

/-- 'backstitchlaw09.SizeWrites': WHATEVER THE INPUT: true; the input reads as it did. -/
def sizeWritesSpec : ChangeSpec := { name := "sizeWrites", fn := fun _ => fun
  | [d] => { results := [.lit (.bool true)], args := [d] }
  | _ => none }
def sizeWritesRow : OpenClaim := { program := "ytppoeoleehiemaa", sum := "c9063d3f97db6f253b069b8c666b5715b9aa5005bf23275aa97e15700e286b7d", func := "backstitch/backstitchlaw09.SizeWrites", spec := "sizeWrites", unfollowed := true, recurses := true, apart := false }
def SizeWritesSaid : Prop := sizeWritesRow.holds Try.pinned (OpenSpec.ofChange sizeWritesSpec)

/-- ITS FALSE NEIGHBOUR: 'it returns false'. Refute it at one input. -/
def sizeWritesWrong : ChangeSpec := { name := "sizeWrites", fn := fun _ => fun
  | [d] => { results := [.lit (.bool false)], args := [d] }
  | _ => none }
def SizeWritesWrongFalsely : Prop := sizeWritesRow.holds Try.pinned (OpenSpec.ofChange sizeWritesWrong)

/-- 'backstitchlaw09.SizeEach': WHATEVER THE INPUT: true; the input reads as it did. -/
def sizeEachSpec : ChangeSpec := { name := "sizeEach", fn := fun _ => fun
  | [d] => { results := [.lit (.bool true)], args := [d] }
  | _ => none }
def sizeEachRow : OpenClaim := { program := "ytppoeoleehiemaa", sum := "c9063d3f97db6f253b069b8c666b5715b9aa5005bf23275aa97e15700e286b7d", func := "backstitch/backstitchlaw09.SizeEach", spec := "sizeEach", unfollowed := true, recurses := true, apart := false }
def SizeEachSaid : Prop := sizeEachRow.holds Try.pinned (OpenSpec.ofChange sizeEachSpec)

/-- ITS FALSE NEIGHBOUR: 'it returns false'. Refute it at one input. -/
def sizeEachWrong : ChangeSpec := { name := "sizeEach", fn := fun _ => fun
  | [d] => { results := [.lit (.bool false)], args := [d] }
  | _ => none }
def SizeEachWrongFalsely : Prop := sizeEachRow.holds Try.pinned (OpenSpec.ofChange sizeEachWrong)

/-- 'backstitchlaw09.SizeTimes': WHATEVER THE INPUT: true; the input reads as it did. -/
def sizeTimesSpec : ChangeSpec := { name := "sizeTimes", fn := fun _ => fun
  | [d1, d2] => { results := [.lit (.bool true)], args := [d1, d2] }
  | _ => none }
def sizeTimesRow : OpenClaim := { program := "ytppoeoleehiemaa", sum := "c9063d3f97db6f253b069b8c666b5715b9aa5005bf23275aa97e15700e286b7d", func := "backstitch/backstitchlaw09.SizeTimes", spec := "sizeTimes", unfollowed := true, recurses := true, apart := false }
def SizeTimesSaid : Prop := sizeTimesRow.holds Try.pinned (OpenSpec.ofChange sizeTimesSpec)

/-- ITS FALSE NEIGHBOUR: 'it returns false'. Refute it at one input. -/
def sizeTimesWrong : ChangeSpec := { name := "sizeTimes", fn := fun _ => fun
  | [d1, d2] => { results := [.lit (.bool false)], args := [d1, d2] }
  | _ => none }
def SizeTimesWrongFalsely : Prop := sizeTimesRow.holds Try.pinned (OpenSpec.ofChange sizeTimesWrong)

/- THE SECOND FORM. 'bulk': how many values and letters a reading holds, each counted each time it is reached (what is shared counts as often as it is met; a slice's spare places count too). A statement '..UptoSaid' is the law's where the arguments, and the package variables that the reading takes, are together of bulk at most 1048576: NARROWER than '..Said'. Prove '..Said' where nothing that the law and all that it calls make is longer than what came in: it says more and counts as full. Else prove '..UptoSaid'. A law counts once. -/
mutual
def uptoBulk {H : Type} : DataW H → Nat
  | .lit (.string bytes) => bytes.length + 1
  | .lit _ => 1
  | .nil => 1
  | .ptr d => uptoBulk d + 1
  | .slice elems spare => uptoBulkAll elems + uptoBulkAll spare + 1
  | .agg parts => uptoBulkAll parts + 1
  | .iface _ d => uptoBulk d + 1
  | .map entries => uptoBulkEntries entries + 1
  | .held _ => 1
def uptoBulkAll {H : Type} : List (DataW H) → Nat
  | [] => 0
  | d :: r => uptoBulk d + uptoBulkAll r
def uptoBulkEntries {H : Type} : List (Lit × DataW H) → Nat
  | [] => 0
  | x :: r => uptoBulkEntry x + uptoBulkEntries r
def uptoBulkEntry {H : Type} : Lit × DataW H → Nat
  | (.string bytes, d) => bytes.length + uptoBulk d + 1
  | (_, d) => uptoBulk d + 1
 end
def uptoSmall : (H : Type) → List (DataW H) → Bool := fun _ ds => decide (uptoBulkAll ds ≤ 1048576)
def OpenSpec.upto (s : _root_.Go.ChangeSpec) : _root_.Go.OpenSpec := { _root_.Go.OpenSpec.ofChange s with cond := some uptoSmall }

/-- 'backstitchlaw19.MeterPlays', WHERE WHAT IT READS IS OF BULK AT MOST 1048576: true; the input reads as it did. -/
def meterPlaysUptoRow : OpenClaim := { program := "ytppoeoleehiemaa", sum := "c9063d3f97db6f253b069b8c666b5715b9aa5005bf23275aa97e15700e286b7d", func := "backstitch/backstitchlaw19.MeterPlays", spec := "meterPlays", apart := false, narrowed := true }
def MeterPlaysUptoSaid : Prop := meterPlaysUptoRow.holds Try.pinned (OpenSpec.upto meterPlaysSpec)

/-- 'backstitchlaw19.MeterSides', WHERE WHAT IT READS IS OF BULK AT MOST 1048576: true; the input reads as it did. -/
def meterSidesUptoRow : OpenClaim := { program := "ytppoeoleehiemaa", sum := "c9063d3f97db6f253b069b8c666b5715b9aa5005bf23275aa97e15700e286b7d", func := "backstitch/backstitchlaw19.MeterSides", spec := "meterSides", apart := false, narrowed := true }
def MeterSidesUptoSaid : Prop := meterSidesUptoRow.holds Try.pinned (OpenSpec.upto meterSidesSpec)

/-- 'backstitchlaw19.MeterBack', WHERE WHAT IT READS IS OF BULK AT MOST 1048576: true; the input reads as it did. -/
def meterBackUptoRow : OpenClaim := { program := "ytppoeoleehiemaa", sum := "c9063d3f97db6f253b069b8c666b5715b9aa5005bf23275aa97e15700e286b7d", func := "backstitch/backstitchlaw19.MeterBack", spec := "meterBack", apart := false, narrowed := true }
def MeterBackUptoSaid : Prop := meterBackUptoRow.holds Try.pinned (OpenSpec.upto meterBackSpec)

/-- 'backstitchlaw36.FreezeWords', WHERE WHAT IT READS IS OF BULK AT MOST 1048576: true; the input reads as it did. -/
def freezeWordsUptoRow : OpenClaim := { program := "ytppoeoleehiemaa", sum := "c9063d3f97db6f253b069b8c666b5715b9aa5005bf23275aa97e15700e286b7d", func := "backstitch/backstitchlaw36.FreezeWords", spec := "freezeWords", apart := false, narrowed := true }
def FreezeWordsUptoSaid : Prop := freezeWordsUptoRow.holds Try.pinned (OpenSpec.upto freezeWordsSpec)

/-- 'backstitchlaw36.FreezeBack', WHERE WHAT IT READS IS OF BULK AT MOST 1048576: true; the input reads as it did. -/
def freezeBackUptoRow : OpenClaim := { program := "ytppoeoleehiemaa", sum := "c9063d3f97db6f253b069b8c666b5715b9aa5005bf23275aa97e15700e286b7d", func := "backstitch/backstitchlaw36.FreezeBack", spec := "freezeBack", apart := false, narrowed := true }
def FreezeBackUptoSaid : Prop := freezeBackUptoRow.holds Try.pinned (OpenSpec.upto freezeBackSpec)

/-- 'backstitchlaw18.ArenaApart', WHERE WHAT IT READS IS OF BULK AT MOST 1048576: true; the input reads as it did. -/
def arenaApartUptoRow : OpenClaim := { program := "ytppoeoleehiemaa", sum := "c9063d3f97db6f253b069b8c666b5715b9aa5005bf23275aa97e15700e286b7d", func := "backstitch/backstitchlaw18.ArenaApart", spec := "arenaApart", unfollowed := true, recurses := true, apart := false, narrowed := true }
def ArenaApartUptoSaid : Prop := arenaApartUptoRow.holds Try.pinned (OpenSpec.upto arenaApartSpec)

/-- 'backstitchlaw18.ArenaMakes', WHERE WHAT IT READS IS OF BULK AT MOST 1048576: true; the input reads as it did. -/
def arenaMakesUptoRow : OpenClaim := { program := "ytppoeoleehiemaa", sum := "c9063d3f97db6f253b069b8c666b5715b9aa5005bf23275aa97e15700e286b7d", func := "backstitch/backstitchlaw18.ArenaMakes", spec := "arenaMakes", unfollowed := true, recurses := true, apart := false, narrowed := true }
def ArenaMakesUptoSaid : Prop := arenaMakesUptoRow.holds Try.pinned (OpenSpec.upto arenaMakesSpec)

/-- 'backstitchlaw18.ArenaNil', WHERE WHAT IT READS IS OF BULK AT MOST 1048576: true; the input reads as it did. -/
def arenaNilUptoRow : OpenClaim := { program := "ytppoeoleehiemaa", sum := "c9063d3f97db6f253b069b8c666b5715b9aa5005bf23275aa97e15700e286b7d", func := "backstitch/backstitchlaw18.ArenaNil", spec := "arenaNil", unfollowed := true, recurses := true, apart := false, narrowed := true }
def ArenaNilUptoSaid : Prop := arenaNilUptoRow.holds Try.pinned (OpenSpec.upto arenaNilSpec)

/-- 'backstitchlaw18.ArenaPlays', WHERE WHAT IT READS IS OF BULK AT MOST 1048576: true; the input reads as it did. -/
def arenaPlaysUptoRow : OpenClaim := { program := "ytppoeoleehiemaa", sum := "c9063d3f97db6f253b069b8c666b5715b9aa5005bf23275aa97e15700e286b7d", func := "backstitch/backstitchlaw18.ArenaPlays", spec := "arenaPlays", unfollowed := true, recurses := true, apart := false, narrowed := true }
def ArenaPlaysUptoSaid : Prop := arenaPlaysUptoRow.holds Try.pinned (OpenSpec.upto arenaPlaysSpec)

/-- 'backstitchlaw09.SizeWrites', WHERE WHAT IT READS IS OF BULK AT MOST 1048576: true; the input reads as it did. -/
def sizeWritesUptoRow : OpenClaim := { program := "ytppoeoleehiemaa", sum := "c9063d3f97db6f253b069b8c666b5715b9aa5005bf23275aa97e15700e286b7d", func := "backstitch/backstitchlaw09.SizeWrites", spec := "sizeWrites", unfollowed := true, recurses := true, apart := false, narrowed := true }
def SizeWritesUptoSaid : Prop := sizeWritesUptoRow.holds Try.pinned (OpenSpec.upto sizeWritesSpec)

/-- 'backstitchlaw09.SizeEach', WHERE WHAT IT READS IS OF BULK AT MOST 1048576: true; the input reads as it did. -/
def sizeEachUptoRow : OpenClaim := { program := "ytppoeoleehiemaa", sum := "c9063d3f97db6f253b069b8c666b5715b9aa5005bf23275aa97e15700e286b7d", func := "backstitch/backstitchlaw09.SizeEach", spec := "sizeEach", unfollowed := true, recurses := true, apart := false, narrowed := true }
def SizeEachUptoSaid : Prop := sizeEachUptoRow.holds Try.pinned (OpenSpec.upto sizeEachSpec)

/-- 'backstitchlaw09.SizeTimes', WHERE WHAT IT READS IS OF BULK AT MOST 1048576: true; the input reads as it did. -/
def sizeTimesUptoRow : OpenClaim := { program := "ytppoeoleehiemaa", sum := "c9063d3f97db6f253b069b8c666b5715b9aa5005bf23275aa97e15700e286b7d", func := "backstitch/backstitchlaw09.SizeTimes", spec := "sizeTimes", unfollowed := true, recurses := true, apart := false, narrowed := true }
def SizeTimesUptoSaid : Prop := sizeTimesUptoRow.holds Try.pinned (OpenSpec.upto sizeTimesSpec)

end Rows
end Go.Proofs.Ytppoeoleehiemaa
