/- A part of the proof. No condition. -/
import Derived.Test.YtobfihgmpgobhaaGreatDoorL2
import Derived.Test.YtobfihgmpgobhaaGreatDoorP1
import Derived.Test.YtobfihgmpgobhaaGreatDoorA6
import Derived.ProofKit
import Derived.OpenShut
import Derived.ShutString
import Derived.ChangeOld
import Derived.Below
import Derived.LaidMore
import Derived.Stop.Joined
import Derived.Lib.LaidU8
import Derived.Test.YtobfihgmpgobhaaGreatDoorCards
import Derived.Test.YtobfihgmpgobhaaGreatDoorTie
import Derived.SevenTiedAt
namespace Go.Proofs.YtobfihgmpgobhaaGreatDoor
open Go.ChangeShapes Go.WideShapes Go.ChangeAt Go.RowKit
set_option linter.unusedVariables false

theorem e_named : Tryz.pinned.checked.prog.funcNamed Rows.scriptParsesRow.func = some 3 := by kernel_rfl
theorem e_and {a b : Bool} (x : a = true) (y : b = true) : (a && b) = true := by rw [x, y]; rfl
set_option maxHeartbeats 40000000 in
theorem e_facts : joinedFacts Tryz.pinned.checked.prog 3 Tryz.f3 Rows.scriptParsesSpec Rows.scriptParsesRow = true := by
  unfold joinedFacts
  repeat' with_reducible refine e_and ?_ ?_
  all_goals as_aux_lemma => kernel_rfl
theorem e_inst : Tryz.f3.isInstance Tryz.pinned.checked.prog Rows.scriptParsesRow.origin Rows.scriptParsesRow.targs := of_decide_eq_true (by kernel_rfl)
theorem e_wrap : Tryz.f3.isWrapper Tryz.pinned.checked.prog Rows.scriptParsesRow.wrapper Rows.scriptParsesRow.mainSum := by unfold Func.isWrapper; first | (rw [if_pos (by decide +kernel)]; kernel_rfl) | (rw [if_neg (by decide +kernel)]; exact ⟨rfl, rfl⟩)
end Go.Proofs.YtobfihgmpgobhaaGreatDoor
