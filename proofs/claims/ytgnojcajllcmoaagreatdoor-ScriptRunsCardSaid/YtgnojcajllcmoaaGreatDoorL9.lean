/- A part of the proof. No condition. -/
import Derived.Test.YtgnojcajllcmoaaGreatDoorL7
import Derived.Test.YtgnojcajllcmoaaGreatDoorP1
import Derived.Test.YtgnojcajllcmoaaGreatDoorA7
import Derived.ProofKit
import Derived.OpenShut
import Derived.ShutString
import Derived.ChangeOld
import Derived.Below
import Derived.LaidMore
import Derived.Stop.Joined
import Derived.Lib.LaidU8
import Derived.Test.YtgnojcajllcmoaaGreatDoorCards
import Derived.Test.YtgnojcajllcmoaaGreatDoorTie
import Derived.SevenTiedAt

namespace Go.Proofs.YtgnojcajllcmoaaGreatDoor
open Go.ChangeShapes Go.WideShapes Go.ChangeAt Go.RowKit
set_option linter.unusedVariables false

theorem e_named : Tryz.pinned.checked.prog.funcNamed Rows.scriptRunsRow.func = some 3 := by kernel_rfl
theorem e_and {a b : Bool} (x : a = true) (y : b = true) : (a && b) = true := by rw [x, y]; rfl
set_option maxHeartbeats 40000000 in
theorem e_facts : joinedFacts Tryz.pinned.checked.prog 3 Tryz.f3 Rows.scriptRunsSpec Rows.scriptRunsRow = true := by
  unfold joinedFacts
  repeat' with_reducible refine e_and ?_ ?_
  all_goals as_aux_lemma => kernel_rfl
theorem e_inst : Tryz.f3.isInstance Tryz.pinned.checked.prog Rows.scriptRunsRow.origin Rows.scriptRunsRow.targs := of_decide_eq_true (by kernel_rfl)
theorem e_wrap : Tryz.f3.isWrapper Tryz.pinned.checked.prog Rows.scriptRunsRow.wrapper Rows.scriptRunsRow.mainSum := by unfold Func.isWrapper; first | (rw [if_pos (by decide +kernel)]; kernel_rfl) | (rw [if_neg (by decide +kernel)]; exact ⟨rfl, rfl⟩)

end Go.Proofs.YtgnojcajllcmoaaGreatDoor
