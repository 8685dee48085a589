/- ScriptRunsCardSaid: what the given statement of that name says: the law returns true at every input, and its arguments read behind the call as they read before. No condition. -/
import Derived.Test.YtgnojcajllcmoaaGreatDoorL7
import Derived.Test.YtgnojcajllcmoaaGreatDoorP1
import Derived.Test.YtgnojcajllcmoaaGreatDoorA7
import Derived.ProofKit
import Derived.OpenShut
import Derived.ShutString
import Derived.ChangeOld
import Derived.Below
import Derived.LaidMore
import Derived.Stop.Joined
import Derived.Lib.LaidU8
import Derived.Test.YtgnojcajllcmoaaGreatDoorCards
import Derived.Test.YtgnojcajllcmoaaGreatDoorTie
import Derived.SevenTiedAt
import Derived.Test.YtgnojcajllcmoaaGreatDoorL8
import Derived.Test.YtgnojcajllcmoaaGreatDoorL9
namespace Go.Proofs.YtgnojcajllcmoaaGreatDoor
open Go.ChangeShapes Go.WideShapes Go.ChangeAt Go.RowKit
set_option linter.unusedVariables false

theorem e_over : Rows.scriptRunsRow.holds Tryz.pinned (OpenSpec.ofChange Rows.scriptRunsSpec) :=
  OpenClaim.holds_of_wide 3 Tryz.f3 rfl rfl rfl rfl rfl rfl rfl ⟨rfl, rfl, rfl, rfl, rfl⟩ rfl rfl rfl rfl rfl e_named Tryz.func3 e_facts
    e_inst e_wrap
    (fun os started H enc _ => e_lifted os started H enc)

theorem scriptRunsProved : Rows.ScriptRunsCardSaid :=
  Claim7.holds_tied_plain_at .later [] [.data, .data, .data] true (true, "36cdbc765b3885b26fb5b5a64965ac37096e8b0f57e4d4ef2a2d7373b02ae09a") false
    e_over (fun _ h => by cases h) (by as_aux_lemma => kernel_rfl) (fun _ h => by cases h) scriptRuns_row_tie rfl ⟨rfl, rfl⟩ (by as_aux_lemma => kernel_rfl) rfl
    (fun f fn hf hfn => by
      obtain rfl : f = 3 := Option.some.inj ((show Tryz.prog.funcNamed "backstitch/backstitchlaw38.ScriptRuns" = some 3 by kernel_rfl).symm.trans hf) |>.symm
      obtain rfl : fn = Tryz.f3 := (Option.some.inj (Tryz.func3.symm.trans hfn)).symm
      exact ⟨by as_aux_lemma => kernel_rfl, fun j t ht => by
        rw [Tryz.params3] at ht
        have hm : t ∈ [22] := by simpa using Array.mem_of_getElem? ht
        have hall : ([22].all fun u => !Tryz.prog.wantsStandIn u) = true := by kernel_rfl
        exact (show Tryz.prog.wantsStandIn t = false by simpa using List.all_eq_true.1 hall t hm)⟩)
    (by as_aux_lemma => kernel_rfl)
#print axioms scriptRunsProved
end Go.Proofs.YtgnojcajllcmoaaGreatDoor
