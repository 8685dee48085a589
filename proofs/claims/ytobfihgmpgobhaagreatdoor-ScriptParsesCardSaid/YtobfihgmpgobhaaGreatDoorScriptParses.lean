/- ScriptParsesCardSaid: what the given statement of that name says: the law returns true at every input, and its arguments read behind the call as they read before. No condition. -/
import Derived.Test.YtobfihgmpgobhaaGreatDoorL2
import Derived.Test.YtobfihgmpgobhaaGreatDoorP1
import Derived.Test.YtobfihgmpgobhaaGreatDoorA6
import Derived.ProofKit
import Derived.OpenShut
import Derived.ShutString
import Derived.ChangeOld
import Derived.Below
import Derived.LaidMore
import Derived.Stop.Joined
import Derived.Lib.LaidU8
import Derived.Test.YtobfihgmpgobhaaGreatDoorCards
import Derived.Test.YtobfihgmpgobhaaGreatDoorTie
import Derived.SevenTiedAt
import Derived.Test.YtobfihgmpgobhaaGreatDoorL3
import Derived.Test.YtobfihgmpgobhaaGreatDoorL4
namespace Go.Proofs.YtobfihgmpgobhaaGreatDoor
open Go.ChangeShapes Go.WideShapes Go.ChangeAt Go.RowKit
set_option linter.unusedVariables false

theorem e_over : Rows.scriptParsesRow.holds Tryz.pinned (OpenSpec.ofChange Rows.scriptParsesSpec) :=
  OpenClaim.holds_of_wide 3 Tryz.f3 rfl rfl rfl rfl rfl rfl rfl ⟨rfl, rfl, rfl, rfl, rfl⟩ rfl rfl rfl rfl rfl e_named Tryz.func3 e_facts
    e_inst e_wrap
    (fun os started H enc _ => e_lifted os started H enc)

theorem scriptParsesProved : Rows.ScriptParsesCardSaid :=
  Claim7.holds_tied_plain_at .later [] [.data, .data, .data] true (true, "d6e2971be7c49e7628a5df01e9ea7bfb5b1d672f6c9763581d1d2a9886c77f87") false
    e_over (fun _ h => by cases h) (by as_aux_lemma => kernel_rfl) (fun _ h => by cases h) scriptParses_row_tie rfl ⟨rfl, rfl⟩ (by as_aux_lemma => kernel_rfl) rfl
    (fun f fn hf hfn => by
      obtain rfl : f = 3 := Option.some.inj ((show Tryz.prog.funcNamed "backstitch/backstitchlaw38.ScriptParses" = some 3 by kernel_rfl).symm.trans hf) |>.symm
      obtain rfl : fn = Tryz.f3 := (Option.some.inj (Tryz.func3.symm.trans hfn)).symm
      exact ⟨by as_aux_lemma => kernel_rfl, fun j t ht => by
        rw [Tryz.params3] at ht
        have hm : t ∈ [9] := by simpa using Array.mem_of_getElem? ht
        have hall : ([9].all fun u => !Tryz.prog.wantsStandIn u) = true := by kernel_rfl
        exact (show Tryz.prog.wantsStandIn t = false by simpa using List.all_eq_true.1 hall t hm)⟩)
    (by as_aux_lemma => kernel_rfl)
#print axioms scriptParsesProved
end Go.Proofs.YtobfihgmpgobhaaGreatDoor
