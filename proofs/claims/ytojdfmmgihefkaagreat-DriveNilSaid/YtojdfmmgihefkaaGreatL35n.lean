/- What a driver that is none answers, in plain Lean. -/
import Derived.Test.YtojdfmmgihefkaaGreatD35n
import Derived.Test.YtojdfmmgihefkaaGreatV25
import Derived.KernelRfl
namespace Go.V
set_option linter.unusedVariables false
set_option linter.unusedSimpArgs false
open Go.Ab
theorem goes35 : D_law35_goes = some true := by kernel_rfl
theorem law35_nil (a0 a1 : Int) (f0 : Fine (.int .i64) a0) (f1 : Fine (.int .i64) a1) : D_law35_DriveNil a0 a1 = some true := by
  unfold D_law35_DriveNil
  rw [goes35]
  kernel_rfl
end Go.V
