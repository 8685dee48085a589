/- What an engine that is none answers, in plain Lean. -/
import Derived.Test.YtpccgfcoonjomaaGreatD37n
import Derived.Test.YtpccgfcoonjomaaGreatV25
import Derived.KernelRfl
namespace Go.V
set_option linter.unusedVariables false
set_option linter.unusedSimpArgs false
open Go.Ab
theorem goes37 : D_law37_goes = some true := by kernel_rfl
theorem law37_nil (a0 : Bool) (f0 : Fine .bool a0) : D_law37_EngineNil a0 = some true := by
  unfold D_law37_EngineNil
  rw [goes37]
  cases a0 <;> kernel_rfl
end Go.V
