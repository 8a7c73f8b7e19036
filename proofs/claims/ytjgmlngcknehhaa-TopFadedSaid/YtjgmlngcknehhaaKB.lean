/- The examples, run: letter.Over. -/
import Derived.Test.YtjgmlngcknehhaaKA
set_option linter.all false
set_option linter.unusedVariables false
set_option linter.unusedSimpArgs false
set_option linter.unusedSectionVars false
set_option maxRecDepth 1000000
namespace Go.Pi.Fad
open Go Go.Pi
theorem k8 : run PP prims0 59 (.func 8) [v9] H9 = some ⟨.ok (.tuple #[.int .i64 3, .int .i64 0]), H9, 6⟩ := by kernel_rfl
end Go.Pi.Fad
