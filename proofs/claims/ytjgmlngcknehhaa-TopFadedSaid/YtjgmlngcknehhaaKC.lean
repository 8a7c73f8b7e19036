/- The examples, run: coat.First. -/
import Derived.Test.YtjgmlngcknehhaaKA
set_option linter.all false
set_option linter.unusedVariables false
set_option linter.unusedSimpArgs false
set_option linter.unusedSectionVars false
set_option maxRecDepth 1000000
namespace Go.Pi.Fad
open Go Go.Pi
def ex (o : Out) : Ret × Option (List Value) := (o.r, hcells o.H 69)
theorem k10' : (run PP prims0 59 (.func 10) [v11] H11).map ex = some (.ok (.tuple #[.slice (some ⟨69, 0, none⟩) 3 1, .int .i64 0]), some [.int .i64 0, .int .i64 2, .int .i64 5]) := by kernel_rfl
end Go.Pi.Fad
