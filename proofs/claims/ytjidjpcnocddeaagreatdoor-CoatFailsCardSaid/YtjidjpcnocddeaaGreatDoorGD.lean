/- The examples of coats, run by the kernel: one call. -/
import Derived.KernelRfl
import Derived.Test.YtjidjpcnocddeaaGreatDoorCQ
set_option linter.all false
set_option linter.unusedVariables false
set_option linter.unusedSimpArgs false
set_option linter.unusedSectionVars false
set_option maxRecDepth 1000000
namespace Go.Pi.Coa
open Go Go.Pi Go.Pi.Q
theorem g11 : (runF ⟨379, [(375, ⟨.cells [(.int .i64 6), (.int .i64 8), (.int .i64 4), (.int .i64 6), (.int .i64 8), (.int .i64 10), (.int .i64 2), (.int .i64 4), (.int .i64 6), (.int .i64 6), (.int .i64 5), (.int .i64 9), (.int .i64 8), (.int .i64 12), (.int .i64 4), (.int .i64 4)], true, true, some 375⟩), (378, ⟨.cells [(.int .i64 0), (.int .i64 1), (.int .i64 2), (.int .i64 3), (.int .i64 4), (.int .i64 5), (.int .i64 6), (.int .i64 7)], true, true, some 378⟩), (377, ⟨.cells [(.int .i64 9), (.int .i64 20), (.int .i64 10), (.int .i64 20), (.int .i64 8), (.int .i64 30)], true, true, some 377⟩)]⟩ PP (fp ⟨379, [(375, ⟨.cells [(.int .i64 6), (.int .i64 8), (.int .i64 4), (.int .i64 6), (.int .i64 8), (.int .i64 10), (.int .i64 2), (.int .i64 4), (.int .i64 6), (.int .i64 6), (.int .i64 5), (.int .i64 9), (.int .i64 8), (.int .i64 12), (.int .i64 4), (.int .i64 4)], true, true, some 375⟩), (378, ⟨.cells [(.int .i64 0), (.int .i64 1), (.int .i64 2), (.int .i64 3), (.int .i64 4), (.int .i64 5), (.int .i64 6), (.int .i64 7)], true, true, some 378⟩), (377, ⟨.cells [(.int .i64 9), (.int .i64 20), (.int .i64 10), (.int .i64 20), (.int .i64 8), (.int .i64 30)], true, true, some 377⟩)]⟩) 100 (.func 42) [(.agg #[(.slice (some ⟨375, 0, none⟩) 8 2), (.slice (some ⟨378, 0, none⟩) 8 1), (.slice (some ⟨377, 0, none⟩) 3 2)])] ⟨379, .nil⟩).map (obs [] ⟨379, [(375, ⟨.cells [(.int .i64 6), (.int .i64 8), (.int .i64 4), (.int .i64 6), (.int .i64 8), (.int .i64 10), (.int .i64 2), (.int .i64 4), (.int .i64 6), (.int .i64 6), (.int .i64 5), (.int .i64 9), (.int .i64 8), (.int .i64 12), (.int .i64 4), (.int .i64 4)], true, true, some 375⟩), (378, ⟨.cells [(.int .i64 0), (.int .i64 1), (.int .i64 2), (.int .i64 3), (.int .i64 4), (.int .i64 5), (.int .i64 6), (.int .i64 7)], true, true, some 378⟩), (377, ⟨.cells [(.int .i64 9), (.int .i64 20), (.int .i64 10), (.int .i64 20), (.int .i64 8), (.int .i64 30)], true, true, some 377⟩)]⟩) = some (.ok (.tuple #[(.int .i64 5), (.int .i64 0)]), 379, 379, []) := by kernel_rfl
end Go.Pi.Coa
