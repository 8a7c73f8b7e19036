/- The examples of coats, run by the kernel: one call. -/
import Derived.KernelRfl
import Derived.Test.YtjidjpcnocddeaaGreatDoorCQ
set_option linter.all false
set_option linter.unusedVariables false
set_option linter.unusedSimpArgs false
set_option linter.unusedSectionVars false
set_option maxRecDepth 1000000
namespace Go.Pi.Coa
open Go Go.Pi Go.Pi.Q
theorem g15 : (runF ⟨689, [(685, ⟨.cells [(.int .i64 6), (.int .i64 8), (.int .i64 4), (.int .i64 6), (.int .i64 8), (.int .i64 10), (.int .i64 2), (.int .i64 4), (.int .i64 6), (.int .i64 6), (.int .i64 5), (.int .i64 9), (.int .i64 8), (.int .i64 12), (.int .i64 4), (.int .i64 4)], true, true, some 685⟩), (688, ⟨.cells [(.int .i64 0), (.int .i64 1), (.int .i64 2), (.int .i64 3), (.int .i64 4), (.int .i64 5), (.int .i64 6), (.int .i64 7)], true, true, some 688⟩), (687, ⟨.cells [(.int .i64 9), (.int .i64 20), (.int .i64 10), (.int .i64 20), (.int .i64 8), (.int .i64 30)], true, true, some 687⟩)]⟩ PP (fp ⟨689, [(685, ⟨.cells [(.int .i64 6), (.int .i64 8), (.int .i64 4), (.int .i64 6), (.int .i64 8), (.int .i64 10), (.int .i64 2), (.int .i64 4), (.int .i64 6), (.int .i64 6), (.int .i64 5), (.int .i64 9), (.int .i64 8), (.int .i64 12), (.int .i64 4), (.int .i64 4)], true, true, some 685⟩), (688, ⟨.cells [(.int .i64 0), (.int .i64 1), (.int .i64 2), (.int .i64 3), (.int .i64 4), (.int .i64 5), (.int .i64 6), (.int .i64 7)], true, true, some 688⟩), (687, ⟨.cells [(.int .i64 9), (.int .i64 20), (.int .i64 10), (.int .i64 20), (.int .i64 8), (.int .i64 30)], true, true, some 687⟩)]⟩) 100 (.func 46) [(.agg #[(.slice (some ⟨685, 0, none⟩) 8 2), (.slice (some ⟨688, 0, none⟩) 8 1), (.slice (some ⟨687, 0, none⟩) 3 2)])] ⟨689, .nil⟩).map (obs [] ⟨689, [(685, ⟨.cells [(.int .i64 6), (.int .i64 8), (.int .i64 4), (.int .i64 6), (.int .i64 8), (.int .i64 10), (.int .i64 2), (.int .i64 4), (.int .i64 6), (.int .i64 6), (.int .i64 5), (.int .i64 9), (.int .i64 8), (.int .i64 12), (.int .i64 4), (.int .i64 4)], true, true, some 685⟩), (688, ⟨.cells [(.int .i64 0), (.int .i64 1), (.int .i64 2), (.int .i64 3), (.int .i64 4), (.int .i64 5), (.int .i64 6), (.int .i64 7)], true, true, some 688⟩), (687, ⟨.cells [(.int .i64 9), (.int .i64 20), (.int .i64 10), (.int .i64 20), (.int .i64 8), (.int .i64 30)], true, true, some 687⟩)]⟩) = some (.ok (.tuple #[(.int .i64 2), (.int .i64 0)]), 689, 689, []) := by kernel_rfl
end Go.Pi.Coa
