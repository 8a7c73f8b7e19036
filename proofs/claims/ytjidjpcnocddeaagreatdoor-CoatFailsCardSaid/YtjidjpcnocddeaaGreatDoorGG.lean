/- The examples of coats, run by the kernel: one call. -/
import Derived.KernelRfl
import Derived.Test.YtjidjpcnocddeaaGreatDoorCQ
set_option linter.all false
set_option linter.unusedVariables false
set_option linter.unusedSimpArgs false
set_option linter.unusedSectionVars false
set_option maxRecDepth 1000000
namespace Go.Pi.Coa
open Go Go.Pi Go.Pi.Q
theorem g17 : (runF ⟨693, [(689, ⟨.cells [(.int .i64 6), (.int .i64 8), (.int .i64 4), (.int .i64 6), (.int .i64 8), (.int .i64 10), (.int .i64 2), (.int .i64 4), (.int .i64 6), (.int .i64 6), (.int .i64 5), (.int .i64 9), (.int .i64 8), (.int .i64 12), (.int .i64 4), (.int .i64 4)], true, true, some 689⟩), (692, ⟨.cells [(.int .i64 0), (.int .i64 1), (.int .i64 2), (.int .i64 3), (.int .i64 4), (.int .i64 5), (.int .i64 6), (.int .i64 7)], true, true, some 692⟩), (691, ⟨.cells [(.int .i64 9), (.int .i64 20), (.int .i64 10), (.int .i64 20), (.int .i64 8), (.int .i64 30)], true, true, some 691⟩)]⟩ PP (fp ⟨693, [(689, ⟨.cells [(.int .i64 6), (.int .i64 8), (.int .i64 4), (.int .i64 6), (.int .i64 8), (.int .i64 10), (.int .i64 2), (.int .i64 4), (.int .i64 6), (.int .i64 6), (.int .i64 5), (.int .i64 9), (.int .i64 8), (.int .i64 12), (.int .i64 4), (.int .i64 4)], true, true, some 689⟩), (692, ⟨.cells [(.int .i64 0), (.int .i64 1), (.int .i64 2), (.int .i64 3), (.int .i64 4), (.int .i64 5), (.int .i64 6), (.int .i64 7)], true, true, some 692⟩), (691, ⟨.cells [(.int .i64 9), (.int .i64 20), (.int .i64 10), (.int .i64 20), (.int .i64 8), (.int .i64 30)], true, true, some 691⟩)]⟩) 100 (.func 47) [(.agg #[(.slice (some ⟨689, 0, none⟩) 8 2), (.slice (some ⟨692, 0, none⟩) 8 1), (.slice (some ⟨691, 0, none⟩) 3 2)])] ⟨693, .nil⟩).map (obs [] ⟨693, [(689, ⟨.cells [(.int .i64 6), (.int .i64 8), (.int .i64 4), (.int .i64 6), (.int .i64 8), (.int .i64 10), (.int .i64 2), (.int .i64 4), (.int .i64 6), (.int .i64 6), (.int .i64 5), (.int .i64 9), (.int .i64 8), (.int .i64 12), (.int .i64 4), (.int .i64 4)], true, true, some 689⟩), (692, ⟨.cells [(.int .i64 0), (.int .i64 1), (.int .i64 2), (.int .i64 3), (.int .i64 4), (.int .i64 5), (.int .i64 6), (.int .i64 7)], true, true, some 692⟩), (691, ⟨.cells [(.int .i64 9), (.int .i64 20), (.int .i64 10), (.int .i64 20), (.int .i64 8), (.int .i64 30)], true, true, some 691⟩)]⟩) = some (.ok (.tuple #[(.int .i64 4), (.int .i64 0)]), 693, 693, []) := by kernel_rfl
end Go.Pi.Coa
