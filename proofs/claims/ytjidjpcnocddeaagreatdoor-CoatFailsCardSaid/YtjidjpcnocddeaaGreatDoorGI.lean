/- The examples of coats, run by the kernel: one call. -/
import Derived.KernelRfl
import Derived.Test.YtjidjpcnocddeaaGreatDoorCQ
set_option linter.all false
set_option linter.unusedVariables false
set_option linter.unusedSimpArgs false
set_option linter.unusedSectionVars false
set_option maxRecDepth 1000000
namespace Go.Pi.Coa
open Go Go.Pi Go.Pi.Q
theorem g21 : (runF ⟨699, [(696, ⟨.cells [(.int .i64 6), (.int .i64 8), (.int .i64 4), (.int .i64 6), (.int .i64 8), (.int .i64 10), (.int .i64 2), (.int .i64 4), (.int .i64 6), (.int .i64 6), (.int .i64 5), (.int .i64 9), (.int .i64 8), (.int .i64 12), (.int .i64 4), (.int .i64 4)], true, true, some 696⟩), (697, ⟨.cells [(.int .i64 0), (.int .i64 2), (.int .i64 3), (.int .i64 5), (.int .i64 6)], true, true, some 697⟩), (698, ⟨.cells [(.int .i64 9), (.int .i64 20), (.int .i64 10), (.int .i64 18), (.int .i64 8), (.int .i64 30)], true, true, some 698⟩)]⟩ PP (fp ⟨699, [(696, ⟨.cells [(.int .i64 6), (.int .i64 8), (.int .i64 4), (.int .i64 6), (.int .i64 8), (.int .i64 10), (.int .i64 2), (.int .i64 4), (.int .i64 6), (.int .i64 6), (.int .i64 5), (.int .i64 9), (.int .i64 8), (.int .i64 12), (.int .i64 4), (.int .i64 4)], true, true, some 696⟩), (697, ⟨.cells [(.int .i64 0), (.int .i64 2), (.int .i64 3), (.int .i64 5), (.int .i64 6)], true, true, some 697⟩), (698, ⟨.cells [(.int .i64 9), (.int .i64 20), (.int .i64 10), (.int .i64 18), (.int .i64 8), (.int .i64 30)], true, true, some 698⟩)]⟩) 100 (.func 56) [(.agg #[(.slice (some ⟨696, 0, none⟩) 8 2), (.slice (some ⟨697, 0, none⟩) 5 1), (.slice (some ⟨698, 0, none⟩) 3 2)])] ⟨699, .nil⟩).map (obs [] ⟨699, [(696, ⟨.cells [(.int .i64 6), (.int .i64 8), (.int .i64 4), (.int .i64 6), (.int .i64 8), (.int .i64 10), (.int .i64 2), (.int .i64 4), (.int .i64 6), (.int .i64 6), (.int .i64 5), (.int .i64 9), (.int .i64 8), (.int .i64 12), (.int .i64 4), (.int .i64 4)], true, true, some 696⟩), (697, ⟨.cells [(.int .i64 0), (.int .i64 2), (.int .i64 3), (.int .i64 5), (.int .i64 6)], true, true, some 697⟩), (698, ⟨.cells [(.int .i64 9), (.int .i64 20), (.int .i64 10), (.int .i64 18), (.int .i64 8), (.int .i64 30)], true, true, some 698⟩)]⟩) = some (.ok (.tuple #[(.int .i64 2), (.int .i64 0)]), 699, 699, []) := by kernel_rfl
end Go.Pi.Coa
