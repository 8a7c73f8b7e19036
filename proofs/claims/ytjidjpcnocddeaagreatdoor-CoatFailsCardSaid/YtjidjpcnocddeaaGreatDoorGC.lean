/- The examples of coats, run by the kernel: one call. -/
import Derived.KernelRfl
import Derived.Test.YtjidjpcnocddeaaGreatDoorCQ
set_option linter.all false
set_option linter.unusedVariables false
set_option linter.unusedSimpArgs false
set_option linter.unusedSectionVars false
set_option maxRecDepth 1000000
namespace Go.Pi.Coa
open Go Go.Pi Go.Pi.Q
theorem g9 : (runF ⟨246, [(243, ⟨.cells [(.int .i64 6), (.int .i64 8), (.int .i64 4), (.int .i64 6), (.int .i64 8), (.int .i64 10), (.int .i64 2), (.int .i64 4), (.int .i64 6), (.int .i64 6), (.int .i64 5), (.int .i64 9), (.int .i64 8), (.int .i64 12), (.int .i64 4), (.int .i64 4)], true, true, some 243⟩), (244, ⟨.cells [(.int .i64 0), (.int .i64 2), (.int .i64 3), (.int .i64 5), (.int .i64 6)], true, true, some 244⟩), (245, ⟨.cells [(.int .i64 9), (.int .i64 20), (.int .i64 10), (.int .i64 20), (.int .i64 8), (.int .i64 30)], true, true, some 245⟩)]⟩ PP (fp ⟨246, [(243, ⟨.cells [(.int .i64 6), (.int .i64 8), (.int .i64 4), (.int .i64 6), (.int .i64 8), (.int .i64 10), (.int .i64 2), (.int .i64 4), (.int .i64 6), (.int .i64 6), (.int .i64 5), (.int .i64 9), (.int .i64 8), (.int .i64 12), (.int .i64 4), (.int .i64 4)], true, true, some 243⟩), (244, ⟨.cells [(.int .i64 0), (.int .i64 2), (.int .i64 3), (.int .i64 5), (.int .i64 6)], true, true, some 244⟩), (245, ⟨.cells [(.int .i64 9), (.int .i64 20), (.int .i64 10), (.int .i64 20), (.int .i64 8), (.int .i64 30)], true, true, some 245⟩)]⟩) 100 (.func 41) [(.agg #[(.slice (some ⟨243, 0, none⟩) 8 2), (.slice (some ⟨244, 0, none⟩) 5 1), (.slice (some ⟨245, 0, none⟩) 3 2)])] ⟨246, .nil⟩).map (obs [306] ⟨246, [(243, ⟨.cells [(.int .i64 6), (.int .i64 8), (.int .i64 4), (.int .i64 6), (.int .i64 8), (.int .i64 10), (.int .i64 2), (.int .i64 4), (.int .i64 6), (.int .i64 6), (.int .i64 5), (.int .i64 9), (.int .i64 8), (.int .i64 12), (.int .i64 4), (.int .i64 4)], true, true, some 243⟩), (244, ⟨.cells [(.int .i64 0), (.int .i64 2), (.int .i64 3), (.int .i64 5), (.int .i64 6)], true, true, some 244⟩), (245, ⟨.cells [(.int .i64 9), (.int .i64 20), (.int .i64 10), (.int .i64 20), (.int .i64 8), (.int .i64 30)], true, true, some 245⟩)]⟩) = some (.ok (.tuple #[(.slice (some ⟨306, 0, none⟩) 3 1), (.int .i64 0)]), 246, 375, [some ⟨.cells [(.int .i64 0), (.int .i64 2), (.int .i64 5)], true, true, some 305⟩]) := by kernel_rfl
end Go.Pi.Coa
