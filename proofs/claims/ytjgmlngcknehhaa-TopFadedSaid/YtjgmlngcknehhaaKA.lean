/- The examples, run: what is built. -/
import Derived.KernelRfl
import Derived.Test.YtjgmlngcknehhaaFadP
set_option linter.all false
set_option linter.unusedVariables false
set_option linter.unusedSimpArgs false
set_option linter.unusedSectionVars false
set_option maxRecDepth 1000000
namespace Go.Pi.Fad
open Go Go.Pi
def v9 : Value := (.agg #[(.slice (some ⟨0, 0, none⟩) 3 1), (.slice (some ⟨1, 0, none⟩) 2 4), (.int .i64 2), (.int .i64 4), (.int .i64 5), (.int .i64 8), (.int .i64 3), (.slice (some ⟨5, 0, none⟩) 2 3), (.int .i64 18), (.int .i64 2)])
def H9 : Heap := [⟨.cells [(.int .i64 6), (.int .i64 4), (.int .i64 8)], true, true, some 0⟩,
 ⟨.cells [(.int .i64 0), (.int .i64 1), (.int .i64 1), (.int .i64 3), (.int .i64 2), (.int .i64 0), (.int .i64 0), (.int .i64 2)], true, true, some 1⟩,
 ⟨.cells [(.int .i64 2), (.int .i64 0), (.int .i64 1)], true, true, some 2⟩,
 ⟨.cells [(.int .i64 0), (.int .i64 2)], true, true, some 3⟩,
 ⟨.cells [(.int .i64 1)], true, true, some 4⟩,
 ⟨.cells [(.slice (some ⟨2, 0, none⟩) 3 1), (.slice none 0 0), (.bool false), (.slice (some ⟨3, 0, none⟩) 2 1), (.slice (some ⟨4, 0, none⟩) 1 1), (.bool true)], true, true, some 5⟩]
def v11 : Value := (.agg #[(.slice (some ⟨6, 0, none⟩) 8 2), (.slice (some ⟨7, 0, none⟩) 5 1), (.slice (some ⟨8, 0, none⟩) 3 2)])
def H11 : Heap := [⟨.cells [(.int .i64 6), (.int .i64 4), (.int .i64 8)], true, true, some 0⟩,
 ⟨.cells [(.int .i64 0), (.int .i64 1), (.int .i64 1), (.int .i64 3), (.int .i64 2), (.int .i64 0), (.int .i64 0), (.int .i64 2)], true, true, some 1⟩,
 ⟨.cells [(.int .i64 2), (.int .i64 0), (.int .i64 1)], true, true, some 2⟩,
 ⟨.cells [(.int .i64 0), (.int .i64 2)], true, true, some 3⟩,
 ⟨.cells [(.int .i64 1)], true, true, some 4⟩,
 ⟨.cells [(.slice (some ⟨2, 0, none⟩) 3 1), (.slice none 0 0), (.bool false), (.slice (some ⟨3, 0, none⟩) 2 1), (.slice (some ⟨4, 0, none⟩) 1 1), (.bool true)], true, true, some 5⟩,
 ⟨.cells [(.int .i64 6), (.int .i64 8), (.int .i64 4), (.int .i64 6), (.int .i64 8), (.int .i64 10), (.int .i64 2), (.int .i64 4), (.int .i64 6), (.int .i64 6), (.int .i64 5), (.int .i64 9), (.int .i64 8), (.int .i64 12), (.int .i64 4), (.int .i64 4)], true, true, some 6⟩,
 ⟨.cells [(.int .i64 0), (.int .i64 2), (.int .i64 3), (.int .i64 5), (.int .i64 6)], true, true, some 7⟩,
 ⟨.cells [(.int .i64 9), (.int .i64 20), (.int .i64 10), (.int .i64 20), (.int .i64 8), (.int .i64 30)], true, true, some 8⟩]
theorem k9 : run PP prims0 59 (.func 9) [] [] = some ⟨.ok v9, H9, 0⟩ := by kernel_rfl
theorem k11 : run PP prims0 59 (.func 11) [] H9 = some ⟨.ok v11, H11, 6⟩ := by kernel_rfl
end Go.Pi.Fad
