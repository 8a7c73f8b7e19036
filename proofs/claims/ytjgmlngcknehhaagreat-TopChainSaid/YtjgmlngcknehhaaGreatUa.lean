/- Boards of at most three names, run by the kernel. -/
import Derived.Test.YtjgmlngcknehhaaGreatUF
set_option linter.all false
set_option maxRecDepth 1000000
namespace Go.Pi.Top
open Go Go.Pi Go.Pi.Q UP
theorem fO:(needs 1++needs 2++needs 3).map runO=(needs 1++needs 2++needs 3).map ansO:=by kernel_rfl
theorem fT:(needs 1++needs 2++needs 3).map runT=(needs 1++needs 2++needs 3).map ansT:=by kernel_rfl
end Go.Pi.Top
