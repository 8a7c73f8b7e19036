/- Boards of four names, run by the kernel: some of them. -/
import Derived.Test.YtjgmlngcknehhaaGreatUF
set_option linter.all false
set_option maxRecDepth 1000000
namespace Go.Pi.Top
open Go Go.Pi Go.Pi.Q UP
theorem fO12:(((needs 4).drop 24).take 2).map runO=(((needs 4).drop 24).take 2).map ansO:=by kernel_rfl
theorem fO13:(((needs 4).drop 26).take 2).map runO=(((needs 4).drop 26).take 2).map ansO:=by kernel_rfl
theorem fO14:(((needs 4).drop 28).take 2).map runO=(((needs 4).drop 28).take 2).map ansO:=by kernel_rfl
theorem fO15:(((needs 4).drop 30).take 2).map runO=(((needs 4).drop 30).take 2).map ansO:=by kernel_rfl
theorem fT6:(((needs 4).drop 24).take 4).map runT=(((needs 4).drop 24).take 4).map ansT:=by kernel_rfl
theorem fT7:(((needs 4).drop 28).take 4).map runT=(((needs 4).drop 28).take 4).map ansT:=by kernel_rfl
end Go.Pi.Top
