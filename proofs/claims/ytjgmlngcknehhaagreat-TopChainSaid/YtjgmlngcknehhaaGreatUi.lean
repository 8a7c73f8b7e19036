/- Boards of four names, run by the kernel: some of them. -/
import Derived.Test.YtjgmlngcknehhaaGreatUF
set_option linter.all false
set_option maxRecDepth 1000000
namespace Go.Pi.Top
open Go Go.Pi Go.Pi.Q UP
theorem fO28:(((needs 4).drop 56).take 2).map runO=(((needs 4).drop 56).take 2).map ansO:=by kernel_rfl
theorem fO29:(((needs 4).drop 58).take 2).map runO=(((needs 4).drop 58).take 2).map ansO:=by kernel_rfl
theorem fO30:(((needs 4).drop 60).take 2).map runO=(((needs 4).drop 60).take 2).map ansO:=by kernel_rfl
theorem fO31:(((needs 4).drop 62).take 2).map runO=(((needs 4).drop 62).take 2).map ansO:=by kernel_rfl
theorem fT14:(((needs 4).drop 56).take 4).map runT=(((needs 4).drop 56).take 4).map ansT:=by kernel_rfl
theorem fT15:(((needs 4).drop 60).take 4).map runT=(((needs 4).drop 60).take 4).map ansT:=by kernel_rfl
end Go.Pi.Top
