/- Boards of four names, run by the kernel: some of them. -/
import Derived.Test.YtjgmlngcknehhaaGreatUF
set_option linter.all false
set_option maxRecDepth 1000000
namespace Go.Pi.Top
open Go Go.Pi Go.Pi.Q UP
theorem fO0:(((needs 4).drop 0).take 2).map runO=(((needs 4).drop 0).take 2).map ansO:=by kernel_rfl
theorem fO1:(((needs 4).drop 2).take 2).map runO=(((needs 4).drop 2).take 2).map ansO:=by kernel_rfl
theorem fO2:(((needs 4).drop 4).take 2).map runO=(((needs 4).drop 4).take 2).map ansO:=by kernel_rfl
theorem fO3:(((needs 4).drop 6).take 2).map runO=(((needs 4).drop 6).take 2).map ansO:=by kernel_rfl
theorem fT0:(((needs 4).drop 0).take 4).map runT=(((needs 4).drop 0).take 4).map ansT:=by kernel_rfl
theorem fT1:(((needs 4).drop 4).take 4).map runT=(((needs 4).drop 4).take 4).map ansT:=by kernel_rfl
end Go.Pi.Top
