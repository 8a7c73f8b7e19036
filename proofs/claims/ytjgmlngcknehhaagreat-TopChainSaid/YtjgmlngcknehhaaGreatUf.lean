/- Boards of four names, run by the kernel: some of them. -/
import Derived.Test.YtjgmlngcknehhaaGreatUF
set_option linter.all false
set_option maxRecDepth 1000000
namespace Go.Pi.Top
open Go Go.Pi Go.Pi.Q UP
theorem fO16:(((needs 4).drop 32).take 2).map runO=(((needs 4).drop 32).take 2).map ansO:=by kernel_rfl
theorem fO17:(((needs 4).drop 34).take 2).map runO=(((needs 4).drop 34).take 2).map ansO:=by kernel_rfl
theorem fO18:(((needs 4).drop 36).take 2).map runO=(((needs 4).drop 36).take 2).map ansO:=by kernel_rfl
theorem fO19:(((needs 4).drop 38).take 2).map runO=(((needs 4).drop 38).take 2).map ansO:=by kernel_rfl
theorem fT8:(((needs 4).drop 32).take 4).map runT=(((needs 4).drop 32).take 4).map ansT:=by kernel_rfl
theorem fT9:(((needs 4).drop 36).take 4).map runT=(((needs 4).drop 36).take 4).map ansT:=by kernel_rfl
end Go.Pi.Top
