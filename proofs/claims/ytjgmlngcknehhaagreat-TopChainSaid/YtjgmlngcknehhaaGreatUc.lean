/- Boards of four names, run by the kernel: some of them. -/
import Derived.Test.YtjgmlngcknehhaaGreatUF
set_option linter.all false
set_option maxRecDepth 1000000
namespace Go.Pi.Top
open Go Go.Pi Go.Pi.Q UP
theorem fO4:(((needs 4).drop 8).take 2).map runO=(((needs 4).drop 8).take 2).map ansO:=by kernel_rfl
theorem fO5:(((needs 4).drop 10).take 2).map runO=(((needs 4).drop 10).take 2).map ansO:=by kernel_rfl
theorem fO6:(((needs 4).drop 12).take 2).map runO=(((needs 4).drop 12).take 2).map ansO:=by kernel_rfl
theorem fO7:(((needs 4).drop 14).take 2).map runO=(((needs 4).drop 14).take 2).map ansO:=by kernel_rfl
theorem fT2:(((needs 4).drop 8).take 4).map runT=(((needs 4).drop 8).take 4).map ansT:=by kernel_rfl
theorem fT3:(((needs 4).drop 12).take 4).map runT=(((needs 4).drop 12).take 4).map ansT:=by kernel_rfl
end Go.Pi.Top
