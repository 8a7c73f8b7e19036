/- Boards of four names, run by the kernel: some of them. -/
import Derived.Test.YtjgmlngcknehhaaGreatUF
set_option linter.all false
set_option maxRecDepth 1000000
namespace Go.Pi.Top
open Go Go.Pi Go.Pi.Q UP
theorem fO8:(((needs 4).drop 16).take 2).map runO=(((needs 4).drop 16).take 2).map ansO:=by kernel_rfl
theorem fO9:(((needs 4).drop 18).take 2).map runO=(((needs 4).drop 18).take 2).map ansO:=by kernel_rfl
theorem fO10:(((needs 4).drop 20).take 2).map runO=(((needs 4).drop 20).take 2).map ansO:=by kernel_rfl
theorem fO11:(((needs 4).drop 22).take 2).map runO=(((needs 4).drop 22).take 2).map ansO:=by kernel_rfl
theorem fT4:(((needs 4).drop 16).take 4).map runT=(((needs 4).drop 16).take 4).map ansT:=by kernel_rfl
theorem fT5:(((needs 4).drop 20).take 4).map runT=(((needs 4).drop 20).take 4).map ansT:=by kernel_rfl
end Go.Pi.Top
