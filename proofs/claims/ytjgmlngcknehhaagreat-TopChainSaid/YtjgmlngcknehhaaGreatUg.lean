/- Boards of four names, run by the kernel: some of them. -/
import Derived.Test.YtjgmlngcknehhaaGreatUF
set_option linter.all false
set_option maxRecDepth 1000000
namespace Go.Pi.Top
open Go Go.Pi Go.Pi.Q UP
theorem fO20:(((needs 4).drop 40).take 2).map runO=(((needs 4).drop 40).take 2).map ansO:=by kernel_rfl
theorem fO21:(((needs 4).drop 42).take 2).map runO=(((needs 4).drop 42).take 2).map ansO:=by kernel_rfl
theorem fO22:(((needs 4).drop 44).take 2).map runO=(((needs 4).drop 44).take 2).map ansO:=by kernel_rfl
theorem fO23:(((needs 4).drop 46).take 2).map runO=(((needs 4).drop 46).take 2).map ansO:=by kernel_rfl
theorem fT10:(((needs 4).drop 40).take 4).map runT=(((needs 4).drop 40).take 4).map ansT:=by kernel_rfl
theorem fT11:(((needs 4).drop 44).take 4).map runT=(((needs 4).drop 44).take 4).map ansT:=by kernel_rfl
end Go.Pi.Top
