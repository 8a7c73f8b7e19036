/- Boards of four names, run by the kernel: some of them. -/
import Derived.Test.YtjgmlngcknehhaaGreatUF
set_option linter.all false
set_option maxRecDepth 1000000
namespace Go.Pi.Top
open Go Go.Pi Go.Pi.Q UP
theorem fO24:(((needs 4).drop 48).take 2).map runO=(((needs 4).drop 48).take 2).map ansO:=by kernel_rfl
theorem fO25:(((needs 4).drop 50).take 2).map runO=(((needs 4).drop 50).take 2).map ansO:=by kernel_rfl
theorem fO26:(((needs 4).drop 52).take 2).map runO=(((needs 4).drop 52).take 2).map ansO:=by kernel_rfl
theorem fO27:(((needs 4).drop 54).take 2).map runO=(((needs 4).drop 54).take 2).map ansO:=by kernel_rfl
theorem fT12:(((needs 4).drop 48).take 4).map runT=(((needs 4).drop 48).take 4).map ansT:=by kernel_rfl
theorem fT13:(((needs 4).drop 52).take 4).map runT=(((needs 4).drop 52).take 4).map ansT:=by kernel_rfl
end Go.Pi.Top
