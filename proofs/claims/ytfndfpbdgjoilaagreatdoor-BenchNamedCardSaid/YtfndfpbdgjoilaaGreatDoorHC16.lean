/- Closed facts of a card. -/
import Derived.SevenTiedAt
import Derived.KernelRfl
import Derived.Test.YtfndfpbdgjoilaaGreatDoorRows
set_option linter.all false
set_option maxRecDepth 100000
namespace Go.Proofs.YtfndfpbdgjoilaaGreatDoor
open Go
theorem kGoes16:false=Rows.benchNamedRow.goesBy Tryz.prog:=by kernel_rfl
end Go.Proofs.YtfndfpbdgjoilaaGreatDoor
set_option maxRecDepth 100000
namespace Go.Proofs.YtfndfpbdgjoilaaGreatDoor
open Go
theorem kWf16:Rows.benchNamedRow.wfByText (OpenSpec.ofChange Rows.benchNamedSpec)=true:=by kernel_rfl
end Go.Proofs.YtfndfpbdgjoilaaGreatDoor
