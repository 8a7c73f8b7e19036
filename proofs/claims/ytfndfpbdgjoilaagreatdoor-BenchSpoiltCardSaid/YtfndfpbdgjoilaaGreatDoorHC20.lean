/- Closed facts of a card. -/
import Derived.SevenTiedAt
import Derived.KernelRfl
import Derived.Test.YtfndfpbdgjoilaaGreatDoorRows
set_option linter.all false
set_option maxRecDepth 100000
namespace Go.Proofs.YtfndfpbdgjoilaaGreatDoor
open Go
theorem kGoes20:false=Rows.benchSpoiltRow.goesBy Tryz.prog:=by kernel_rfl
end Go.Proofs.YtfndfpbdgjoilaaGreatDoor
set_option maxRecDepth 100000
namespace Go.Proofs.YtfndfpbdgjoilaaGreatDoor
open Go
theorem kWf20:Rows.benchSpoiltRow.wfByText (OpenSpec.ofChange Rows.benchSpoiltSpec)=true:=by kernel_rfl
end Go.Proofs.YtfndfpbdgjoilaaGreatDoor
