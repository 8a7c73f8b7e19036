/- Closed facts of a card. -/
import Derived.SevenTiedAt
import Derived.KernelRfl
import Derived.Test.YtfndfpbdgjoilaaGreatDoorRows
set_option linter.all false
set_option maxRecDepth 100000
namespace Go.Proofs.YtfndfpbdgjoilaaGreatDoor
open Go
theorem kGoes18:false=Rows.benchPrintsRow.goesBy Tryz.prog:=by kernel_rfl
end Go.Proofs.YtfndfpbdgjoilaaGreatDoor
set_option maxRecDepth 100000
namespace Go.Proofs.YtfndfpbdgjoilaaGreatDoor
open Go
theorem kWf18:Rows.benchPrintsRow.wfByText (OpenSpec.ofChange Rows.benchPrintsSpec)=true:=by kernel_rfl
end Go.Proofs.YtfndfpbdgjoilaaGreatDoor
