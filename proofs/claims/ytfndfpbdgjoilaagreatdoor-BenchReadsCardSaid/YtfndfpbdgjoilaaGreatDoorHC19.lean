/- Closed facts of a card. -/
import Derived.SevenTiedAt
import Derived.KernelRfl
import Derived.Test.YtfndfpbdgjoilaaGreatDoorRows
set_option linter.all false
set_option maxRecDepth 100000
namespace Go.Proofs.YtfndfpbdgjoilaaGreatDoor
open Go
theorem kGoes19:false=Rows.benchReadsRow.goesBy Tryz.prog:=by kernel_rfl
end Go.Proofs.YtfndfpbdgjoilaaGreatDoor
set_option maxRecDepth 100000
namespace Go.Proofs.YtfndfpbdgjoilaaGreatDoor
open Go
theorem kWf19:Rows.benchReadsRow.wfByText (OpenSpec.ofChange Rows.benchReadsSpec)=true:=by kernel_rfl
end Go.Proofs.YtfndfpbdgjoilaaGreatDoor
