/- Closed facts of a card. -/
import Derived.SevenTiedAt
import Derived.KernelRfl
import Derived.Test.YtjidjpcnocddeaaGreatDoorRows
set_option linter.all false
set_option maxRecDepth 100000
namespace Go.Proofs.YtjidjpcnocddeaaGreatDoor
open Go
theorem kGoes19:false=Rows.coatPrintsRow.goesBy Tryz.prog:=by kernel_rfl
end Go.Proofs.YtjidjpcnocddeaaGreatDoor
set_option maxRecDepth 100000
namespace Go.Proofs.YtjidjpcnocddeaaGreatDoor
open Go
theorem kWf19:Rows.coatPrintsRow.wfByText (OpenSpec.ofChange Rows.coatPrintsSpec)=true:=by kernel_rfl
end Go.Proofs.YtjidjpcnocddeaaGreatDoor
