/- Closed facts of a card. -/
import Derived.SevenTiedAt
import Derived.KernelRfl
import Derived.Test.YtjidjpcnocddeaaGreatDoorRows
set_option linter.all false
set_option maxRecDepth 100000
namespace Go.Proofs.YtjidjpcnocddeaaGreatDoor
open Go
theorem kGoes21:false=Rows.coatSpoiltRow.goesBy Tryz.prog:=by kernel_rfl
end Go.Proofs.YtjidjpcnocddeaaGreatDoor
set_option maxRecDepth 100000
namespace Go.Proofs.YtjidjpcnocddeaaGreatDoor
open Go
theorem kWf21:Rows.coatSpoiltRow.wfByText (OpenSpec.ofChange Rows.coatSpoiltSpec)=true:=by kernel_rfl
end Go.Proofs.YtjidjpcnocddeaaGreatDoor
