/- Closed facts of a card. -/
import Derived.SevenTiedAt
import Derived.KernelRfl
import Derived.Test.YtjidjpcnocddeaaGreatDoorRows
set_option linter.all false
set_option maxRecDepth 100000
namespace Go.Proofs.YtjidjpcnocddeaaGreatDoor
open Go
theorem kGoes16:false=Rows.coatKeptRow.goesBy Tryz.prog:=by kernel_rfl
end Go.Proofs.YtjidjpcnocddeaaGreatDoor
set_option maxRecDepth 100000
namespace Go.Proofs.YtjidjpcnocddeaaGreatDoor
open Go
theorem kWf16:Rows.coatKeptRow.wfByText (OpenSpec.ofChange Rows.coatKeptSpec)=true:=by kernel_rfl
end Go.Proofs.YtjidjpcnocddeaaGreatDoor
