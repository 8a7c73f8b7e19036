/- Closed facts of a card. -/
import Derived.SevenTiedAt
import Derived.KernelRfl
import Derived.Test.YtjidjpcnocddeaaGreatDoorRows
set_option linter.all false
set_option linter.unusedVariables false
set_option linter.unusedSimpArgs false
set_option linter.unusedSectionVars false
set_option maxRecDepth 100000
namespace Go.Proofs.YtjidjpcnocddeaaGreatDoor
open Go
theorem kLooks : true = Tryz.prog.looks [] := by kernel_rfl
end Go.Proofs.YtjidjpcnocddeaaGreatDoor
set_option maxRecDepth 100000
namespace Go.Proofs.YtjidjpcnocddeaaGreatDoor
open Go
theorem kGoes5 : false = Rows.coatFailsRow.goesBy Tryz.prog := by kernel_rfl
end Go.Proofs.YtjidjpcnocddeaaGreatDoor
set_option maxRecDepth 100000
namespace Go.Proofs.YtjidjpcnocddeaaGreatDoor
open Go
theorem kWf5 : Rows.coatFailsRow.wfByText (OpenSpec.ofChange Rows.coatFailsSpec) = true := by kernel_rfl
end Go.Proofs.YtjidjpcnocddeaaGreatDoor
