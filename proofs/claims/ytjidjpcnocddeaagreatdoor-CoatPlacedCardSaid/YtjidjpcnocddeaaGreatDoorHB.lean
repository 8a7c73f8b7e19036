/- Closed facts of a card. -/
import Derived.SevenTiedAt
import Derived.KernelRfl
import Derived.Test.YtjidjpcnocddeaaGreatDoorRows
set_option linter.all false
set_option maxRecDepth 100000
namespace Go.Proofs.YtjidjpcnocddeaaGreatDoor
open Go
theorem kLooks:true=Tryz.prog.looks []:=by kernel_rfl
end Go.Proofs.YtjidjpcnocddeaaGreatDoor
