/- Closed facts of a card. -/
import Derived.SevenTiedAt
import Derived.KernelRfl
import Derived.Test.YtjidjpcnocddeaaGreatDoorRows
set_option linter.all false
set_option maxRecDepth 100000
namespace Go.Proofs.YtjidjpcnocddeaaGreatDoor
open Go
theorem kMain:Tryz.prog.mainIs=some (true,("e18d2fa59430c9db63e27f5ab18d1051f1b0a0240b18512bd17279043dffdeaf").toList):=by kernel_rfl
end Go.Proofs.YtjidjpcnocddeaaGreatDoor
set_option maxRecDepth 100000
namespace Go.Proofs.YtjidjpcnocddeaaGreatDoor
open Go
theorem kLooks:true=Tryz.prog.looks []:=by kernel_rfl
end Go.Proofs.YtjidjpcnocddeaaGreatDoor
