/- Closed facts of a card. -/
import Derived.SevenTiedAt
import Derived.KernelRfl
import Derived.Test.YtfndfpbdgjoilaaGreatDoorRows
set_option linter.all false
set_option maxRecDepth 100000
namespace Go.Proofs.YtfndfpbdgjoilaaGreatDoor
open Go
theorem kMain:Tryz.prog.mainIs=some (true,("8771728aba0d1714095fb83e05d29a8b88380942a44dd647203ff7e14084f3ef").toList):=by kernel_rfl
end Go.Proofs.YtfndfpbdgjoilaaGreatDoor
set_option maxRecDepth 100000
namespace Go.Proofs.YtfndfpbdgjoilaaGreatDoor
open Go
theorem kLooks:true=Tryz.prog.looks []:=by kernel_rfl
end Go.Proofs.YtfndfpbdgjoilaaGreatDoor
