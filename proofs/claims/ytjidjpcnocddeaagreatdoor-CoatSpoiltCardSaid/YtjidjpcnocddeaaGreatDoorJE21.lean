/- Closed facts of a row. -/
import Derived.JoinedOf
import Derived.KernelRfl
import Derived.Test.YtjidjpcnocddeaaGreatDoorRows
set_option linter.all false
set_option maxRecDepth 100000
namespace Go.Proofs.YtjidjpcnocddeaaGreatDoor
open Go
theorem jf21x27:((fun (P:Program) (f:FuncId) (fn:Func) (s:ChangeSpec) (c:OpenClaim)=>((P.make == some c.make):Bool)) Tryz.prog 21 Tryz.f21 Rows.coatSpoiltSpec Rows.coatSpoiltRow)=true:=by kernel_rfl
end Go.Proofs.YtjidjpcnocddeaaGreatDoor
