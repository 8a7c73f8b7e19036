/- Closed facts of a row. -/
import Derived.JoinedOf
import Derived.KernelRfl
import Derived.Test.YtfndfpbdgjoilaaGreatDoorRows
set_option linter.all false
set_option maxRecDepth 100000
namespace Go.Proofs.YtfndfpbdgjoilaaGreatDoor
open Go
theorem jf11x25:((fun (P:Program) (f:FuncId) (fn:Func) (s:ChangeSpec) (c:OpenClaim)=>(P.mayEnter:Bool)) Tryz.prog 11 Tryz.f11 Rows.benchWhosSpec Rows.benchWhosRow)=true:=by kernel_rfl
end Go.Proofs.YtfndfpbdgjoilaaGreatDoor
