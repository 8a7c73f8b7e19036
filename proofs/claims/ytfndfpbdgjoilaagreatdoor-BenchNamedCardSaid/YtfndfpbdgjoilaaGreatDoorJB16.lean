/- Closed facts of a row. -/
import Derived.JoinedOf
import Derived.KernelRfl
import Derived.Test.YtfndfpbdgjoilaaGreatDoorRows
set_option linter.all false
set_option maxRecDepth 100000
namespace Go.Proofs.YtfndfpbdgjoilaaGreatDoor
open Go
theorem jf16x9:((fun (P:Program) (f:FuncId) (fn:Func) (s:ChangeSpec) (c:OpenClaim)=>((c.inPlace == P.inPlace f):Bool)) Tryz.prog 16 Tryz.f16 Rows.benchNamedSpec Rows.benchNamedRow)=true:=by kernel_rfl
theorem jf16x10:((fun (P:Program) (f:FuncId) (fn:Func) (s:ChangeSpec) (c:OpenClaim)=>((c.unfollowed == P.unfollowed f):Bool)) Tryz.prog 16 Tryz.f16 Rows.benchNamedSpec Rows.benchNamedRow)=true:=by kernel_rfl
theorem jf16x11:((fun (P:Program) (f:FuncId) (fn:Func) (s:ChangeSpec) (c:OpenClaim)=>((c.recurses == P.recurses f):Bool)) Tryz.prog 16 Tryz.f16 Rows.benchNamedSpec Rows.benchNamedRow)=true:=by kernel_rfl
theorem jf16x12:((fun (P:Program) (f:FuncId) (fn:Func) (s:ChangeSpec) (c:OpenClaim)=>((c.named == P.varsNamed f):Bool)) Tryz.prog 16 Tryz.f16 Rows.benchNamedSpec Rows.benchNamedRow)=true:=by kernel_rfl
end Go.Proofs.YtfndfpbdgjoilaaGreatDoor
