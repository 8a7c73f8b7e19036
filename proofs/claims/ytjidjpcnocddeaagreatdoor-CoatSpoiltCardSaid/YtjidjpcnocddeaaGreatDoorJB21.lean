/- Closed facts of a row. -/
import Derived.JoinedOf
import Derived.KernelRfl
import Derived.Test.YtjidjpcnocddeaaGreatDoorRows
set_option linter.all false
set_option maxRecDepth 100000
namespace Go.Proofs.YtjidjpcnocddeaaGreatDoor
open Go
theorem jf21x9:((fun (P:Program) (f:FuncId) (fn:Func) (s:ChangeSpec) (c:OpenClaim)=>((c.inPlace == P.inPlace f):Bool)) Tryz.prog 21 Tryz.f21 Rows.coatSpoiltSpec Rows.coatSpoiltRow)=true:=by kernel_rfl
theorem jf21x10:((fun (P:Program) (f:FuncId) (fn:Func) (s:ChangeSpec) (c:OpenClaim)=>((c.unfollowed == P.unfollowed f):Bool)) Tryz.prog 21 Tryz.f21 Rows.coatSpoiltSpec Rows.coatSpoiltRow)=true:=by kernel_rfl
theorem jf21x11:((fun (P:Program) (f:FuncId) (fn:Func) (s:ChangeSpec) (c:OpenClaim)=>((c.recurses == P.recurses f):Bool)) Tryz.prog 21 Tryz.f21 Rows.coatSpoiltSpec Rows.coatSpoiltRow)=true:=by kernel_rfl
theorem jf21x12:((fun (P:Program) (f:FuncId) (fn:Func) (s:ChangeSpec) (c:OpenClaim)=>((c.named == P.varsNamed f):Bool)) Tryz.prog 21 Tryz.f21 Rows.coatSpoiltSpec Rows.coatSpoiltRow)=true:=by kernel_rfl
end Go.Proofs.YtjidjpcnocddeaaGreatDoor
