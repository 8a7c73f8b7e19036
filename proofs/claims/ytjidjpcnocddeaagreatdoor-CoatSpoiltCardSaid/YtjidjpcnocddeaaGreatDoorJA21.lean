/- Closed facts of a row. -/
import Derived.JoinedOf
import Derived.KernelRfl
import Derived.Test.YtjidjpcnocddeaaGreatDoorRows
set_option linter.all false
set_option maxRecDepth 100000
namespace Go.Proofs.YtjidjpcnocddeaaGreatDoor
open Go
theorem jf21x0:((fun (P:Program) (f:FuncId) (fn:Func) (s:ChangeSpec) (c:OpenClaim)=>(c.wf (OpenSpec.ofChange s):Bool)) Tryz.prog 21 Tryz.f21 Rows.coatSpoiltSpec Rows.coatSpoiltRow)=true:=by kernel_rfl
theorem jf21x1:((fun (P:Program) (f:FuncId) (fn:Func) (s:ChangeSpec) (c:OpenClaim)=>(laidOutB P:Bool)) Tryz.prog 21 Tryz.f21 Rows.coatSpoiltSpec Rows.coatSpoiltRow)=true:=by kernel_rfl
theorem jf21x2:((fun (P:Program) (f:FuncId) (fn:Func) (s:ChangeSpec) (c:OpenClaim)=>(mapsRowed P:Bool)) Tryz.prog 21 Tryz.f21 Rows.coatSpoiltSpec Rows.coatSpoiltRow)=true:=by kernel_rfl
theorem jf21x3:((fun (P:Program) (f:FuncId) (fn:Func) (s:ChangeSpec) (c:OpenClaim)=>(fn.params.all (P.readableRec ·):Bool)) Tryz.prog 21 Tryz.f21 Rows.coatSpoiltSpec Rows.coatSpoiltRow)=true:=by kernel_rfl
theorem jf21x4:((fun (P:Program) (f:FuncId) (fn:Func) (s:ChangeSpec) (c:OpenClaim)=>(namedTie P c.named s.vars:Bool)) Tryz.prog 21 Tryz.f21 Rows.coatSpoiltSpec Rows.coatSpoiltRow)=true:=by kernel_rfl
theorem jf21x5:((fun (P:Program) (f:FuncId) (fn:Func) (s:ChangeSpec) (c:OpenClaim)=>((c.stops == []):Bool)) Tryz.prog 21 Tryz.f21 Rows.coatSpoiltSpec Rows.coatSpoiltRow)=true:=by kernel_rfl
theorem jf21x6:((fun (P:Program) (f:FuncId) (fn:Func) (s:ChangeSpec) (c:OpenClaim)=>((P.stops == []):Bool)) Tryz.prog 21 Tryz.f21 Rows.coatSpoiltSpec Rows.coatSpoiltRow)=true:=by kernel_rfl
theorem jf21x7:((fun (P:Program) (f:FuncId) (fn:Func) (s:ChangeSpec) (c:OpenClaim)=>((c.knobs == []):Bool)) Tryz.prog 21 Tryz.f21 Rows.coatSpoiltSpec Rows.coatSpoiltRow)=true:=by kernel_rfl
theorem jf21x8:((fun (P:Program) (f:FuncId) (fn:Func) (s:ChangeSpec) (c:OpenClaim)=>((P.stopKnobs == []):Bool)) Tryz.prog 21 Tryz.f21 Rows.coatSpoiltSpec Rows.coatSpoiltRow)=true:=by kernel_rfl
theorem jf21x13:((fun (P:Program) (f:FuncId) (fn:Func) (s:ChangeSpec) (c:OpenClaim)=>((c.maps == (fn.params.toList++s.plain.varTypes P).any (P.mapsRec ·)):Bool)) Tryz.prog 21 Tryz.f21 Rows.coatSpoiltSpec Rows.coatSpoiltRow)=true:=by kernel_rfl
theorem jf21x14:((fun (P:Program) (f:FuncId) (fn:Func) (s:ChangeSpec) (c:OpenClaim)=>((c.ifaces == (fn.params.toList++s.plain.varTypes P).any (P.ifacesRec ·)):Bool)) Tryz.prog 21 Tryz.f21 Rows.coatSpoiltSpec Rows.coatSpoiltRow)=true:=by kernel_rfl
theorem jf21x15:((fun (P:Program) (f:FuncId) (fn:Func) (s:ChangeSpec) (c:OpenClaim)=>((c.mapsOut == P.mapsAmong fn.resultTypes.toList):Bool)) Tryz.prog 21 Tryz.f21 Rows.coatSpoiltSpec Rows.coatSpoiltRow)=true:=by kernel_rfl
theorem jf21x16:((fun (P:Program) (f:FuncId) (fn:Func) (s:ChangeSpec) (c:OpenClaim)=>((c.loops == (fn.params.toList++s.plain.varTypes P).any (P.loopsFrom ·)):Bool)) Tryz.prog 21 Tryz.f21 Rows.coatSpoiltSpec Rows.coatSpoiltRow)=true:=by kernel_rfl
theorem jf21x17:((fun (P:Program) (f:FuncId) (fn:Func) (s:ChangeSpec) (c:OpenClaim)=>((c.wideKeys == (fn.params.toList++s.plain.varTypes P++fn.resultTypes.toList).any (P.wideKeysFrom ·)):Bool)) Tryz.prog 21 Tryz.f21 Rows.coatSpoiltSpec Rows.coatSpoiltRow)=true:=by kernel_rfl
theorem jf21x18:((fun (P:Program) (f:FuncId) (fn:Func) (s:ChangeSpec) (c:OpenClaim)=>(s.vars.all (P.varReadable ·):Bool)) Tryz.prog 21 Tryz.f21 Rows.coatSpoiltSpec Rows.coatSpoiltRow)=true:=by kernel_rfl
theorem jf21x19:((fun (P:Program) (f:FuncId) (fn:Func) (s:ChangeSpec) (c:OpenClaim)=>(fn.resultTypes.all (fun t=>P.readableRec t&&decide (t < P.types.size)):Bool)) Tryz.prog 21 Tryz.f21 Rows.coatSpoiltSpec Rows.coatSpoiltRow)=true:=by kernel_rfl
theorem jf21x20:((fun (P:Program) (f:FuncId) (fn:Func) (s:ChangeSpec) (c:OpenClaim)=>((c.ifacesOut == fn.resultTypes.toList.any (P.ifacesRec ·)):Bool)) Tryz.prog 21 Tryz.f21 Rows.coatSpoiltSpec Rows.coatSpoiltRow)=true:=by kernel_rfl
theorem jf21x21:((fun (P:Program) (f:FuncId) (fn:Func) (s:ChangeSpec) (c:OpenClaim)=>((c.loopsOut == fn.resultTypes.toList.any (P.loopsFrom ·)):Bool)) Tryz.prog 21 Tryz.f21 Rows.coatSpoiltSpec Rows.coatSpoiltRow)=true:=by kernel_rfl
theorem jf21x22:((fun (P:Program) (f:FuncId) (fn:Func) (s:ChangeSpec) (c:OpenClaim)=>((c.plainKeys == P.plainKeys):Bool)) Tryz.prog 21 Tryz.f21 Rows.coatSpoiltSpec Rows.coatSpoiltRow)=true:=by kernel_rfl
theorem jf21x23:((fun (P:Program) (f:FuncId) (fn:Func) (s:ChangeSpec) (c:OpenClaim)=>(c.shortTexts.isNone:Bool)) Tryz.prog 21 Tryz.f21 Rows.coatSpoiltSpec Rows.coatSpoiltRow)=true:=by kernel_rfl
theorem jf21x24:((fun (P:Program) (f:FuncId) (fn:Func) (s:ChangeSpec) (c:OpenClaim)=>(P.stopsHeard:Bool)) Tryz.prog 21 Tryz.f21 Rows.coatSpoiltSpec Rows.coatSpoiltRow)=true:=by kernel_rfl
theorem jf21x28:((fun (P:Program) (f:FuncId) (fn:Func) (s:ChangeSpec) (c:OpenClaim)=>((c.kinds == (if c.domain.isEmpty then [] else fn.params.toList.map fun t=>match P.underlying t with | some (.int k)=>some k | _=>none)):Bool)) Tryz.prog 21 Tryz.f21 Rows.coatSpoiltSpec Rows.coatSpoiltRow)=true:=by kernel_rfl
theorem jf21x29:((fun (P:Program) (f:FuncId) (fn:Func) (s:ChangeSpec) (c:OpenClaim)=>((c.pinned == c.pinnedBy):Bool)) Tryz.prog 21 Tryz.f21 Rows.coatSpoiltSpec Rows.coatSpoiltRow)=true:=by kernel_rfl
theorem jf21x30:((fun (P:Program) (f:FuncId) (fn:Func) (s:ChangeSpec) (c:OpenClaim)=>((c.veiled == (fn.params.toList++s.plain.varTypes P++fn.resultTypes.toList).any (P.veiledRec ·)):Bool)) Tryz.prog 21 Tryz.f21 Rows.coatSpoiltSpec Rows.coatSpoiltRow)=true:=by kernel_rfl
theorem jf21x31:((fun (P:Program) (f:FuncId) (fn:Func) (s:ChangeSpec) (c:OpenClaim)=>(c.veiledFits P fn.params.toList (fn.params.toList++s.plain.varTypes P++fn.resultTypes.toList):Bool)) Tryz.prog 21 Tryz.f21 Rows.coatSpoiltSpec Rows.coatSpoiltRow)=true:=by kernel_rfl
end Go.Proofs.YtjidjpcnocddeaaGreatDoor
