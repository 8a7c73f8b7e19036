/- Coats: how a plan may fail. -/
import Derived.Test.YtjidjpcnocddeaaGreatDoorCD
set_option linter.all false
set_option maxRecDepth 100000
namespace Go.Pi.L.Coa
open Go Go.Pi Go.Pi.L Go.Pi.Coa CM

def fault (i w:Int):Value:=.iface 100 (.agg #[.int .i64 i,.int .i64 w])
def nothing:Value:=.tuple #[]
theorem d142n (call:CallT)(a b:Nat)(H:Heap):drunL PP primsL call (.func 142) [.pointer (some ⟨a,0,none⟩),.pointer (some ⟨b,0,none⟩)] H none=some (H,H.length,none):=by
 rw [drun_rc (d:=6) (pr 142) P142 (by simp [p142]) rfl (by simp [p142])]
 simp (maxDischargeDepth:=8) only [↓SD,SU,SV,SW,simprocAttr,Int.cast_ofNat_Int,small,resV, B142,R142,N142,b142, Option.getD_none]
 exact dfin_n _ _ _ _ _ _ _ _ R142
end Go.Pi.L.Coa
set_option maxRecDepth 100000
namespace Go.Pi.L.Coa
open Go Go.Pi Go.Pi.L Go.Pi.Coa CM

def outOf (H:Heap):Option (Int×Int)→Out
 | some (i,w)=>⟨.panic (fault i w),H,H.length⟩
 | none=>⟨.ok nothing,H,H.length⟩
end Go.Pi.L.Coa
set_option maxRecDepth 100000
namespace Go.Pi.L.Coa
open Go Go.Pi Go.Pi.L Go.Pi.Coa CM

end Go.Pi.L.Coa
set_option maxRecDepth 100000
namespace Go.Pi.L.Coa
open Go Go.Pi Go.Pi.L Go.Pi.Coa CM

end Go.Pi.L.Coa
set_option maxRecDepth 100000
namespace Go.Pi.L.Coa
open Go Go.Pi Go.Pi.L Go.Pi.Coa CM

end Go.Pi.L.Coa
