/- Benches: strokes that are copied, and one of them changed. -/
import Derived.Test.YtfndfpbdgjoilaaGreatDoorDF
import Derived.Test.YtfndfpbdgjoilaaGreatDoorDK
import Derived.Test.YtfndfpbdgjoilaaGreatDoorDH
set_option linter.all false
set_option maxRecDepth 100000
namespace Go.Pi.L
open Go Go.Pi
section
variable {α:Type} {call:CallT} {F:Ex→St→Option α} {k:List It}
end
end Go.Pi.L
namespace Go.Pi.L.Ben
open Go Go.Pi Go.Pi.L Go.Pi.E Go.Pi.Ben BM

end Go.Pi.L.Ben
set_option maxRecDepth 100000
namespace Go.Pi.L.Ben
open Go Go.Pi Go.Pi.L Go.Pi.E Go.Pi.Ben BM

section
variable {H:Heap} {r:BeR} {b:Bench} {st:Nat} {x:Sk} {by_:Int}
end
theorem tk_pos {b:Bench}(hf:Fine b)(p:List Int):1≤takesN b (en b p true):=by
 obtain ⟨_,h2,_⟩:=lastH_spec ((List.range b.strokes.length).map (en b p true))
 have h3:=h2 (en b p true 0) (List.mem_map.2 ⟨0,List.mem_range.2 hf.n1,rfl⟩)
 have h4:=bN_nonneg (follows b p) (durW b (-1) 0 true) 0
 have h5:=(durW_b hf (lg:=-1) (by decide:(0:Int)≤0) (by decide) true 0).1
 have h6:en b p true 0=bN (follows b p) (durW b (-1) 0 true) 0+durW b (-1) 0 true 0:=rfl
 unfold takesN
 omega
end Go.Pi.L.Ben
set_option maxRecDepth 100000
namespace Go.Pi.L.Ben
open Go Go.Pi Go.Pi.L Go.Pi.E Go.Pi.Ben BM

end Go.Pi.L.Ben
