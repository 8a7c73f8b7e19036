/- Benches: what bests keeps, plan by plan. -/
import Derived.Test.YtfndfpbdgjoilaaGreatDoorDG
set_option linter.all false
set_option maxRecDepth 100000
namespace Go.Pi.L
open Go Go.Pi
theorem lt_of_get {H:Heap}{i:Nat}{b:Blk}(h:H[i]?=some b):i < H.length:=(List.getElem?_eq_some_iff.1 h).1
theorem Sl.mv {β:Type}{H H':Heap}{k:Nat}{enc:β→List Value}{b off l:Nat}{xs:List β}(h:Sl H k enc (some ⟨b,off,Option.none⟩) l xs)(hb:∀c,hcells H b=some c→hcells H' b=some c):Sl H' k enc (some ⟨b,off,Option.none⟩) l xs :=
 ⟨h.len,h.loc,fun j x hx=>by obtain ⟨b',off',c,h1,h2,h3⟩:=h.rd j x hx; cases h1; exact ⟨b,off,c,rfl,hb c h2,h3⟩⟩
end Go.Pi.L
namespace Go.Pi.L.Ben
open Go Go.Pi Go.Pi.L Go.Pi.E Go.Pi.Ben BM

end Go.Pi.L.Ben
set_option maxRecDepth 100000
namespace Go.Pi.L.Ben
open Go Go.Pi Go.Pi.L Go.Pi.E Go.Pi.Ben BM

end Go.Pi.L.Ben
set_option maxRecDepth 100000
namespace Go.Pi.L
open Go Go.Pi
section
variable {PP:FuncId→Option PFunc} {prims:Prims} {α:Type} {call:CallT} {F:Ex→St→Option α} {k:List It}
end
end Go.Pi.L
namespace Go.Pi.L.Ben
open Go Go.Pi Go.Pi.L Go.Pi.E Go.Pi.Ben BM

end Go.Pi.L.Ben
