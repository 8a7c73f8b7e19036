/- Coats: how much they dry. -/
import Derived.Test.YtjidjpcnocddeaaGreatDoorCB
import Derived.Test.YtjidjpcnocddeaaGreatDoorCQ
set_option linter.all false
set_option maxRecDepth 100000
namespace Go.Pi.L.Coa
open Go Go.Pi Go.Pi.L Go.Pi.Coa CM

end Go.Pi.L.Coa
set_option maxRecDepth 100000
namespace Go.Pi.L.Coa
open Go Go.Pi Go.Pi.L Go.Pi.Coa CM

def ps (l:List Int)(j:Nat):List Int:=(List.range (j+1)).map fun i=>sm (l.take i)
theorem Ints.rd {H:Heap}{b l:Nat}{xs:List Int}(h:Ints H (some ⟨b,0,none⟩) l xs){j:Nat}{x:Int}(hx:xs[j]?=some x):∀H',Grow H H'→rdO (hcells H' b) (j*1) none=some (.int .i64 x):=by
 intro H' g
 obtain ⟨b',off,y,hb,hy,h3⟩:=h.i1 (j:=j) (by rw [←h.len]; exact (List.getElem?_eq_some_iff.1 hx).1)
 cases hb
 rw [hx] at hy; cases hy
 have:=h3 H' g
 rw [Nat.zero_add] at this; exact this
end Go.Pi.L.Coa
