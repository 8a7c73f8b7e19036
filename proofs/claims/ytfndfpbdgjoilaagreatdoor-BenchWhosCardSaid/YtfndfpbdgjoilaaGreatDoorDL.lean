/- Benches: strokes that are copied, and one of them changed. -/
import Derived.Test.YtfndfpbdgjoilaaGreatDoorDF
import Derived.Test.YtfndfpbdgjoilaaGreatDoorDK
import Derived.Test.YtfndfpbdgjoilaaGreatDoorDH
set_option linter.all false
set_option maxRecDepth 100000
namespace Go.Pi.L
open Go Go.Pi
section
variable {α:Type} {call:CallT} {F:Ex→St→Option α} {k:List It}
theorem st_new {H H1:Heap}{n off:Nat}{c:List Value}{v:Value}{d:Option Tmp}{T S D lo nn rnd}(hF:Fam H)(hH:H++[(⟨.cells c,true,true,some H.length⟩:Blk)]=H1)(hl:isLoc v=false)(h1:v.cells.toList.all one=true)(hn:v.cells.size=n)(ho:off+n≤c.length) :
  stH call F (H1[H.length]?) n H.length off v d k ⟨T,S,D,H1,lo,nn,rnd⟩=nxt call F (some undef) d k ⟨T,S,D,H++[⟨.cells (splice c off v.cells.toList),true,true,some H.length⟩],min lo H.length,nn,rnd⟩:=by
 subst hH
 rw [stH_fam (f:=H.length) (c:=c) (by simp) hl h1 hn ho,Nat.min_self]
 have e:kill H.length (H++[(⟨.cells c,true,true,some H.length⟩:Blk)])=H++[⟨.cells c,true,true,some H.length⟩]:=by
  refine List.ext_getElem? fun i=>?_
  rw [kill_get]
  by_cases hi:i < H.length
  ·rw [List.getElem?_append_left hi]
   cases hx:H[i]? with
   | none=>rfl
   | some x =>
    have:¬(x.fam=some H.length∧x.tip=false):=fun hc=>by have:=hF i x _ hx hc.1; omega
    simp only [Option.map_some,if_neg this]
  ·cases hx:(H++[(⟨.cells c,true,true,some H.length⟩:Blk)])[i]? with
   | none=>rfl
   | some x =>
    have h2:=(List.getElem?_eq_some_iff.1 hx).1
    simp at h2
    obtain rfl:i=H.length:=by omega
    simp at hx
    subst hx
    simp
 rw [e]
 simp
end
end Go.Pi.L
namespace Go.Pi.L.Ben
open Go Go.Pi Go.Pi.L Go.Pi.E Go.Pi.Ben BM

theorem of_cells0 {β:Type}{enc:β→List Value}{H:Heap}{k b:Nat}{xs:List β}(hk:∀x,(enc x).length=k)(h:hcells H b=some (cells enc xs)):Sl H k enc (some ⟨b,0,none⟩) xs.length xs :=
 ⟨rfl,.inr ⟨_,_,rfl⟩,fun j x hx=>⟨b,0,cells enc xs,rfl,h,by rw [Nat.zero_add]; exact cells_get hk hx⟩⟩
end Go.Pi.L.Ben
set_option maxRecDepth 100000
namespace Go.Pi.L.Ben
open Go Go.Pi Go.Pi.L Go.Pi.E Go.Pi.Ben BM

section
variable {H:Heap} {r:BeR} {b:Bench} {st:Nat} {x:Sk} {by_:Int}
end
end Go.Pi.L.Ben
set_option maxRecDepth 100000
namespace Go.Pi.L.Ben
open Go Go.Pi Go.Pi.L Go.Pi.E Go.Pi.Ben BM

end Go.Pi.L.Ben
