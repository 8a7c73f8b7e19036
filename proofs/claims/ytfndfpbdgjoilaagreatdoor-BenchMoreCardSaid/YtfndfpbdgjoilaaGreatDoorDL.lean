/- Benches: strokes that are copied, and one of them changed. -/
import Derived.Test.YtfndfpbdgjoilaaGreatDoorDF
import Derived.Test.YtfndfpbdgjoilaaGreatDoorDK
import Derived.Test.YtfndfpbdgjoilaaGreatDoorDH
set_option linter.all false
set_option maxRecDepth 100000
namespace Go.Pi.L
open Go Go.Pi
theorem splice_in {l r:List Value}{o:Nat}{vs:List Value}(h:o+vs.length≤l.length):splice (l++r) o vs=splice l o vs++r:=by
 unfold splice
 rw [List.take_append_of_le_length (by omega),List.drop_append_of_le_length h]
 simp
theorem splice_out {l r:List Value}{o:Nat}{vs:List Value}:splice (l++r) (l.length+o) vs=l++splice r o vs:=by
 unfold splice
 rw [List.take_length_add_append,Nat.add_assoc,List.drop_length_add_append]
 simp
theorem splice_part {β:Type}{enc:β→List Value}{k:Nat}(hk:∀x,(enc x).length=k){o:Nat}{vs:List Value}(ho:o+vs.length≤k):∀{xs:List β} {i:Nat} {x x':β},xs[i]?=some x→enc x'=splice (enc x) o vs→splice (cells enc xs) (i*k+o) vs=cells enc (xs.set i x')
 | [],i,x,x',h,_=>by simp at h
 | y :: xs,0,x,x',h,he=>by
  simp only [List.getElem?_cons_zero,Option.some.injEq] at h
  subst h
  have e:cells enc (y :: xs)=enc y++cells enc xs:=by simp [cells]
  have e2:cells enc (x' :: xs)=enc x'++cells enc xs:=by simp [cells]
  rw [List.set_cons_zero,e,e2,Nat.zero_mul,Nat.zero_add,splice_in (by rw [hk]; exact ho),he]
 | y :: xs,i+1,x,x',h,he=>by
  simp only [List.getElem?_cons_succ] at h
  have ih:=splice_part hk ho h he
  have e:cells enc (y :: xs)=enc y++cells enc xs:=by simp [cells]
  have e2:cells enc (y :: xs.set i x')=enc y++cells enc (xs.set i x'):=by simp [cells]
  have e3:(i+1)*k+o=(enc y).length+(i*k+o):=by rw [hk,Nat.add_mul,Nat.one_mul]; omega
  rw [List.set_cons_succ,e,e2,e3,splice_out,ih]
section
variable {α:Type} {call:CallT} {F:Ex→St→Option α} {k:List It}
theorem st_new {H H1:Heap}{n off:Nat}{c:List Value}{v:Value}{d:Option Tmp}{T S D lo nn rnd}(hF:Fam H)(hH:H++[(⟨.cells c,true,true,some H.length⟩:Blk)]=H1)(hl:isLoc v=false)(h1:v.cells.toList.all one=true)(hn:v.cells.size=n)(ho:off+n≤c.length) :
  stH call F (H1[H.length]?) n H.length off v d k ⟨T,S,D,H1,lo,nn,rnd⟩=nxt call F (some undef) d k ⟨T,S,D,H++[⟨.cells (splice c off v.cells.toList),true,true,some H.length⟩],min lo H.length,nn,rnd⟩:=by
 subst hH
 rw [stH_fam (f:=H.length) (c:=c) (by simp) hl h1 hn ho,Nat.min_self]
 have e:kill H.length (H++[(⟨.cells c,true,true,some H.length⟩:Blk)])=H++[⟨.cells c,true,true,some H.length⟩]:=by
  refine List.ext_getElem? fun i=>?_
  rw [kill_get]
  by_cases hi:i < H.length
  ·rw [List.getElem?_append_left hi]
   cases hx:H[i]? with
   | none=>rfl
   | some x =>
    have:¬(x.fam=some H.length∧x.tip=false):=fun hc=>by have:=hF i x _ hx hc.1; omega
    simp only [Option.map_some,if_neg this]
  ·cases hx:(H++[(⟨.cells c,true,true,some H.length⟩:Blk)])[i]? with
   | none=>rfl
   | some x =>
    have h2:=(List.getElem?_eq_some_iff.1 hx).1
    simp at h2
    obtain rfl:i=H.length:=by omega
    simp at hx
    subst hx
    simp
 rw [e]
 simp
end
end Go.Pi.L
namespace Go.Pi.L.Ben
open Go Go.Pi Go.Pi.L Go.Pi.E Go.Pi.Ben BM

theorem of_cells0 {β:Type}{enc:β→List Value}{H:Heap}{k b:Nat}{xs:List β}(hk:∀x,(enc x).length=k)(h:hcells H b=some (cells enc xs)):Sl H k enc (some ⟨b,0,none⟩) xs.length xs :=
 ⟨rfl,.inr ⟨_,_,rfl⟩,fun j x hx=>⟨b,0,cells enc xs,rfl,h,by rw [Nat.zero_add]; exact cells_get hk hx⟩⟩
def copR (r:BeR)(n:Nat)(xs:List Sk):BeR:=⟨r.app,r.ba,r.bl,r.bk,some ⟨n,0,none⟩,r.sl,5,xs⟩
def copB (b:Bench)(xs:List Sk):Bench:=⟨b.app,b.boards,xs.map (·.s)⟩
def copH (H:Heap)(xs:List Sk):Heap:=H++[⟨.cells (cells eK xs),true,true,some H.length⟩]
theorem cop_ok {H H':Heap}{r:BeR}{b:Bench}(hb:BeOk H r b){xs:List Sk}(hl:xs.length=r.sl)(hx:∀k∈xs,Ints H' k.a k.l k.s.needs)(g:Grow H H'):BeOk (copH H' xs) (copR r H'.length xs) (copB b xs):=by
 have u:Up H' (copH H' xs):=(Up.refl _).app
 refine ⟨hb.app,hb.br.grow (g.trans u.grow),?_,fun k hk=>(hx k hk).grow u.grow,rfl⟩
 show Sl (copH H' xs) 5 eK (some ⟨H'.length,0,none⟩) r.sl xs
 rw [←hl]
 exact of_cells0 eK_len (by simp [hcells,copH])
end Go.Pi.L.Ben
set_option maxRecDepth 100000
namespace Go.Pi.L.Ben
open Go Go.Pi Go.Pi.L Go.Pi.E Go.Pi.Ben BM

theorem handsOk_congr {app:Int}:∀{ss ss':List Stroke} {p:List Int},ss.map (·.round)=ss'.map (·.round)→handsOk app ss p=handsOk app ss' p
 | [],[],_,_=>rfl
 | [],_ :: _,_,h=>by simp at h
 | _ :: _,[],_,h=>by simp at h
 | s :: ss,s' :: ss',[],_=>rfl
 | s :: ss,s' :: ss',x :: p,h=>by
  simp only [List.map_cons,List.cons.injEq] at h
  simp only [handsOk,h.1,handsOk_congr (app:=app) (p:=p) h.2]
theorem follows_congr {b b':Bench}(h:∀n:Nat,(b'.strokes[n]?).map Stroke.needs=(b.strokes[n]?).map Stroke.needs)(p:List Int):follows b' p=follows b p:=by
 funext k n
 unfold follows
 have:=h n
 cases h1:b'.strokes[n]? with
 | none =>
  cases h2:b.strokes[n]? with
  | none=>rfl
  | some s=>rw [h1,h2] at this; cases this
 | some s' =>
  cases h2:b.strokes[n]? with
  | none=>rw [h1,h2] at this; cases this
  | some s =>
   rw [h1,h2] at this
   simp only [Option.map_some,Option.some.injEq] at this
   simp only [this]
section
variable {H:Heap} {r:BeR} {b:Bench} {st:Nat} {x:Sk} {by_:Int}
end
theorem tk_pos {b:Bench}(hf:Fine b)(p:List Int):1≤takesN b (en b p true):=by
 obtain ⟨_,h2,_⟩:=lastH_spec ((List.range b.strokes.length).map (en b p true))
 have h3:=h2 (en b p true 0) (List.mem_map.2 ⟨0,List.mem_range.2 hf.n1,rfl⟩)
 have h4:=bN_nonneg (follows b p) (durW b (-1) 0 true) 0
 have h5:=(durW_b hf (lg:=-1) (by decide:(0:Int)≤0) (by decide) true 0).1
 have h6:en b p true 0=bN (follows b p) (durW b (-1) 0 true) 0+durW b (-1) 0 true 0:=rfl
 unfold takesN
 omega
end Go.Pi.L.Ben
set_option maxRecDepth 100000
namespace Go.Pi.L.Ben
open Go Go.Pi Go.Pi.L Go.Pi.E Go.Pi.Ben BM

end Go.Pi.L.Ben
