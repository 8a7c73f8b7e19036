/- Benches: lists that are copied, strokes that are linked, hours to spare. -/
import Derived.Test.YtfndfpbdgjoilaaGreatDoorDE
set_option linter.all false
set_option maxRecDepth 100000
namespace Go.Pi.L
open Go Go.Pi
theorem vv_nl_s0 (ne l m):vv (.nl .slice ne) [.slice none l m]=some (.bool (true != ne)):=by rw [vv_of rfl]; rfl
theorem vv_nl_s (ne b o l m):vv (.nl .slice ne) [.slice (some ⟨b,o,none⟩) l m]=some (.bool (false != ne)):=by rw [vv_of rfl]; rfl
theorem Sl.elems {β:Type}{H:Heap}{k:Nat}{enc:β→List Value}{a:Option Addr}{l:Nat}{xs:List β}(h:Sl H k enc a l xs)(hk:∀x,(enc x).length=k)(k0:0 < k)(m:Nat)(T S D lo n rnd):elemsL ⟨T,S,D,H,lo,n,rnd⟩ k (.slice a l m)=some (cells enc xs):=by
 obtain rfl:=h.len
 have e0:elemsL ⟨T,S,D,H,lo,n,rnd⟩ k (.slice a xs.length m)=Go.Pi.elems H k (.slice a xs.length m):=by
  rcases h.loc with rfl | ⟨b,off,rfl⟩
  ·rfl
  ·unfold elemsL; split
   ·rename_i he; cases he
   ·rfl
 rw [e0]
 by_cases h0:xs.length=0
 ·have:xs=[]:=List.eq_nil_of_length_eq_zero h0
  subst this
  rcases h.loc with rfl | ⟨b,off,rfl⟩ <;> rfl
 ·obtain ⟨b,off,c,ha,hc,_⟩:=h.rd 0 xs[0] (List.getElem?_eq_getElem (by omega))
  subst ha
  have key:∀n,n≤xs.length→(n≠0→off+n*k≤c.length)∧(c.drop off).take (n*k)=cells enc (xs.take n):=by
   intro n
   induction n with
   | zero=>intro _; simp [cells]
   | succ n ih =>
    intro hn
    obtain ⟨i1,i2⟩:=ih (by omega)
    obtain ⟨b',off',c',h1,h2,h3⟩:=h.rd n xs[n] (List.getElem?_eq_getElem (by omega))
    cases h1
    rw [hc] at h2; cases h2
    have h4:=congrArg List.length h3
    rw [hk,List.length_take,List.length_drop] at h4
    refine ⟨fun _=>?_,?_⟩
    ·rw [Nat.add_mul]; omega
    ·rw [List.take_succ_eq_append_getElem (by omega),cells_app,←i2,←h3,Nat.add_mul,Nat.one_mul,List.take_add,List.drop_drop]
  obtain ⟨k1,k2⟩:=key xs.length (Nat.le_refl _)
  rw [List.take_length] at k2
  simp only [Go.Pi.elems,if_neg h0,hc]
  rw [if_pos (k1 h0),k2]
end Go.Pi.L
namespace Go.Pi.L.Ben
open Go Go.Pi Go.Pi.L Go.Pi.E Go.Pi.Ben BM
end Go.Pi.L.Ben
set_option maxRecDepth 100000
namespace Go.Pi.L.Ben
open Go Go.Pi Go.Pi.L Go.Pi.E Go.Pi.Ben BM

end Go.Pi.L.Ben
set_option maxRecDepth 100000
namespace Go.Pi.L
open Go Go.Pi
section
variable {α:Type} {call:CallT} {F:Ex→St→Option α} {k:List It}
end
end Go.Pi.L
namespace Go.Pi.L.Ben
open Go Go.Pi Go.Pi.L Go.Pi.E Go.Pi.Ben BM

abbrev nothing:Value:=.tuple #[]
end Go.Pi.L.Ben
set_option maxRecDepth 100000
namespace Go.Pi.L.Ben
open Go Go.Pi Go.Pi.L Go.Pi.E Go.Pi.Ben BM

end Go.Pi.L.Ben
set_option maxRecDepth 100000
namespace Go.Pi.L.Ben
open Go Go.Pi Go.Pi.L Go.Pi.E Go.Pi.Ben BM

end Go.Pi.L.Ben
set_option maxRecDepth 100000
namespace Go.Pi.L.Ben
open Go Go.Pi Go.Pi.L Go.Pi.E Go.Pi.Ben BM

end Go.Pi.L.Ben
set_option maxRecDepth 100000
namespace Go.Pi.L.Ben
open Go Go.Pi Go.Pi.L Go.Pi.E Go.Pi.Ben BM

theorem c100 (a1 a2:Option Addr)(l1 m1 l2 m2:Nat)(x y:Int)(h1:isLoc (.slice a1 l1 m1)=false)(h2:isLoc (.slice a2 l2 m2)=false)(H:Heap) :
  R (.func 100) [.agg #[.slice a1 l1 m1,.int .i64 x],.agg #[.slice a2 l2 m2,.int .i64 y]] H=some ⟨.ok (.bool (decide (x < y))),H,H.length⟩:=by
 refine run_k (pr 100) P100 (by simp [p100]) rfl ?_
 simp (maxDischargeDepth:=8) only [↓SD,SU,SV,SW,simprocAttr,Int.cast_ofNat_Int,small,resV, B100,R100,N100,b100, h1,h2,R100,N100]
theorem c29 (x y:Int)(H:Heap):R (.func 29) [.int .i64 x,.int .i64 y] H=some ⟨.ok (.agg #[.int .i64 x,.int .i64 y]),H,H.length⟩:=by
 refine run_k (pr 29) P29 (by simp [p29]) rfl ?_
 simp (maxDischargeDepth:=8) only [↓SD,SU,SV,SW,simprocAttr,Int.cast_ofNat_Int,small,resV, B29,R29,N29,b29, R29,N29]
def btw:List Stroke→List Int→Bool
 | s :: l,h :: p=>inL h s.lo s.hi&&btw l p
 | _,_=>true
def isBtw (b:Bench)(hs:List Int):Bool:=decide (hs.length=b.strokes.length)&&btw b.strokes hs
theorem btw_drop {ss:List Stroke}{p:List Int}{j:Nat}{s:Stroke}{h:Int}(hs:ss[j]?=some s)(hp:p[j]?=some h):btw (ss.drop j) (p.drop j)=(inL h s.lo s.hi&&btw (ss.drop (j+1)) (p.drop (j+1))):=by rw [drop_cons hs,drop_cons hp,btw]
theorem c24 {H:Heap}{r:BeR}{b:Bench}{a:Option Addr}{l kk:Nat}{p:List Int}(hb:BeOk H r b)(hx:Ints H a l p)(hl:l < 1000000) :
  ∀H',Grow H H'→R (.func 24) [.agg #[.int .i64 r.app,.slice r.ba r.bl r.bk,.slice r.sa r.sl r.sk],.slice a l kk] H'=some ⟨.ok (.bool (isBtw b p)),H',H'.length⟩:=by
 intro H' hg
 unfold isBtw
 rw [hb.len,hx.len]
 refine run_k (pr 24) P24 (by simp [p24]) rfl ?_
 have hst:∀{j:Nat} {k:Sk},r.xs[j]?=some k→b.strokes[j]?=some k.s:=fun h=>hb.at h
 have l3:=hx.isLoc kk
 obtain ⟨app,ba,bl,bk,sa,sl,sk,xs⟩:=r
 have hB:Ints H ba bl b.boards:=hb.br
 have hS:Sl H 5 eK sa sl xs:=hb.st
 have l1:=hB.isLoc bk
 have l2:=hS.isLoc sk
 simp only at hst ⊢
 by_cases hlen:l=sl
 case neg=>simp (maxDischargeDepth:=8) only [↓SD,SU,SV,SW,simprocAttr,Int.cast_ofNat_Int,small,resV, B24,R24,N24,b24, l1,l2,l3,eq_nat,hlen,R24,N24,Bool.false_and]
 subst hlen
 simp (maxDischargeDepth:=8) only [↓SD,SU,SV,SW,simprocAttr,Int.cast_ofNat_Int,small,resV, B24,R24,N24,b24, l1,l2,l3,eq_nat,Bool.true_and]
 refine loop_ind (G:=(·=_)) (fun j σ=>∃T S,σ=⟨T,S,[],H',(H').length,38,false⟩∧get T 1=.slice a l kk∧get T 2=.pointer (some ⟨2,0,some 1⟩)∧get T 5=.int .i64 (j:Nat)∧sget S 2=(1,.cells [.int .i64 app,.slice ba bl bk,.slice sa l sk])∧(btw (b.strokes.drop j) (p.drop j)=btw b.strokes p)) (l) ?_ ?_ 0 _ (Nat.zero_le _) ⟨_,_,rfl,rfl,rfl,rfl,rfl,rfl⟩
 ·rintro c' j s hj ⟨T,S,rfl,t1,t2,t5,s0,hp⟩ ih
  obtain ⟨b1,o1,y,hya,hy,e1⟩:=hx.i1 hj
  obtain ⟨b2,o2,x,hxa,hx',e2⟩:=hS.k5 hj
  have e1:=e1 H' hg
  have e3:=e2.v3 H' hg
  have e2:=e2.v2 H' hg
  have hw:=wrap_succ j (by omega)
  rw [btw_drop (hst hx') hy] at hp
  cases q1:inL y x.s.lo x.s.hi with
  | false =>
   rw [q1,Bool.false_and] at hp
   simp (maxDischargeDepth:=8) only [↓SD,SU,SV,SW,simprocAttr,Int.cast_ofNat_Int,small,resV, q24x0,t1,t2,t5,s0, lt_nat,hj,l1,l2,l3,hya,hxa,e1,e2,e3,c72,q1,R24,N24,←hp]
  | true =>
   rw [q1,Bool.true_and] at hp
   simp (maxDischargeDepth:=8) only [↓SD,SU,SV,SW,simprocAttr,Int.cast_ofNat_Int,small,resV, q24x0,t1,t2,t5,s0, lt_nat,hj,l1,l2,l3,hya,hxa,e1,e2,e3,c72,q1,hw]
   exact ih _ ⟨_,_,rfl,(by simp [get_set,t1] <;> omega),(by simp [get_set,t2] <;> omega),(by simp [get_set,t5] <;> omega),by simp [sget_sset,s0],hp⟩
 ·rintro c' s ⟨T,S,rfl,t1,t2,t5,s0,hp⟩
  rw [drop_all hx.len,show ∀ss,btw ss []=true from fun ss=>by cases ss <;> rfl] at hp
  simp (maxDischargeDepth:=8) only [↓SD,SU,SV,SW,simprocAttr,Int.cast_ofNat_Int,small,resV, q24x0,t1,t2,t5,s0, lt_nat,Nat.lt_irrefl,l1,l2,l3,R24,N24,←hp]
end Go.Pi.L.Ben
