/- Benches: lists that are copied, strokes that are linked, hours to spare. -/
import Derived.Test.YtfndfpbdgjoilaaGreatDoorDE
set_option linter.all false
set_option maxRecDepth 100000
namespace Go.Pi.L
open Go Go.Pi
theorem vv_nl_s0 (ne l m):vv (.nl .slice ne) [.slice none l m]=some (.bool (true != ne)):=by rw [vv_of rfl]; rfl
theorem vv_nl_s (ne b o l m):vv (.nl .slice ne) [.slice (some ⟨b,o,none⟩) l m]=some (.bool (false != ne)):=by rw [vv_of rfl]; rfl
theorem Sl.elems {β:Type}{H:Heap}{k:Nat}{enc:β→List Value}{a:Option Addr}{l:Nat}{xs:List β}(h:Sl H k enc a l xs)(hk:∀x,(enc x).length=k)(k0:0 < k)(m:Nat)(T S D lo n rnd):elemsL ⟨T,S,D,H,lo,n,rnd⟩ k (.slice a l m)=some (cells enc xs):=by
 obtain rfl:=h.len
 have e0:elemsL ⟨T,S,D,H,lo,n,rnd⟩ k (.slice a xs.length m)=Go.Pi.elems H k (.slice a xs.length m):=by
  rcases h.loc with rfl | ⟨b,off,rfl⟩
  ·rfl
  ·unfold elemsL; split
   ·rename_i he; cases he
   ·rfl
 rw [e0]
 by_cases h0:xs.length=0
 ·have:xs=[]:=List.eq_nil_of_length_eq_zero h0
  subst this
  rcases h.loc with rfl | ⟨b,off,rfl⟩ <;> rfl
 ·obtain ⟨b,off,c,ha,hc,_⟩:=h.rd 0 xs[0] (List.getElem?_eq_getElem (by omega))
  subst ha
  have key:∀n,n≤xs.length→(n≠0→off+n*k≤c.length)∧(c.drop off).take (n*k)=cells enc (xs.take n):=by
   intro n
   induction n with
   | zero=>intro _; simp [cells]
   | succ n ih =>
    intro hn
    obtain ⟨i1,i2⟩:=ih (by omega)
    obtain ⟨b',off',c',h1,h2,h3⟩:=h.rd n xs[n] (List.getElem?_eq_getElem (by omega))
    cases h1
    rw [hc] at h2; cases h2
    have h4:=congrArg List.length h3
    rw [hk,List.length_take,List.length_drop] at h4
    refine ⟨fun _=>?_,?_⟩
    ·rw [Nat.add_mul]; omega
    ·rw [List.take_succ_eq_append_getElem (by omega),cells_app,←i2,←h3,Nat.add_mul,Nat.one_mul,List.take_add,List.drop_drop]
  obtain ⟨k1,k2⟩:=key xs.length (Nat.le_refl _)
  rw [List.take_length] at k2
  simp only [Go.Pi.elems,if_neg h0,hc]
  rw [if_pos (k1 h0),k2]
end Go.Pi.L
namespace Go.Pi.L.Ben
open Go Go.Pi Go.Pi.L Go.Pi.E Go.Pi.Ben BM
end Go.Pi.L.Ben
set_option maxRecDepth 100000
namespace Go.Pi.L.Ben
open Go Go.Pi Go.Pi.L Go.Pi.E Go.Pi.Ben BM

end Go.Pi.L.Ben
set_option maxRecDepth 100000
namespace Go.Pi.L
open Go Go.Pi
section
variable {α:Type} {call:CallT} {F:Ex→St→Option α} {k:List It}
end
end Go.Pi.L
namespace Go.Pi.L.Ben
open Go Go.Pi Go.Pi.L Go.Pi.E Go.Pi.Ben BM

abbrev nothing:Value:=.tuple #[]
end Go.Pi.L.Ben
set_option maxRecDepth 100000
namespace Go.Pi.L.Ben
open Go Go.Pi Go.Pi.L Go.Pi.E Go.Pi.Ben BM

end Go.Pi.L.Ben
set_option maxRecDepth 100000
namespace Go.Pi.L.Ben
open Go Go.Pi Go.Pi.L Go.Pi.E Go.Pi.Ben BM

end Go.Pi.L.Ben
set_option maxRecDepth 100000
namespace Go.Pi.L.Ben
open Go Go.Pi Go.Pi.L Go.Pi.E Go.Pi.Ben BM

end Go.Pi.L.Ben
set_option maxRecDepth 100000
namespace Go.Pi.L.Ben
open Go Go.Pi Go.Pi.L Go.Pi.E Go.Pi.Ben BM

theorem c101 {H:Heap}{r:BeR}{b:Bench}(hb:BeOk H r b)(x:Int)(H':Heap):R (.func 101) [.agg #[.int .i64 r.app,.slice r.ba r.bl r.bk,.slice r.sa r.sl r.sk],.int .i64 x] H'=some ⟨.ok (.agg #[.int .i64 x,.slice r.ba r.bl r.bk,.slice r.sa r.sl r.sk]),H',H'.length⟩:=by
 refine run_k (pr 101) P101 (by simp [p101]) rfl ?_
 obtain ⟨app,ba,bl,bk,sa,sl,sk,xs⟩:=r
 have hB:Ints H ba bl b.boards:=hb.br
 have hS:Sl H 5 eK sa sl xs:=hb.st
 have l1:=hB.isLoc bk
 have l2:=hS.isLoc sk
 simp only
 simp (maxDischargeDepth:=8) only [↓SD,SU,SV,SW,simprocAttr,Int.cast_ofNat_Int,small,resV, B101,R101,N101,b101, l1,l2,R101,N101]
 by_cases h:flat 4 (.agg #[.int .i64 x,.slice ba bl bk,.slice sa sl sk])=true
 ·rw [gc_ite (Nat.le_refl _),if_pos h]
 ·rw [gc_ite (Nat.le_refl _),if_neg h]
theorem c61 {H:Heap}{r:BeR}{b:Bench}(hb:BeOk H r b)(x:Int)(H':Heap):R (.func 61) [.agg #[.int .i64 r.app,.slice r.ba r.bl r.bk,.slice r.sa r.sl r.sk],.int .i64 x] H'=some ⟨.ok (.agg #[.int .i64 x,.slice r.ba r.bl r.bk,.slice r.sa r.sl r.sk]),H',H'.length⟩:=by
 refine run_k (pr 61) P61 (by simp [p61]) rfl ?_
 obtain ⟨app,ba,bl,bk,sa,sl,sk,xs⟩:=r
 have hB:Ints H ba bl b.boards:=hb.br
 have hS:Sl H 5 eK sa sl xs:=hb.st
 have l1:=hB.isLoc bk
 have l2:=hS.isLoc sk
 simp only
 simp (maxDischargeDepth:=8) only [↓SD,SU,SV,SW,simprocAttr,Int.cast_ofNat_Int,small,resV, B61,R61,N61,b61, l1,l2,R61,N61]
 by_cases h:flat 4 (.agg #[.int .i64 x,.slice ba bl bk,.slice sa sl sk])=true
 ·rw [gc_ite (Nat.le_refl _),if_pos h]
 ·rw [gc_ite (Nat.le_refl _),if_neg h]
theorem c100 (a1 a2:Option Addr)(l1 m1 l2 m2:Nat)(x y:Int)(h1:isLoc (.slice a1 l1 m1)=false)(h2:isLoc (.slice a2 l2 m2)=false)(H:Heap) :
  R (.func 100) [.agg #[.slice a1 l1 m1,.int .i64 x],.agg #[.slice a2 l2 m2,.int .i64 y]] H=some ⟨.ok (.bool (decide (x < y))),H,H.length⟩:=by
 refine run_k (pr 100) P100 (by simp [p100]) rfl ?_
 simp (maxDischargeDepth:=8) only [↓SD,SU,SV,SW,simprocAttr,Int.cast_ofNat_Int,small,resV, B100,R100,N100,b100, h1,h2,R100,N100]
end Go.Pi.L.Ben
