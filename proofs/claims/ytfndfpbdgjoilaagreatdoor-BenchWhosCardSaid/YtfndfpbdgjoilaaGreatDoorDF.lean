/- Benches: lists that are copied, strokes that are linked, hours to spare. -/
import Derived.Test.YtfndfpbdgjoilaaGreatDoorDE
set_option linter.all false
set_option maxRecDepth 100000
namespace Go.Pi.L
open Go Go.Pi
theorem vv_nl_s0 (ne l m):vv (.nl .slice ne) [.slice none l m]=some (.bool (true != ne)):=by rw [vv_of rfl]; rfl
theorem vv_nl_s (ne b o l m):vv (.nl .slice ne) [.slice (some ⟨b,o,none⟩) l m]=some (.bool (false != ne)):=by rw [vv_of rfl]; rfl
theorem Sl.elems {β:Type}{H:Heap}{k:Nat}{enc:β→List Value}{a:Option Addr}{l:Nat}{xs:List β}(h:Sl H k enc a l xs)(hk:∀x,(enc x).length=k)(k0:0 < k)(m:Nat)(T S D lo n rnd):elemsL ⟨T,S,D,H,lo,n,rnd⟩ k (.slice a l m)=some (cells enc xs):=by
 obtain rfl:=h.len
 have e0:elemsL ⟨T,S,D,H,lo,n,rnd⟩ k (.slice a xs.length m)=Go.Pi.elems H k (.slice a xs.length m):=by
  rcases h.loc with rfl | ⟨b,off,rfl⟩
  ·rfl
  ·unfold elemsL; split
   ·rename_i he; cases he
   ·rfl
 rw [e0]
 by_cases h0:xs.length=0
 ·have:xs=[]:=List.eq_nil_of_length_eq_zero h0
  subst this
  rcases h.loc with rfl | ⟨b,off,rfl⟩ <;> rfl
 ·obtain ⟨b,off,c,ha,hc,_⟩:=h.rd 0 xs[0] (List.getElem?_eq_getElem (by omega))
  subst ha
  have key:∀n,n≤xs.length→(n≠0→off+n*k≤c.length)∧(c.drop off).take (n*k)=cells enc (xs.take n):=by
   intro n
   induction n with
   | zero=>intro _; simp [cells]
   | succ n ih =>
    intro hn
    obtain ⟨i1,i2⟩:=ih (by omega)
    obtain ⟨b',off',c',h1,h2,h3⟩:=h.rd n xs[n] (List.getElem?_eq_getElem (by omega))
    cases h1
    rw [hc] at h2; cases h2
    have h4:=congrArg List.length h3
    rw [hk,List.length_take,List.length_drop] at h4
    refine ⟨fun _=>?_,?_⟩
    ·rw [Nat.add_mul]; omega
    ·rw [List.take_succ_eq_append_getElem (by omega),cells_app,←i2,←h3,Nat.add_mul,Nat.one_mul,List.take_add,List.drop_drop]
  obtain ⟨k1,k2⟩:=key xs.length (Nat.le_refl _)
  rw [List.take_length] at k2
  simp only [Go.Pi.elems,if_neg h0,hc]
  rw [if_pos (k1 h0),k2]
end Go.Pi.L
namespace Go.Pi.L.Ben
open Go Go.Pi Go.Pi.L Go.Pi.E Go.Pi.Ben BM
theorem c98 {H:Heap}{a:Option Addr}{l k:Nat}{xs:List Int}(hx:Ints H a l xs)(h0:0 < l)(hl:l < 1000) :
  ∀H',Grow H H'→Fam H'→∃b H1 lo,R (.func 98) [.slice a l k] H'=some ⟨.ok (.slice (some ⟨b,0,none⟩) l 1),H1,lo⟩∧Up H' H1∧H'.length≤lo∧Bld H'.length H1 1 (some ⟨b,0,none⟩) l 1 (cells encI xs)∧Fam H1:=by
 intro H' hg hF
 have g0:Bld H'.length (H'++[({ obj:=.cells [],fam:=some H'.length }:Blk)]) 1 (some ⟨H'.length,0,none⟩) 0 1 []:=⟨rfl,.inr ⟨_,_,rfl,rfl,Nat.le_refl _,Nat.le_refl _,by simp⟩⟩
 have hg1:=hg.trans ((Up.refl H').app (l:=[({ obj:=.cells [],fam:=some H'.length }:Blk)])).grow
 obtain ⟨H1,q1,g1,q3,f1⟩:=g0.apps (Fam.app1 hF (Nat.le_refl _)) (by decide) (by decide) (by simp) (cells encI xs) h0 (by rw [cells_len (k:=1) (fun _=>rfl),hx.len]) (by omega)
 have q0:=fun T S D lo n rnd=>(hx.grow hg1).elems (fun _=>rfl) (by decide) k T S D lo n rnd
 have l1:=hx.isLoc k
 have hu:Up H' H1:=q3.up g0 (Up.refl _).app (Nat.le_refl _)
 rw [Nat.zero_add] at g1
 rw [List.nil_append] at g1
 refine ⟨_,H1,H'.length,?_,hu,Nat.le_refl _,g1,f1⟩
 refine run_k (pr 98) P98 (by simp [p98]) rfl ?_
 obtain ⟨b,off,x,rfl,hx',f0⟩:=hx.at (fun _=>rfl) (by decide) h0
 simp (maxDischargeDepth:=8) only [↓SD,SU,SV,SW,simprocAttr,Int.cast_ofNat_Int,small,resV, B98,R98,N98,b98, l1,vv_nl_s,q0,q1]
 rw [gc_ite (Nat.le_refl _),if_neg (by simp [flat])]

end Go.Pi.L.Ben
set_option maxRecDepth 100000
namespace Go.Pi.L.Ben
open Go Go.Pi Go.Pi.L Go.Pi.E Go.Pi.Ben BM

end Go.Pi.L.Ben
set_option maxRecDepth 100000
namespace Go.Pi.L
open Go Go.Pi
section
variable {α:Type} {call:CallT} {F:Ex→St→Option α} {k:List It}
end
end Go.Pi.L
namespace Go.Pi.L.Ben
open Go Go.Pi Go.Pi.L Go.Pi.E Go.Pi.Ben BM

abbrev nothing:Value:=.tuple #[]
end Go.Pi.L.Ben
set_option maxRecDepth 100000
namespace Go.Pi.L.Ben
open Go Go.Pi Go.Pi.L Go.Pi.E Go.Pi.Ben BM

end Go.Pi.L.Ben
set_option maxRecDepth 100000
namespace Go.Pi.L.Ben
open Go Go.Pi Go.Pi.L Go.Pi.E Go.Pi.Ben BM

end Go.Pi.L.Ben
set_option maxRecDepth 100000
namespace Go.Pi.L.Ben
open Go Go.Pi Go.Pi.L Go.Pi.E Go.Pi.Ben BM

end Go.Pi.L.Ben
set_option maxRecDepth 100000
namespace Go.Pi.L.Ben
open Go Go.Pi Go.Pi.L Go.Pi.E Go.Pi.Ben BM

theorem c100 (a1 a2:Option Addr)(l1 m1 l2 m2:Nat)(x y:Int)(h1:isLoc (.slice a1 l1 m1)=false)(h2:isLoc (.slice a2 l2 m2)=false)(H:Heap) :
  R (.func 100) [.agg #[.slice a1 l1 m1,.int .i64 x],.agg #[.slice a2 l2 m2,.int .i64 y]] H=some ⟨.ok (.bool (decide (x < y))),H,H.length⟩:=by
 refine run_k (pr 100) P100 (by simp [p100]) rfl ?_
 simp (maxDischargeDepth:=8) only [↓SD,SU,SV,SW,simprocAttr,Int.cast_ofNat_Int,small,resV, B100,R100,N100,b100, h1,h2,R100,N100]
end Go.Pi.L.Ben
