/- Benches: lists that are copied, strokes that are linked, hours to spare. -/
import Derived.Test.YtfndfpbdgjoilaaGreatDoorDE
set_option linter.all false
set_option maxRecDepth 100000
namespace Go.Pi.L
open Go Go.Pi
theorem vv_nl_s0 (ne l m):vv (.nl .slice ne) [.slice none l m]=some (.bool (true != ne)):=by rw [vv_of rfl]; rfl
theorem vv_nl_s (ne b o l m):vv (.nl .slice ne) [.slice (some ⟨b,o,none⟩) l m]=some (.bool (false != ne)):=by rw [vv_of rfl]; rfl
theorem Sl.elems {β:Type}{H:Heap}{k:Nat}{enc:β→List Value}{a:Option Addr}{l:Nat}{xs:List β}(h:Sl H k enc a l xs)(hk:∀x,(enc x).length=k)(k0:0 < k)(m:Nat)(T S D lo n rnd):elemsL ⟨T,S,D,H,lo,n,rnd⟩ k (.slice a l m)=some (cells enc xs):=by
 obtain rfl:=h.len
 have e0:elemsL ⟨T,S,D,H,lo,n,rnd⟩ k (.slice a xs.length m)=Go.Pi.elems H k (.slice a xs.length m):=by
  rcases h.loc with rfl | ⟨b,off,rfl⟩
  ·rfl
  ·unfold elemsL; split
   ·rename_i he; cases he
   ·rfl
 rw [e0]
 by_cases h0:xs.length=0
 ·have:xs=[]:=List.eq_nil_of_length_eq_zero h0
  subst this
  rcases h.loc with rfl | ⟨b,off,rfl⟩ <;> rfl
 ·obtain ⟨b,off,c,ha,hc,_⟩:=h.rd 0 xs[0] (List.getElem?_eq_getElem (by omega))
  subst ha
  have key:∀n,n≤xs.length→(n≠0→off+n*k≤c.length)∧(c.drop off).take (n*k)=cells enc (xs.take n):=by
   intro n
   induction n with
   | zero=>intro _; simp [cells]
   | succ n ih =>
    intro hn
    obtain ⟨i1,i2⟩:=ih (by omega)
    obtain ⟨b',off',c',h1,h2,h3⟩:=h.rd n xs[n] (List.getElem?_eq_getElem (by omega))
    cases h1
    rw [hc] at h2; cases h2
    have h4:=congrArg List.length h3
    rw [hk,List.length_take,List.length_drop] at h4
    refine ⟨fun _=>?_,?_⟩
    ·rw [Nat.add_mul]; omega
    ·rw [List.take_succ_eq_append_getElem (by omega),cells_app,←i2,←h3,Nat.add_mul,Nat.one_mul,List.take_add,List.drop_drop]
  obtain ⟨k1,k2⟩:=key xs.length (Nat.le_refl _)
  rw [List.take_length] at k2
  simp only [Go.Pi.elems,if_neg h0,hc]
  rw [if_pos (k1 h0),k2]
end Go.Pi.L
namespace Go.Pi.L.Ben
open Go Go.Pi Go.Pi.L Go.Pi.E Go.Pi.Ben BM
end Go.Pi.L.Ben
set_option maxRecDepth 100000
namespace Go.Pi.L.Ben
open Go Go.Pi Go.Pi.L Go.Pi.E Go.Pi.Ben BM

def tkBy (b:Bench)(p:List Int)(st:Nat)(k:Nat):Int:=takesN b (vE b p (st:Int) (k:Int) true)
theorem spareP_succ (T:Nat→Int)(all:Int)(m:Nat):spareP T all (m+1)=if T m=all then m else spareP T all m:=by unfold spareP; rw [List.range_succ,List.foldl_append]; rfl
theorem c42 {H:Heap}{r:BeR}{b:Bench}{a:Option Addr}{l kk:Nat}{p:List Int}(hb:BeOk H r b)(hd:SmB r)(hx:Ints H a l p)(hl:l < 1000000)(hB:isBench b=true)(hP:isPlan b p=true){st:Nat}(hst:st < b.strokes.length) :
  ∀H',Grow H H'→R (.func 42) [.agg #[.int .i64 r.app,.slice r.ba r.bl r.bk,.slice r.sa r.sl r.sk],.slice a l kk,.int .i64 st] H'=some ⟨.ok (.tuple #[.int .i64 (spareP (tkBy b p st) (takesN b (en b p true)) 10:Nat),.int .i64 0]),H',H'.length⟩:=by
 intro H' hg
 refine run_k (pr 42) P42 (by simp [p42]) rfl ?_
 have k1:=c74 hb hd H' hg
 have k2:=c75 (kk:=kk) hb hx hl H' hg
 have k3:=c87 hb hd (st:Int) H' hg
 have k4:=c76 (kk:=kk) hb hx H' hg
 have k5:=fun H3 hg3=>c76 (kk:=kk) hb hx H3 hg3
 rw [hB] at k1
 rw [hP] at k2
 have hss:isStroke b (st:Int)=true:=by unfold isStroke; rw [inL_iff]; omega
 rw [hss] at k3
 have l3:=hx.isLoc kk
 have hf:=fine_of hB
 have hlen:p.length=b.strokes.length:=by simp only [isPlan,Bool.and_eq_true,decide_eq_true_eq] at hP; exact hP.1
 generalize hH0:H'++[({ obj:=.map mSh [] }:Blk)]=H0 at k4
 have u0:Up H' H0:=by rw [←hH0]; exact (Up.refl _).app
 have hw:=wk0_ok (kk:=kk) (mb:=H'.length) (hb.grow (hg.trans u0.grow)) (hx.grow (hg.trans u0.grow)) hB hP
 have hm:Mp (vE b p (-1) 0) H0 H'.length:=by rw [←hH0]; exact mp_new _ _
 have hmb:=hm.lt
 obtain ⟨o,ho1,H1,lo1,rfl,ch1,hm1,hl1⟩:=c88 hw H0 (Grow.refl _) hm
 have hl1:H'.length≤lo1:=hl1
 have u1:Up H' H1:=ch1.up' u0 (fun i hi h=>by have:i=H'.length:=h; omega)
 have h1:=u1.len
 have h01:=ch1.len
 have one:∀(j:Nat) H3,j < 10→Up H' H3→∃H4 lo4,R (.func 88) [.agg #[.int .i64 r.app,.slice r.ba r.bl r.bk,.slice r.sa r.sl r.sk,.slice a l kk,.map (some H3.length),.int .i64 (st:Int),.int .i64 (j:Nat)]] (H3++[{ obj:=.map mSh [] }])=some ⟨.ok (.int .i64 (tkBy b p st j)),H4,lo4⟩∧Up H' H4∧H3.length≤lo4:=by
  intro j H3 hj hu3
  have u3:Up H3 (H3++[({ obj:=.map mSh [] }:Blk)]):=(Up.refl _).app
  have hg3:=(hg.trans hu3.grow).trans u3.grow
  have hw3:WkOk (H3++[({ obj:=.map mSh [] }:Blk)]) (⟨r,a,l,kk,H3.length,(st:Int),(j:Nat)⟩:WkR) b p:=⟨hb.grow hg3,hx.grow hg3,hf,hlen,by simp only; omega,by simp only; omega⟩
  obtain ⟨o,ho,H4,lo4,rfl,ch4,hm4,hl4⟩:=c88 hw3 _ (Grow.refl _) (mp_new (vE b p (st:Int) (j:Nat)) H3)
  exact ⟨H4,lo4,ho,ch4.up' (hu3.trans u3) (fun i hi h=>by have:i=H3.length:=h; have:=hu3.len; omega),hl4⟩
 unfold wk0 at ho1
 generalize hT:spareP (tkBy b p st) (takesN b (en b p true)) 10=SP
 obtain ⟨app,ba,bl,bk,sa,sl,sk,xs⟩:=r
 have hB:Ints H ba bl b.boards:=hb.br
 have hS:Sl H 5 eK sa sl xs:=hb.st
 have l1:=hB.isLoc bk
 have l2:=hS.isLoc sk
 simp only at k1 k2 k3 k4 k5 ho1 one ⊢
 simp (maxDischargeDepth:=8) only [↓SD,SU,SV,SW,simprocAttr,Int.cast_ofNat_Int,small,resV, B42,R42,N42,b42, l1,l2,l3,loc_m,k1,k2,k3,k4,ho1]
 refine loop_ind (G:=(·=_)) (fun j σ=>∃T S H3 lim,σ=⟨T,S,[],H3,lim,48,false⟩∧get T 1=.slice a l kk∧get T 2=.int .i64 (st:Nat)∧get T 3=.pointer (some ⟨3,0,some 1⟩)∧get T 8=.int .i64 (takesN b (en b p true))∧get T 9=.int .i64 (spareP (tkBy b p st) (takesN b (en b p true)) j:Nat)∧get T 31=.int .i64 (j:Nat)∧sget S 3=(1,.cells [.int .i64 app,.slice ba bl bk,.slice sa sl sk])∧(Up H' H3∧H'.length≤lim)) (10) ?_ ?_ 0 _ (Nat.zero_le _) ⟨_,_,_,_,rfl,rfl,rfl,rfl,rfl,rfl,rfl,rfl,⟨u1,by omega⟩⟩
 ·rintro c' j s hj ⟨T,S,H3,lim,rfl,t1,t2,t3,t8,t9,t31,s0,hp⟩ ih
  obtain ⟨hu,hlim⟩:=hp
  have hw1:=wrap_succ j (by omega)
  have k6:=k5 H3 (hg.trans hu.grow)
  have hj10:(j:Int) < 10:=by omega
  have hul:=hu.len
  obtain ⟨H4,lo4,p1,p2,p3⟩:=one j H3 hj hu
  have h4:=p2.len
  have hsp:=spareP_succ (tkBy b p st) (takesN b (en b p true)) j
  by_cases q:tkBy b p st j=takesN b (en b p true)
  ·rw [if_pos q] at hsp
   simp (maxDischargeDepth:=8) only [↓SD,SU,SV,SW,simprocAttr,Int.cast_ofNat_Int,small,resV, q42x0,t1,t2,t3,t8,t9,t31,s0, lt_nat,hj10,l1,l2,l3,loc_m,k6,p1,q,hw1]
   exact ih _ ⟨_,_,H4,_,rfl,by simp [get_set,t1],by simp [get_set,t2],by simp [get_set,t3],by simp [get_set,t8],by simp [get_set,hsp],by simp [get_set],by simp [sget_sset,s0],p2,by omega⟩
  ·rw [if_neg q] at hsp
   rw [←hsp] at t9
   simp (maxDischargeDepth:=8) only [↓SD,SU,SV,SW,simprocAttr,Int.cast_ofNat_Int,small,resV, q42x0,t1,t2,t3,t8,t9,t31,s0, lt_nat,hj10,l1,l2,l3,loc_m,k6,p1,q,hw1]
   exact ih _ ⟨_,_,(H4),(_),rfl,(by simp [get_set,t1] <;> omega),(by simp [get_set,t2] <;> omega),(by simp [get_set,t3] <;> omega),(by simp [get_set,t8] <;> omega),(by simp [get_set,t9] <;> omega),(by simp [get_set,t31] <;> omega),by simp [sget_sset,s0],⟨p2,by omega⟩⟩
 ·rintro c' s ⟨T,S,H3,lim,rfl,t1,t2,t3,t8,t9,t31,s0,hp⟩
  obtain ⟨hu,hlim⟩:=hp
  have e0:¬((10:Nat):Int) < 10:=by omega
  rw [hT] at t9
  have hul:=hu.len
  simp (maxDischargeDepth:=8) only [↓SD,SU,SV,SW,simprocAttr,Int.cast_ofNat_Int,small,resV, q42x0,t1,t2,t3,t8,t9,t31,s0, lt_nat,e0,Nat.lt_irrefl,l1,l2,l3,loc_m,R42,N42]
  first | (rw [gc_ite (by omega)]; simp [flat]; done) | (simp [gcR,flat]; omega)
end Go.Pi.L.Ben
set_option maxRecDepth 100000
namespace Go.Pi.L
open Go Go.Pi
section
variable {α:Type} {call:CallT} {F:Ex→St→Option α} {k:List It}
end
end Go.Pi.L
namespace Go.Pi.L.Ben
open Go Go.Pi Go.Pi.L Go.Pi.E Go.Pi.Ben BM

abbrev nothing:Value:=.tuple #[]
theorem range_drop {N k:Nat}(h:k < N):(List.range N).drop k=k :: (List.range N).drop (k+1):=drop_cons (by simp [h])
end Go.Pi.L.Ben
set_option maxRecDepth 100000
namespace Go.Pi.L.Ben
open Go Go.Pi Go.Pi.L Go.Pi.E Go.Pi.Ben BM

end Go.Pi.L.Ben
set_option maxRecDepth 100000
namespace Go.Pi.L.Ben
open Go Go.Pi Go.Pi.L Go.Pi.E Go.Pi.Ben BM

end Go.Pi.L.Ben
set_option maxRecDepth 100000
namespace Go.Pi.L.Ben
open Go Go.Pi Go.Pi.L Go.Pi.E Go.Pi.Ben BM

end Go.Pi.L.Ben
set_option maxRecDepth 100000
namespace Go.Pi.L.Ben
open Go Go.Pi Go.Pi.L Go.Pi.E Go.Pi.Ben BM

theorem c100 (a1 a2:Option Addr)(l1 m1 l2 m2:Nat)(x y:Int)(h1:isLoc (.slice a1 l1 m1)=false)(h2:isLoc (.slice a2 l2 m2)=false)(H:Heap) :
  R (.func 100) [.agg #[.slice a1 l1 m1,.int .i64 x],.agg #[.slice a2 l2 m2,.int .i64 y]] H=some ⟨.ok (.bool (decide (x < y))),H,H.length⟩:=by
 refine run_k (pr 100) P100 (by simp [p100]) rfl ?_
 simp (maxDischargeDepth:=8) only [↓SD,SU,SV,SW,simprocAttr,Int.cast_ofNat_Int,small,resV, B100,R100,N100,b100, h1,h2,R100,N100]
theorem c29 (x y:Int)(H:Heap):R (.func 29) [.int .i64 x,.int .i64 y] H=some ⟨.ok (.agg #[.int .i64 x,.int .i64 y]),H,H.length⟩:=by
 refine run_k (pr 29) P29 (by simp [p29]) rfl ?_
 simp (maxDischargeDepth:=8) only [↓SD,SU,SV,SW,simprocAttr,Int.cast_ofNat_Int,small,resV, B29,R29,N29,b29, R29,N29]
theorem c49 {H:Heap}{r:BeR}{b:Bench}{a:Option Addr}{l kk:Nat}{p:List Int}(hb:BeOk H r b)(hd:SmB r)(hx:Ints H a l p)(hl:l < 1000000)(hB:isBench b=true)(hP:isPlan b p=true) :
  ∀H',Grow H H'→R (.func 49) [.agg #[.int .i64 r.app,.slice r.ba r.bl r.bk,.slice r.sa r.sl r.sk],.slice a l kk] H'=some ⟨.ok (.int .i64 (takesN b (en b p true))),H',H'.length⟩:=by
 intro H' hg
 refine run_k (pr 49) P49 (by simp [p49]) rfl ?_
 have l3:=hx.isLoc kk
 have hf:=fine_of hB
 have n6:=hf.n6
 have hlen:p.length=b.strokes.length:=by simp only [isPlan,Bool.and_eq_true,decide_eq_true_eq] at hP; exact hP.1
 have hlb:b.strokes.length=l:=by rw [←hlen]; exact hx.len
 have hel:(endsL b p b.strokes.length).length=b.strokes.length:=by simp [endsL]
 obtain ⟨o,ho1,a1,m1,H1,lo1,rfl,u1,hlo1,s1⟩:=c26 (kk:=kk) hb hd hx hl hB hP H' hg
 rw [hel,hlb] at ho1 s1
 have i1:=s1.isLoc m1
 have h1:=u1.len
 unfold takesN
 rw [hlb]
 obtain ⟨app,ba,bl,bk,sa,sl,sk,xs⟩:=r
 have hB:Ints H ba bl b.boards:=hb.br
 have hS:Sl H 5 eK sa sl xs:=hb.st
 have l1:=hB.isLoc bk
 have l2:=hS.isLoc sk
 simp only at ho1 ⊢
 simp (maxDischargeDepth:=8) only [↓SD,SU,SV,SW,simprocAttr,Int.cast_ofNat_Int,small,resV, B49,R49,N49,b49, l1,l2,l3,i1,ho1,eq_nat]
 refine loop_ind (G:=(·=_)) (fun j σ=>∃T S m lim,σ=⟨T,S,[],H1,lim,38,false⟩∧get T 5=.slice a1 l m1∧get T 7=.int .i64 m∧get T 8=.int .i64 (j:Nat)∧(((List.range l).map (en b p true)).foldl max 0=(((List.range l).drop j).map (en b p true)).foldl max m∧H'.length≤lim)) (l) ?_ ?_ 0 _ (Nat.zero_le _) ⟨_,_,_,_,rfl,rfl,rfl,rfl,⟨rfl,by omega⟩⟩
 ·rintro c' j s hj ⟨T,S,m,lim,rfl,t5,t7,t8,hp⟩ ih
  obtain ⟨hp,hlim⟩:=hp
  obtain ⟨b2,o2,y,hya,hy,_,_,e3⟩:=s1.p2 hj
  have e3:=e3 H1 (Grow.refl _)
  have hye:y=(en b p false j,en b p true j):=by
   rw [show (endsL b p l)[j]?=some (en b p false j,en b p true j) by simp [endsL,hj]] at hy
   cases hy; rfl
  subst hye
  have hw:=wrap_succ j (by omega)
  rw [range_drop hj,List.map_cons,List.foldl_cons] at hp
  simp (maxDischargeDepth:=8) only [↓SD,SU,SV,SW,simprocAttr,Int.cast_ofNat_Int,small,resV, q49x0,t5,t7,t8, lt_nat,hj,l1,l2,l3,i1,hya,e3,hw]
  exact ih _ ⟨_,_,(_),(_),rfl,(by simp [get_set,t5] <;> omega),(by simp [get_set,t7] <;> omega),(by simp [get_set,t8] <;> omega),⟨hp,by omega⟩⟩
 ·rintro c' s ⟨T,S,m,lim,rfl,t5,t7,t8,hp⟩
  obtain ⟨hp,hlim⟩:=hp
  rw [List.drop_eq_nil_of_le (by simp),List.map_nil,List.foldl_nil] at hp
  have hp:lastH ((List.range l).map (en b p true))=m:=hp
  simp (maxDischargeDepth:=8) only [↓SD,SU,SV,SW,simprocAttr,Int.cast_ofNat_Int,small,resV, q49x0,t5,t7,t8, lt_nat,Nat.lt_irrefl,l1,l2,l3,i1,R49,N49,hp]
  first | (rw [gc_ite (by omega)]; simp [flat]; done) | (simp [gcR,flat]; omega)
end Go.Pi.L.Ben
