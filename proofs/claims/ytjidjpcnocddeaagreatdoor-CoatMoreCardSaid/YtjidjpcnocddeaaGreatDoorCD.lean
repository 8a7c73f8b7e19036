/- Coats: coat.Holds. -/
import Derived.Test.YtjidjpcnocddeaaGreatDoorCC
set_option linter.all false
set_option maxRecDepth 100000
namespace Go.Pi.L.Coa
open Go Go.Pi Go.Pi.L Go.Pi.Coa CM

theorem c24 {H:Heap}{r:ShR}{s:Sheet}(hs:ShOk H r s)(hd:Small r){pa wa':Option Addr}{pl pk wl' wk':Nat}{plan w:List Int}(hq:Ints H pa pl plan)(hpl:pl < 1000000)(hw:Ints H wa' wl' w)(hwl:wl' < 1000000) :
  ∀H',Grow H H'→R (.func 24) [.agg #[.slice r.da r.dl r.dk,.slice r.wa r.wl r.wk,.slice r.ca r.cl r.ck],.slice pa pl pk,.slice wa' wl' wk'] H' =
   some ⟨.ok (if isSheet s=true∧isPlan s plan=true∧isWeather s w=true then .tuple #[.bool (holds s w s.coats plan),.int .i64 0] else .tuple #[.bool false,.int .i64 2]),H',H'.length⟩:=by
 intro H' hg
 refine run_k (pr 24) P24 (by simp [p24]) rfl ?_
 have k1:=c75 hs hd H' hg
 have k2:=c76 (kk:=pk) hs hd hq hpl H' hg
 have k3:=c77 (kk:=wk') hs hd hw hwl H' hg
 cases e1:isSheet s with
 | false =>
  rw [if_neg (by simp)]
  simp (maxDischargeDepth:=8) only [↓SD,SU,SV,SW,simprocAttr,Int.cast_ofNat_Int,small,resV, B24,R24,N24,b24, hs.d.isLoc,hs.w.isLoc,hs.c.isLoc,hq.isLoc,hw.isLoc,k1,e1]
 | true =>
 cases e2:isPlan s plan with
 | false =>
  rw [if_neg (by simp)]
  simp (maxDischargeDepth:=8) only [↓SD,SU,SV,SW,simprocAttr,Int.cast_ofNat_Int,small,resV, B24,R24,N24,b24, hs.d.isLoc,hs.w.isLoc,hs.c.isLoc,hq.isLoc,hw.isLoc,k1,e1,k2,e2]
 | true =>
 cases e3:isWeather s w with
 | false =>
  rw [if_neg (by simp)]
  simp (maxDischargeDepth:=8) only [↓SD,SU,SV,SW,simprocAttr,Int.cast_ofNat_Int,small,resV, B24,R24,N24,b24, hs.d.isLoc,hs.w.isLoc,hs.c.isLoc,hq.isLoc,hw.isLoc,k1,e1,k2,e2,k3,e3]
 | true =>
 rw [if_pos ⟨rfl,rfl,rfl⟩]
 have hS:=fine_of e1
 have hP:=plan_of hS e2
 obtain ⟨wlen,wb⟩:=weather_bound hS e3
 have hwd:wl'=s.dry.length:=by rw [←hw.len]; exact wlen
 have hpl':pl=s.coats.length:=by rw [←hq.len]; exact hP.len
 have hpl2:pl < 1000:=by have:=hS.c2; omega
 have hwl2:wl' < 1000:=by have:=hS.d2; omega
 have hdl:r.dl=s.dry.length:=hs.d.len.symm
 obtain ⟨o,ho,la,lc,ha,hc,H1,lo,rfl,hu,hlo,i1,i2⟩:=c78 hs hd hS H' hg
 have hg1:=hg.trans hu.grow
 obtain ⟨da,dl,dk,wa,wl,wk,ca,cl,ck⟩:=r
 have hD:Spans H da dl s.dry:=hs.d
 have hW:Ints H wa wl s.work:=hs.w
 have hC:Spans H ca cl s.coats:=hs.c
 have nD:dl < 1000000:=hd.d
 have nW:wl < 1000000:=hd.w
 have nC:cl < 1000000:=hd.c
 have l1:=hD.isLoc dk
 have l2:=hW.isLoc wk
 have l3:=hC.isLoc ck
 simp only at k1 k2 k3 ho i1 i2 hdl
 have l4:=hq.isLoc pk
 have l5:=hw.isLoc wk'
 have l6:=i1.isLoc lc
 have l7:=i2.isLoc hc
 simp (maxDischargeDepth:=8) only [↓SD,SU,SV,SW,simprocAttr,Int.cast_ofNat_Int,small,resV, B24,R24,N24,b24, l1,l2,l3,l4,l5,l6,l7,k1,e1,k2,e2,k3,e3,ho]
 have hu1:=hu.len
 refine loop_ind (G:=(·=_)) (fun j σ=>∃T lim,σ=⟨T,sset (sset [] 3 (1,.cells [.slice da dl dk,.slice wa wl wk,.slice ca cl ck])) 8 (1,.cells [.slice da dl dk,.slice wa wl wk,.slice ca cl ck,.slice la (dl+1) lc,.slice ha (dl+1) hc]),[],H1,lim,72,false⟩∧get T 1=.slice pa pl pk∧get T 2=.slice wa' wl' wk'∧get T 3=.pointer (some ⟨3,0,some 1⟩)∧get T 8=.pointer (some ⟨8,0,some 1⟩)∧get T 31=.slice pa pl pk∧get T 32=.int .i64 pl∧get T 33=.int .i64 (j:Nat)∧(holds s w (s.coats.drop j) (plan.drop j)=holds s w s.coats plan∧H'.length≤lim)) (pl) ?_ ?_ 0 _ (Nat.zero_le _) ⟨_,_,rfl,rfl,rfl,rfl,rfl,rfl,rfl,rfl,⟨by simp,by omega⟩⟩
 ·rintro c' j s hj ⟨T,lim,rfl,t1,t2,t3,t8,t31,t32,t33,hp⟩ ih
  obtain ⟨hp,hlim⟩:=hp
  obtain ⟨b,off,x,rfl,hx',f0⟩:=hq.i1 hj
  have hw1:=wrap_succ j (by omega)
  have hcj:j < s.coats.length:=by omega
  have hcj2:j < cl:=by rw [←hC.len]; exact hcj
  obtain ⟨b2,off2,c,rfl,hc',_,f1,f2⟩:=hC.s2 hcj2
  obtain ⟨d,t,rfl,hti,hdt,htd⟩:=hP.span hx'
  have ht2:(plan[j+1]?).getD (dl:Int)=(t:Int):=by rw [hdl,←til_drop]; exact hti
  have q1:=c79 (H:=H) (pk:=pk) (dk:=dk) (d1:=undef) (w1:=.slice wa wl wk) (c1:=.slice (some ⟨b2,off2,none⟩) cl ck) (h1:=.slice la (dl+1) lc) (h2:=.slice ha (dl+1) hc) hq hpl2 l1 l2 rfl l3 rfl l6 rfl l7 rfl hx' ht2 H1 hg1
  obtain ⟨a',m',x1,x2⟩:=hw.cut wk' d t (by omega) (by omega)
  have q2:=c80 (kk:=m') x2 (by omega) (fun y hy=>by have:=wb y (List.mem_of_mem_drop (List.mem_of_mem_take hy)); omega) H1 hg1
  have q3:seg w d t=sm ((w.drop d).take (t - d)):=seg_nat w d t
  rw [←q3] at q2
  have l8:=x2.isLoc m'
  rw [drop_cons hx',drop_cons hc',holds,hti] at hp
  simp only [drop_ne,hq.len] at hp
  by_cases z1:seg w d t < c.1
  ·rw [if_pos (.inl z1)] at hp
   simp (maxDischargeDepth:=8) only [↓SD,SU,SV,SW,simprocAttr,Int.cast_ofNat_Int,small,resV, q24x0,t1,t2,t3,t8,t31,t32,t33, lt_nat,hj,hcj2,l1,l2,l3,l4,l5,l6,l7,l8,hg1,f0,f1,f2,q1,vv_slc,x1,q2,z1,R24,N24,←hp,hlim,hlo,hu1]
  ·by_cases z0:j+1 < pl
   ·by_cases z2:c.2 < seg w d t
    ·rw [if_pos (.inr ⟨z0,z2⟩)] at hp
     simp (maxDischargeDepth:=8) only [↓SD,SU,SV,SW,simprocAttr,Int.cast_ofNat_Int,small,resV, q24x0,t1,t2,t3,t8,t31,t32,t33, lt_nat,hj,hcj2,l1,l2,l3,l4,l5,l6,l7,l8,hg1,f0,f1,f2,q1,vv_slc,x1,q2,z1,z2,z0,R24,N24,←hp,hlim,hlo,hu1]
    ·rw [if_neg (fun h=>h.elim z1 (fun h=>z2 h.2))] at hp
     simp (maxDischargeDepth:=8) only [↓SD,SU,SV,SW,simprocAttr,Int.cast_ofNat_Int,small,resV, q24x0,t1,t2,t3,t8,t31,t32,t33, lt_nat,hj,hcj2,l1,l2,l3,l4,l5,l6,l7,l8,hg1,f0,f1,f2,q1,vv_slc,x1,q2,z1,z2,z0,hw1]
     exact ih _ ⟨_,_,rfl,(by simp [get_set,t1] <;> omega),(by simp [get_set,t2] <;> omega),(by simp [get_set,t3] <;> omega),(by simp [get_set,t8] <;> omega),(by simp [get_set,t31] <;> omega),(by simp [get_set,t32] <;> omega),(by simp [get_set,t33] <;> omega),⟨hp,by omega⟩⟩
   ·rw [if_neg (fun h=>h.elim z1 (fun h=>z0 h.1))] at hp
    simp (maxDischargeDepth:=8) only [↓SD,SU,SV,SW,simprocAttr,Int.cast_ofNat_Int,small,resV, q24x0,t1,t2,t3,t8,t31,t32,t33, lt_nat,hj,hcj2,l1,l2,l3,l4,l5,l6,l7,l8,hg1,f0,f1,f2,q1,vv_slc,x1,q2,z1,z0,hw1]
    exact ih _ ⟨_,_,rfl,(by simp [get_set,t1] <;> omega),(by simp [get_set,t2] <;> omega),(by simp [get_set,t3] <;> omega),(by simp [get_set,t8] <;> omega),(by simp [get_set,t31] <;> omega),(by simp [get_set,t32] <;> omega),(by simp [get_set,t33] <;> omega),⟨hp,by omega⟩⟩
 ·rintro c' s ⟨T,lim,rfl,t1,t2,t3,t8,t31,t32,t33,hp⟩
  obtain ⟨hp,hlim⟩:=hp
  rw [drop_all hq.len,hpl',List.drop_eq_nil_of_le (Nat.le_refl _)] at hp
  replace hp:true=holds s w s.coats plan:=hp
  simp (maxDischargeDepth:=8) only [↓SD,SU,SV,SW,simprocAttr,Int.cast_ofNat_Int,small,resV, q24x0,t1,t2,t3,t8,t31,t32,t33, lt_nat,Nat.lt_irrefl,l1,l2,l3,l4,l5,R24,N24,←hp,hlim]
end Go.Pi.L.Coa
set_option maxRecDepth 100000
namespace Go.Pi.L.Coa
open Go Go.Pi Go.Pi.L Go.Pi.Coa CM

theorem c23 (H:Heap):R (.func 23) [] H=some ⟨.ok (.bool true),H,H.length⟩:=runL_prim (by rfl) rfl
def isShort (r:ShR):Bool:=decide (r.dl≤14)&&(decide (r.wl≤16)&&decide (r.cl≤7))
theorem c22 {H:Heap}{r:ShR}{s:Sheet}(hs:ShOk H r s):∀H',R (.func 22) [.agg #[.slice r.da r.dl r.dk,.slice r.wa r.wl r.wk,.slice r.ca r.cl r.ck]] H'=some ⟨.ok (.bool (isShort r)),H',H'.length⟩:=by
 intro H'
 refine run_k (pr 22) P22 (by simp [p22]) rfl ?_
 have z1:((r.dl:Int)≤14)=(r.dl≤14):=propext (by omega)
 have z2:((r.wl:Int)≤16)=(r.wl≤16):=propext (by omega)
 have z3:((r.cl:Int)≤7)=(r.cl≤7):=propext (by omega)
 unfold isShort
 cases e1:decide (r.dl≤14) with
 | false=>simp (maxDischargeDepth:=8) only [↓SD,SU,SV,SW,simprocAttr,Int.cast_ofNat_Int,small,resV, B22,R22,N22,b22, hs.d.isLoc,hs.w.isLoc,hs.c.isLoc,z1,z2,z3,Bool.false_and,e1]
 | true =>
  cases e2:decide (r.wl≤16) with
  | false=>simp (maxDischargeDepth:=8) only [↓SD,SU,SV,SW,simprocAttr,Int.cast_ofNat_Int,small,resV, B22,R22,N22,b22, hs.d.isLoc,hs.w.isLoc,hs.c.isLoc,z1,z2,z3,Bool.false_and,e1,e2]
  | true =>
   simp (maxDischargeDepth:=8) only [↓SD,SU,SV,SW,simprocAttr,Int.cast_ofNat_Int,small,resV, B22,R22,N22,b22, hs.d.isLoc,hs.w.isLoc,hs.c.isLoc,z1,z2,z3,Bool.false_and,e1,e2]
theorem short_small {r:ShR}(h:isShort r=true):Small r:=by
 simp only [isShort,Bool.and_eq_true,decide_eq_true_eq] at h
 exact ⟨by omega,by omega,by omega⟩

theorem isPlanR_eq {s:Sheet}(h:isSheet s=true)(p:List Int):isPlanR s p=isPlan s p:=isPlanR_eq' (fine_of h) p
theorem c3 {H:Heap}{r:ShR}{s:Sheet}(hs:ShOk H r s){pa wa':Option Addr}{pl pk wl' wk':Nat}{plan w:List Int}(hq:Ints H pa pl plan)(hw:Ints H wa' wl' w) :
  R (.func 3) [.agg #[.slice r.da r.dl r.dk,.slice r.wa r.wl r.wk,.slice r.ca r.cl r.ck],.slice pa pl pk,.slice wa' wl' wk'] H=some ⟨.ok (.bool true),H,H.length⟩:=by
 refine run_k (pr 3) P3 (by simp [p3]) rfl ?_
 have l1:=hs.d.isLoc r.dk
 have l2:=hs.w.isLoc r.wk
 have l3:=hs.c.isLoc r.ck
 have l4:=hq.isLoc pk
 have l5:=hw.isLoc wk'
 have k22:=c22 hs H
 cases e1:isShort r with
 | false=>simp (maxDischargeDepth:=8) only [↓SD,SU,SV,SW,simprocAttr,Int.cast_ofNat_Int,small,resV, B3,R3,N3,b3, l1,l2,l3,l4,l5,k22,e1,c23]
 | true =>
 have hd:=short_small e1
 have z1:((7:Int) < pl)=(7 < pl):=propext (by omega)
 have z2:((14:Int) < wl')=(14 < wl'):=propext (by omega)
 by_cases e2:7 < pl
 ·simp (maxDischargeDepth:=8) only [↓SD,SU,SV,SW,simprocAttr,Int.cast_ofNat_Int,small,resV, B3,R3,N3,b3, l1,l2,l3,l4,l5,k22,e1,c23,z1,e2]
 by_cases e3:14 < wl'
 ·simp (maxDischargeDepth:=8) only [↓SD,SU,SV,SW,simprocAttr,Int.cast_ofNat_Int,small,resV, B3,R3,N3,b3, l1,l2,l3,l4,l5,k22,e1,c23,z1,e2,z2,e3]
 have k1:=c24 (pk:=pk) (wk':=wk') hs hd hq (by omega) hw (by omega) H (Grow.refl _)
 have k2:=c25 hs hd H (Grow.refl _)
 cases q1:isSheet s with
 | false =>
  rw [if_neg (by simp [q1])] at k1
  simp (maxDischargeDepth:=8) only [↓SD,SU,SV,SW,simprocAttr,Int.cast_ofNat_Int,small,resV, B3,R3,N3,b3, l1,l2,l3,l4,l5,k22,e1,c23,z1,e2,z2,e3,k1,k2,q1]
 | true =>
 have k3:=c26 (kk:=pk) hs hd hq (by omega) H (Grow.refl _)
 rw [isPlanR_eq q1] at k3
 cases q2:isPlan s plan with
 | false =>
  rw [if_neg (by simp [q2])] at k1
  simp (maxDischargeDepth:=8) only [↓SD,SU,SV,SW,simprocAttr,Int.cast_ofNat_Int,small,resV, B3,R3,N3,b3, l1,l2,l3,l4,l5,k22,e1,c23,z1,e2,z2,e3,k1,k2,q1,k3,q2]
 | true =>
 have k4:=c27 (kk:=wk') hs hd hw (by omega) H (Grow.refl _)
 cases q3:isWeather s w with
 | false =>
  rw [if_neg (by simp [q3])] at k1
  simp (maxDischargeDepth:=8) only [↓SD,SU,SV,SW,simprocAttr,Int.cast_ofNat_Int,small,resV, B3,R3,N3,b3, l1,l2,l3,l4,l5,k22,e1,c23,z1,e2,z2,e3,k1,k2,q1,k3,q2,k4,q3]
 | true =>
 have hS:=fine_of q1
 have wb:=weather_bound hS q3
 have k5:=c28 (pk:=pk) (wk':=wk') hs hd hS hq (plan_of hS q2) hw (by rw [←hw.len]; exact wb.1) (fun x hx=>by have:=wb.2 x hx; omega) H (Grow.refl _)
 rw [if_pos ⟨q1,q2,q3⟩] at k1
 simp (maxDischargeDepth:=8) only [↓SD,SU,SV,SW,simprocAttr,Int.cast_ofNat_Int,small,resV, B3,R3,N3,b3, l1,l2,l3,l4,l5,k22,e1,c23,z1,e2,z2,e3,k1,k2,q1,k3,q2,k4,q3,k5,Bool.bne_false]
end Go.Pi.L.Coa
set_option maxRecDepth 100000
namespace Go.Pi.L.Coa
open Go Go.Pi Go.Pi.L Go.Pi.Coa CM

def same:List Int→List Int→Bool
 | [],[]=>true
 | x :: xs,y :: ys=>decide (x=y)&&same xs ys
 | _,_=>false
theorem same_iff:∀{xs ys:List Int},same xs ys=true↔xs=ys
 | [],[]=>by simp [same]
 | [],y :: ys=>by simp [same]
 | x :: xs,[]=>by simp [same]
 | x :: xs,y :: ys=>by simp [same,same_iff (xs:=xs) (ys:=ys)]
theorem same_len:∀{xs ys:List Int},xs.length≠ys.length→same xs ys=false
 | [],[],h=>absurd rfl h
 | [],y :: ys,_=>rfl
 | x :: xs,[],_=>rfl
 | x :: xs,y :: ys,h=>by simp only [same]; rw [same_len (by simpa using h)]; simp
theorem c35p {prims:Prims}(h35:prims 35=none){H:Heap}{a b:Option Addr}{l m kk km:Nat}{xs ys:List Int}(hx:Ints H a l xs)(hy:Ints H b m ys)(hl:l < 1000000) :
  ∀H',Grow H H'→runL PP prims (.func 35) [.slice a l kk,.slice b m km] H'=some ⟨.ok (.bool (same xs ys)),H',H'.length⟩:=by
 intro H' hg
 refine run_k h35 P35 (by simp [p35]) rfl ?_
 have l1:=hx.isLoc kk
 have l2:=hy.isLoc km
 by_cases hlm:l=m
 case neg =>
  rw [same_len (by rw [hx.len,hy.len]; exact hlm)]
  simp (maxDischargeDepth:=8) only [↓SD,SU,SV,SW,simprocAttr,Int.cast_ofNat_Int,small,resV, B35,R35,N35,b35, l1,l2,eq_nat,hlm]
 subst hlm
 simp (maxDischargeDepth:=8) only [↓SD,SU,SV,SW,simprocAttr,Int.cast_ofNat_Int,small,resV, B35,R35,N35,b35, l1,l2,eq_nat]
 refine loop_ind (G:=(·=_)) (fun j σ=>∃T,σ=⟨T,[],[],H',(H').length,26,false⟩∧get T 0=.slice a l kk∧get T 1=.slice b l km∧get T 5=.int .i64 (j:Nat)∧(same (xs.drop j) (ys.drop j)=same xs ys)) (l) ?_ ?_ 0 _ (Nat.zero_le _) ⟨_,rfl,rfl,rfl,rfl,by simp⟩
 ·rintro c' j s hj ⟨T,rfl,t0,t1,t5,hp⟩ ih
  obtain ⟨b1,o1,x,rfl,hx',e1⟩:=hx.i1 hj
  obtain ⟨b2,o2,y,rfl,hy',e2⟩:=hy.i1 hj
  have hw:=wrap_succ j (by omega)
  rw [drop_cons hx',drop_cons hy',same] at hp
  by_cases hpx:x=y
  ·rw [show decide (x=y)=true by simpa using hpx,Bool.true_and] at hp
   simp (maxDischargeDepth:=8) only [↓SD,SU,SV,SW,simprocAttr,Int.cast_ofNat_Int,small,resV, q35x0,t0,t1,t5, lt_nat,hj,l1,l2,e1,e2,hg,R35,N35,hpx,hw]
   exact ih _ ⟨_,rfl,(by simp [get_set,t0] <;> omega),(by simp [get_set,t1] <;> omega),(by simp [get_set,t5] <;> omega),hp⟩
  ·rw [show decide (x=y)=false by simpa using hpx,Bool.false_and] at hp
   simp (maxDischargeDepth:=8) only [↓SD,SU,SV,SW,simprocAttr,Int.cast_ofNat_Int,small,resV, q35x0,t0,t1,t5, lt_nat,hj,l1,l2,e1,e2,hg,R35,N35,hpx,←hp]
 ·rintro c' s ⟨T,rfl,t0,t1,t5,hp⟩
  rw [drop_all hx.len,drop_all hy.len] at hp
  replace hp:true=same xs ys:=hp
  simp (maxDischargeDepth:=8) only [↓SD,SU,SV,SW,simprocAttr,Int.cast_ofNat_Int,small,resV, q35x0,t0,t1,t5, lt_nat,Nat.lt_irrefl,l1,l2,R35,N35,←hp]
theorem c35 {H:Heap}{a b:Option Addr}{l m kk km:Nat}{xs ys:List Int}(hx:Ints H a l xs)(hy:Ints H b m ys)(hl:l < 1000000) :
  ∀H',Grow H H'→R (.func 35) [.slice a l kk,.slice b m km] H'=some ⟨.ok (.bool (same xs ys)),H',H'.length⟩:=c35p (pr 35) hx hy hl
theorem Sl.of_cells {β:Type}{enc:β→List Value}{H:Heap}{k b:Nat}{xs:List β}(hk:∀x,(enc x).length=k)(h:hcells H b=some (cells enc xs)):Sl H k enc (some ⟨b,0,none⟩) xs.length xs :=
 ⟨rfl,.inr ⟨_,_,rfl⟩,fun j x hx=>⟨b,0,cells enc xs,rfl,h,by rw [Nat.zero_add]; exact cells_get hk hx⟩⟩
theorem app_old {H l:Heap}{i:Nat}{b:Blk}(h:H[i]?=some b):(H++l)[i]?=some b:=by
 rw [List.getElem?_append_left (List.getElem?_eq_some_iff.1 h).1]; exact h
theorem app_new {H:Heap}{n:Nat}{b:Blk}(h:H.length=n):(H++[b])[n]?=some b:=by subst h; simp
end Go.Pi.L.Coa
