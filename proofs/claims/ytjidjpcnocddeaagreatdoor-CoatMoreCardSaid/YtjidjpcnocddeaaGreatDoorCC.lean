/- Coats: how much they dry. -/
import Derived.Test.YtjidjpcnocddeaaGreatDoorCB
import Derived.Test.YtjidjpcnocddeaaGreatDoorCQ
set_option linter.all false
set_option maxRecDepth 100000
namespace Go.Pi.L.Coa
open Go Go.Pi Go.Pi.L Go.Pi.Coa CM

theorem c80 {H:Heap}{a:Option Addr}{l kk:Nat}{xs:List Int}(hx:Ints H a l xs)(hl:l < 1000)(hb:∀x∈xs,0≤x∧x≤1000) :
  ∀H',Grow H H'→R (.func 80) [.slice a l kk] H'=some ⟨.ok (.int .i64 (sm xs)),H',H'.length⟩:=by
 intro H' hg
 refine run_k (pr 80) P80 (by simp [p80]) rfl ?_
 have l4:=hx.isLoc kk
 simp (maxDischargeDepth:=8) only [↓SD,SU,SV,SW,simprocAttr,Int.cast_ofNat_Int,small,resV, B80,R80,N80,b80, l4]
 refine loop_ind (G:=(·=_)) (fun j σ=>∃T,σ=⟨T,[],[],H',(H').length,17,false⟩∧get T 3=.int .i64 (sm (xs.take j))∧get T 6=.slice a l kk∧get T 7=.int .i64 l∧get T 8=.int .i64 (j:Nat)∧(True)) (l) ?_ ?_ 0 _ (Nat.zero_le _) ⟨_,rfl,rfl,rfl,rfl,rfl,by simp⟩
 ·rintro c' j s hj ⟨T,rfl,t3,t6,t7,t8,hp⟩ ih
  obtain ⟨b,off,x,rfl,hx',e1⟩:=hx.i1 hj
  have hw:=wrap_succ j (by omega)
  have h0:=hb x (mem_drop hx')
  have h1:=sm_bound (l:=xs.take j) (m:=1000) (fun y hy=>hb y (List.mem_of_mem_take hy))
  have h2:(xs.take j).length≤l:=by rw [List.length_take,hx.len]; omega
  have hw2:IntKind.wrap .i64 (sm (xs.take j)+x)=sm (xs.take (j+1)):=by rw [sm_take_succ hx',wrap_id _ (by omega) (by omega)]
  simp (maxDischargeDepth:=8) only [↓SD,SU,SV,SW,simprocAttr,Int.cast_ofNat_Int,small,resV, q80x0,t3,t6,t7,t8, lt_nat,hj,l4,e1,hg,hw,hw2]
  exact ih _ ⟨_,rfl,(by simp [get_set,t3] <;> omega),(by simp [get_set,t6] <;> omega),(by simp [get_set,t7] <;> omega),(by simp [get_set,t8] <;> omega),trivial⟩
 ·rintro c' s ⟨T,rfl,t3,t6,t7,t8,hp⟩
  rw [List.take_of_length_le (by rw [hx.len]; exact Nat.le_refl _)] at t3
  simp (maxDischargeDepth:=8) only [↓SD,SU,SV,SW,simprocAttr,Int.cast_ofNat_Int,small,resV, q80x0,t3,t6,t7,t8, lt_nat,Nat.lt_irrefl,R80,N80]

theorem add1 (i:Nat)(h:i < 1000000):IntKind.wrap .i64 ((i:Int)+1)=((i+1:Nat):Int):=wrap_succ i (by omega)
theorem c37 {H:Heap}{pa wa:Option Addr}{pl pk wl wk:Nat}{plan w:List Int}(hp:Ints H pa pl plan)(hpl:pl < 1000)(hw:Ints H wa wl w)(hwl:wl < 1000)(hb:∀x∈w,0≤x∧x≤1000)
  {i d t:Nat} (hd:plan[i]?=some (d:Int)) (ht:(plan[i+1]?).getD wl=(t:Int)) (hdt:d≤t) (htw:t≤wl) :
  ∀H',Grow H H'→R (.func 37) [.slice pa pl pk,.int .i64 i,.slice wa wl wk] H'=some ⟨.ok (.int .i64 (seg w d t)),H',H'.length⟩:=by
 intro H' hg
 refine run_k (pr 37) P37 (by simp [p37]) rfl ?_
 have l4:=hp.isLoc pk
 have l5:=hw.isLoc wk
 have hi:i < pl:=by rw [←hp.len]; exact (List.getElem?_eq_some_iff.1 hd).1
 have ha:=add1 i (by omega)
 obtain ⟨b,off,x,rfl,hx',e1⟩:=hp.i1 hi
 rw [hd] at hx'
 obtain rfl:(d:Int)=x:=by simpa using hx'
 have key:∀(T:List Value),get T 2=.slice wa wl wk→get T 7=.int .i64 (t:Nat)→get T 8=.int .i64 0→get T 9=.int .i64 (d:Nat) →
   mach (runL PP primsL) (fEnd PP primsL (runL PP primsL) p37 H') [.loop q37x0,.blk 0,.code (.seq (.reg [
  ⟨(some 37),.v .mv [.tmp 8],none⟩,
  ⟨(some 6),.v .mv [.tmp 37],none⟩])
 .ret)] none ⟨T,[],[],H',H'.length,38,false⟩=some ⟨.ok (.int .i64 (seg w d t)),H',H'.length⟩:=by
  intro T u2 u7 u8 u9
  refine loop_ind (G:=(·=_)) (fun j σ=>∃T,σ=⟨T,[],[],H',(H').length,38,false⟩∧get T 2=.slice wa wl wk∧get T 7=.int .i64 (t:Nat)∧get T 8=.int .i64 (sm ((w.drop d).take j))∧get T 9=.int .i64 ((d+j:Nat))∧(True)) (t - d) ?_ ?_ 0 _ (Nat.zero_le _) ⟨_,rfl,(by first | rfl | simp [get_set,u2,u7,u8,u9,sm]),(by first | rfl | simp [get_set,u2,u7,u8,u9,sm]),(by first | rfl | simp [get_set,u2,u7,u8,u9,sm]),(by first | rfl | simp [get_set,u2,u7,u8,u9,sm]),by simp⟩
  ·rintro c' j s hj ⟨T,rfl,t2,t7,t8,t9,hp⟩ ih
   have hj2:d+j < t:=by omega
   have hj3:d+j < wl:=by omega
   obtain ⟨b',off',y,rfl,hy,e2⟩:=hw.i1 hj3
   have hy2:(w.drop d)[j]?=some y:=by rw [List.getElem?_drop]; exact hy
   have h0:=hb y (mem_drop hy)
   have h1:=sm_bound (l:=(w.drop d).take j) (m:=1000) (fun z hz=>hb z (List.mem_of_mem_drop (List.mem_of_mem_take hz)))
   have h2:((w.drop d).take j).length≤1000:=by rw [List.length_take]; omega
   have hw2:IntKind.wrap .i64 (sm ((w.drop d).take j)+y)=sm ((w.drop d).take (j+1)):=by rw [sm_take_succ hy2,wrap_id _ (by omega) (by omega)]
   have hw3:=add1 (d+j) (by omega)
   simp (maxDischargeDepth:=8) only [↓SD,SU,SV,SW,simprocAttr,Int.cast_ofNat_Int,small,resV, q37x0,t2,t7,t8,t9, lt_nat,hj2,hj3,l5,e2,hg,hw2,hw3]
   exact ih _ ⟨_,rfl,(by simp [get_set,t2] <;> omega),(by simp [get_set,t7] <;> omega),(by simp [get_set,t8] <;> omega),(by simp [get_set,t9] <;> omega),trivial⟩
  ·rintro c' s ⟨T,rfl,t2,t7,t8,t9,hp⟩
   have e3:d+(t - d)=t:=by omega
   rw [e3] at t9
   simp (maxDischargeDepth:=8) only [↓SD,SU,SV,SW,simprocAttr,Int.cast_ofNat_Int,small,resV, q37x0,t2,t7,t8,t9, lt_nat,Nat.lt_irrefl,R37,N37,seg_nat]
 by_cases hlast:i+1 < pl
 ·obtain ⟨b',off',y,hb',hy,e2⟩:=hp.i1 hlast
  cases hb'
  rw [hy] at ht
  simp only [Option.getD_some] at ht
  subst ht
  simp (maxDischargeDepth:=8) only [↓SD,SU,SV,SW,simprocAttr,Int.cast_ofNat_Int,small,resV, B37,R37,N37,b37, l4,l5,lt_nat,hi,hlast,ha,e1,e2,hg]
  refine key _ ?_ ?_ ?_ ?_ <;> rfl
 ·rw [List.getElem?_eq_none (by rw [hp.len]; omega)] at ht
  simp only [Option.getD_none] at ht
  have:wl=t:=by omega
  subst this
  simp (maxDischargeDepth:=8) only [↓SD,SU,SV,SW,simprocAttr,Int.cast_ofNat_Int,small,resV, B37,R37,N37,b37, l4,l5,lt_nat,hi,hlast,ha,e1,hg]
  refine key _ ?_ ?_ ?_ ?_ <;> rfl

theorem c83 {H:Heap}{r:ShR}{s:Sheet}(hs:ShOk H r s)(hd:Small r){pa wa':Option Addr}{pl pk wl' wk':Nat}{plan w:List Int}(hp:Ints H pa pl plan)(hpl:pl < 1000)(hw:Ints H wa' wl' w)(hwl:wl' < 1000)(hb:∀x∈w,0≤x∧x≤1000)
  {i d t:Nat} {c:Int×Int} (hi:plan[i]?=some (d:Int)) (hc:s.coats[i]?=some c) (ht:(plan[i+1]?).getD wl'=(t:Int)) (hdt:d≤t) (htw:t≤wl') :
  ∀H',Grow H H'→R (.func 83) [.agg #[.slice r.da r.dl r.dk,.slice r.wa r.wl r.wk,.slice r.ca r.cl r.ck],.slice pa pl pk,.int .i64 i,.slice wa' wl' wk'] H'=some ⟨.ok (.bool (decide (seg w d t < c.1))),H',H'.length⟩:=by
 intro H' hg
 refine run_k (pr 83) P83 (by simp [p83]) rfl ?_
 have k1:=c37 (pk:=pk) (wk:=wk') hp hpl hw hwl hb hi ht hdt htw H' hg
 obtain ⟨da,dl,dk,wa,wl,wk,ca,cl,ck⟩:=r
 have hD:Spans H da dl s.dry:=hs.d
 have hW:Ints H wa wl s.work:=hs.w
 have hC:Spans H ca cl s.coats:=hs.c
 have nD:dl < 1000000:=hd.d
 have nW:wl < 1000000:=hd.w
 have nC:cl < 1000000:=hd.c
 have l1:=hD.isLoc dk
 have l2:=hW.isLoc wk
 have l3:=hC.isLoc ck
 have hi':i < cl:=by rw [←hC.len]; exact (List.getElem?_eq_some_iff.1 hc).1
 obtain ⟨b,off,x,rfl,hx,_,f1,f2⟩:=hC.s2 hi'
 rw [hc] at hx; cases hx
 simp (maxDischargeDepth:=8) only [↓SD,SU,SV,SW,simprocAttr,Int.cast_ofNat_Int,small,resV, B83,R83,N83,b83, l1,l2,l3,hp.isLoc,hw.isLoc,k1,f1,hg,hi']
theorem c84 {H:Heap}{r:ShR}{s:Sheet}(hs:ShOk H r s)(hd:Small r){pa wa':Option Addr}{pl pk wl' wk':Nat}{plan w:List Int}(hp:Ints H pa pl plan)(hpl:pl < 1000)(hw:Ints H wa' wl' w)(hwl:wl' < 1000)(hb:∀x∈w,0≤x∧x≤1000)
  {i d t:Nat} {c:Int×Int} (hi:plan[i]?=some (d:Int)) (hc:s.coats[i]?=some c) (ht:(plan[i+1]?).getD wl'=(t:Int)) (hdt:d≤t) (htw:t≤wl') :
  ∀H',Grow H H'→R (.func 84) [.agg #[.slice r.da r.dl r.dk,.slice r.wa r.wl r.wk,.slice r.ca r.cl r.ck],.slice pa pl pk,.int .i64 i,.slice wa' wl' wk'] H'=some ⟨.ok (.bool (decide (i+1 < pl)&&decide (c.2 < seg w d t))),H',H'.length⟩:=by
 intro H' hg
 refine run_k (pr 84) P84 (by simp [p84]) rfl ?_
 have k1:=c37 (pk:=pk) (wk:=wk') hp hpl hw hwl hb hi ht hdt htw H' hg
 have hi2:i < pl:=by rw [←hp.len]; exact (List.getElem?_eq_some_iff.1 hi).1
 have ha:=add1 i (by omega)
 obtain ⟨da,dl,dk,wa,wl,wk,ca,cl,ck⟩:=r
 have hD:Spans H da dl s.dry:=hs.d
 have hW:Ints H wa wl s.work:=hs.w
 have hC:Spans H ca cl s.coats:=hs.c
 have nD:dl < 1000000:=hd.d
 have nW:wl < 1000000:=hd.w
 have nC:cl < 1000000:=hd.c
 have l1:=hD.isLoc dk
 have l2:=hW.isLoc wk
 have l3:=hC.isLoc ck
 have hi':i < cl:=by rw [←hC.len]; exact (List.getElem?_eq_some_iff.1 hc).1
 obtain ⟨b,off,x,rfl,hx,_,f1,f2⟩:=hC.s2 hi'
 rw [hc] at hx; cases hx
 by_cases q:i+1 < pl
 ·simp (maxDischargeDepth:=8) only [↓SD,SU,SV,SW,simprocAttr,Int.cast_ofNat_Int,small,resV, B84,R84,N84,b84, l1,l2,l3,hp.isLoc,hw.isLoc,k1,f2,hg,hi',ha,lt_nat,q]
 ·simp (maxDischargeDepth:=8) only [↓SD,SU,SV,SW,simprocAttr,Int.cast_ofNat_Int,small,resV, B84,R84,N84,b84, l1,l2,l3,hp.isLoc,hw.isLoc,k1,f2,hg,hi',ha,lt_nat,q,Bool.false_and]

theorem c28 {H:Heap}{r:ShR}{s:Sheet}(hs:ShOk H r s)(hd:Small r)(hS:ShFine s){pa wa':Option Addr}{pl pk wl' wk':Nat}{plan w:List Int}(hq:Ints H pa pl plan)(hP:PlFine s plan)(hw:Ints H wa' wl' w)(hwd:wl'=s.dry.length)(hb:∀x∈w,0≤x∧x≤1000) :
  ∀H',Grow H H'→R (.func 28) [.agg #[.slice r.da r.dl r.dk,.slice r.wa r.wl r.wk,.slice r.ca r.cl r.ck],.slice pa pl pk,.slice wa' wl' wk'] H'=some ⟨.ok (.bool (holds s w s.coats plan)),H',H'.length⟩:=by
 intro H' hg
 refine run_k (pr 28) P28 (by simp [p28]) rfl ?_
 have hpl:pl=s.coats.length:=by rw [←hq.len]; exact hP.len
 have hpl2:pl < 1000:=by have:=hS.c2; omega
 have hwl2:wl' < 1000:=by have:=hS.d2; omega
 have k1:=fun i d t c h1 h2 h3 h4 h5=>c83 (pk:=pk) (wk':=wk') (i:=i) (d:=d) (t:=t) (c:=c) hs hd hq hpl2 hw hwl2 hb h1 h2 h3 h4 h5 H' hg
 have k2:=fun i d t c h1 h2 h3 h4 h5=>c84 (pk:=pk) (wk':=wk') (i:=i) (d:=d) (t:=t) (c:=c) hs hd hq hpl2 hw hwl2 hb h1 h2 h3 h4 h5 H' hg
 obtain ⟨da,dl,dk,wa,wl,wk,ca,cl,ck⟩:=r
 have hD:Spans H da dl s.dry:=hs.d
 have hW:Ints H wa wl s.work:=hs.w
 have hC:Spans H ca cl s.coats:=hs.c
 have nD:dl < 1000000:=hd.d
 have nW:wl < 1000000:=hd.w
 have nC:cl < 1000000:=hd.c
 have l1:=hD.isLoc dk
 have l2:=hW.isLoc wk
 have l3:=hC.isLoc ck
 simp only at k1 k2
 have l4:=hq.isLoc pk
 have l5:=hw.isLoc wk'
 simp (maxDischargeDepth:=8) only [↓SD,SU,SV,SW,simprocAttr,Int.cast_ofNat_Int,small,resV, B28,R28,N28,b28, l1,l2,l3,l4,l5]
 refine loop_ind (G:=(·=_)) (fun j σ=>∃T,σ=⟨T,sset [] 3 (1,.cells [.slice da dl dk,.slice wa wl wk,.slice ca cl ck]),[],H',(H').length,26,false⟩∧get T 1=.slice pa pl pk∧get T 2=.slice wa' wl' wk'∧get T 3=.pointer (some ⟨3,0,some 1⟩)∧get T 7=.int .i64 (j:Nat)∧(holds s w (s.coats.drop j) (plan.drop j)=holds s w s.coats plan)) (pl) ?_ ?_ 0 _ (Nat.zero_le _) ⟨_,rfl,rfl,rfl,rfl,rfl,by simp⟩
 ·rintro c' j s hj ⟨T,rfl,t1,t2,t3,t7,hp⟩ ih
  obtain ⟨b,off,x,rfl,hx',e1⟩:=hq.i1 hj
  have hw1:=wrap_succ j (by omega)
  have hcj:j < s.coats.length:=by omega
  have hc:s.coats[j]?=some s.coats[j]:=List.getElem?_eq_getElem hcj
  obtain ⟨d,t,rfl,hti,hdt,htd⟩:=hP.span hx'
  have ht2:(plan[j+1]?).getD (wl':Int)=(t:Int):=by rw [hwd,←til_drop]; exact hti
  have q1:=k1 j d t _ hx' hc ht2 (by omega) (by omega)
  have q2:=k2 j d t _ hx' hc ht2 (by omega) (by omega)
  rw [drop_cons hx',drop_cons hc,holds,hti] at hp
  simp only [drop_ne,hq.len] at hp
  by_cases z1:seg w d t < s.coats[j].1
  ·rw [if_pos (.inl z1)] at hp
   simp (maxDischargeDepth:=8) only [↓SD,SU,SV,SW,simprocAttr,Int.cast_ofNat_Int,small,resV, q28x0,t1,t2,t3,t7, lt_nat,hj,l1,l2,l3,l4,l5,hg,q1,z1,R28,N28,←hp]
  ·by_cases z2:j+1 < pl∧s.coats[j].2 < seg w d t
   ·rw [if_pos (.inr z2)] at hp
    simp (maxDischargeDepth:=8) only [↓SD,SU,SV,SW,simprocAttr,Int.cast_ofNat_Int,small,resV, q28x0,t1,t2,t3,t7, lt_nat,hj,l1,l2,l3,l4,l5,hg,q1,z1,q2,z2.1,z2.2,R28,N28,←hp]
   ·rw [if_neg (fun h=>h.elim z1 z2)] at hp
    have z3:(decide (j+1 < pl)&&decide (s.coats[j].2 < seg w d t))=false:=by
     rw [Bool.and_eq_false_iff]
     simp only [decide_eq_false_iff_not]
     exact (Classical.not_and_iff_not_or_not.1 z2)
    simp (maxDischargeDepth:=8) only [↓SD,SU,SV,SW,simprocAttr,Int.cast_ofNat_Int,small,resV, q28x0,t1,t2,t3,t7, lt_nat,hj,l1,l2,l3,l4,l5,hg,q1,z1,q2,z3,hw1]
    exact ih _ ⟨_,rfl,(by simp [get_set,t1] <;> omega),(by simp [get_set,t2] <;> omega),(by simp [get_set,t3] <;> omega),(by simp [get_set,t7] <;> omega),hp⟩
 ·rintro c' s ⟨T,rfl,t1,t2,t3,t7,hp⟩
  rw [drop_all hq.len,hpl,List.drop_eq_nil_of_le (Nat.le_refl _)] at hp
  replace hp:true=holds s w s.coats plan:=hp
  simp (maxDischargeDepth:=8) only [↓SD,SU,SV,SW,simprocAttr,Int.cast_ofNat_Int,small,resV, q28x0,t1,t2,t3,t7, lt_nat,Nat.lt_irrefl,l1,l2,l3,l4,l5,R28,N28,←hp]

structure SpR where
 la:Option Addr
 ll:Nat
 lk:Nat
 ha:Option Addr
 hl:Nat
 hk:Nat
theorem c79 {H:Heap}{d1 w1 c1 h1 h2:Value}{dl dk:Nat}{da:Option Addr}{pa:Option Addr}{pl pk:Nat}{plan:List Int}(hq:Ints H pa pl plan)(hpl:pl < 1000)
  (l1:isLoc (.slice da dl dk)=false) (l2:isLoc w1=false) (o2:one w1=true) (l3:isLoc c1=false) (o3:one c1=true) (l4:isLoc h1=false) (o4:one h1=true) (l5:isLoc h2=false) (o5:one h2=true)
  {i d t:Nat} (hi:plan[i]?=some (d:Int)) (ht:(plan[i+1]?).getD dl=(t:Int)) :
  ∀H',Grow H H'→R (.func 79) [.agg #[.slice da dl dk,w1,c1,h1,h2],.slice pa pl pk,.int .i64 i] H'=some ⟨.ok (.tuple #[.int .i64 t,.bool (decide (i+1 < pl))]),H',H'.length⟩:=by
 intro H' hg
 refine run_k (pr 79) P79 (by simp [p79]) rfl ?_
 have l6:=hq.isLoc pk
 have hi2:i < pl:=by rw [←hq.len]; exact (List.getElem?_eq_some_iff.1 hi).1
 have ha:=add1 i (by omega)
 have e1:IntKind.wrap .i64 ((pl:Int) - 1)=((pl - 1:Nat):Int):=by rw [wrap_id _ (by omega) (by omega)]; omega
 by_cases q:i+1 < pl
 ·obtain ⟨b,off,x,rfl,hx,f1⟩:=hq.i1 q
  rw [hx] at ht
  obtain rfl:x=(t:Int):=by simpa using ht
  have q1:¬i=pl - 1:=by omega
  simp (maxDischargeDepth:=8) only [↓SD,SU,SV,SW,simprocAttr,Int.cast_ofNat_Int,small,resV, B79,R79,N79,b79, l1,l2,o2,l3,o3,l4,o4,l5,o5,l6,ha,e1,eq_nat,q1,q,f1,hg]
 ·have q1:i=pl - 1:=by omega
  rw [List.getElem?_eq_none (by rw [hq.len]; omega)] at ht
  simp only [Option.getD_none] at ht
  have q2:¬pl - 1+1 < pl:=by omega
  subst q1
  simp (maxDischargeDepth:=8) only [↓SD,SU,SV,SW,simprocAttr,Int.cast_ofNat_Int,small,resV, B79,R79,N79,b79, l1,l2,o2,l3,o3,l4,o4,l5,o5,l6,ha,e1,ht,q2]
end Go.Pi.L.Coa
set_option maxRecDepth 100000
namespace Go.Pi.L.Coa
open Go Go.Pi Go.Pi.L Go.Pi.Coa CM

def ps (l:List Int)(j:Nat):List Int:=(List.range (j+1)).map fun i=>sm (l.take i)
theorem ps_succ (l:List Int)(j:Nat):ps l (j+1)=ps l j++[sm (l.take (j+1))]:=by simp [ps,List.range_succ]
theorem ps_get (l:List Int){j i:Nat}(h:i≤j):(ps l j)[i]?=some (sm (l.take i)):=by simp [ps,List.getElem?_map,List.getElem?_range (by omega:i < j+1)]
theorem ps_len (l:List Int)(j:Nat):(ps l j).length=j+1:=by simp [ps]
theorem Ints.rd {H:Heap}{b l:Nat}{xs:List Int}(h:Ints H (some ⟨b,0,none⟩) l xs){j:Nat}{x:Int}(hx:xs[j]?=some x):∀H',Grow H H'→rdO (hcells H' b) (j*1) none=some (.int .i64 x):=by
 intro H' g
 obtain ⟨b',off,y,hb,hy,h3⟩:=h.i1 (j:=j) (by rw [←h.len]; exact (List.getElem?_eq_some_iff.1 hx).1)
 cases hb
 rw [hx] at hy; cases hy
 have:=h3 H' g
 rw [Nat.zero_add] at this; exact this
theorem lows_get {s:Sheet}{j:Nat}{x:Int×Int}(h:s.dry[j]?=some x):(lows s)[j]?=some x.1:=by simp [lows,h]
theorem highs_get {s:Sheet}{j:Nat}{x:Int×Int}(h:s.dry[j]?=some x):(highs s)[j]?=some x.2:=by simp [highs,h]
theorem lows_bound {s:Sheet}(h:ShFine s):∀x∈lows s,0≤x∧x≤24:=by
 intro x hx
 simp only [lows,List.mem_map] at hx
 obtain ⟨y,hy,rfl⟩:=hx
 have:=h.dry y hy; omega
theorem highs_bound {s:Sheet}(h:ShFine s):∀x∈highs s,0≤x∧x≤24:=by
 intro x hx
 simp only [highs,List.mem_map] at hx
 obtain ⟨y,hy,rfl⟩:=hx
 have:=h.dry y hy; omega
theorem take_bound {l:List Int}(h:∀x∈l,0≤x∧x≤24){j:Nat}(hj:j≤12):0≤sm (l.take j)∧sm (l.take j)≤288:=by
 have h1:=sm_bound (l:=l.take j) (m:=24) (fun y hy=>h y (List.mem_of_mem_take hy))
 have h2:(l.take j).length≤12:=by rw [List.length_take]; omega
 omega

def QO (H:Heap)(r:ShR)(s:Sheet)(o:Out):Prop :=
 ∃la lc ha hc H1 lo,o=⟨.ok (.agg #[.slice r.da r.dl r.dk,.slice r.wa r.wl r.wk,.slice r.ca r.cl r.ck,.slice la (r.dl+1) lc,.slice ha (r.dl+1) hc]),H1,lo⟩∧Up H H1∧H.length≤lo ∧
  Ints H1 la (r.dl+1) (ps (lows s) r.dl)∧Ints H1 ha (r.dl+1) (ps (highs s) r.dl)

theorem c78 {H:Heap}{r:ShR}{s:Sheet}(hs:ShOk H r s)(hd:Small r)(hS:ShFine s):∀H',Grow H H'→Yes (R (.func 78) [.agg #[.slice r.da r.dl r.dk,.slice r.wa r.wl r.wk,.slice r.ca r.cl r.ck]] H') (QO H' r s):=by
 intro H' hg
 refine run_y (pr 78) P78 (by simp [p78]) rfl ?_
 obtain ⟨da,dl,dk,wa,wl,wk,ca,cl,ck⟩:=r
 have hD:Spans H da dl s.dry:=hs.d
 have hW:Ints H wa wl s.work:=hs.w
 have hC:Spans H ca cl s.coats:=hs.c
 have nD:dl < 1000000:=hd.d
 have nW:wl < 1000000:=hd.w
 have nC:cl < 1000000:=hd.c
 have l1:=hD.isLoc dk
 have l2:=hW.isLoc wk
 have l3:=hC.isLoc ck
 have hdl:dl≤12:=by rw [←hD.len]; exact hS.d2
 simp (maxDischargeDepth:=8) only [↓SD,SU,SV,SW,simprocAttr,Int.cast_ofNat_Int,small,resV, B78,R78,N78,b78, l1,l2,l3]
 generalize hH:H'++[({ obj:=.cells [.int .i64 0],fam:=some H'.length }:Blk)]++[({ obj:=.cells [.int .i64 0],fam:=some (H'.length+1) }:Blk)]=HH
 have b1:Bld H'.length HH 1 (some ⟨H'.length,0,none⟩) 1 1 (cells encI (ps (lows s) 0)):=by
  rw [←hH]; exact (bld_one (n0:=H'.length) (H:=H') (c:=[.int .i64 0]) (k:=1) rfl (Nat.le_refl _)).up (Up.refl _).app
 have b2:Bld H'.length HH 1 (some ⟨H'.length+1,0,none⟩) 1 1 (cells encI (ps (highs s) 0)):=by
  rw [←hH]
  have:=bld_one (n0:=H'.length) (H:=H'++[({ obj:=.cells [.int .i64 0],fam:=some H'.length }:Blk)]) (c:=[.int .i64 0]) (k:=1) rfl (by simp)
  rw [List.length_append,List.length_singleton] at this
  exact this
 have b0:Up H' HH:=by rw [←hH]; exact (Up.refl _).app.app
 refine loop_ind (G:=(Yes · (QO H' ⟨da,dl,dk,wa,wl,wk,ca,cl,ck⟩ s))) (fun j σ=>∃T S H1 bl bh lim,σ=⟨T,S,[],H1,lim,46,false⟩∧get T 1=.pointer (some ⟨1,0,some 1⟩)∧get T 2=.pointer (some ⟨2,0,some 1⟩)∧get T 3=.pointer (some ⟨3,0,some 1⟩)∧get T 11=.slice da dl dk∧get T 12=.int .i64 dl∧get T 13=.int .i64 (j:Nat)∧sget S 1=(1,.cells [.slice da dl dk,.slice wa wl wk,.slice ca cl ck])∧sget S 2=(1,.cells [.slice none 0 0,.slice none 0 0,.slice none 0 0,.slice none 0 0,.slice none 0 0])∧sget S 3=(1,.cells [.slice da dl dk,.slice wa wl wk,.slice ca cl ck,.slice (some ⟨bl,0,none⟩) (j+1) 1,.slice (some ⟨bh,0,none⟩) (j+1) 1])∧(Bld H'.length H1 1 (some ⟨bl,0,none⟩) (j+1) 1 (cells encI (ps (lows s) j))∧Bld H'.length H1 1 (some ⟨bh,0,none⟩) (j+1) 1 (cells encI (ps (highs s) j))∧bl≠bh∧Up H' H1∧H'.length≤lim)) (dl) ?_ ?_ 0 _ (Nat.zero_le _) ⟨_,_,_,_,_,_,rfl,rfl,rfl,rfl,rfl,rfl,rfl,rfl,rfl,rfl,⟨b1,b2,by omega,b0,Nat.le_refl _⟩⟩
 ·rintro c' j s hj ⟨T,S,H1,bl,bh,lim,rfl,t1,t2,t3,t11,t12,t13,s0,s1,s2,hp⟩ ih
  obtain ⟨g1,g2,hne,hu,hlim⟩:=hp
  obtain ⟨b,off,x,rfl,hx',e1,_⟩:=hD.s2 hj
  have hw:=wrap_succ j (by omega)
  have hg1:=hg.trans hu.grow
  have r1:=Ints.rd (g1.sl encI_len (by decide)) (ps_get (lows s) (Nat.le_refl j))
  have r2:=Ints.rd (g2.sl encI_len (by decide)) (ps_get (highs s) (Nat.le_refl j))
  have tb1:=take_bound (lows_bound hS) (j:=j) (by omega)
  have tb2:=take_bound (highs_bound hS) (j:=j) (by omega)
  have x1:=hS.dry x (mem_drop hx')
  have w1:IntKind.wrap .i64 (sm ((lows s).take j)+x.1)=sm ((lows s).take (j+1)):=by rw [sm_take_succ (lows_get hx'),wrap_id _ (by omega) (by omega)]
  have w2:IntKind.wrap .i64 (sm ((highs s).take j)+x.2)=sm ((highs s).take (j+1)):=by rw [sm_take_succ (highs_get hx'),wrap_id _ (by omega) (by omega)]
  obtain ⟨H2,q1,q2,q3,q4⟩:=g1.app (by decide) (by decide) (by omega) hu.len [.int .i64 (sm ((lows s).take (j+1)))] rfl
  have g3:=g2.grown q3 (by simp only [ne_eq,Option.some.injEq,Addr.mk.injEq,and_true]; exact fun h=>hne h.symm)
  have hl2:=q3.len
  have u2:=q3.up g1 hu (Nat.le_refl _)
  obtain ⟨H3,z1,z2,z3,z4⟩:=g3.app (by decide) (by decide) (by omega) u2.len [.int .i64 (sm ((highs s).take (j+1)))] rfl
  have lt2:=g2.lt
  have g4:=q2.grown z3 (by simp only [ne_eq,Option.some.injEq,Addr.mk.injEq,and_true]; omega)
  have u3:=z3.up g3 u2 (Nat.le_refl _)
  have y1:=r1 H1 (Grow.refl _)
  have y2:=r2 H2 q3.grow
  have lt1:j < j+1:=by omega
  simp (maxDischargeDepth:=8) only [↓SD,SU,SV,SW,simprocAttr,Int.cast_ofNat_Int,small,resV, q78x0,t1,t2,t3,t11,t12,t13,s0,s1,s2, lt_nat,hj,lt1,l1,l2,l3,e1,hg1,hw,y1,y2,w1,w2,q1,z1]
  exact ih _ ⟨_,_,(H3),(H1.length),(H2.length),(_),rfl,(by simp [get_set,t1] <;> omega),(by simp [get_set,t2] <;> omega),(by simp [get_set,t3] <;> omega),(by simp [get_set,t11] <;> omega),(by simp [get_set,t12] <;> omega),(by simp [get_set,t13] <;> omega),by simp [sget_sset,s0],by simp [sget_sset,s1],by simp [sget_sset,s2],⟨by rw [ps_succ,cells_app]; exact g4,by rw [ps_succ,cells_app]; exact z2,by omega,u3,by have:=hu.len; have:=u2.len; have:=u3.len; omega⟩⟩
 ·rintro c' s ⟨T,S,H1,bl,bh,lim,rfl,t1,t2,t3,t11,t12,t13,s0,s1,s2,hp⟩
  obtain ⟨g1,g2,hne,hu,hlim⟩:=hp
  simp (maxDischargeDepth:=8) only [↓SD,SU,SV,SW,simprocAttr,Int.cast_ofNat_Int,small,resV, q78x0,t1,t2,t3,t11,t12,t13,s0,s1,s2, lt_nat,Nat.lt_irrefl,l1,l2,l3,R78,N78]
  rw [gc_keep (by simp [flat])]
  exact ⟨_,rfl,_,1,_,1,H1,lim,rfl,hu,hlim,g1.sl encI_len (by decide),g2.sl encI_len (by decide)⟩
end Go.Pi.L.Coa
