/- Coats: which days are kept, and how many are changed. -/
import Derived.Test.YtjidjpcnocddeaaGreatDoorDE
import Derived.Test.YtjidjpcnocddeaaGreatDoorDP
set_option linter.all false
set_option maxRecDepth 100000
namespace Go.Pi.L.Coa
open Go Go.Pi Go.Pi.L Go.Pi.Coa CM

theorem keeps_drop {day:Int}{xs ys:List Int}{j:Nat}{x y:Int}(hx:xs[j]?=some x)(hy:ys[j]?=some y):keeps day (xs.drop j) (ys.drop j)=(!(decide (y < day)&&decide (x≠y))&&(!(decide (day≤y)&&decide (x < day))&&keeps day (xs.drop (j+1)) (ys.drop (j+1)))):=by
 rw [drop_cons hx,drop_cons hy,keeps]
theorem c62 {H:Heap}{a b:Option Addr}{la lb ka kb:Nat}{xs ys:List Int}{day:Int}(hx:Ints H a la xs)(hy:Ints H b lb ys)(na:la < 1000000)(hl:la≤lb) :
  ∀H',Grow H H'→R (.func 62) [.slice a la ka,.slice b lb kb,.int .i64 day] H'=some ⟨.ok (.bool (keeps day xs ys)),H',H'.length⟩:=by
 intro H' hg
 refine run_k (pr 62) P62 (by simp [p62]) rfl ?_
 have l1:=hx.isLoc ka
 have l2:=hy.isLoc kb
 simp (maxDischargeDepth:=8) only [↓SD,SU,SV,SW,simprocAttr,Int.cast_ofNat_Int,small,resV, B62,R62,N62,b62, l1,l2]
 refine loop_ind (G:=(·=_)) (fun j σ=>∃T,σ=⟨T,[],[],H',(H').length,47,false⟩∧get T 0=.slice a la ka∧get T 1=.slice b lb kb∧get T 2=.int .i64 day∧get T 7=.int .i64 (j:Nat)∧(keeps day (xs.drop j) (ys.drop j)=keeps day xs ys)) (la) ?_ ?_ 0 _ (Nat.zero_le _) ⟨_,rfl,rfl,rfl,rfl,rfl,by simp⟩
 ·rintro c' j s hj ⟨T,rfl,t0,t1,t2,t7,hp⟩ ih
  have h2:j < lb:=by omega
  obtain ⟨b1,off1,x,rfl,hx',f0⟩:=hx.i1 hj
  obtain ⟨b2,off2,y,rfl,hy',g0⟩:=hy.i1 h2
  have hw1:=wrap_succ j (by omega)
  rw [keeps_drop hx' hy'] at hp
  by_cases c1:y < day
  ·have c3:¬day≤y:=by omega
   by_cases c2:x=y
   ·rw [c2] at f0
    simp only [c1,c2,c3,decide_true,decide_false,ne_eq,not_true_eq_false,Bool.and_false,Bool.false_and,Bool.not_false,Bool.true_and] at hp
    simp (maxDischargeDepth:=8) only [↓SD,SU,SV,SW,simprocAttr,Int.cast_ofNat_Int,small,resV, q62x0,t0,t1,t2,t7, lt_nat,hj,h2,l1,l2,hg,f0,g0,c1,c3,hw1]
    exact ih _ ⟨_,rfl,(by simp [get_set,t0] <;> omega),(by simp [get_set,t1] <;> omega),(by simp [get_set,t2] <;> omega),(by simp [get_set,t7] <;> omega),hp⟩
   ·simp only [c1,c2,decide_true,ne_eq,not_false_eq_true,Bool.and_self,Bool.not_true,Bool.false_and] at hp
    simp (maxDischargeDepth:=8) only [↓SD,SU,SV,SW,simprocAttr,Int.cast_ofNat_Int,small,resV, q62x0,t0,t1,t2,t7, lt_nat,hj,h2,l1,l2,hg,f0,g0,c1,c2,c3,R62,N62,←hp]
  ·have c3:day≤y:=by omega
   by_cases c2:x < day
   ·simp only [c1,c2,c3,decide_true,decide_false,Bool.false_and,Bool.not_false,Bool.and_self,Bool.not_true,Bool.true_and] at hp
    simp (maxDischargeDepth:=8) only [↓SD,SU,SV,SW,simprocAttr,Int.cast_ofNat_Int,small,resV, q62x0,t0,t1,t2,t7, lt_nat,hj,h2,l1,l2,hg,f0,g0,c1,c2,c3,R62,N62,←hp]
   ·simp only [c1,c2,c3,decide_true,decide_false,Bool.false_and,Bool.and_false,Bool.not_false,Bool.true_and] at hp
    simp (maxDischargeDepth:=8) only [↓SD,SU,SV,SW,simprocAttr,Int.cast_ofNat_Int,small,resV, q62x0,t0,t1,t2,t7, lt_nat,hj,h2,l1,l2,hg,f0,g0,c1,c2,c3,hw1]
    exact ih _ ⟨_,rfl,(by simp [get_set,t0] <;> omega),(by simp [get_set,t1] <;> omega),(by simp [get_set,t2] <;> omega),(by simp [get_set,t7] <;> omega),hp⟩
 ·rintro c' s ⟨T,rfl,t0,t1,t2,t7,hp⟩
  rw [drop_all hx.len,show keeps day [] (ys.drop la)=true from rfl] at hp
  simp (maxDischargeDepth:=8) only [↓SD,SU,SV,SW,simprocAttr,Int.cast_ofNat_Int,small,resV, q62x0,t0,t1,t2,t7, lt_nat,Nat.lt_irrefl,l1,l2,R62,N62,←hp]
theorem c63 {H:Heap}{a b:Option Addr}{la lb ka kb:Nat}{xs ys:List Int}(hx:Ints H a la xs)(hy:Ints H b lb ys)(na:la < 1000000)(hl:la=lb) :
  ∀H',Grow H H'→R (.func 63) [.slice a la ka,.slice b lb kb] H'=some ⟨.ok (.int .i64 (chg xs ys:Nat)),H',H'.length⟩:=by
 intro H' hg
 refine run_k (pr 63) P63 (by simp [p63]) rfl ?_
 have l1:=hx.isLoc ka
 have l2:=hy.isLoc kb
 simp (maxDischargeDepth:=8) only [↓SD,SU,SV,SW,simprocAttr,Int.cast_ofNat_Int,small,resV, B63,R63,N63,b63, l1,l2]
 refine loop_ind (G:=(·=_)) (fun j σ=>∃T,σ=⟨T,[],[],H',(H').length,25,false⟩∧get T 0=.slice a la ka∧get T 1=.slice b lb kb∧get T 5=.int .i64 (chg (xs.take j) (ys.take j):Nat)∧get T 6=.int .i64 (j:Nat)∧(True)) (la) ?_ ?_ 0 _ (Nat.zero_le _) ⟨_,rfl,rfl,rfl,rfl,rfl,by simp⟩
 ·rintro c' j s hj ⟨T,rfl,t0,t1,t5,t6,hp⟩ ih
  have h2:j < lb:=by omega
  obtain ⟨b1,off1,x,rfl,hx',f0⟩:=hx.i1 hj
  obtain ⟨b2,off2,y,rfl,hy',g0⟩:=hy.i1 h2
  have hw1:=wrap_succ j (by omega)
  have e:=chg_succ hx' hy'
  have hle:=chg_le (xs.take j) (ys.take j)
  rw [List.length_take] at hle
  have hxl:=hx.len
  by_cases c1:x=y
  ·rw [if_pos c1,Nat.add_zero] at e
   simp only [e] at ih
   rw [c1] at f0
   simp (maxDischargeDepth:=8) only [↓SD,SU,SV,SW,simprocAttr,Int.cast_ofNat_Int,small,resV, q63x0,t0,t1,t5,t6, lt_nat,hj,h2,l1,l2,hg,f0,g0,hw1]
   exact ih _ ⟨_,rfl,(by simp [get_set,t0] <;> omega),(by simp [get_set,t1] <;> omega),(by simp [get_set,t5] <;> omega),(by simp [get_set,t6] <;> omega),hp⟩
  ·rw [if_neg c1] at e
   simp only [e] at ih
   have hw2:=wrap_succ (chg (xs.take j) (ys.take j)) (by omega)
   simp (maxDischargeDepth:=8) only [↓SD,SU,SV,SW,simprocAttr,Int.cast_ofNat_Int,small,resV, q63x0,t0,t1,t5,t6, lt_nat,hj,h2,l1,l2,hg,f0,g0,c1,hw1,hw2]
   exact ih _ ⟨_,rfl,(by simp [get_set,t0] <;> omega),(by simp [get_set,t1] <;> omega),(by simp [get_set,t5] <;> omega),(by simp [get_set,t6] <;> omega),hp⟩
 ·rintro c' s ⟨T,rfl,t0,t1,t5,t6,hp⟩
  have hyl:=hy.len
  rw [List.take_of_length_le (by rw [hx.len]; exact Nat.le_refl _),List.take_of_length_le (by omega)] at t5
  simp (maxDischargeDepth:=8) only [↓SD,SU,SV,SW,simprocAttr,Int.cast_ofNat_Int,small,resV, q63x0,t0,t1,t5,t6, lt_nat,Nat.lt_irrefl,l1,l2,R63,N63]
end Go.Pi.L.Coa
set_option maxRecDepth 100000
namespace Go.Pi.L.Coa
open Go Go.Pi Go.Pi.L Go.Pi.Coa CM

abbrev Md:=Value×List Int×Nat
def encM (x:Md):List Value:=[x.1,.int .i64 (x.2.2:Nat)]
theorem encM_len (x:Md):(encM x).length=2:=rfl
abbrev Mds (H:Heap)(a:Option Addr)(l:Nat)(ms:List Md):Prop:=Sl H 2 encM a l ms
def MdV (x:Md):Prop:=∃b,x.1=.slice (some ⟨b,0,none⟩) x.2.1.length 1
def bm (p:Md)(L:List Md):Md:=L.foldl (fun o x=>if x.2.2 < o.2.2 then x else o) p
theorem bm_mem:∀{L:List Md} {p:Md},bm p L∈p :: L
 | [],p=>List.mem_cons_self ..
 | x :: L,p=>by
  have e:bm p (x :: L)=bm (if x.2.2 < p.2.2 then x else p) L:=rfl
  rw [e]
  rcases List.mem_cons.1 (bm_mem (L:=L) (p:=if x.2.2 < p.2.2 then x else p)) with h | h
  ·rw [h]; split <;> simp
  ·simp [h]
theorem bm_fewest {plan:List Int}:∀{L:List Md} {p:Md},(∀x∈p :: L,x.2.2=chg x.2.1 plan)→(bm p L).2.1=fewest plan p.2.1 (L.map (·.2.1))
 | [],p,_=>rfl
 | x :: L,p,h=>by
  have hx:=h x (by simp)
  have hp:=h p (by simp)
  have e:bm p (x :: L)=bm (if x.2.2 < p.2.2 then x else p) L:=rfl
  have e2:fewest plan p.2.1 ((x :: L).map (·.2.1))=fewest plan (if decide (chg x.2.1 plan < chg p.2.1 plan)=true then x.2.1 else p.2.1) (L.map (·.2.1)):=rfl
  rw [e,e2,←hx,←hp]
  by_cases hc:x.2.2 < p.2.2
  ·rw [if_pos hc,if_pos (by simpa using hc)]
   exact bm_fewest fun y hy=>h y (by rcases List.mem_cons.1 hy with rfl | hy <;> simp [*])
  ·rw [if_neg hc,if_neg (by simpa using hc)]
   exact bm_fewest fun y hy=>h y (by rcases List.mem_cons.1 hy with rfl | hy <;> simp [*])
theorem c107 {H:Heap}{a b:Option Addr}{la ma lb mb:Nat}(x y:Nat)(h1:isLoc (.slice a la ma)=false)(h2:isLoc (.slice b lb mb)=false) :
  R (.func 107) [.agg #[.slice a la ma,.int .i64 (x:Nat)],.agg #[.slice b lb mb,.int .i64 (y:Nat)]] H=some ⟨.ok (.bool (decide (x < y))),H,H.length⟩:=by
 refine run_k (pr 107) P107 (by simp [p107]) rfl ?_
 simp (maxDischargeDepth:=8) only [↓SD,SU,SV,SW,simprocAttr,Int.cast_ofNat_Int,small,resV, B107,R107,N107,b107, h1,h2,lt_nat,R107,N107]
theorem sl_loc (b l m:Nat):isLoc (.slice (some ⟨b,0,none⟩) l m)=false:=rfl
theorem c106 {H:Heap}{a:Option Addr}{l m:Nat}{p:Md}{L:List Md}(hL:Mds H a l (p :: L))(hv:∀x∈p :: L,MdV x)(hl:l < 1000000)(H':Heap)(hg:Grow H H') :
  Yes (R (.func 106) [.slice a l m,.func (.func 107) #[] #[]] H') (fun o=>o=⟨.ok (.agg #[(bm p L).1,.int .i64 ((bm p L).2.2:Nat)]),H',H'.length⟩):=by
 refine run_y (pr 106) P106 (by simp [p106]) rfl ?_
 have hlen:=hL.len
 have hlp:l=L.length+1:=by rw [←hlen]; rfl
 subst hlp
 have l1:=hL.isLoc m
 obtain ⟨at_,mt,hs,hT⟩:=hL.cut m 1 (L.length+1) (by omega) (by omega)
 rw [Nat.add_sub_cancel,List.drop_one,List.tail_cons,List.take_length] at hT
 rw [Nat.add_sub_cancel] at hs
 obtain ⟨b,off,x,rfl,hx,f0⟩:=hL.at encM_len (by decide) (j:=0) (by omega)
 simp at hx; subst hx
 obtain ⟨pv,pp,pn⟩:=p
 obtain ⟨pb,hpb⟩:=hv _ (List.mem_cons_self ..)
 replace hpb:pv=.slice (some ⟨pb,0,none⟩) pp.length 1:=hpb
 subst hpb
 have g0:rdO (hcells H' b) (off+0*2) (some 2)=some (.agg #[.slice (some ⟨pb,0,none⟩) pp.length 1,.int .i64 (pn:Nat)]):=f0.all H' hg
 rw [Nat.zero_mul,Nat.add_zero] at g0
 have ia1:vv (.ia 2) [.slice (some ⟨b,off,none⟩) (L.length+1) m,.int .i64 0]=some (.pointer (some ⟨b,off,none⟩)):=by have:=vv_iaN 2 b off 0 (L.length+1) m .i64 (by omega); simpa using this
 have hsl:=vv_sll' 2 (some ⟨b,off,none⟩) (L.length+1) m 1 .i64 l1
 replace hs:VOp.ev.slc 2 (some ⟨b,off,none⟩) (L.length+1) m 1 ((L.length+1:Nat):Int)=some (.slice at_ L.length mt):=hs
 rw [hs] at hsl
 have l3:=hT.isLoc mt
 simp (maxDischargeDepth:=8) only [↓SD,SU,SV,SW,simprocAttr,Int.cast_ofNat_Int,small,resV, B106,R106,N106,b106, l1,l3,ia1,g0,hsl,sl_loc]
 refine loop_ind (G:=(Yes · (fun o:Out=>o=⟨.ok (.agg #[(bm (.slice (some ⟨pb,0,none⟩) pp.length 1,pp,pn) L).1,.int .i64 ((bm (.slice (some ⟨pb,0,none⟩) pp.length 1,pp,pn) L).2.2:Nat)]),H',H'.length⟩))) (fun j σ=>∃T S,σ=⟨T,S,[],H',(H').length,25,false⟩∧get T 1=.func (.func 107) #[] #[]∧get T 4=.pointer (some ⟨4,0,some 1⟩)∧get T 5=.pointer (some ⟨5,0,some 1⟩)∧get T 12=.slice at_ L.length mt∧get T 13=.int .i64 L.length∧get T 14=.int .i64 (j:Nat)∧sget S 4=(1,.cells [.slice none 0 0,.int .i64 0])∧sget S 5=(1,.cells [(bm (.slice (some ⟨pb,0,none⟩) pp.length 1,pp,pn) (L.take j)).1,.int .i64 ((bm (.slice (some ⟨pb,0,none⟩) pp.length 1,pp,pn) (L.take j)).2.2:Nat)])∧(True)) (L.length) ?_ ?_ 0 _ (Nat.zero_le _) ⟨_,_,rfl,rfl,rfl,rfl,rfl,rfl,rfl,rfl,rfl,by simp⟩
 ·rintro c' j s hj ⟨T,S,rfl,t1,t4,t5,t12,t13,t14,s0,s1,hp⟩ ih
  obtain ⟨b2,off2,x,rfl,hx,f2⟩:=hT.at encM_len (by decide) hj
  have hxm:=List.mem_of_getElem? hx
  obtain ⟨xb,hxb⟩:=hv x (List.mem_cons_of_mem _ hxm)
  have hm:bm (.slice (some ⟨pb,0,none⟩) pp.length 1,pp,pn) (L.take j)∈(.slice (some ⟨pb,0,none⟩) pp.length 1,pp,pn) :: L:=by
   rcases List.mem_cons.1 (bm_mem (L:=L.take j) (p:=(.slice (some ⟨pb,0,none⟩) pp.length 1,pp,pn))) with h | h
   ·rw [h]; exact List.mem_cons_self ..
   ·exact List.mem_cons_of_mem _ (List.mem_of_mem_take h)
  obtain ⟨ob,hob⟩:=hv _ hm
  have e:=fold_succ (fun (o x:Md)=>if x.2.2 < o.2.2 then x else o) (.slice (some ⟨pb,0,none⟩) pp.length 1,pp,pn) hx
  have e':bm (.slice (some ⟨pb,0,none⟩) pp.length 1,pp,pn) (L.take (j+1))=if x.2.2 < (bm (.slice (some ⟨pb,0,none⟩) pp.length 1,pp,pn) (L.take j)).2.2 then x else bm (.slice (some ⟨pb,0,none⟩) pp.length 1,pp,pn) (L.take j):=e
  clear e
  generalize bm (.slice (some ⟨pb,0,none⟩) pp.length 1,pp,pn) (L.take j)=o at *
  obtain ⟨ov,op,on⟩:=o
  obtain ⟨xv,xp,xn⟩:=x
  replace hob:ov=.slice (some ⟨ob,0,none⟩) op.length 1:=hob
  replace hxb:xv=.slice (some ⟨xb,0,none⟩) xp.length 1:=hxb
  subst hob; subst hxb
  have g2:rdO (hcells H' b2) (off2+j*2) (some 2)=some (.agg #[.slice (some ⟨xb,0,none⟩) xp.length 1,.int .i64 (xn:Nat)]):=f2.all H' hg
  have ia2:vv (.ia 2) [.slice (some ⟨b2,off2,none⟩) L.length mt,.int .i64 (j:Nat)]=some (.pointer (some ⟨b2,off2+j*2,none⟩)):=vv_iaN 2 b2 off2 j _ _ _ hj
  have hw1:=wrap_succ j (by omega)
  have k:=c107 (H:=H') xn on (sl_loc xb xp.length 1) (sl_loc ob op.length 1)
  by_cases hc:xn < on
  ·rw [if_pos hc] at e'
   rw [e'] at ih
   simp only [hc,decide_true] at k
   simp (maxDischargeDepth:=8) only [↓SD,SU,SV,SW,simprocAttr,Int.cast_ofNat_Int,small,resV, q106x0,t1,t4,t5,t12,t13,t14,s0,s1, s0,s1,lt_nat,hj,l1,l3,ia2,g2,k,sl_loc,hw1]
   exact ih _ ⟨_,_,rfl,(by simp [get_set,t1] <;> omega),(by simp [get_set,t4] <;> omega),(by simp [get_set,t5] <;> omega),(by simp [get_set,t12] <;> omega),(by simp [get_set,t13] <;> omega),(by simp [get_set,t14] <;> omega),by simp [sget_sset,s0],by simp [sget_sset,s1],hp⟩
  ·rw [if_neg hc] at e'
   rw [e'] at ih
   simp only [hc,decide_false] at k
   simp (maxDischargeDepth:=8) only [↓SD,SU,SV,SW,simprocAttr,Int.cast_ofNat_Int,small,resV, q106x0,t1,t4,t5,t12,t13,t14,s0,s1, s0,s1,lt_nat,hj,l1,l3,ia2,g2,k,sl_loc,hw1]
   exact ih _ ⟨_,_,rfl,(by simp [get_set,t1] <;> omega),(by simp [get_set,t4] <;> omega),(by simp [get_set,t5] <;> omega),(by simp [get_set,t12] <;> omega),(by simp [get_set,t13] <;> omega),(by simp [get_set,t14] <;> omega),by simp [sget_sset,s0],by simp [sget_sset,s1],hp⟩
 ·rintro c' s ⟨T,S,rfl,t1,t4,t5,t12,t13,t14,s0,s1,hp⟩
  rw [List.take_length] at s1
  obtain ⟨ob,hob⟩:=hv _ (bm_mem (L:=L) (p:=(.slice (some ⟨pb,0,none⟩) pp.length 1,pp,pn)))
  generalize bm (.slice (some ⟨pb,0,none⟩) pp.length 1,pp,pn) L=o at *
  obtain ⟨ov,op,on⟩:=o
  replace hob:ov=.slice (some ⟨ob,0,none⟩) op.length 1:=hob
  subst hob
  simp (maxDischargeDepth:=8) only [↓SD,SU,SV,SW,simprocAttr,Int.cast_ofNat_Int,small,resV, q106x0,t1,t4,t5,t12,t13,t14,s0,s1, s0,s1,lt_nat,Nat.lt_irrefl,l1,l3,sl_loc,R106,N106]
  rw [yes_some]
  rw [gc_ite (Nat.le_refl _)]
  split <;> rfl
end Go.Pi.L.Coa
set_option maxRecDepth 100000
namespace Go.Pi.L.Coa
open Go Go.Pi Go.Pi.L Go.Pi.Coa CM

def as59:PCode:=.reg [⟨some 10,.v .mv [.tmp 34],none⟩]
def bd59:PCode:=.blk 1 (.seq (.reg [⟨some 35,.v .mv [.tmp 10],none⟩,⟨some 36,.v (.bld [.slice none 0 0,.int .i64 0] [(0,1)]) [.tmp 35],none⟩,⟨some 11,.lalloc 121 (.agg #[.slice none 0 0,.int .i64 0]),none⟩,⟨none,.st 2 (.tmp 11) (.tmp 36),none⟩]) (.seq (.reg [⟨some 12,.v .mv [.const (.bool true)],none⟩]) (.seq (.seq (.reg [⟨some 37,.v .mv [.tmp 10],none⟩,⟨some 38,.v .len [.tmp 37],none⟩,⟨some 39,.v .mv [.const (.int .i64 0)],none⟩]) (.blk 2 (.loop q59x0))) (.seq (.reg [⟨some 69,.v .mv [.tmp 12],none⟩]) (.cond (.tmp 69) (.reg [⟨some 70,.ld none (.tmp 9),none⟩,⟨some 71,.ld (some 2) (.tmp 11),none⟩,⟨some 72,.lbs 121 2 [.slice none 0 0,.int .i64 0] 1 [(0,.tmp 71)],none⟩,⟨some 73,.app 121 2 (.tmp 70) (.tmp 72),none⟩,⟨none,.st 1 (.tmp 9) (.tmp 73),none⟩]) .skip)))))
theorem k_as59 {α:Type}{call:CallT}{F:Ex→St→Option α}{k:List It}{s:St}:mach call F (.code as59 :: k) none s=mach call F (.code (.reg [⟨some 10,.v .mv [.tmp 34],none⟩]) :: k) none s:=rfl
theorem k_bd59 {α:Type}{call:CallT}{F:Ex→St→Option α}{k:List It}{s:St}:mach call F (.code bd59 :: k) none s=mach call F (.code (.blk 1 (.seq (.reg [⟨some 35,.v .mv [.tmp 10],none⟩,⟨some 36,.v (.bld [.slice none 0 0,.int .i64 0] [(0,1)]) [.tmp 35],none⟩,⟨some 11,.lalloc 121 (.agg #[.slice none 0 0,.int .i64 0]),none⟩,⟨none,.st 2 (.tmp 11) (.tmp 36),none⟩]) (.seq (.reg [⟨some 12,.v .mv [.const (.bool true)],none⟩]) (.seq (.seq (.reg [⟨some 37,.v .mv [.tmp 10],none⟩,⟨some 38,.v .len [.tmp 37],none⟩,⟨some 39,.v .mv [.const (.int .i64 0)],none⟩]) (.blk 2 (.loop q59x0))) (.seq (.reg [⟨some 69,.v .mv [.tmp 12],none⟩]) (.cond (.tmp 69) (.reg [⟨some 70,.ld none (.tmp 9),none⟩,⟨some 71,.ld (some 2) (.tmp 11),none⟩,⟨some 72,.lbs 121 2 [.slice none 0 0,.int .i64 0] 1 [(0,.tmp 71)],none⟩,⟨some 73,.app 121 2 (.tmp 70) (.tmp 72),none⟩,⟨none,.st 1 (.tmp 9) (.tmp 73),none⟩]) .skip)))))) :: k) none s:=rfl
def GotM (A:Nat→Prop)(H:Heap)(ms:List Md):Prop :=
 ∀x∈ms,∃b,x.1=.slice (some ⟨b,0,none⟩) x.2.1.length 1∧¬A b∧Ints H (some ⟨b,0,none⟩) x.2.1.length x.2.1
structure MI (n1 b4 b5 b9 d l:Nat)(pa:Option Addr)(pl pk:Nat)(plan:List Int)(day:Int)(T:List Value)(acc:List (List Int))(A:Nat→Prop)(H:Heap):Prop where
 ex:∃a m ms,H[b9]?=some (bx (.slice a ms.length m))∧Col n1 A H 2 a ms.length m (cells encM ms)∧GotM A H ms∧ms.map (·.2.1)=acc.filter (fun p=>keeps day p plan)∧∀x∈ms,x.2.2=chg x.2.1 plan
 a9:¬A b9
 v4:H[b4]?=some (bx (.slice pa pl pk))
 a4:¬A b4
 v5:H[b5]?=some (bx (.int .i64 day))
 a5:¬A b5
 lp:H[l]?=some (lpB 83 T [34] as59 bd59 d .ready none)
 al:¬A l
 dd:H[d]?=some ⟨.dfr false,true,true,none⟩
 ad:¬A d
 pos:∀xs∈acc,xs.length=plan.length
 few:acc.length < 900
 pl:Ints H pa pl plan
 pA:∀b off,pa=some ⟨b,off,none⟩→¬A b
section
variable {n1 b4 b5 b9 d l:Nat} {pa:Option Addr} {pl pk:Nat} {plan:List Int} {day:Int} {T:List Value} {acc:List (List Int)} {A B:Nat→Prop} {H H':Heap}
theorem ms_len {ms:List Md}{plan:List Int}{day:Int}{acc:List (List Int)}(h:ms.map (·.2.1)=acc.filter (fun p=>keeps day p plan))(hp:∀xs∈acc,xs.length=plan.length):ms.length≤acc.length∧∀x∈ms,x.2.1.length=plan.length:=by
 refine ⟨?_,fun x hx=>?_⟩
 ·have:=congrArg List.length h
  rw [List.length_map] at this
  rw [this]; exact List.length_filter_le _ _
 ·have:x.2.1∈ms.map (·.2.1):=List.mem_map_of_mem hx
  rw [h] at this
  exact hp _ (List.mem_filter.1 this).1
theorem MI.own (h0:0 < plan.length)(h:MI n1 b4 b5 b9 d l pa pl pk plan day T acc A H)(c:Chg A H H'):MI n1 b4 b5 b9 d l pa pl pk plan day T acc (And' A H H') H':=by
 obtain ⟨a,m,ms,h1,h2,h3,h4,h5⟩:=h.ex
 have hpp:0 < pl:=by rw [←h.pl.len]; exact h0
 refine ⟨⟨a,m,ms,by rw [c.old _ (lt_of_get h1) h.a9]; exact h1,h2.own c,fun x hx=>?_,h4,h5⟩,not_and h.a9 (lt_of_get h1),by rw [c.old _ (lt_of_get h.v4) h.a4]; exact h.v4,not_and h.a4 (lt_of_get h.v4),by rw [c.old _ (lt_of_get h.v5) h.a5]; exact h.v5,not_and h.a5 (lt_of_get h.v5),by rw [c.old _ (lt_of_get h.lp) h.al]; exact h.lp,not_and h.al (lt_of_get h.lp),by rw [c.old _ (lt_of_get h.dd) h.ad]; exact h.dd,not_and h.ad (lt_of_get h.dd),h.pos,h.few,h.pl.chg c h.pA,fun b off e q=>q.elim (h.pA b off e) fun q=>?_⟩
 ·obtain ⟨b,g1,g2,g3⟩:=h3 x hx
  have hx0:0 < x.2.1.length:=by rw [(ms_len h4 h.pos).2 x hx]; exact h0
  refine ⟨b,g1,fun q=>q.elim g2 fun q=>?_,g3.chg c fun b' off e=>by cases e; exact g2⟩
  have:=Sl.inR g3 hx0 b 0 rfl
  omega
 ·have:=Sl.inR h.pl hpp b off e
  omega
theorem MI.less (h:MI n1 b4 b5 b9 d l pa pl pk plan day T acc A H)(hab:∀i,B i→A i):MI n1 b4 b5 b9 d l pa pl pk plan day T acc B H:=by
 obtain ⟨a,m,ms,h1,h2,h3,h4,h5⟩:=h.ex
 exact ⟨⟨a,m,ms,h1,h2.less hab,fun x hx=>by obtain ⟨b,g1,g2,g3⟩:=h3 x hx; exact ⟨b,g1,fun q=>g2 (hab _ q),g3⟩,h4,h5⟩,fun q=>h.a9 (hab _ q),h.v4,fun q=>h.a4 (hab _ q),h.v5,fun q=>h.a5 (hab _ q),h.lp,fun q=>h.al (hab _ q),h.dd,fun q=>h.ad (hab _ q),h.pos,h.few,h.pl,fun b off e q=>h.pA b off e (hab _ q)⟩
end
theorem keeps_next {day:Int}{p plan:List Int}{j:Nat}{x y:Int}(hx:p[j]?=some x)(hy:plan[j]?=some y):keeps day (p.take (j+1)) (plan.take (j+1))=(keeps day (p.take j) (plan.take j)&&if x=y then true else (decide (day≤y)&&decide (day≤x))):=by
 rw [keeps_succ day hx hy,keeps_fine]
end Go.Pi.L.Coa
set_option maxRecDepth 100000
namespace Go.Pi.L.Coa
open Go Go.Pi Go.Pi.L Go.Pi.Coa CM
theorem MI.step {n0 n1 b4 b5 b9 d l:Nat}{pa:Option Addr}{pl pk:Nat}{plan:List Int}{day:Int}{T:List Value}(hT4:get T 4=.pointer (some ⟨b4,0,none⟩))(hT5:get T 5=.pointer (some ⟨b5,0,none⟩))(hT9:get T 9=.pointer (some ⟨b9,0,none⟩))
  (h0:n0≤b9) (hl0:n0≤l) (hn1:n1≤l) (hbl:b9≠l) (h4l:b4≠l) (h5l:b5≠l) (h49:b4≠b9) (h59:b5≠b9) (hdl:d≠l) (hbd:b9≠d) (hpos:0 < plan.length) (hsm:plan.length < 1000)
  {acc:List (List Int)} {A:Nat→Prop} {H:Heap} {p:List Int} {b:Nat} (hpp:p.length=plan.length) (hac:acc.length < 890)
  (hI:MI n1 b4 b5 b9 d l pa pl pk plan day T acc A H) (hA:Lt A H) (hN:NF A H) (hF:Fam H) (hs:Sl H 1 encN (some ⟨b,0,none⟩) p.length p) (hb:¬A b) :
  ∃go H' lo,R (.yield l) [.slice (some ⟨b,0,none⟩) p.length 1] H=some ⟨.ok (.bool go),H',lo⟩∧n0≤lo∧lo≤l∧H.length≤H'.length∧(∀i,A i∨(i < n1∧i≠b9)→H'[i]?=H[i]?)∧NF A H'∧(go=true→MI n1 b4 b5 b9 d l pa pl pk plan day T (acc++[p]) A H')∧(go=false→False):=by
 obtain ⟨a,m,ms,h1,h3,h4,h5,h6⟩:=hI.ex
 have hml:=ms_len h5 hI.pos
 have hlt:=lt_of_get hI.lp
 have hlb:=lt_of_get h1
 obtain ⟨H1,hH1⟩:∃H1,H.set l { obj:=.loop 83 T [34] as59 bd59 d .busy none }=H1:=⟨_,rfl⟩
 have old1:∀i,i≠l→H1[i]?=H[i]?:=fun i hi=>by rw [←hH1,List.getElem?_set_ne (fun e=>hi e.symm)]
 have l1:H1[l]?=some (lpB 83 T [34] as59 bd59 d .busy none):=by rw [←hH1,List.getElem?_set_self hlt]; rfl
 have l1':H1[l]?=some ⟨.loop 83 T [34] as59 bd59 d .busy none,true,true,none⟩:=l1
 have len1:H1.length=H.length:=by rw [←hH1]; simp
 have fl:∀(i:Nat) b f,H[i]?=some b→b.fam=some f→H1[i]?=some b:=fun i b f hi hf=>by
  rw [old1 i (fun e=>by subst e; rw [hI.lp] at hi; cases hi; cases hf)]; exact hi
 have c1:=h3.same fl
 have nf1:NF A H1:=fun i b g hi hg ha=>by
  by_cases e:i=l
  ·subst e; rw [l1] at hi; cases hi; cases hg
  ·rw [old1 i e] at hi; exact hN i b g hi hg ha
 have hF1:Fam H1:=by rw [←hH1]; exact hF.set hI.lp rfl
 have g1:Grow H H1:=⟨by omega,fun {b c} hb=>by
  by_cases e:b=l
  ·subst e; simp [hcells,hI.lp,lpB] at hb
  ·unfold hcells at hb ⊢; rw [old1 b e]; exact hb⟩
 have hs':Ints H (some ⟨b,0,none⟩) p.length p:=hs
 have hs1:=Sl.grow hs' g1
 have hp1:=Sl.grow hI.pl g1
 have b4c:hcells H1 b4=some [.slice pa pl pk]:=by rw [hc_kept (old1 b4 h4l)]; exact bx_hc hI.v4
 have b5c:hcells H1 b5=some [.int .i64 day]:=by rw [hc_kept (old1 b5 h5l)]; exact bx_hc hI.v5
 have b9c:hcells H1 b9=some [.slice a ms.length m]:=by rw [hc_kept (old1 b9 hbl)]; exact bx_hc h1
 have hpl:pl=plan.length:=hI.pl.len.symm
 have l4:=hI.pl.isLoc pk
 have la:=c1.isLoc ms.length m
 obtain ⟨H2,q1,c2,g2,len2,a2,o2,f2,nf2,hF2⟩:=c1.app (hA.chg (by omega)) nf1 hF1 (by omega) (by decide) (by decide) (by omega) [.slice (some ⟨b,0,none⟩) p.length 1,.int .i64 (chg p plan:Nat)] rfl
 have b9':H2[b9]?=some ⟨.cells [.slice a ms.length m],true,true,none⟩:=f2 _ _ (by rw [old1 b9 hbl]; exact h1) rfl
 obtain ⟨H3,hH3⟩:∃H3,H2.set b9 { obj:=.cells [.slice (some ⟨H1.length,0,none⟩) (ms.length+1) 2] }=H3:=⟨_,rfl⟩
 have old3:∀i,i≠b9→H3[i]?=H2[i]?:=fun i hi=>by rw [←hH3,List.getElem?_set_ne (fun e=>hi e.symm)]
 have l3:H3[l]?=some (lpB 83 T [34] as59 bd59 d .busy none):=by rw [old3 l (fun e=>hbl e.symm)]; exact f2 _ _ l1 rfl
 have l3':H3[l]?=some ⟨.loop 83 T [34] as59 bd59 d .busy none,true,true,none⟩:=l3
 have h6':H[l]?=some ⟨.loop 83 T [34] as59 bd59 d .ready none,true,true,none⟩:=hI.lp
 have len3:H3.length=H2.length:=by rw [←hH3]; simp
 obtain ⟨Hn,hHn⟩:∃Hn,H1.set l { obj:=.loop 83 T [34] as59 bd59 d .ready none }=Hn:=⟨_,rfl⟩
 obtain ⟨H4,hH4⟩:∃H4,H3.set l { obj:=.loop 83 T [34] as59 bd59 d .ready none }=H4:=⟨_,rfl⟩
 have key:Yes (R (.yield l) [.slice (some ⟨b,0,none⟩) p.length 1] H) (fun o=>∃lo,o=⟨.ok (.bool true),if keeps day p plan=true then H4 else Hn,lo⟩∧n0≤lo∧lo≤l):=by
  refine run_yl h6' rfl rfl ?_
  simp (maxDischargeDepth:=8) only [↓SD,SU,SV,SW,simprocAttr,Int.cast_ofNat_Int,small,resV,k_as59,setParams,yA_n h6',hH1,k_bd59,hT4,hT5,hT9,sl_loc]
  refine loop_ind (G:=(Yes · (fun o:Out=>∃lo,o=⟨.ok (.bool true),if keeps day p plan=true then H4 else Hn,lo⟩∧n0≤lo∧lo≤l))) (fun j σ=>∃T S lim,σ=⟨T,S,[],H1,lim,83,true⟩∧get T 4=.pointer (some ⟨b4,0,none⟩)∧get T 5=.pointer (some ⟨b5,0,none⟩)∧get T 9=.pointer (some ⟨b9,0,none⟩)∧get T 11=.pointer (some ⟨11,0,some 1⟩)∧get T 12=.bool (keeps day (p.take j) (plan.take j))∧get T 37=.slice (some ⟨b,0,none⟩) p.length 1∧get T 38=.int .i64 p.length∧get T 39=.int .i64 (j:Nat)∧sget S 11=(1,.cells [.slice (some ⟨b,0,none⟩) p.length 1,.int .i64 (chg (p.take j) (plan.take j):Nat)])∧n0≤lim) p.length ?_ ?_ 0 _ (Nat.zero_le _) ⟨_,_,_,rfl,by simp [get_set,hT4],by simp [get_set,hT5],by simp [get_set,hT9],by simp [get_set],by simp [get_set,keeps],by simp [get_set],by simp [get_set],by simp [get_set],rfl,by omega⟩
  ·rintro c' j σ hj ⟨T,S,lim,rfl,t4,t5,t9,t11,t12,t37,t38,t39,s0,hlim⟩ ih
   have hj2:j < pl:=by omega
   obtain ⟨b1,off1,x,hb1,hx,f0⟩:=hs1.i1 hj
   cases hb1
   obtain ⟨b2,off2,y,rfl,hy,e0⟩:=hp1.i1 hj2
   have f0':=f0 H1 (Grow.refl _)
   rw [Nat.zero_add] at f0'
   have e0':=e0 H1 (Grow.refl _)
   have hw1:=wrap_succ j (by omega)
   have ek:=keeps_next (day:=day) hx hy
   have ec:=chg_succ hx hy
   have hcl:=chg_le (p.take j) (plan.take j)
   rw [List.length_take] at hcl
   have hw2:=wrap_succ (chg (p.take j) (plan.take j)) (by omega)
   by_cases c1:x=y
   ·rw [if_pos c1,Nat.add_zero] at ec
    rw [if_pos c1,Bool.and_true] at ek
    rw [c1] at f0'
    simp (maxDischargeDepth:=8) only [↓SD,SU,SV,SW,simprocAttr,Int.cast_ofNat_Int,small,resV, q59x0,t4,t5,t9,t11,t12,t37,t38,t39,s0,lt_nat,hj,hj2,l4,b4c,f0',e0',hw1,sl_loc]
    exact ih _ ⟨_,_,_,rfl,by simp [get_set,t4],by simp [get_set,t5],by simp [get_set,t9],by simp [get_set,t11],by simp [get_set,t12,ek],by simp [get_set,t37],by simp [get_set,t38],by simp [get_set],by simp [s0,ec],hlim⟩
   ·rw [if_neg c1] at ec ek
    cases ck:keeps day (p.take j) (plan.take j) with
    | false =>
     rw [ck,Bool.false_and] at ek
     rw [ck] at t12
     simp (maxDischargeDepth:=8) only [↓SD,SU,SV,SW,simprocAttr,Int.cast_ofNat_Int,small,resV, q59x0,t4,t5,t9,t11,t12,t37,t38,t39,s0,lt_nat,hj,hj2,l4,b4c,b5c,f0',e0',hw1,hw2,c1,sl_loc]
     exact ih _ ⟨_,_,_,rfl,by simp [get_set,t4],by simp [get_set,t5],by simp [get_set,t9],by simp [get_set,t11],by simp [get_set,ek],by simp [get_set,t37],by simp [get_set,t38],by simp [get_set],by simp [sget_sset,s0,ec,splice],by omega⟩
    | true =>
     rw [ck,Bool.true_and] at ek
     rw [ck] at t12
     by_cases c2:day≤y
     ·by_cases c3:day≤x
      ·simp only [c2,c3,decide_true,Bool.and_self] at ek
       simp (maxDischargeDepth:=8) only [↓SD,SU,SV,SW,simprocAttr,Int.cast_ofNat_Int,small,resV, q59x0,t4,t5,t9,t11,t12,t37,t38,t39,s0,lt_nat,hj,hj2,l4,b4c,b5c,f0',e0',hw1,hw2,c1,c2,c3,sl_loc]
       exact ih _ ⟨_,_,_,rfl,by simp [get_set,t4],by simp [get_set,t5],by simp [get_set,t9],by simp [get_set,t11],by simp [get_set,ek],by simp [get_set,t37],by simp [get_set,t38],by simp [get_set],by simp [sget_sset,s0,ec,splice],by omega⟩
      ·simp only [c2,c3,decide_true,decide_false,Bool.and_false] at ek
       simp (maxDischargeDepth:=8) only [↓SD,SU,SV,SW,simprocAttr,Int.cast_ofNat_Int,small,resV, q59x0,t4,t5,t9,t11,t12,t37,t38,t39,s0,lt_nat,hj,hj2,l4,b4c,b5c,f0',e0',hw1,hw2,c1,c2,c3,sl_loc]
       exact ih _ ⟨_,_,_,rfl,by simp [get_set,t4],by simp [get_set,t5],by simp [get_set,t9],by simp [get_set,t11],by simp [get_set,ek],by simp [get_set,t37],by simp [get_set,t38],by simp [get_set],by simp [sget_sset,s0,ec,splice],by omega⟩
     ·simp only [c2,decide_false,Bool.false_and] at ek
      simp (maxDischargeDepth:=8) only [↓SD,SU,SV,SW,simprocAttr,Int.cast_ofNat_Int,small,resV, q59x0,t4,t5,t9,t11,t12,t37,t38,t39,s0,lt_nat,hj,hj2,l4,b4c,b5c,f0',e0',hw1,hw2,c1,c2,sl_loc]
      exact ih _ ⟨_,_,_,rfl,by simp [get_set,t4],by simp [get_set,t5],by simp [get_set,t9],by simp [get_set,t11],by simp [get_set,ek],by simp [get_set,t37],by simp [get_set,t38],by simp [get_set],by simp [sget_sset,s0,ec,splice],by omega⟩
  ·rintro c' σ ⟨T,S,lim,rfl,t4,t5,t9,t11,t12,t37,t38,t39,s0,hlim⟩
   rw [List.take_of_length_le (Nat.le_refl _),List.take_of_length_le (by omega)] at t12 s0
   cases ck:keeps day p plan with
   | false =>
    rw [ck] at t12
    simp only [Bool.false_eq_true,if_false]
    simp (maxDischargeDepth:=8) only [↓SD,SU,SV,SW,simprocAttr,Int.cast_ofNat_Int,small,resV, q59x0,t4,t5,t9,t11,t12,t37,t38,t39,s0,lt_nat,Nat.lt_irrefl,x_blk' 2 3 (by decide),yE_n l1',hHn]
    rw [yes_some]
    exact ⟨_,rfl,by omega,by omega⟩
   | true =>
    rw [ck] at t12
    simp only [if_true]
    simp (maxDischargeDepth:=8) only [↓SD,SU,SV,SW,simprocAttr,Int.cast_ofNat_Int,small,resV, q59x0,t4,t5,t9,t11,t12,t37,t38,t39,s0,lt_nat,Nat.lt_irrefl,b9c,la,q1,b9',stH_ok,hH3,sl_loc,yE_n l3',hH4]
    rw [yes_some]
    exact ⟨_,rfl,by omega,by omega⟩
 obtain ⟨o,ho,lo,rfl,w1,w2⟩:=key
 have filt:∀{q:Bool},keeps day p plan=q→(acc++[p]).filter (fun p=>keeps day p plan)=acc.filter (fun p=>keeps day p plan)++if q=true then [p] else []:=fun {q} h=>by
  rw [List.filter_append]; cases q <;> simp [h]
 have posn:∀xs∈acc++[p],xs.length=plan.length:=fun xs hx=>by
  rcases List.mem_append.1 hx with hx | hx
  ·exact hI.pos xs hx
  ·rw [List.mem_singleton.1 hx]; exact hpp
 have fewn:(acc++[p]).length < 900:=by rw [List.length_append,List.length_singleton]; omega
 cases ck:keeps day p plan with
 | false =>
  rw [ck] at ho
  simp only [Bool.false_eq_true,if_false] at ho
  have oldn:∀i,i≠l→Hn[i]?=H[i]?:=fun i hi=>by rw [←hHn,List.getElem?_set_ne (fun e=>hi e.symm),old1 i hi]
  have ln:Hn[l]?=some (lpB 83 T [34] as59 bd59 d .ready none):=by rw [←hHn,List.getElem?_set_self (by omega)]; rfl
  have hcn:∀{i:Nat} {c:List Value},hcells H i=some c→hcells Hn i=some c:=fun {i c} h=>by
   rw [hc_kept (oldn i (fun e=>by subst e; simp [hcells,hI.lp,lpB] at h))]; exact h
  refine ⟨true,Hn,lo,ho,w1,w2,by rw [←hHn,List.length_set]; omega,fun i hi=>?_,fun i b g hi hg ha=>?_,fun _=>?_,fun h=>by cases h⟩
  ·rcases hi with hi | ⟨hi,hi9⟩
   ·exact oldn i (fun e=>hI.al (by rw [←e]; exact hi))
   ·exact oldn i (by omega)
  ·by_cases e1:i=l
   ·subst e1; rw [ln] at hi; cases hi; cases hg
   ·rw [oldn i e1] at hi; exact hN i b g hi hg ha
  ·refine ⟨⟨a,m,ms,by rw [oldn b9 hbl]; exact h1,h3.same fun i b f hi hf=>?_,fun x hx=>?_,by rw [filt ck]; simpa using h5,h6⟩,hI.a9,by rw [oldn b4 h4l]; exact hI.v4,hI.a4,by rw [oldn b5 h5l]; exact hI.v5,hI.a5,ln,hI.al,by rw [oldn d hdl]; exact hI.dd,hI.ad,posn,fewn,?_,hI.pA⟩
   ·rw [oldn i (fun e=>by subst e; rw [hI.lp] at hi; cases hi; cases hf)]; exact hi
   ·obtain ⟨bj,k1,k2,k3⟩:=h4 x hx
    exact ⟨bj,k1,k2,Sl.mv k3 fun c hc=>hcn hc⟩
   ·exact Sl.grow hI.pl ⟨by rw [←hHn,List.length_set]; omega,fun hc=>hcn hc⟩
 | true =>
  rw [ck] at ho
  simp only [if_true] at ho
  have old4:∀i,i≠l→i≠b9→H4[i]?=H2[i]?:=fun i h1 h2=>by rw [←hH4,List.getElem?_set_ne (fun e=>h1 e.symm),old3 i h2]
  have l4':H4[l]?=some (lpB 83 T [34] as59 bd59 d .ready none):=by rw [←hH4,List.getElem?_set_self (by omega)]; rfl
  have b94:H4[b9]?=some (bx (.slice (some ⟨H1.length,0,none⟩) (ms.length+1) 2)):=by rw [←hH4,List.getElem?_set_ne (fun e=>hbl e.symm),←hH3,List.getElem?_set_self (by omega)]; rfl
  have b2f:H2[l]?=some (lpB 83 T [34] as59 bd59 d .busy none):=f2 _ _ l1 rfl
  have hc4:∀{i:Nat} {c:List Value},hcells H i=some c→i≠b9→hcells H4 i=some c:=fun {i c} h hi=>by
   have hil:i≠l:=fun e=>by subst e; simp [hcells,hI.lp,lpB] at h
   rw [hc_kept (old4 i hil hi)]; exact g2.hc (g1.hc h)
  have fam4:∀(i:Nat) b f,H2[i]?=some b→b.fam=some f→H4[i]?=some b:=fun i b f hi hf=>by
   rw [old4 i (fun e=>by subst e; rw [b2f] at hi; cases hi; cases hf) (fun e=>by subst e; rw [b9'] at hi; cases hi; cases hf)]; exact hi
  have hcb9:=bx_hc h1
  have plain:∀{i:Nat} {bk:Blk},H[i]?=some bk→bk.fam=none→i≠l→i≠b9→H4[i]?=some bk:=fun {i bk} hi hf e1 e2=>by
   rw [old4 i e1 e2]; exact f2 _ _ (by rw [old1 i e1]; exact hi) hf
  refine ⟨true,H4,lo,ho,w1,w2,by rw [←hH4,List.length_set]; omega,fun i hi=>?_,fun i b g hi hg ha=>?_,fun _=>?_,fun h=>by cases h⟩
  ·rcases hi with hi | ⟨hi,hi9⟩
   ·rw [old4 i (fun e=>hI.al (by rw [←e]; exact hi)) (fun e=>hI.a9 (by rw [←e]; exact hi)),a2 i hi,old1 i (fun e=>hI.al (by rw [←e]; exact hi))]
   ·rw [old4 i (by omega) hi9,o2 i hi,old1 i (by omega)]
  ·by_cases e1:i=l
   ·subst e1; rw [l4'] at hi; cases hi; cases hg
   ·by_cases e2:i=b9
    ·subst e2; rw [b94] at hi; cases hi; cases hg
    ·rw [old4 i e1 e2] at hi; exact nf2 i b g hi hg ha
  ·have ecs:cells encM ms++[.slice (some ⟨b,0,none⟩) p.length 1,.int .i64 (chg p plan:Nat)]=cells encM (ms++[(.slice (some ⟨b,0,none⟩) p.length 1,p,chg p plan)]):=by rw [cells_app]; rfl
   rw [ecs] at c2
   have el:ms.length+1=(ms++[((.slice (some ⟨b,0,none⟩) p.length 1,p,chg p plan):Md)]).length:=by simp
   rw [el] at c2 b94
   refine ⟨⟨some ⟨H1.length,0,none⟩,2,ms++[(.slice (some ⟨b,0,none⟩) p.length 1,p,chg p plan)],b94,c2.same fam4,fun x hx=>?_,by rw [filt ck,List.map_append,h5]; rfl,fun x hx=>?_⟩,hI.a9,plain hI.v4 rfl h4l h49,hI.a4,plain hI.v5 rfl h5l h59,hI.a5,l4',hI.al,plain hI.dd rfl hdl (fun e=>hbd e.symm),hI.ad,posn,fewn,?_,hI.pA⟩
   ·rcases List.mem_append.1 hx with hx | hx
    ·obtain ⟨bj,k1,k2,k3⟩:=h4 x hx
     exact ⟨bj,k1,k2,Sl.mv k3 fun c hc=>hc4 hc (ints_ne k3 (by rw [hml.2 x hx]; exact hpos) hcb9)⟩
    ·rw [List.mem_singleton.1 hx]
     exact ⟨b,rfl,hb,Sl.mv hs' fun c hc=>hc4 hc (ints_ne hs' (by omega) hcb9)⟩
   ·rcases List.mem_append.1 hx with hx | hx
    ·exact h6 x hx
    ·rw [List.mem_singleton.1 hx]
   ·obtain ⟨bp,offp,xp,rfl,_,_⟩:=hI.pl.i1 (j:=0) (by omega)
    refine Sl.mv hI.pl fun c hc=>hc4 hc fun e=>?_
    subst e
    obtain ⟨b',off,c',e1,e2,e3⟩:=Sl.rd hI.pl 0 plan[0] (List.getElem?_eq_getElem hpos)
    cases e1
    rw [hcb9] at e2; cases e2
    cases offp with
    | zero=>simp [encI] at e3
    | succ o=>simp [encI] at e3
end Go.Pi.L.Coa
set_option maxRecDepth 100000
namespace Go.Pi.L
open Go Go.Pi
def QP3 {β:Type}(H:Heap)(k:Nat)(enc:β→List Value)(xs:List β)(y z:Value)(o:Out):Prop :=
 ∃a m H1 lo,o=⟨.ok (.tuple #[.slice a xs.length m,y,z]),H1,lo⟩∧Up H H1∧H.length≤lo∧Sl H1 k enc a xs.length xs
theorem gc_sp3 {β:Type}{H H1:Heap}{k m lo:Nat}{enc:β→List Value}{a:Option Addr}{l:Nat}{xs:List β}{y z:Value}(hs:Sl H1 k enc a l xs)(hu:Up H H1)(h:H.length≤lo):QP3 H k enc xs y z (gcR H (.ok (.tuple #[.slice a l m,y,z])) H1 lo):=by
 obtain rfl:=hs.len
 rw [gc_ite h]
 split
 ·rename_i hf
  have hf':flat 3 (.slice a xs.length m)=true∧flat 3 y=true∧flat 3 z=true:=by simpa [flat] using hf
  exact ⟨a,m,H,H.length,rfl,Up.refl H,Nat.le_refl _,hs.flat hf'.1⟩
 ·exact ⟨a,m,H1,lo,rfl,hu,h,hs⟩
end Go.Pi.L
namespace Go.Pi.L.Coa
open Go Go.Pi Go.Pi.L Go.Pi.Coa CM

theorem ints_ne' {H:Heap}{b off l b2:Nat}{xs:List Int}{a':Option Addr}{l' m':Nat}(h:Ints H (some ⟨b,off,none⟩) l xs)(h0:0 < l)(h2:hcells H b2=some [.slice a' l' m']):b≠b2:=by
 intro e
 subst e
 obtain ⟨b',off',c,e1,e2,e3⟩:=Sl.rd h 0 (xs[0]'(by have:=h.len; omega)) (List.getElem?_eq_getElem _)
 cases e1
 rw [h2] at e2; cases e2
 cases off with
 | zero=>simp [encI] at e3
 | succ o=>simp [encI] at e3
theorem spans_ne {H:Heap}{b off l b2:Nat}{xs:List (Int×Int)}{a':Option Addr}{l' m':Nat}(h:Spans H (some ⟨b,off,none⟩) l xs)(h0:0 < l)(h2:hcells H b2=some [.slice a' l' m']):b≠b2:=by
 intro e
 subst e
 obtain ⟨b',off',c,e1,e2,e3⟩:=Sl.rd h 0 (xs[0]'(by have:=h.len; omega)) (List.getElem?_eq_getElem _)
 cases e1
 rw [h2] at e2; cases e2
 cases off with
 | zero=>simp [encS] at e3
 | succ o=>simp [encS] at e3
theorem _root_.Go.Pi.L.Col.sl {β:Type}{n0:Nat}{A:Nat→Prop}{H:Heap}{k:Nat}{enc:β→List Value}{a:Option Addr}{l m:Nat}{xs:List β}(h:Col n0 A H k a l m (cells enc xs))(hk:∀x,(enc x).length=k)(hk0:0 < k):Sl H k enc a l xs:=by
 have hl:xs.length=l:=by have:=h.len; rw [cells_len hk] at this; exact Nat.eq_of_mul_eq_mul_right hk0 this
 refine ⟨hl,?_,fun j x hx=>?_⟩
 ·rcases h.ok with ⟨h,_⟩ | ⟨b,f,h1,_⟩
  ·exact .inl h
  ·exact .inr ⟨b,0,h1⟩
 ·have hj:=(List.getElem?_eq_some_iff.1 hx).1
  rcases h.ok with ⟨_,h1,_⟩ | ⟨b,f,h1,_,_,_,_,_,h7⟩
  ·omega
  ·exact ⟨b,0,cells enc xs,h1,by simp [hcells,h7],by rw [Nat.zero_add]; exact cells_get hk hx⟩
def OkM (n:Nat)(L:List (List Int)):Prop:=(∀xs∈L,xs.length=n)∧L.length < 890
theorem okM_all {s:Sheet}(hS:ShFine s){n:Nat}(hn:n=s.coats.length):∀L1 L2,allP s=L1++L2→OkM n L1:=fun L1 L2 h=>by
 refine ⟨fun xs hx=>?_,?_⟩
 ·have hm:xs∈allP s:=by rw [h]; exact List.mem_append_left _ hx
  rw [hn]; exact (plan_of hS ((mem_allP hS).1 hm).1).len
 ·have:=allP_len hS
  rw [h,List.length_append] at this
  omega
theorem consM {n0 n1 b4 b5 b9 d l:Nat}{pa:Option Addr}{pl pk:Nat}{plan:List Int}{day:Int}{T:List Value}(hT4:get T 4=.pointer (some ⟨b4,0,none⟩))(hT5:get T 5=.pointer (some ⟨b5,0,none⟩))(hT9:get T 9=.pointer (some ⟨b9,0,none⟩))
  (h0:n0≤b9) (hl0:n0≤l) (hn1:n1≤l) (hbl:b9≠l) (h4l:b4≠l) (h5l:b5≠l) (h49:b4≠b9) (h59:b5≠b9) (hdl:d≠l) (hbd:b9≠d) (hpos:0 < plan.length) (hsm:plan.length < 1000) :
  Cons PP primsL l n0 (fun i=>i < n1∧i≠b9) (OkM plan.length) (MI n1 b4 b5 b9 d l pa pl pk plan day T) (fun _ _ _=>False) :=
 ⟨fun _ _ _ _ h c=>h.own hpos c,fun _ _ _ _ h g=>h.less g,fun _ _ _ _ h _=>h,fun acc A H p b hok hI hA hN hF hs hb =>
  MI.step hT4 hT5 hT9 h0 hl0 hn1 hbl h4l h5l h49 h59 hdl hbd hpos hsm (hok.1 p (by simp)) (by have:=hok.2; simp at this; omega) hI hA hN hF hs hb⟩
theorem c59 {H:Heap}{r:ShR}{s:Sheet}(hs:ShOk H r s)(hd:Small r){pa:Option Addr}{pl pk:Nat}{plan:List Int}(hq:Ints H pa pl plan)(hpl:pl < 1000)(day:Int):∀H',Grow H H'→Fam H'→Yes (R (.func 59) [.agg #[.slice r.da r.dl r.dk,.slice r.wa r.wl r.wk,.slice r.ca r.cl r.ck],.slice pa pl pk,.int .i64 day] H') (fun o =>
  if isSheet s=true∧isPlan s plan=true∧isDay s day=true then (match kept s plan day with | []=>o=⟨.ok (.tuple #[.slice none 0 0,.int .i64 0,.int .i64 5]),H',H'.length⟩ | p :: L=>QP3 H' 1 encI (fewest plan p L) (.int .i64 (chg (fewest plan p L) plan:Nat)) (.int .i64 0) o) else o=⟨.ok (.tuple #[.slice none 0 0,.int .i64 0,.int .i64 2]),H',H'.length⟩):=by
 intro H' hg hF
 refine run_y (pr 59) P59 (by simp [p59]) rfl ?_
 obtain ⟨H0,hH0⟩:∃H0,H'++[({ obj:=.cells [.slice pa pl pk] }:Blk)]=H0:=⟨_,rfl⟩
 obtain ⟨Hx,hHx⟩:∃Hx,H0++[({ obj:=.cells [.int .i64 day] }:Blk)]=Hx:=⟨_,rfl⟩
 have u0:Up H' H0:=by rw [←hH0]; exact (Up.refl H').app
 have ux:Up H0 Hx:=by rw [←hHx]; exact (Up.refl H0).app
 have len0:H0.length=H'.length+1:=by rw [←hH0]; simp
 have lenx:Hx.length=H'.length+2:=by rw [←hHx]; simp [len0]
 have c4:hcells H0 H'.length=some [.slice pa pl pk]:=by rw [←hH0]; exact hc_new _ _ _
 have c5:hcells Hx H0.length=some [.int .i64 day]:=by rw [←hHx]; exact hc_new _ _ _
 have c4x:=ux.grow.hc c4
 have hgx:=hg.trans (u0.trans ux).grow
 have k75:=c75 hs hd Hx hgx
 have k76:=c76 (kk:=pk) hs hd hq (by omega) Hx hgx
 have k104:=c104 hs hd.d day Hx hgx
 have l1:=hs.d.isLoc r.dk
 have l2:=hs.w.isLoc r.wk
 have l3:=hs.c.isLoc r.ck
 have l4:=hq.isLoc pk
 have n0:H'.length≤H0.length:=by omega
 have nx:H'.length≤Hx.length:=by omega
 cases e1:isSheet s with
 | false =>
  simp only [Bool.false_eq_true,false_and,if_false]
  simp (maxDischargeDepth:=8) only [↓SD,SU,SV,SW,simprocAttr,Int.cast_ofNat_Int,small,resV, B59,R59,N59,b59, l1,l2,l3,l4,hH0,hHx,c4x,c5,k75,e1,n0,nx,R59,N59]
  rw [yes_some]
 | true =>
 cases e2:isPlan s plan with
 | false =>
  simp only [Bool.false_eq_true,false_and,and_false,if_false]
  simp (maxDischargeDepth:=8) only [↓SD,SU,SV,SW,simprocAttr,Int.cast_ofNat_Int,small,resV, B59,R59,N59,b59, l1,l2,l3,l4,hH0,hHx,c4x,c5,k75,e1,k76,e2,n0,nx,R59,N59]
  rw [yes_some]
 | true =>
 cases e3:isDay s day with
 | false =>
  simp only [Bool.false_eq_true,and_false,if_false]
  simp (maxDischargeDepth:=8) only [↓SD,SU,SV,SW,simprocAttr,Int.cast_ofNat_Int,small,resV, B59,R59,N59,b59, l1,l2,l3,l4,hH0,hHx,c4x,c5,k75,e1,k76,e2,k104,e3,n0,nx,R59,N59]
  rw [yes_some]
 | true =>
 simp only [and_self,if_true]
 have hS:=fine_of e1
 have hP:=plan_of hS e2
 have hpos:0 < plan.length:=by have:=hP.len; have:=hS.c1; omega
 have hpl':pl=plan.length:=hq.len.symm
 have hdl:r.dl=s.dry.length:=hs.d.len.symm
 obtain ⟨Ha,hHa⟩:∃Ha,Hx++[({ obj:=.cells [.slice none 0 0] }:Blk)]=Ha:=⟨_,rfl⟩
 have ua:Up Hx Ha:=by rw [←hHa]; exact (Up.refl Hx).app
 have lena:Ha.length=H'.length+3:=by rw [←hHa]; simp [lenx]
 have hFa:Fam Ha:=by
  rw [←hHa,←hHx,←hH0]
  exact ((hF.append (fun f h=>by cases h)).append (fun f h=>by cases h)).append (fun f h=>by cases h)
 have hga:=hgx.trans ua.grow
 obtain ⟨o,ho,la,lc,ha,hc,H1,lo,rfl,hu,hlo,i1,i2⟩:=c78 hs hd hS Ha hga
 have hg1:=hga.trans hu.grow
 have hF1:Fam H1:=famR ho hFa
 rw [hdl] at i1 i2
 have hp:SpOk H1 r ⟨la,_,lc,ha,_,hc⟩ s:=⟨hs.grow hg1,i1,i2⟩
 have k105:=c105 hp H1
 obtain ⟨H2,hH2⟩:∃H2,H1++[({ obj:=.cells (shopC r ⟨la,s.dry.length+1,lc,ha,s.dry.length+1,hc⟩) }:Blk)]=H2:=⟨_,rfl⟩
 rw [hH2] at k105
 have u2:Up H1 H2:=by rw [←hH2]; exact (Up.refl H1).app
 have hF2:Fam H2:=famR k105 hF1
 have hx:hcells H2 H1.length=some (shopC r ⟨la,s.dry.length+1,lc,ha,s.dry.length+1,hc⟩):=by rw [←hH2]; exact hc_new _ _ _
 have l6:=i1.isLoc lc
 have l7:=i2.isLoc hc
 have m1:=hu.len
 have m2:H2.length=H1.length+1:=by rw [←hH2]; simp
 have m4:Ha.length≤lo:=hlo
 have c4a:=ua.grow.hc c4x
 have c5a:=ua.grow.hc c5
 rw [←hdl] at l6 l7 k105
 have hp2:=hp.grow u2.grow
 have hsd:=hs
 have hrd:=hd
 obtain ⟨da,dl,dk,wa,wl,wk,ca,cl,ck⟩:=r
 have hD:Spans H da dl s.dry:=hs.d
 have hW:Ints H wa wl s.work:=hs.w
 have hC:Spans H ca cl s.coats:=hs.c
 have nD:dl < 1000000:=hd.d
 have nW:wl < 1000000:=hd.w
 have nC:cl < 1000000:=hd.c
 have l1:=hD.isLoc dk
 have l2:=hW.isLoc wk
 have l3:=hC.isLoc ck
 simp only at ho k75 k76 k104 k105 l6 l7 hdl
 simp (maxDischargeDepth:=8) only [↓SD,SU,SV,SW,simprocAttr,Int.cast_ofNat_Int,small,resV, B59,R59,N59,b59, l1,l2,l3,l4,l6,l7,hH0,hHx,c4x,c5,k75,e1,k76,e2,k104,e3,hHa,app_get,app_set,stH_ok,ho,k105,k_rf,rfA_some,fa_clo1,n0,nx]
 generalize hT:List.map deloc _=T
 generalize hHl:H2++[({ obj:=.dfr false }:Blk)]++[_]=Hl
 have ul:Up H2 Hl:=by rw [←hHl]; exact (Up.refl H2).app.app
 have lenl:Hl.length=H2.length+2:=by rw [←hHl]; simp
 have bd:Hl[H2.length]?=some ⟨.dfr false,true,true,none⟩:=by rw [←hHl,List.append_assoc,List.getElem?_append_right (Nat.le_refl _)]; simp
 have bl:Hl[H2.length+1]?=some (lpB 83 T [34] as59 bd59 H2.length .ready none):=by rw [←hHl,List.append_assoc,List.getElem?_append_right (by omega),Nat.add_sub_cancel_left]; rfl
 have b9:Hl[Hx.length]?=some (bx (.slice none 0 0)):=by rw [ul.old _ (by omega),u2.old _ (by omega),hu.old _ (by omega),←hHa]; exact app_get
 have b5:Hl[H0.length]?=some (bx (.int .i64 day)):=by rw [ul.old _ (by omega),u2.old _ (by omega),hu.old _ (by omega),ua.old _ (by omega),←hHx]; exact app_get
 have b4:Hl[H'.length]?=some (bx (.slice pa pl pk)):=by rw [ul.old _ (by omega),u2.old _ (by omega),hu.old _ (by omega),ua.old _ (by omega),ux.old _ (by omega),←hH0]; exact app_get
 have hFl:Fam Hl:=by rw [←hHl]; exact (hF2.append (fun f h=>by cases h)).append (fun f h=>by cases h)
 have tT4:get T 4=.pointer (some ⟨H'.length,0,none⟩):=by rw [←hT]; rfl
 have tT5:get T 5=.pointer (some ⟨H0.length,0,none⟩):=by rw [←hT]; rfl
 have tT9:get T 9=.pointer (some ⟨Hx.length,0,none⟩):=by rw [←hT]; rfl
 have ua2:Up Ha H2:=hu.trans u2
 have uH:Up H' Hl:=(((u0.trans ux).trans ua).trans ua2).trans ul
 have gl:Grow H Hl:=hg.trans uH.grow
 have glen:=hg.len
 have hI:MI H2.length H'.length H0.length Hx.length H2.length (H2.length+1) pa pl pk plan day T [] (fun _=>False) Hl :=
  ⟨⟨none,0,[],b9,Col.nil _ _ _ _,fun x hx=>by (cases hx),rfl,fun x hx=>by (cases hx)⟩,id,b4,id,b5,id,bl,id,bd,id,fun xs h=>by (cases h),by simp,Sl.grow hq gl,fun _ _ _ h=>h⟩
 have hx9:hcells Hl Hx.length=some [.slice none 0 0]:=bx_hc b9
 have inI:∀{a:Option Addr} {l:Nat} {xs:List Int},Ints H2 a l xs→InR (fun i=>i < H2.length∧i≠Hx.length) a l:=fun {a l xs} h h0 b off e=>by
  subst e
  exact ⟨Sl.inR h h0 b off rfl,ints_ne' (Sl.grow h ul.grow) h0 hx9⟩
 have inS:∀{a:Option Addr} {l:Nat} {xs:List (Int×Int)},Spans H2 a l xs→InR (fun i=>i < H2.length∧i≠Hx.length) a l:=fun {a l xs} h h0 b off e=>by
  subst e
  exact ⟨Sl.inR h h0 b off rfl,spans_ne (Sl.grow h ul.grow) h0 hx9⟩
 obtain ⟨o,ho2,H3,lo3,A',rfl,w1,w2,w3,w4,w5⟩:=c135 (Rd:=fun i=>i < H2.length∧i≠Hx.length) (n0:=H'.length) hS (consM (n0:=H'.length) (n1:=H2.length) tT4 tT5 tT9 (by omega) (by omega) (by omega) (by omega) (by omega) (by omega) (by omega) (by omega) (by omega) (by omega) hpos (by omega)) (okM_all hS hP.len) hFl hI (by omega) (by omega) (fun i hi=>by omega) ⟨by omega,by omega⟩ (ul.grow.hc hx) (hp2.grow ul.grow) ⟨inS hp2.sh.d,inI hp2.sh.w,inS hp2.sh.c,inI hp2.lo,inI hp2.hi⟩
 have hM:=w5.resolve_right (fun ⟨_,_,_,_,_,h⟩=>h)
 obtain ⟨a,m,ms,q1,q2,q3,q4,q5⟩:=hM.ex
 have lo':H'.length≤lo3:=w1
 obtain ⟨H4,hH4⟩:∃H4,H3.set (H2.length+1) { obj:=.loop 83 T [34] as59 bd59 H2.length .exhausted none }=H4:=⟨_,rfl⟩
 obtain ⟨H5,hH5⟩:∃H5,H4.set H2.length { obj:=.dfr true }=H5:=⟨_,rfl⟩
 have old:∀i,i≠H2.length+1→i≠H2.length→H5[i]?=H3[i]?:=fun i e1 e2=>by rw [←hH5,List.getElem?_set_ne (fun e=>e2 e.symm),←hH4,List.getElem?_set_ne (fun e=>e1 e.symm)]
 have old4:∀i,i≠H2.length+1→H4[i]?=H3[i]?:=fun i e1=>by rw [←hH4,List.getElem?_set_ne (fun e=>e1 e.symm)]
 have d2:H4[H2.length]?=some ⟨.dfr false,true,true,none⟩:=by rw [old4 _ (by omega)]; exact hM.dd
 have bk:hcells H4 Hx.length=some [.slice a ms.length m]:=by rw [hc_kept (old4 _ (by omega))]; exact bx_hc q1
 have h6':H3[H2.length+1]?=some ⟨.loop 83 T [34] as59 bd59 H2.length .ready none,true,true,none⟩:=hM.lp
 have lA:=q2.isLoc ms.length m
 have len4:H4.length=H3.length:=by rw [←hH4]; simp
 have len5:H5.length=H3.length:=by rw [←hH5,←hH4]; simp
 have g4:Grow H3 H4:=⟨by omega,fun {i c} h=>by rw [hc_kept (old4 i (fun e=>by subst e; simp [hcells,hM.lp,lpB] at h))]; exact h⟩
 have g5:Grow H3 H5:=⟨by omega,fun {i c} h=>by rw [hc_kept (old i (fun e=>by subst e; simp [hcells,hM.lp,lpB] at h) (fun e=>by subst e; simp [hcells,hM.dd] at h))]; exact h⟩
 have uf:Up H' H5:=⟨by have:=uH.len; omega,fun i hi=>by rw [old i (by omega) (by omega),w3 i ⟨by omega,by omega⟩,uH.old i hi]⟩
 have hk:ms.map (·.2.1)=kept s plan day:=q4
 have hml:ms.length < 900:=by have:=(ms_len q4 hM.pos).1; have:=hM.few; omega
 cases ms with
 | nil =>
  rw [←hk]
  simp only [List.map_nil]
  simp only [List.length_nil] at bk lA
  simp (maxDischargeDepth:=8) only [↓SD,SU,SV,SW,simprocAttr,Int.cast_ofNat_Int,small,resV,ho2,rfR_n _ _ _ _ _ _ _ _ _ _ h6',hH4,bk,lA,R59,N59,unw_coll,d2,hH5]
  rw [yes_some,gc_ite (by omega),if_pos (by rfl)]
 | cons p L =>
  rw [←hk]
  simp only [List.map_cons]
  have hL:Mds H4 a (p :: L).length (p :: L):=Sl.grow (Col.sl q2 encM_len (by decide)) g4
  have hv:∀x∈p :: L,MdV x:=fun x hx=>by obtain ⟨b,k1,_,_⟩:=q3 x hx; exact ⟨b,k1⟩
  obtain ⟨o,k106,rfl⟩:=c106 (m:=m) hL hv (by omega) H4 (Grow.refl _)
  have hbm:=bm_mem (p:=p) (L:=L)
  obtain ⟨bb,v1,_,v3⟩:=q3 _ hbm
  have hfe:=bm_fewest (plan:=plan) q5
  have hchg:=q5 _ hbm
  rw [v1] at k106
  rw [←hfe,←hchg]
  clear hfe hchg hbm
  generalize bm p L=w at *
  have z:((((p :: L).length:Nat):Int)=0)=False:=by simp; omega
  have hln:(p :: L).length=L.length+1:=rfl
  generalize (p :: L).length=n at *
  simp (maxDischargeDepth:=8) only [↓SD,SU,SV,SW,simprocAttr,Int.cast_ofNat_Int,small,resV,ho2,rfR_n _ _ _ _ _ _ _ _ _ _ h6',hH4,bk,lA,z,k106,sl_loc,R59,N59,unw_coll,d2,hH5]
  rw [yes_some]
  exact gc_sp3 (Sl.grow v3 g5) uf (by omega)
end Go.Pi.L.Coa
set_option maxRecDepth 100000
namespace Go.Pi.L.Coa
open Go Go.Pi Go.Pi.L Go.Pi.Coa CM

def mnd (plan:List Int):List (List Int)→Option (List Int)
 | []=>none
 | p :: L=>some (fewest plan p L)
theorem mnd_snoc (plan:List Int)(K:List (List Int))(x:List Int):mnd plan (K++[x])=some (match mnd plan K with | none=>x | some o=>if chg x plan < chg o plan then x else o):=by
 cases K with
 | nil=>rfl
 | cons p L =>
  have e:fewest plan p (L++[x])=if decide (chg x plan < chg (fewest plan p L) plan)=true then x else fewest plan p L:=by
   unfold fewest bst; rw [List.foldl_append]; rfl
  simp only [List.cons_append,mnd,e,decide_eq_true_eq]
def OutOk (H:Heap)(n:Nat):Option (List Int)→Option Addr→Nat→Nat→Prop
 | none,a,l,m=>a=none∧l=0∧m=0
 | some p,a,l,_=>l=p.length∧p.length=n∧Ints H a p.length p
theorem c61 {H:Heap}{r:ShR}{s:Sheet}(hs:ShOk H r s)(hd:Small r)(hS:ShFine s){pa:Option Addr}{pl pk:Nat}{plan:List Int}(hq:Ints H pa pl plan)(hP:PlFine s plan)(day:Int):∀H',Grow H H'→Fam H'→Yes (R (.func 61) [.agg #[.slice r.da r.dl r.dk,.slice r.wa r.wl r.wk,.slice r.ca r.cl r.ck],.slice pa pl pk,.int .i64 day] H') (fun o =>
  match kept s plan day with | []=>o=⟨.ok (.tuple #[.slice none 0 0,.int .i64 0,.bool false]),H',H'.length⟩ | p :: L=>QP3 H' 1 encI (fewest plan p L) (.int .i64 (chg (fewest plan p L) plan:Nat)) (.bool true) o):=by
 intro H' hg hF
 refine run_y (pr 61) P61 (by simp [p61]) rfl ?_
 obtain ⟨o,ho,a,m,H1,lo,rfl,u,hlo,hL⟩:=c43 hs hd hS H' hg hF
 have hlen:=allP_len hS
 have hpl:pl=plan.length:=hq.len.symm
 have hc2:=hS.c2
 have hpn:=hP.len
 have hpx:∀p∈allP s,p.length=plan.length:=fun p hp=>by rw [(plan_of hS ((mem_allP hS).1 hp).1).len,hP.len]
 have hpos:0 < plan.length:=by have:=hS.c1; omega
 have n1:=u.len
 have n2:H'.length≤lo:=hlo
 have l4:=hL.isLoc (allP s).length m
 have l7:=hq.isLoc pk
 have hq1:=Sl.grow hq (hg.trans u.grow)
 simp (maxDischargeDepth:=8) only [↓SD,SU,SV,SW,simprocAttr,Int.cast_ofNat_Int,small,resV, B61,R61,N61,b61, hs.d.isLoc,hs.w.isLoc,hs.c.isLoc,l4,l7,ho,n1,n2]
 refine loop_ind (G:=(Yes · (fun o:Out=>match kept s plan day with | []=>o=⟨.ok (.tuple #[.slice none 0 0,.int .i64 0,.bool false]),H',H'.length⟩ | p :: L=>QP3 H' 1 encI (fewest plan p L) (.int .i64 (chg (fewest plan p L) plan:Nat)) (.bool true) o))) (fun j σ=>∃T S ao la mo lim,σ=⟨T,S,[],H1,lim,53,false⟩∧get T 1=.slice pa pl pk∧get T 2=.int .i64 day∧get T 9=.slice a (allP s).length m∧get T 10=.slice ao la mo∧get T 11=.int .i64 (j:Nat)∧(OutOk H1 plan.length (mnd plan (((allP s).take j).filter fun p=>keeps day p plan)) ao la mo∧H'.length≤lim)) ((allP s).length) ?_ ?_ 0 _ (Nat.zero_le _) ⟨_,_,_,_,_,_,rfl,rfl,rfl,rfl,rfl,rfl,⟨⟨rfl,rfl,rfl⟩,by omega⟩⟩
 ·rintro c' j s hj ⟨T,S,ao,la,mo,lim,rfl,t1,t2,t9,t10,t11,hp⟩ ih
  obtain ⟨hO,hlim⟩:=hp
  obtain ⟨b,off,x,a2,m2,rfl,hx,f2,hq2⟩:=hL.get hj
  have f2':=f2 H1 (Grow.refl _)
  have hq2':Ints H1 a2 x.length x:=hq2
  have l5:=hq2'.isLoc m2
  have hxl:=hpx x (List.mem_of_getElem? hx)
  have hw1:=wrap_succ j (by omega)
  have k62:=c62 (ka:=m2) (kb:=pk) (day:=day) hq2' hq1 (by omega) (by omega) H1 (Grow.refl _)
  have k63:=c63 (ka:=m2) (kb:=pk) hq2' hq1 (by omega) (by omega) H1 (Grow.refl _)
  cases ck:keeps day x plan with
  | false =>
   rw [ck] at k62
   simp only [filter_no (p:=fun p=>keeps day p plan) hx ck] at ih
   simp (maxDischargeDepth:=8) only [↓SD,SU,SV,SW,simprocAttr,Int.cast_ofNat_Int,small,resV, q61x0,t1,t2,t9,t10,t11, vv_nl_s0,vv_nl_s,lt_nat,hj,l4,l5,l7,f2',k62,hw1]
   exact ih _ ⟨_,_,(ao),(la),(mo),(_),rfl,(by simp [get_set,t1] <;> omega),(by simp [get_set,t2] <;> omega),(by simp [get_set,t9] <;> omega),(by simp [get_set,t10] <;> omega),(by simp [get_set,t11] <;> omega),⟨hO,by omega⟩⟩
  | true =>
   rw [ck] at k62
   simp only [filter_yes (p:=fun p=>keeps day p plan) hx ck,mnd_snoc] at ih
   cases hm:mnd plan (((allP s).take j).filter fun p=>keeps day p plan) with
   | none =>
    rw [hm] at hO
    obtain ⟨rfl,rfl,rfl⟩:=hO
    simp only [hm] at ih
    simp (maxDischargeDepth:=8) only [↓SD,SU,SV,SW,simprocAttr,Int.cast_ofNat_Int,small,resV, q61x0,t1,t2,t9,t10,t11, vv_nl_s0,vv_nl_s,lt_nat,hj,l4,l5,l7,f2',k62,hw1]
    exact ih _ ⟨_,_,(a2),(x.length),(m2),(_),rfl,(by simp [get_set,t1] <;> omega),(by simp [get_set,t2] <;> omega),(by simp [get_set,t9] <;> omega),(by simp [get_set,t10] <;> omega),(by simp [get_set,t11] <;> omega),⟨⟨rfl,hxl,hq2'⟩,by omega⟩⟩
   | some o =>
    rw [hm] at hO
    obtain ⟨rfl,hol,hoq⟩:=hO
    simp only [hm] at ih
    have l6:=hoq.isLoc mo
    have k63o:=c63 (ka:=mo) (kb:=pk) hoq hq1 (by omega) (by omega) H1 (Grow.refl _)
    obtain ⟨bo,offo,_,rfl,_,_⟩:=hoq.i1 (j:=0) (by omega)
    by_cases hc:chg x plan < chg o plan
    ·simp only [if_pos hc] at ih
     simp (maxDischargeDepth:=8) only [↓SD,SU,SV,SW,simprocAttr,Int.cast_ofNat_Int,small,resV, q61x0,t1,t2,t9,t10,t11, vv_nl_s0,vv_nl_s,lt_nat,hj,l4,l5,l6,l7,f2',k62,k63,k63o,hc,hw1]
     exact ih _ ⟨_,_,(a2),(x.length),(m2),(_),rfl,(by simp [get_set,t1] <;> omega),(by simp [get_set,t2] <;> omega),(by simp [get_set,t9] <;> omega),(by simp [get_set,t10] <;> omega),(by simp [get_set,t11] <;> omega),⟨⟨rfl,hxl,hq2'⟩,by omega⟩⟩
    ·simp only [if_neg hc] at ih
     simp (maxDischargeDepth:=8) only [↓SD,SU,SV,SW,simprocAttr,Int.cast_ofNat_Int,small,resV, q61x0,t1,t2,t9,t10,t11, vv_nl_s0,vv_nl_s,lt_nat,hj,l4,l5,l6,l7,f2',k62,k63,k63o,hc,hw1]
     exact ih _ ⟨_,_,((some ⟨bo,offo,none⟩)),(o.length),(mo),(_),rfl,(by simp [get_set,t1] <;> omega),(by simp [get_set,t2] <;> omega),(by simp [get_set,t9] <;> omega),(by simp [get_set,t10] <;> omega),(by simp [get_set,t11] <;> omega),⟨⟨rfl,hol,hoq⟩,by omega⟩⟩
 ·rintro c' s ⟨T,S,ao,la,mo,lim,rfl,t1,t2,t9,t10,t11,hp⟩
  obtain ⟨hO,hlim⟩:=hp
  rw [List.take_length] at hO
  replace hO:OutOk H1 plan.length (mnd plan (kept s plan day)) ao la mo:=hO
  cases hk:kept s plan day with
  | nil =>
   rw [hk] at hO
   obtain ⟨rfl,rfl,rfl⟩:=hO
   simp only
   simp (maxDischargeDepth:=8) only [↓SD,SU,SV,SW,simprocAttr,Int.cast_ofNat_Int,small,resV, q61x0,t1,t2,t9,t10,t11, vv_nl_s0,vv_nl_s,lt_nat,Nat.lt_irrefl,l4,l7,hlim,R61,N61]
   rw [yes_some]
  | cons p L =>
   rw [hk] at hO
   obtain ⟨rfl,hol,hoq⟩:=hO
   simp only
   generalize fewest plan p L=o at *
   have l6:=hoq.isLoc mo
   have k63o:=c63 (ka:=mo) (kb:=pk) hoq hq1 (by omega) (by omega) H1 (Grow.refl _)
   obtain ⟨bo,offo,_,rfl,_,_⟩:=hoq.i1 (j:=0) (by omega)
   simp (maxDischargeDepth:=8) only [↓SD,SU,SV,SW,simprocAttr,Int.cast_ofNat_Int,small,resV, q61x0,t1,t2,t9,t10,t11, vv_nl_s0,vv_nl_s,lt_nat,Nat.lt_irrefl,l4,l6,l7,k63o,R61,N61]
   rw [yes_some]
   exact gc_sp3 hoq u (by omega)
theorem c15 {H:Heap}{r:ShR}{s:Sheet}(hs:ShOk H r s){pa:Option Addr}{pl pk:Nat}{plan:List Int}(hq:Ints H pa pl plan){day:Int}(hF:Fam H) :
  R (.func 15) [.agg #[.slice r.da r.dl r.dk,.slice r.wa r.wl r.wk,.slice r.ca r.cl r.ck],.slice pa pl pk,.int .i64 day] H=some ⟨.ok (.bool true),H,H.length⟩:=by
 refine run_k (pr 15) P15 (by simp [p15]) rfl ?_
 have l1:=hs.d.isLoc r.dk
 have l2:=hs.w.isLoc r.wk
 have l3:=hs.c.isLoc r.ck
 have l4:=hq.isLoc pk
 have k22:=c22 hs H
 cases e1:isShort r with
 | false=>simp (maxDischargeDepth:=8) only [↓SD,SU,SV,SW,simprocAttr,Int.cast_ofNat_Int,small,resV, B15,R15,N15,b15, l1,l2,l3,l4,k22,e1,c23]
 | true =>
 have hd:=short_small e1
 have z1:((7:Int) < pl)=(7 < pl):=propext (by omega)
 by_cases e2:7 < pl
 ·simp (maxDischargeDepth:=8) only [↓SD,SU,SV,SW,simprocAttr,Int.cast_ofNat_Int,small,resV, B15,R15,N15,b15, l1,l2,l3,l4,k22,e1,c23,z1,e2]
 obtain ⟨o,k59,hQ⟩:=c59 (pk:=pk) hs hd hq (by omega) day H (Grow.refl _) hF
 cases q1:isSheet s with
 | false =>
  have k25:=c25 hs hd H (Grow.refl _)
  simp only [q1,Bool.false_eq_true,false_and,if_false] at hQ
  subst hQ
  simp (maxDischargeDepth:=8) only [↓SD,SU,SV,SW,simprocAttr,Int.cast_ofNat_Int,small,resV, B15,R15,N15,b15, l1,l2,l3,l4,k22,e1,c23,z1,e2,k59,k25,q1]
 | true =>
 cases q2:isPlan s plan with
 | false =>
  have k25:=c25 hs hd H (Grow.refl _)
  have k26:=c26 (kk:=pk) hs hd hq (by omega) H (Grow.refl _)
  rw [isPlanR_eq q1] at k26
  simp only [q2,Bool.false_eq_true,false_and,and_false,if_false] at hQ
  subst hQ
  simp (maxDischargeDepth:=8) only [↓SD,SU,SV,SW,simprocAttr,Int.cast_ofNat_Int,small,resV, B15,R15,N15,b15, l1,l2,l3,l4,k22,e1,c23,z1,e2,k59,k25,q1,k26,q2]
 | true =>
 cases q3:isDay s day with
 | false =>
  have k25:=c25 hs hd H (Grow.refl _)
  have k26:=c26 (kk:=pk) hs hd hq (by omega) H (Grow.refl _)
  rw [isPlanR_eq q1] at k26
  have k60:=c60 hs hd.d day H (Grow.refl _)
  simp only [q3,Bool.false_eq_true,and_false,if_false] at hQ
  subst hQ
  simp (maxDischargeDepth:=8) only [↓SD,SU,SV,SW,simprocAttr,Int.cast_ofNat_Int,small,resV, B15,R15,N15,b15, l1,l2,l3,l4,k22,e1,c23,z1,e2,k59,k25,q1,k26,q2,k60,q3]
 | true =>
 simp only [q1,q2,q3,and_self,if_true] at hQ
 have hS:=fine_of q1
 have hP:=plan_of hS q2
 have k61:=fun H2 g f=>c61 (pk:=pk) hs hd hS hq hP day H2 g f
 cases hk:kept s plan day with
 | nil =>
  simp only [hk] at hQ k61
  subst hQ
  have k25:=c25 hs hd H (Grow.refl _)
  have k26:=c26 (kk:=pk) hs hd hq (by omega) H (Grow.refl _)
  rw [isPlanR_eq q1] at k26
  have k60:=c60 hs hd.d day H (Grow.refl _)
  obtain ⟨o2,k61,rfl⟩:=k61 H (Grow.refl _) hF
  simp (maxDischargeDepth:=8) only [↓SD,SU,SV,SW,simprocAttr,Int.cast_ofNat_Int,small,resV, B15,R15,N15,b15, l1,l2,l3,l4,k22,e1,c23,z1,e2,k59,k25,q1,k26,q2,k60,q3,k61]
 | cons p L =>
  simp only [hk] at hQ k61
  obtain ⟨a,m,H1,lo,rfl,u,hlo,hz⟩:=hQ
  have hF1:Fam H1:=famR k59 hF
  have hg:=u.grow
  have k25:=c25 hs hd H1 hg
  have k26:=c26 (kk:=pk) hs hd hq (by omega) H1 hg
  rw [isPlanR_eq q1] at k26
  have k60:=c60 hs hd.d day H1 hg
  obtain ⟨o2,k61,a2,m2,H2,lo2,rfl,u2,hlo2,hz2⟩:=k61 H1 hg hF1
  have hfl:(fewest plan p L).length < 1000000:=by
   have hm:fewest plan p L∈kept s plan day:=by rw [hk]; exact bst_mem
   have:=(plan_of hS ((mem_allP hS).1 (kept_mem.1 hm).1).1).len
   have:=hS.c2
   omega
  have k35:=c35 (kk:=m) (km:=m2) (Sl.grow hz u2.grow) hz2 hfl H2 (Grow.refl _)
  rw [same_iff.2 rfl] at k35
  have l5:=hz.isLoc m
  have l6:=hz2.isLoc m2
  have n1:=u.len
  have n2:=u2.len
  have n3:H.length≤lo:=hlo
  have n4:H1.length≤lo2:=hlo2
  have n5:H.length≤lo2:=by omega
  have n6:H.length≤H2.length:=by omega
  generalize fewest plan p L=w at *
  simp (maxDischargeDepth:=8) only [↓SD,SU,SV,SW,simprocAttr,Int.cast_ofNat_Int,small,resV, B15,R15,N15,b15, l1,l2,l3,l4,l5,l6,k22,e1,c23,z1,e2,k59,k25,q1,k26,q2,k60,q3,k61,k35,n1,n2,n3,n4,n5,n6]
end Go.Pi.L.Coa
set_option maxRecDepth 100000
namespace Go.Pi.L.Coa
open Go Go.Pi Go.Pi.L Go.Pi.Coa CM

set_option maxHeartbeats 2000000 in
theorem c16 {H:Heap}{r:ShR}{s:Sheet}(hs:ShOk H r s){pa:Option Addr}{pl pk:Nat}{plan:List Int}(hq:Ints H pa pl plan){day:Int}{oa:Option Addr}{ol om:Nat}{other:List Int}(ho:Ints H oa ol other)(hF:Fam H) :
  R (.func 16) [.agg #[.slice r.da r.dl r.dk,.slice r.wa r.wl r.wk,.slice r.ca r.cl r.ck],.slice pa pl pk,.int .i64 day,.slice oa ol om] H=some ⟨.ok (.bool true),H,H.length⟩:=by
 refine run_k (pr 16) P16 (by simp [p16]) rfl ?_
 have l1:=hs.d.isLoc r.dk
 have l2:=hs.w.isLoc r.wk
 have l3:=hs.c.isLoc r.ck
 have l4:=hq.isLoc pk
 have l5:=ho.isLoc om
 have k29:=c29 (pk:=pk) hs hq H (Grow.refl _)
 cases e1:isRight r s pl plan with
 | false=>simp (maxDischargeDepth:=8) only [↓SD,SU,SV,SW,simprocAttr,Int.cast_ofNat_Int,small,resV, B16,R16,N16,b16, l1,l2,l3,l4,l5,k29,e1,c23]
 | true =>
 obtain ⟨e2,e3,e4,e5⟩:=right_of e1
 have hd:=short_small e2
 have hS:=fine_of e4
 have hP:=plan_of hS e5
 have hc2:=hS.c2
 have k60:=c60 hs hd.d day H (Grow.refl _)
 cases q3:isDay s day with
 | false=>simp (maxDischargeDepth:=8) only [↓SD,SU,SV,SW,simprocAttr,Int.cast_ofNat_Int,small,resV, B16,R16,N16,b16, l1,l2,l3,l4,l5,k29,e1,k60,q3,c23]
 | true =>
 have k29o:=c29 (pk:=om) hs ho H (Grow.refl _)
 cases e6:isRight r s ol other with
 | false=>simp (maxDischargeDepth:=8) only [↓SD,SU,SV,SW,simprocAttr,Int.cast_ofNat_Int,small,resV, B16,R16,N16,b16, l1,l2,l3,l4,l5,k29,e1,k60,q3,k29o,e6,c23]
 | true =>
 obtain ⟨_,f3,_,f5⟩:=right_of e6
 have hO:=plan_of hS f5
 have hpl:pl=plan.length:=hq.len.symm
 have hol:ol=other.length:=ho.len.symm
 have hP2:=hP.len
 have hO2:=hO.len
 obtain ⟨o,k59,hQ⟩:=c59 (pk:=pk) hs hd hq (by omega) day H (Grow.refl _) hF
 simp only [e4,e5,q3,and_self,if_true] at hQ
 have inKept:∀{x:List Int},isPlan s x=true→surely s x=true→keeps day x plan=true→x∈kept s plan day:=fun {x} h1 h2 h3=>kept_mem.2 ⟨(mem_allP hS).2 ⟨h1,h2⟩,h3⟩
 cases hk:kept s plan day with
 | nil =>
  simp only [hk] at hQ
  subst hQ
  have k44:=c44 (pk:=pk) hs hd hq (by omega) e4 e5 H (Grow.refl _)
  have k44o:=c44 (pk:=om) hs hd ho (by omega) e4 f5 H (Grow.refl _)
  have hsp:surely s plan=false:=by
   cases h:surely s plan with
   | false=>rfl
   | true=>have:=inKept e5 h (keeps_self day plan); rw [hk] at this; cases this
  rw [hsp] at k44
  cases hso:surely s other with
  | false =>
   rw [hso] at k44o
   simp (maxDischargeDepth:=8) only [↓SD,SU,SV,SW,simprocAttr,Int.cast_ofNat_Int,small,resV, B16,R16,N16,b16, l1,l2,l3,l4,l5,k29,e1,k60,q3,k29o,e6,c23,k59,k44,k44o]
  | true =>
   rw [hso] at k44o
   have k62:=c62 (ka:=om) (kb:=pk) (day:=day) ho hq (by omega) (by omega) H (Grow.refl _)
   have hko:keeps day other plan=false:=by
    cases h:keeps day other plan with
    | false=>rfl
    | true=>have:=inKept f5 hso h; rw [hk] at this; cases this
   rw [hko] at k62
   simp (maxDischargeDepth:=8) only [↓SD,SU,SV,SW,simprocAttr,Int.cast_ofNat_Int,small,resV, B16,R16,N16,b16, l1,l2,l3,l4,l5,k29,e1,k60,q3,k29o,e6,c23,k59,k44,k44o,k62]
 | cons p L =>
  simp only [hk] at hQ
  obtain ⟨a,m,H1,lo,rfl,u,hlo,hz⟩:=hQ
  have hF1:Fam H1:=famR k59 hF
  have hg:=u.grow
  have hpw:=kept_pair hS plan day
  rw [hk] at hpw
  have hsp:=(fewest_spec plan L p hpw).2
  have hm:fewest plan p L∈kept s plan day:=by rw [hk]; exact bst_mem
  have hin:∀x,x∈kept s plan day→x∈p :: L:=fun x hx=>by rw [hk] at hx; exact hx
  generalize fewest plan p L=w at *
  obtain ⟨hw1,hw2⟩:=kept_mem.1 hm
  obtain ⟨hw3,hw4⟩:=(mem_allP hS).1 hw1
  have hw5:=(plan_of hS hw3).len
  have hq1:=Sl.grow hq hg
  have ho1:=Sl.grow ho hg
  have hs1:=hs.grow hg
  have k44:=c44 (pk:=pk) hs1 hd hq1 (by omega) e4 e5 H1 (Grow.refl _)
  have k44o:=c44 (pk:=om) hs1 hd ho1 (by omega) e4 f5 H1 (Grow.refl _)
  have k44w:=c44 (pk:=m) hs1 hd hz (by omega) e4 hw3 H1 (Grow.refl _)
  rw [hw4] at k44w
  have k26:=c26 (kk:=m) hs1 hd hz (by omega) H1 (Grow.refl _)
  rw [isPlanR_eq e4,hw3] at k26
  have k62o:=c62 (ka:=om) (kb:=pk) (day:=day) ho1 hq1 (by omega) (by omega) H1 (Grow.refl _)
  have k62w:=c62 (ka:=m) (kb:=pk) (day:=day) hz hq1 (by omega) (by omega) H1 (Grow.refl _)
  rw [hw2] at k62w
  have k63w:=c63 (ka:=m) (kb:=pk) hz hq1 (by omega) (by omega) H1 (Grow.refl _)
  have k63o:=c63 (ka:=om) (kb:=pk) ho1 hq1 (by omega) (by omega) H1 (Grow.refl _)
  have k40:=c40 (ka:=om) (kb:=m) ho1 hz (by omega) (by omega) H1 (Grow.refl _)
  have l6:=hz.isLoc m
  have n1:=u.len
  have n2:H.length≤lo:=hlo
  have z1:surely s plan=true→((chg w plan:Int)=0)=True:=fun h=>by
   have:=(hsp plan (hin _ (inKept e5 h (keeps_self day plan)))).1
   rw [chg_self] at this
   simp; omega
  have z2:surely s other=true→keeps day other plan=true→chg w plan≤chg other plan∧(chg other plan=chg w plan→bef other w=false):=fun h1 h2=>hsp other (hin _ (inKept f5 h1 h2))
  generalize chg w plan=n at *
  generalize chg other plan=mo at *
  cases hso:surely s other with
  | false =>
   rw [hso] at k44o
   cases hsp:surely s plan with
   | false =>
    rw [hsp] at k44
    simp (maxDischargeDepth:=8) only [↓SD,SU,SV,SW,simprocAttr,Int.cast_ofNat_Int,small,resV, B16,R16,N16,b16, l1,l2,l3,l4,l5,l6,k29,e1,k60,q3,k29o,e6,c23,k59,k44,k44o,k44w,k26,k62w,k63w,k63o,n1,n2]
   | true =>
    rw [hsp] at k44
    have z1:=z1 hsp
    simp (maxDischargeDepth:=8) only [↓SD,SU,SV,SW,simprocAttr,Int.cast_ofNat_Int,small,resV, B16,R16,N16,b16, l1,l2,l3,l4,l5,l6,k29,e1,k60,q3,k29o,e6,c23,k59,k44,k44o,k44w,k26,k62w,k63w,k63o,z1,n1,n2]
  | true =>
   rw [hso] at k44o
   cases hko:keeps day other plan with
   | false =>
    rw [hko] at k62o
    cases hsp:surely s plan with
    | false =>
     rw [hsp] at k44
     simp (maxDischargeDepth:=8) only [↓SD,SU,SV,SW,simprocAttr,Int.cast_ofNat_Int,small,resV, B16,R16,N16,b16, l1,l2,l3,l4,l5,l6,k29,e1,k60,q3,k29o,e6,c23,k59,k44,k44o,k44w,k26,k62w,k62o,k63w,k63o,n1,n2]
    | true =>
     rw [hsp] at k44
     have z1:=z1 hsp
     simp (maxDischargeDepth:=8) only [↓SD,SU,SV,SW,simprocAttr,Int.cast_ofNat_Int,small,resV, B16,R16,N16,b16, l1,l2,l3,l4,l5,l6,k29,e1,k60,q3,k29o,e6,c23,k59,k44,k44o,k44w,k26,k62w,k62o,k63w,k63o,z1,n1,n2]
   | true =>
    rw [hko] at k62o
    obtain ⟨z2,z3⟩:=z2 hso hko
    by_cases hlt:n < mo
    ·cases hsp:surely s plan with
     | false =>
      rw [hsp] at k44
      simp (maxDischargeDepth:=8) only [↓SD,SU,SV,SW,simprocAttr,Int.cast_ofNat_Int,small,resV, B16,R16,N16,b16, l1,l2,l3,l4,l5,l6,k29,e1,k60,q3,k29o,e6,c23,k59,k44,k44o,k44w,k26,k62w,k62o,k63w,k63o,lt_nat,hlt,n1,n2]
     | true =>
      rw [hsp] at k44
      have z1:=z1 hsp
      simp (maxDischargeDepth:=8) only [↓SD,SU,SV,SW,simprocAttr,Int.cast_ofNat_Int,small,resV, B16,R16,N16,b16, l1,l2,l3,l4,l5,l6,k29,e1,k60,q3,k29o,e6,c23,k59,k44,k44o,k44w,k26,k62w,k62o,k63w,k63o,lt_nat,hlt,z1,n1,n2]
    ·obtain rfl:mo=n:=by omega
     rw [z3 rfl] at k40
     cases hsp:surely s plan with
     | false =>
      rw [hsp] at k44
      simp (maxDischargeDepth:=8) only [↓SD,SU,SV,SW,simprocAttr,Int.cast_ofNat_Int,small,resV, B16,R16,N16,b16, l1,l2,l3,l4,l5,l6,k29,e1,k60,q3,k29o,e6,c23,k59,k44,k44o,k44w,k26,k62w,k62o,k63w,k63o,k40,lt_nat,hlt,n1,n2]
     | true =>
      rw [hsp] at k44
      have z1:=z1 hsp
      simp (maxDischargeDepth:=8) only [↓SD,SU,SV,SW,simprocAttr,Int.cast_ofNat_Int,small,resV, B16,R16,N16,b16, l1,l2,l3,l4,l5,l6,k29,e1,k60,q3,k29o,e6,c23,k59,k44,k44o,k44w,k26,k62w,k62o,k63w,k63o,k40,lt_nat,hlt,z1,n1,n2]
end Go.Pi.L.Coa
